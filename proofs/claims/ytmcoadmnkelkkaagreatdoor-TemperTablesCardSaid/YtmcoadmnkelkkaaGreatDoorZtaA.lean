/- What the rows of the laws of package ratios need: their list of tables, a world for the witness, the last step, an argument that is a ratio. Parts began as the given page's toy and as the guide's post_of_below, which its page bids to copy. -/
import Derived.Test.YtmcoadmnkelkkaaGreatDoorCards
import Derived.Test.YtmcoadmnkelkkaaGreatDoorTie
import Derived.Test.YtmcoadmnkelkkaaGreatDoorRatI
import Derived.ProofKit
import Derived.OpenShut
import Derived.Deep.DeepHandedRow
import Derived.Lib.LaidTab
import Derived.Stop.LaidErr
import Derived.ChangeSame
import Derived.ChangeSlices
import Derived.Carry
import Derived.Lay
import Derived.ChangeMaps5
import Derived.Test.YtmcoadmnkelkkaaGreatDoorBase
import Derived.Test.YtmcoadmnkelkkaaGreatDoorMixG
import Derived.Test.YtmcoadmnkelkkaaGreatDoorRatH
import Derived.Deep.MidRow
import Derived.Deep.RegionHeld3
import Derived.Lib.SmallJoins
import Derived.Deep.RegionLaw
import Derived.Test.YtmcoadmnkelkkaaGreatDoorRefE
import Derived.Test.YtmcoadmnkelkkaaGreatDoorRatG
import Derived.Test.YtmcoadmnkelkkaaGreatDoorRatK
import Derived.Test.YtmcoadmnkelkkaaGreatDoorRefK
import Derived.Test.YtmcoadmnkelkkaaGreatDoorMixN
namespace Go.Proofs.YtmcoadmnkelkkaaGreatDoor
set_option linter.unusedSimpArgs false
open Go.ChangeShapes Go.WideShapes Go.ChangeAt Go.RowKit
set_option linter.unusedVariables false
section
variable {H : Type} {enc : TypeId × Value → H} {P : Program}
theorem post_of_below {f : Func} {s : ChangeSpec} {apart fresh handsOn again : Bool} {W W' : World} {args : Array Value} {v : Value} {ds gs : List (DataW H)} {before pa pv : List MemPlace}
    (hW : DataW.Whole enc P f.params.toList s.vars apart W args.toList ds gs before)
    (hres : ∀ (b : Nat) (sp : Nat → Bool) (hd : Bool), DataW.TrodAll enc P W' b sp hd f.resultTypes.toList (v.resultList f.resultTypes.size) (s.fn H (ds ++ gs)).results [])
    (hargs : ∀ sp : Nat → Bool, (∀ p ∈ before, sp p.block = true) → DataW.TrodAll enc P W' 0 sp true f.params.toList args.toList (s.fn H (ds ++ gs)).args pa)
    (hvars : ∀ sp : Nat → Bool, (∀ p ∈ before, sp p.block = true) → DataW.TrodVars enc P W' sp s.vars (s.fn H (ds ++ gs)).vars pv)
    (hps : before = pa ++ pv) (hb : Below W.heap.size W W')
    (hok : ∀ (j : Nat) (t : TypeId) (r : Value), f.resultTypes[j]? = some t → (v.resultList f.resultTypes.size)[j]? = some r → Value.okWide P W' .any 0 t r) :
    s.post enc P f apart fresh handsOn again W args v W' := by
  have hlt : ∀ p ∈ before, p.block < W.heap.size := fun p hp => hW.lt p hp
  have hold : ∀ p ∈ before, (fun b => decide (b < W.heap.size)) p.block = true := fun p hp => by simpa using hlt p hp
  refine ⟨ds, gs, before, [], pa, pv, hW, hres _ _ _, hargs _ hold, hvars _ hold, World.keptBut_mono (fun p hp => ⟨hp, ?_⟩) (hb.frame (· ∈ before)), fun _ => ?_⟩
  · rw [hps, List.mem_append] at hp; exact Or.inr hp
  · obtain ⟨_, _, _, _, _, hz, hn⟩ := hW; refine ⟨hok, _, _, ([] ++ pa) ++ pv, ⟨[] ++ pa, pv, trodAll_append (hargs _ (fun _ _ => rfl)) (hres _ _ _), hvars _ (fun _ _ => rfl), rfl, ?_, ?_⟩, ?_⟩
    · intro b off hp; have hin : MemPlace.cell b off ∈ before := (by rw [hps]; simpa using hp); rw [hb.frozen (hlt _ hin)]; exact hz b off hin
    · intro ha; have := hn ha; rw [hps] at this; simpa using this
    · intro p hp _; rw [hps]; simpa using hp
end
theorem ownK : ownKnob Tryz.prog.godebug = none := by kernel_rfl
theorem laidO : laidOutB Tryz.prog = true := by kernel_rfl
theorem tabR_eq : (Rows.laid_quintadena_ratios_primes : DataW Unit) = Lib.tabData .i64 [2, 3, 5, 7, 11, 13] := by kernel_rfl
def laidLR : List (String × DataW Unit) := [("quintadena/ratios.primes", Rows.laid_quintadena_ratios_primes)]
theorem laidLR_pr {W : World} (h : laidMetH Tryz.prog laidLR W) : PrT W := by
  have h1 : laidMet Tryz.prog laidLR W := h; have h2 := h1; unfold laidLR at h2; rw [tabR_eq] at h2
  obtain ⟨t, e, n, hty, ht, he, hce, hct⟩ : ∃ t e n, (Tryz.prog.globals[0]?).map (·.type) = some t ∧ Tryz.prog.underlying t = some (.array n e) ∧ Tryz.prog.underlying e = some (.int .i64) ∧ Tryz.prog.cellsOf e = 1 ∧ Tryz.prog.cellsOf t = n :=
    ⟨73, 2, 6, by kernel_rfl, by kernel_rfl, by kernel_rfl, by kernel_rfl, by kernel_rfl⟩
  exact Lib.tabIs_of_head gPr hty ht he hce hct h2
noncomputable def laidWorldR (os : Os) : World := World.laidAll Tryz.prog os laidLR
theorem laid_metR (os : Os) (args : Array Value) : laidMet Tryz.prog laidLR ((laidWorldR os).forCall (fun _ _ => 0) ⟨#[], args, []⟩).memory :=
  laidMet_laidAll args (by kernel_rfl) (by kernel_rfl)
theorem wf_i64 {z : Int} (h : (Lit.int .i64 z).wf = true) : -9223372036854775808 ≤ z ∧ z < 9223372036854775808 := by
  simp [Lit.wf, IntKind.min, IntKind.max, IntKind.signed, IntKind.bits] at h; omega
theorem stays {H : Type} {enc : TypeId × Value → H} {t : TypeId} (hr : Tryz.prog.readableRec t = true) (hrow : t < Tryz.prog.types.size) {W W' : World} {v : Value} {d : DataW H} {ps : List MemPlace} (h : DataW.Trod enc Tryz.prog W 0 (fun _ => true) true t v d ps) (hb : Below W.heap.size W W') (hlt : ∀ x ∈ ps, x.block < W.heap.size) (sp : Nat → Bool) (hsp : ∀ x ∈ ps, sp x.block = true) :
    DataW.Trod enc Tryz.prog W' 0 sp true t v d ps := WideElems.Trod_stays laidO hr hrow h (fun x hx => hb.same (hlt x hx)) (fun x hx => hsp x hx)
end Go.Proofs.YtmcoadmnkelkkaaGreatDoor
namespace Go.Proofs.YtmcoadmnkelkkaaGreatDoor
set_option linter.unusedSimpArgs false
set_option linter.unusedVariables false
structure TV where
  nm : ByteArray
  syn : Bool
  wolf : Int
  num : Nat → Int
  den : Nat → Int
def TV.bad (t : TV) (i : Nat) : Prop := t.den i < 1 ∨ 24 < t.den i ∨ t.num i < -2 * t.den i ∨ 2 * t.den i < t.num i
def TV.low (t : TV) (i : Nat) : Prop := Nat.gcd (t.num i).natAbs (t.den i).natAbs = 1
def TV.all (t : TV) : Nat → Nat
  | 0 => 1
  | i+1 => if t.all i ≤ 120 then t.all i / Nat.gcd (t.all i) (t.den i).natAbs * (t.den i).natAbs else t.all i
open Classical in
noncomputable def TV.chk (nameS : ByteArray → Bool) (t : TV) : Int :=
  if t.wolf < 0 ∨ 11 < t.wolf then 2 else
  if ∃ i, i < 12 ∧ t.bad i then 2 else
  if nameS t.nm = false ∨ (∃ i, i < 12 ∧ ¬ t.low i) ∨ t.num t.wolf.toNat ≠ 0 then 6 else
  if 120 < t.all 12 then 7 else 0
theorem TV.chk_ok {N : ByteArray → Bool} {t : TV} (h : t.chk N = 0) : (0 ≤ t.wolf ∧ t.wolf ≤ 11) ∧ (∀ i, i < 12 → ¬ t.bad i) ∧ N t.nm = true ∧ (∀ i, i < 12 → t.low i) ∧ t.num t.wolf.toNat = 0 ∧ t.all 12 ≤ 120 := by
  unfold TV.chk at h
  split at h
  · exact absurd h (by decide)
  · rename_i h1
    split at h
    · exact absurd h (by decide)
    · rename_i h2
      split at h
      · exact absurd h (by decide)
      · rename_i h3
        split at h
        · exact absurd h (by decide)
        · rename_i h4; refine ⟨by omega, fun i hi hb => h2 ⟨i, hi, hb⟩, ?_, fun i hi => ?_, ?_, by omega⟩
          · cases hN : N t.nm
            · exact absurd (.inl hN) h3
            · rfl
          · exact Classical.byContradiction fun hn => h3 (.inr (.inl ⟨i, hi, hn⟩))
          · exact Classical.byContradiction fun hn => h3 (.inr (.inr hn))
theorem TV.all_pos {t : TV} (h : ∀ i, i < 12 → ¬ t.bad i) : ∀ i, i ≤ 12 → 0 < t.all i
  | 0, _ => Nat.one_pos
  | i+1, hi => by
    have ih := TV.all_pos h i (by omega); have hb := h i (by omega); have hd : 0 < (t.den i).natAbs := (by unfold TV.bad at hb; omega); rw [TV.all]
    split
    · exact Nat.mul_pos (Nat.div_pos (Nat.le_of_dvd ih (Nat.gcd_dvd_left _ _)) (Nat.gcd_pos_of_pos_left _ ih)) hd
    · exact ih
theorem TV.all_mono {t : TV} (h : ∀ i, i < 12 → ¬ t.bad i) {i : Nat} (hi : i < 12) : (120 < t.all i → 120 < t.all (i + 1)) ∧ (t.all i ≤ 120 → t.all i ∣ t.all (i + 1) ∧ (t.den i).natAbs ∣ t.all (i + 1)) := by
  have hp := TV.all_pos h i (by omega); rw [TV.all]; refine ⟨fun h1 => ?_, fun h1 => ?_⟩
  · rw [if_neg (by omega)]; exact h1
  · rw [if_pos h1]; refine ⟨?_, Nat.dvd_mul_left _ _⟩; obtain ⟨c, hc⟩ := Nat.gcd_dvd_right (t.all i) (t.den i).natAbs
    have h2 : t.all i / Nat.gcd (t.all i) (t.den i).natAbs * (t.den i).natAbs = t.all i * c := by
      conv => lhs; rhs; rw [hc]
      rw [← Nat.mul_assoc, Nat.div_mul_cancel (Nat.gcd_dvd_left _ _)]
    rw [h2]; exact Nat.dvd_mul_right _ _
theorem TV.all_dvd {t : TV} (h : ∀ i, i < 12 → ¬ t.bad i) : ∀ n, n ≤ 12 → t.all n ≤ 120 → ∀ i, i < n → (t.den i).natAbs ∣ t.all n
  | 0, _, _, i, hi => absurd hi (Nat.not_lt_zero _)
  | n+1, hn, h1, i, hi => by
    obtain ⟨m1, m2⟩ := TV.all_mono h (i := n) (by omega)
    have h2 : t.all n ≤ 120 := by
      rcases Nat.lt_or_ge 120 (t.all n) with g | g
      · exact absurd (m1 g) (by omega)
      · exact g
    obtain ⟨d1, d2⟩ := m2 h2; rcases Nat.lt_or_ge i n with g | g
    · exact Nat.dvd_trans (TV.all_dvd h n (by omega) h2 i g) d1
    · obtain rfl : i = n := (by omega); exact d2
def letB (b : UInt8) : Bool := (decide (65 ≤ b.toNat) && decide (b.toNat ≤ 90)) || (decide (97 ≤ b.toNat) && decide (b.toNat ≤ 122))
def okB (i : Nat) (b : UInt8) : Bool := letB b || (decide (i ≠ 0) && (decide (b.toNat = 95) || (decide (48 ≤ b.toNat) && decide (b.toNat ≤ 57))))
def nameS (s : ByteArray) : Bool := decide ((1 ≤ s.size ∧ s.size ≤ 16) ∧ ∀ i, (h : i < s.size) → okB i s[i] = true)
end Go.Proofs.YtmcoadmnkelkkaaGreatDoor
namespace Go.Proofs.YtmcoadmnkelkkaaGreatDoor
set_option linter.unusedSimpArgs false
open Go.RowKit
set_option linter.unusedVariables false
def letN (n : Nat) : Bool := (decide (65 ≤ n) && decide (n ≤ 90)) || (decide (97 ≤ n) && decide (n ≤ 122))
theorem or_let0 : ∀ n : Nat, n < 256 → (decide (97 ≤ bits BinOp.or IntKind.u8 (n : Int) 32) && decide (bits BinOp.or IntKind.u8 (n : Int) 32 ≤ 122)) = letN n := by decide +kernel
theorem or_let (b : UInt8) : (decide (97 ≤ bits BinOp.or IntKind.u8 (b.toNat : Int) 32) && decide (bits BinOp.or IntKind.u8 (b.toNat : Int) 32 ≤ 122)) = letB b := or_let0 b.toNat b.toNat_lt
theorem letter_any (b : UInt8) (w : World) : Calls Tryz.prog 107 #[.int .u8 (b.toNat : Int)] w fun e w' => e = .returned (.bool (letB b)) ∧ w' = w := by
  have HO : Sl _ := ⟨or_let b⟩; go_enter Tryz.func107, Tryz.ntmps107; go_wp2_with fail
  all_goals (go_ret; rw [← HO.out])
  · rename_i h; rw [decide_eq_true (p := 97 ≤ _) h, Bool.true_and]; exact ⟨rfl, rfl⟩
  · rename_i h; rw [decide_eq_false (p := 97 ≤ _) (by omega), Bool.false_and]; exact ⟨rfl, rfl⟩
theorem digit_any (b : UInt8) (w : World) : Calls Tryz.prog 108 #[.int .u8 (b.toNat : Int)] w fun e w' => e = .returned (.bool (decide (48 ≤ b.toNat) && decide (b.toNat ≤ 57))) ∧ w' = w := by
  by_cases h : 48 ≤ b.toNat
  · have hb : decide ((48 : Int) ≤ (b.toNat : Int)) = true := (by rw [decide_eq_true_iff]; omega); go_enter Tryz.func108, Tryz.ntmps108; go_wp2_with fail; go_ret; rw [decide_eq_true h, Bool.true_and]
    by_cases h2 : b.toNat ≤ 57
    · rw [decide_eq_true h2, decide_eq_true (by omega)]; exact ⟨rfl, rfl⟩
    · rw [decide_eq_false h2, decide_eq_false (by omega)]; exact ⟨rfl, rfl⟩
  · have hb : decide ((48 : Int) ≤ (b.toNat : Int)) = false := (by rw [decide_eq_false_iff_not]; omega); go_enter Tryz.func108, Tryz.ntmps108; go_wp2_with fail; go_ret; rw [decide_eq_false h, Bool.false_and]; exact ⟨rfl, rfl⟩
set_option maxHeartbeats 800000 in
theorem tgcd_any (a b : Nat) (w : World) (ha : a < 4000000000000000000) (hb : b < 4000000000000000000) :
    Calls Tryz.prog 79 #[.int .i64 a, .int .i64 b] w fun e w' => e = .returned (.int .i64 (Nat.gcd a b)) ∧ ∃ m, w' = w.drewN m := by
  go_enter Tryz.func79, Tryz.ntmps79; go_wp2_with fail
  go_loopw [0, 1] (fun s0 s1 wr => ∃ (x y : Nat), s0 = .int .i64 x ∧ s1 = .int .i64 y ∧ x < 4000000000000000000 ∧ y < 4000000000000000000 ∧ Sl (Nat.gcd x y = Nat.gcd a b ∧ ∃ m, wr = w.drewN m)) (fun _ s1 _ => (RowKit.intOf s1).toNat)
  case atStart => exact ⟨a, b, rfl, rfl, ha, hb, ⟨rfl, 0, rfl⟩⟩
  case round =>
    clear ha hb; obtain ⟨x, y, rfl, rfl, hx, hy, HG⟩ := hrel; rcases Nat.eq_zero_or_pos y with h0 | h0
    · subst h0; go_wp2_with fail; go_ret; obtain ⟨h1, m, h2⟩ := HG.out; rw [Nat.gcd_zero_right] at h1; exact ⟨by rw [← h1]; rfl, m, h2⟩
    · have hne : ((y : Int) == 0) = false := (by rw [beq_eq_false_iff_ne]; omega); have hmod : (x : Int).tmod (y : Int) = ((x % y : Nat) : Int) := (by rw [Int.tmod_eq_emod_of_nonneg (by omega)]; omega); have hlt : x % y < y := Nat.mod_lt _ h0; have HGN : Sl (Nat.gcd y (x % y) = Nat.gcd a b) := ⟨by rw [← HG.out.1, Nat.gcd_comm y, ← Nat.gcd_rec, Nat.gcd_comm]⟩; generalize x % y = r at *
      go_wp2_with fail
      go_quiet (fail)
      go_wp2_with fail; obtain ⟨m, hm⟩ := HG.out.2; refine ⟨⟨y, r, rfl, rfl, hy, by omega, ⟨HGN.out, m + nq, by rw [hm]; simp⟩⟩, by simp [RowKit.intOf]; omega⟩
set_option maxHeartbeats 800000 in
theorem r5gcd_any (a b : Nat) (w : World) (ha : a < 4000000000000000000) (hb : b < 4000000000000000000) :
    Calls Tryz.prog 40 #[.int .i64 a, .int .i64 b] w fun e w' => e = .returned (.int .i64 (Nat.gcd a b)) ∧ ∃ m, w' = w.drewN m := by
  go_enter Tryz.func40, Tryz.ntmps40; go_wp2_with fail
  go_loopw [0, 1] (fun s0 s1 wr => ∃ (x y : Nat), s0 = .int .i64 x ∧ s1 = .int .i64 y ∧ x < 4000000000000000000 ∧ y < 4000000000000000000 ∧ Sl (Nat.gcd x y = Nat.gcd a b ∧ ∃ m, wr = w.drewN m)) (fun _ s1 _ => (RowKit.intOf s1).toNat)
  case atStart => exact ⟨a, b, rfl, rfl, ha, hb, ⟨rfl, 0, rfl⟩⟩
  case round =>
    clear ha hb; obtain ⟨x, y, rfl, rfl, hx, hy, HG⟩ := hrel; rcases Nat.eq_zero_or_pos y with h0 | h0
    · subst h0; go_wp2_with fail; go_ret; obtain ⟨h1, m, h2⟩ := HG.out; rw [Nat.gcd_zero_right] at h1; exact ⟨by rw [← h1]; rfl, m, h2⟩
    · have hne : ((y : Int) == 0) = false := (by rw [beq_eq_false_iff_ne]; omega); have hmod : (x : Int).tmod (y : Int) = ((x % y : Nat) : Int) := (by rw [Int.tmod_eq_emod_of_nonneg (by omega)]; omega); have hlt : x % y < y := Nat.mod_lt _ h0; have HGN : Sl (Nat.gcd y (x % y) = Nat.gcd a b) := ⟨by rw [← HG.out.1, Nat.gcd_comm y, ← Nat.gcd_rec, Nat.gcd_comm]⟩; generalize x % y = r at *
      go_wp2_with fail
      go_quiet (fail)
      go_wp2_with fail; obtain ⟨m, hm⟩ := HG.out.2; refine ⟨⟨y, r, rfl, rfl, hy, by omega, ⟨HGN.out, m + nq, by rw [hm]; simp⟩⟩, by simp [RowKit.intOf]; omega⟩
theorem nameS_false {s : ByteArray} {k : Nat} (hk : k < s.size) (h : okB k s[k] = false) : nameS s = false := by
  unfold nameS; rw [decide_eq_false_iff_not]; rintro ⟨_, h2⟩; rw [h2 k hk] at h
  cases h
theorem nameS_size {s : ByteArray} (h : s.size < 1 ∨ 16 < s.size) : nameS s = false := by
  unfold nameS; rw [decide_eq_false_iff_not]; rintro ⟨h1, _⟩; omega
theorem nameS_true {s : ByteArray} (h : 1 ≤ s.size ∧ s.size ≤ 16) (h2 : ∀ i, (h : i < s.size) → okB i s[i] = true) : nameS s = true := by
  unfold nameS; rw [decide_eq_true_iff]; exact ⟨h, h2⟩
set_option maxHeartbeats 1600000 in
set_option maxRecDepth 100000 in
theorem name_any (s : ByteArray) (w : World) (hs : s.size ≤ maxLen) : Calls Tryz.prog 80 #[.string s] w fun e w' => e = .returned (.bool (nameS s)) ∧ Below w.heap.size w w' := by
  unfold maxLen at hs; go_enter Tryz.func80, Tryz.ntmps80; go_wp2_with fail
  go_loopw [7] (fun s7 wr => ∃ k : Nat, k ≤ s.size ∧ s7 = .int .i64 k ∧ Sl (∀ i, (h : i < s.size) → i < k → okB i s[i] = true) ∧ Below w.heap.size w wr) (fun s7 _ => s.size - (RowKit.intOf s7).toNat)
  case atStart => exact ⟨0, Nat.zero_le _, rfl, ⟨fun i _ h => absurd h (Nat.not_lt_zero _)⟩, Below.refl _ _⟩
  case round =>
    obtain ⟨k, hk, rfl, HV, hB⟩ := hrel
    by_cases hlt : k < s.size
    · have HL : Sl (∀ W : World, Calls Tryz.prog 107 #[.int .u8 (s[k].toNat : Int)] W fun e w' => e = .returned (.bool (letB s[k])) ∧ w' = W) := ⟨fun W => letter_any s[k] W⟩; have HD : Sl (∀ W : World, Calls Tryz.prog 108 #[.int .u8 (s[k].toNat : Int)] W fun e w' => e = .returned (.bool (decide (48 ≤ s[k].toNat) && decide (s[k].toNat ≤ 57))) ∧ w' = W) := ⟨fun W => digit_any s[k] W⟩; have hb8 : (s[k].toNat : Int) < 256 := (by have := s[k].toNat_lt; omega); have HOK : Sl (okB k s[k] = (letB s[k] || (decide (k ≠ 0) && (decide (s[k].toNat = 95) || (decide (48 ≤ s[k].toNat) && decide (s[k].toNat ≤ 57)))))) := ⟨rfl⟩
      have HNX : Sl (okB k s[k] = true → ∀ i, (h : i < s.size) → i < k + 1 → okB i s[i] = true) := ⟨fun h i hi h2 => by
        rcases Nat.lt_or_ge i k with g | g
        · exact HV.out i hi g
        · obtain rfl : i = k := (by omega)
          exact h⟩
      have HNF : Sl (okB k s[k] = false → nameS s = false) := ⟨fun h => nameS_false hlt h⟩; clear HV; generalize hL : letB s[k] = L at *
      generalize (decide (48 ≤ s[k].toNat) && decide (s[k].toNat ≤ 57)) = D at *
      clear hL; go_wp2_with fail; refine (HL.out _).mono ?_; rintro e w1 ⟨rfl, rfl⟩
      cases L
      · -- no letter
        by_cases h0 : k = 0
        · subst h0; have HF := HNF.out (by rw [HOK.out]; rfl); have HFS : Sl _ := ⟨HF⟩; clear HF HNF HNX HOK; go_wp2_with fail; go_ret; rw [HFS.out]; exact ⟨rfl, hB⟩
        · have hk0 : ((k : Int) == 0) = false := (by rw [beq_eq_false_iff_ne]; omega)
          by_cases h5 : s[k].toNat = 95
          · have hT := HNX.out (by rw [HOK.out, decide_eq_true h0, decide_eq_true h5]; rfl); have HT : Sl _ := ⟨hT⟩; have h95 : ((s[k].toNat : Int) != 95) = false := (by rw [bne_eq_false_iff_eq]; omega); clear hT HNF HNX HOK h5; go_wp2_with fail; exact ⟨⟨k + 1, hlt, by go_num, HT, hB⟩, by simp [RowKit.intOf]; try omega⟩
          · have h95 : ((s[k].toNat : Int) != 95) = true := (by rw [bne_iff_ne]; omega)
            cases D
            · have HF := HNF.out (by rw [HOK.out, decide_eq_false h5, Bool.or_false, Bool.and_false]; rfl); have HFS : Sl _ := ⟨HF⟩; clear HF HNF HNX HOK h5; go_wp2_with fail; refine (HD.out _).mono ?_; rintro e w1 ⟨rfl, rfl⟩; go_wp2_with fail; go_ret; rw [HFS.out]; exact ⟨rfl, hB⟩
            · have hT := HNX.out (by rw [HOK.out, decide_eq_true h0, Bool.or_true]; rfl); have HT : Sl _ := ⟨hT⟩; clear hT HNF HNX HOK h5; go_wp2_with fail; refine (HD.out _).mono ?_; rintro e w1 ⟨rfl, rfl⟩; go_wp2_with fail; exact ⟨⟨k + 1, hlt, by go_num, HT, hB⟩, by simp [RowKit.intOf]; try omega⟩
      · have hT := HNX.out (by rw [HOK.out]; rfl); have HT : Sl _ := ⟨hT⟩; clear hT HNF HNX HOK; go_wp2_with fail; exact ⟨⟨k + 1, hlt, by go_num, HT, hB⟩, by simp [RowKit.intOf]; try omega⟩
    · have hke : k = s.size := (by omega)
      by_cases h1 : 1 ≤ s.size
      · by_cases h2 : s.size ≤ 16
        · have HF : Sl (nameS s = true) := ⟨nameS_true ⟨h1, h2⟩ fun i hi => HV.out i hi (by omega)⟩; clear HV; have hd : decide ((s.size : Int) ≤ 16) = true := (by rw [decide_eq_true_iff]; omega); go_wp2_with fail; go_ret; rw [HF.out]; exact ⟨rfl, hB⟩
        · have HF : Sl (nameS s = false) := ⟨nameS_size (.inr (by omega))⟩; clear HV; have hd : decide ((s.size : Int) ≤ 16) = false := (by rw [decide_eq_false_iff_not]; omega); go_wp2_with fail; go_ret; rw [HF.out]; exact ⟨rfl, hB⟩
      · have HF : Sl (nameS s = false) := ⟨nameS_size (.inl (by omega))⟩; clear HV; go_wp2_with fail; go_ret; rw [HF.out]; exact ⟨rfl, hB⟩
theorem r1letter_any (b : UInt8) (w : World) : Calls Tryz.prog 77 #[.int .u8 (b.toNat : Int)] w fun e w' => e = .returned (.bool (letB b)) ∧ w' = w := by
  by_cases h1 : 97 ≤ b.toNat
  · have b1 : decide ((97 : Int) ≤ (b.toNat : Int)) = true := (by rw [decide_eq_true_iff]; omega)
    by_cases h2 : b.toNat ≤ 122
    · have b2 : decide ((b.toNat : Int) ≤ 122) = true := (by rw [decide_eq_true_iff]; omega); have HF : Sl (letB b = true) := ⟨by unfold letB; rw [decide_eq_true h1, decide_eq_true h2]; simp⟩; clear h1 h2; go_enter Tryz.func77, Tryz.ntmps77; go_wp2_with fail; go_ret; rw [HF.out]; exact ⟨rfl, rfl⟩
    · have b2 : decide ((b.toNat : Int) ≤ 122) = false := (by rw [decide_eq_false_iff_not]; omega); have b3 : decide ((65 : Int) ≤ (b.toNat : Int)) = true := (by rw [decide_eq_true_iff]; omega); have b4 : decide ((b.toNat : Int) ≤ 90) = false := (by rw [decide_eq_false_iff_not]; omega); have HF : Sl (letB b = false) := ⟨by unfold letB; rw [decide_eq_false h2, decide_eq_false (p := b.toNat ≤ 90) (by omega)]; simp⟩; clear h1 h2; go_enter Tryz.func77, Tryz.ntmps77; go_wp2_with fail; go_ret; rw [HF.out]; exact ⟨rfl, rfl⟩
  · have b1 : decide ((97 : Int) ≤ (b.toNat : Int)) = false := (by rw [decide_eq_false_iff_not]; omega)
    by_cases h3 : 65 ≤ b.toNat
    · have b3 : decide ((65 : Int) ≤ (b.toNat : Int)) = true := (by rw [decide_eq_true_iff]; omega)
      by_cases h4 : b.toNat ≤ 90
      · have b4 : decide ((b.toNat : Int) ≤ 90) = true := (by rw [decide_eq_true_iff]; omega); have HF : Sl (letB b = true) := ⟨by unfold letB; rw [decide_eq_true h3, decide_eq_true h4]; simp⟩; clear h1 h3 h4; go_enter Tryz.func77, Tryz.ntmps77; go_wp2_with fail; go_ret; rw [HF.out]; exact ⟨rfl, rfl⟩
      · have b4 : decide ((b.toNat : Int) ≤ 90) = false := (by rw [decide_eq_false_iff_not]; omega); have HF : Sl (letB b = false) := ⟨by unfold letB; rw [decide_eq_false h4, decide_eq_false h1]; simp⟩; clear h1 h3 h4; go_enter Tryz.func77, Tryz.ntmps77; go_wp2_with fail; go_ret; rw [HF.out]; exact ⟨rfl, rfl⟩
    · have b3 : decide ((65 : Int) ≤ (b.toNat : Int)) = false := (by rw [decide_eq_false_iff_not]; omega); have HF : Sl (letB b = false) := ⟨by unfold letB; rw [decide_eq_false h3, decide_eq_false h1]; simp⟩; clear h1 h3; go_enter Tryz.func77, Tryz.ntmps77; go_wp2_with fail; go_ret; rw [HF.out]; exact ⟨rfl, rfl⟩
theorem r1digit_any (b : UInt8) (w : World) : Calls Tryz.prog 78 #[.int .u8 (b.toNat : Int)] w fun e w' => e = .returned (.bool (decide (48 ≤ b.toNat) && decide (b.toNat ≤ 57))) ∧ w' = w := by
  by_cases h : 48 ≤ b.toNat
  · have hb : decide ((48 : Int) ≤ (b.toNat : Int)) = true := (by rw [decide_eq_true_iff]; omega); go_enter Tryz.func78, Tryz.ntmps78; go_wp2_with fail; go_ret; rw [decide_eq_true h, Bool.true_and]
    by_cases h2 : b.toNat ≤ 57
    · rw [decide_eq_true h2, decide_eq_true (by omega)]; exact ⟨rfl, rfl⟩
    · rw [decide_eq_false h2, decide_eq_false (by omega)]; exact ⟨rfl, rfl⟩
  · have hb : decide ((48 : Int) ≤ (b.toNat : Int)) = false := (by rw [decide_eq_false_iff_not]; omega); go_enter Tryz.func78, Tryz.ntmps78; go_wp2_with fail; go_ret; rw [decide_eq_false h, Bool.false_and]; exact ⟨rfl, rfl⟩
set_option maxHeartbeats 1600000 in
set_option maxRecDepth 100000 in
theorem r1name_any (s : ByteArray) (w : World) (hs : s.size ≤ maxLen) : Calls Tryz.prog 39 #[.string s] w fun e w' => e = .returned (.bool (nameS s)) ∧ Below w.heap.size w w' := by
  unfold maxLen at hs
  by_cases h1 : s.size < 1
  · have HF : Sl (nameS s = false) := ⟨nameS_size (.inl h1)⟩; go_enter Tryz.func39, Tryz.ntmps39; go_wp2_with fail; go_ret; rw [HF.out]; exact ⟨rfl, Below.refl _ _⟩
  by_cases h2 : 16 < s.size
  · have HF : Sl (nameS s = false) := ⟨nameS_size (.inr h2)⟩; go_enter Tryz.func39, Tryz.ntmps39; go_wp2_with fail; go_ret; rw [HF.out]; exact ⟨rfl, Below.refl _ _⟩
  have h0 : 0 < s.size := (by omega); have HL0 : Sl (∀ W : World, Calls Tryz.prog 77 #[.int .u8 (s[0].toNat : Int)] W fun e w' => e = .returned (.bool (letB s[0])) ∧ w' = W) := ⟨fun W => r1letter_any s[0] W⟩; have HOK0 : Sl (okB 0 s[0] = letB s[0]) := ⟨by unfold okB; simp⟩; have HF0 : Sl (okB 0 s[0] = false → nameS s = false) := ⟨fun h => nameS_false h0 h⟩; generalize hL : letB s[0] = L at *
  go_enter Tryz.func39, Tryz.ntmps39; go_wp2_with fail; refine (HL0.out _).mono ?_; rintro e w1 ⟨rfl, rfl⟩
  cases L
  · have HF : Sl _ := ⟨HF0.out HOK0.out⟩; clear HF0 HOK0 hL; go_wp2_with fail; go_ret; rw [HF.out]; exact ⟨rfl, Below.refl _ _⟩
  have HLT : Sl (letB s[0] = true) := ⟨hL⟩; clear hL HF0 HOK0 HL0; go_wp2_with fail
  go_loopw [3] (fun s3 wr => ∃ k : Nat, k ≤ s.size ∧ s3 = .int .i64 k ∧ Sl (∀ i, (h : i < s.size) → i < k → okB i s[i] = true) ∧ Below w1.heap.size w1 wr) (fun s3 _ => s.size - (RowKit.intOf s3).toNat)
  case atStart => exact ⟨0, Nat.zero_le _, rfl, ⟨fun i _ h => absurd h (Nat.not_lt_zero _)⟩, Below.refl _ _⟩
  case round =>
    obtain ⟨k, hk, rfl, HV, hB⟩ := hrel
    by_cases hlt : k < s.size
    · have HL : Sl (∀ W : World, Calls Tryz.prog 77 #[.int .u8 (s[k].toNat : Int)] W fun e w' => e = .returned (.bool (letB s[k])) ∧ w' = W) := ⟨fun W => r1letter_any s[k] W⟩; have HD : Sl (∀ W : World, Calls Tryz.prog 78 #[.int .u8 (s[k].toNat : Int)] W fun e w' => e = .returned (.bool (decide (48 ≤ s[k].toNat) && decide (s[k].toNat ≤ 57))) ∧ w' = W) := ⟨fun W => r1digit_any s[k] W⟩; have hb8 : (s[k].toNat : Int) < 256 := (by have := s[k].toNat_lt; omega); have HOK : Sl (okB k s[k] = (letB s[k] || (decide (k ≠ 0) && (decide (s[k].toNat = 95) || (decide (48 ≤ s[k].toNat) && decide (s[k].toNat ≤ 57)))))) := ⟨rfl⟩
      have HNX : Sl (okB k s[k] = true → ∀ i, (h : i < s.size) → i < k + 1 → okB i s[i] = true) := ⟨fun h i hi h2 => by
        rcases Nat.lt_or_ge i k with g | g
        · exact HV.out i hi g
        · obtain rfl : i = k := (by omega)
          exact h⟩
      have HNF : Sl (okB k s[k] = false → nameS s = false) := ⟨fun h => nameS_false hlt h⟩; have HK0 : Sl (letB s[k] = false → k ≠ 0) := ⟨fun h h2 => by subst h2; rw [HLT.out] at h; cases h⟩; clear HV; generalize hL : letB s[k] = L at *
      generalize (decide (48 ≤ s[k].toNat) && decide (s[k].toNat ≤ 57)) = D at *
      clear hL; go_wp2_with fail; refine (HL.out _).mono ?_; rintro e w2 ⟨rfl, rfl⟩
      cases L
      · have h0 := HK0.out rfl; clear HK0
        cases D
        · by_cases h5 : s[k].toNat = 95
          · have hT := HNX.out (by rw [HOK.out, decide_eq_true h0, decide_eq_true h5]; rfl); have HT : Sl _ := ⟨hT⟩; have h95 : ((s[k].toNat : Int) != 95) = false := (by rw [bne_eq_false_iff_eq]; omega); clear hT HNF HNX HOK h5; go_wp2_with fail; refine (HD.out _).mono ?_; rintro e w3 ⟨rfl, rfl⟩; go_wp2_with fail; exact ⟨⟨k + 1, hlt, by go_num, HT, hB⟩, by simp [RowKit.intOf]; try omega⟩
          · have h95 : ((s[k].toNat : Int) != 95) = true := (by rw [bne_iff_ne]; omega); have HF := HNF.out (by rw [HOK.out, decide_eq_false h5, Bool.or_false, Bool.and_false]; rfl); have HFS : Sl _ := ⟨HF⟩; clear HF HNF HNX HOK h5; go_wp2_with fail; refine (HD.out _).mono ?_; rintro e w3 ⟨rfl, rfl⟩; go_wp2_with fail; go_ret; rw [HFS.out]; exact ⟨rfl, hB⟩
        · have hT := HNX.out (by rw [HOK.out, decide_eq_true h0, Bool.or_true]; rfl); have HT : Sl _ := ⟨hT⟩; clear hT HNF HNX HOK; go_wp2_with fail; refine (HD.out _).mono ?_; rintro e w3 ⟨rfl, rfl⟩; go_wp2_with fail; exact ⟨⟨k + 1, hlt, by go_num, HT, hB⟩, by simp [RowKit.intOf]; try omega⟩
      · have hT := HNX.out (by rw [HOK.out]; rfl); have HT : Sl _ := ⟨hT⟩; clear hT HNF HNX HOK HK0; go_wp2_with fail; exact ⟨⟨k + 1, hlt, by go_num, HT, hB⟩, by simp [RowKit.intOf]; try omega⟩
    · have hke : k = s.size := (by omega); have HF : Sl (nameS s = true) := ⟨nameS_true ⟨by omega, by omega⟩ fun i hi => HV.out i hi (by omega)⟩; clear HV; go_wp2_with fail; go_ret; rw [HF.out]; exact ⟨rfl, hB⟩
end Go.Proofs.YtmcoadmnkelkkaaGreatDoor
namespace Go.Proofs.YtmcoadmnkelkkaaGreatDoor
set_option linter.unusedSimpArgs false
open Go.RowKit
set_option linter.unusedVariables false
def TV.parts (t : TV) : Array Value := #[.int .i64 (t.num 0), .int .i64 (t.den 0), .int .i64 (t.num 1), .int .i64 (t.den 1), .int .i64 (t.num 2), .int .i64 (t.den 2), .int .i64 (t.num 3), .int .i64 (t.den 3), .int .i64 (t.num 4), .int .i64 (t.den 4), .int .i64 (t.num 5), .int .i64 (t.den 5), .int .i64 (t.num 6), .int .i64 (t.den 6), .int .i64 (t.num 7), .int .i64 (t.den 7), .int .i64 (t.num 8), .int .i64 (t.den 8), .int .i64 (t.num 9), .int .i64 (t.den 9), .int .i64 (t.num 10), .int .i64 (t.den 10), .int .i64 (t.num 11), .int .i64 (t.den 11)]
def TV.cells (t : TV) : Array Value := #[.string t.nm, .bool t.syn, .int .i64 t.wolf, .int .i64 (t.num 0), .int .i64 (t.den 0), .int .i64 (t.num 1), .int .i64 (t.den 1), .int .i64 (t.num 2), .int .i64 (t.den 2), .int .i64 (t.num 3), .int .i64 (t.den 3), .int .i64 (t.num 4), .int .i64 (t.den 4), .int .i64 (t.num 5), .int .i64 (t.den 5), .int .i64 (t.num 6), .int .i64 (t.den 6), .int .i64 (t.num 7), .int .i64 (t.den 7), .int .i64 (t.num 8), .int .i64 (t.den 8), .int .i64 (t.num 9), .int .i64 (t.den 9), .int .i64 (t.num 10), .int .i64 (t.den 10), .int .i64 (t.num 11), .int .i64 (t.den 11)]
theorem TV.cells_size (t : TV) : t.cells.size = 27 := by kernel_rfl
theorem TV.cells_parts (t : TV) : t.cells.extract 3 (3 + 24) = t.parts := by kernel_rfl
theorem TV.cell0 (t : TV) : t.cells[0]? = some (.string t.nm) := by kernel_rfl
theorem TV.cell2 (t : TV) : t.cells[2]? = some (.int .i64 t.wolf) := by kernel_rfl
theorem twelve {k : Nat} (hk : k < 12) : k = 0 ∨ k = 1 ∨ k = 2 ∨ k = 3 ∨ k = 4 ∨ k = 5 ∨ k = 6 ∨ k = 7 ∨ k = 8 ∨ k = 9 ∨ k = 10 ∨ k = 11 := by omega
theorem idxT (t : TV) (W : World) {k : Nat} (hk : k < 12) : (Instr.index 24 (.agg t.parts) (.int .i64 (k : Int))).run Tryz.prog W = .ok (.agg #[.int .i64 (t.num k), .int .i64 (t.den k)]) W := by
  rcases twelve hk with rfl | rfl | rfl | rfl | rfl | rfl | rfl | rfl | rfl | rfl | rfl | rfl <;> kernel_rfl
theorem TV.cell_num (t : TV) {k : Nat} (hk : k < 12) : t.cells[3 + 2 * k]? = some (.int .i64 (t.num k)) := by
  rcases twelve hk with rfl | rfl | rfl | rfl | rfl | rfl | rfl | rfl | rfl | rfl | rfl | rfl <;> rfl
theorem TV.cell_den (t : TV) {k : Nat} (hk : k < 12) : t.cells[3 + 2 * k + 1]? = some (.int .i64 (t.den k)) := by
  rcases twelve hk with rfl | rfl | rfl | rfl | rfl | rfl | rfl | rfl | rfl | rfl | rfl | rfl <;> rfl
theorem Blk.loads {P : Program} {w : World} {g : Nat} {t : TypeId} {cs : Array Value} (h : Blk w g t cs) (o n : Nat) (hn : o + n ≤ cs.size) : (loadCellsFrom ⟨g, o, none⟩ 0 n #[]).run P w = .ok (cs.extract o (o + n)) w := by
  show (loadCells ⟨g, o, none⟩ n).run P w = _; have hl : (cs.extract o (o + n)).toList.length = n := (by simp; omega)
  have := run_loadCells_list (P := P) w ⟨g, o, none⟩ (cs.extract o (o + n)).toList (fun j v hv => by
    have hj : j < n := by
      rcases Nat.lt_or_ge j n with g | g
      · exact g
      · rw [List.getElem?_eq_none (by rw [hl]; exact g)] at hv; cases hv
    have hadd : (⟨g, o, none⟩ : Addr).add j = ⟨g, o + j, none⟩ := (by unfold Addr.add; split <;> simp_all); rw [hadd, h.cell (o + j)]; rw [Array.getElem?_toList, Array.getElem?_extract] at hv; rw [if_pos (by omega)] at hv
    exact hv)
  rw [hl] at this; rw [this]
theorem Blk.whole {P : Program} {w : World} {g : Nat} {t : TypeId} {cs : Array Value} (h : Blk w g t cs) {n : Nat} (hn : cs.size = n) : (loadCellsFrom ⟨g, 0, none⟩ 0 n #[]).run P w = .ok cs w := by
  have := h.loads (P := P) 0 n (by omega); rw [this, Nat.zero_add, ← hn, Array.extract_size]
theorem TV.chk_wolf {N : ByteArray → Bool} {t : TV} (h : t.wolf < 0 ∨ 11 < t.wolf) : t.chk N = 2 := by unfold TV.chk; rw [if_pos h]
theorem TV.chk_bad {N : ByteArray → Bool} {t : TV} {i : Nat} (hi : i < 12) (h : t.bad i) : t.chk N = 2 := by
  unfold TV.chk
  by_cases h0 : t.wolf < 0 ∨ 11 < t.wolf
  · rw [if_pos h0]
  · rw [if_neg h0, if_pos ⟨i, hi, h⟩]
def TV.lowB (t : TV) : Nat → Bool
  | 0 => true
  | i+1 => t.lowB i && (((Nat.gcd (t.num i).natAbs (t.den i).natAbs : Nat) : Int) == 1)
theorem TV.lowB_true (t : TV) : ∀ n, t.lowB n = true ↔ ∀ i, i < n → t.low i
  | 0 => ⟨fun _ i h => absurd h (Nat.not_lt_zero _), fun _ => rfl⟩
  | n+1 => by
    rw [TV.lowB, Bool.and_eq_true, TV.lowB_true t n, beq_iff_eq]; constructor
    · rintro ⟨h1, h2⟩ i hi; rcases Nat.lt_or_ge i n with g | g
      · exact h1 i g
      · obtain rfl : i = n := (by omega); unfold TV.low; omega
    · intro h; refine ⟨fun i hi => h i (by omega), ?_⟩; have := h n (by omega); unfold TV.low at this; omega
theorem TV.all_pos2 (t : TV) {k : Nat} (h : ∀ j, j < k → ¬ t.bad j) (hk : k < 12) : 1 ≤ t.all k ∧ t.all k ≤ 2880 := by
  have key : ∀ i, i ≤ k → 1 ≤ t.all i ∧ t.all i ≤ 2880 := by
    intro i
    induction i with
    | zero => intro _; rw [TV.all]; decide
    | succ i ih =>
      intro hi; have h1 := ih (by omega); have hb := h i (by omega); unfold TV.bad at hb; rw [TV.all]
      split
      · rename_i h2; have h3 : t.all i / Nat.gcd (t.all i) (t.den i).natAbs ≤ 120 := Nat.le_trans (Nat.div_le_self _ _) h2; have h4 : (t.den i).natAbs ≤ 24 := (by omega); exact ⟨Nat.mul_pos (Nat.div_pos (Nat.le_of_dvd h1.1 (Nat.gcd_dvd_left _ _)) (Nat.gcd_pos_of_pos_left _ h1.1)) (by omega), Nat.mul_le_mul h3 h4⟩
      · exact h1
  exact key k (Nat.le_refl _)
def TV.fin (nm low : Bool) (wn : Int) (all : Nat) : Int := if nm = false ∨ low = false ∨ wn ≠ 0 then 6 else if 120 < all then 7 else 0
theorem TV.chk_fin {N : ByteArray → Bool} {t : TV} (h1 : ¬ (t.wolf < 0 ∨ 11 < t.wolf)) (h2 : ∀ i, i < 12 → ¬ t.bad i) : t.chk N = TV.fin (N t.nm) (t.lowB 12) (t.num t.wolf.toNat) (t.all 12) := by
  unfold TV.chk TV.fin; rw [if_neg h1, if_neg (by rintro ⟨i, hi, hb⟩; exact h2 i hi hb)]
  have e : (∃ i, i < 12 ∧ ¬ t.low i) ↔ t.lowB 12 = false := by
    constructor
    · rintro ⟨i, hi, hn⟩
      cases hb : t.lowB 12
      · rfl
      · exact absurd ((TV.lowB_true t 12).1 hb i hi) hn
    · intro hb; refine Classical.byContradiction fun hn => ?_
      rw [(TV.lowB_true t 12).2 (fun i hi => Classical.byContradiction fun hl => hn ⟨i, hi, hl⟩)] at hb
      cases hb
  simp only [e]
theorem size_parts : (Tryz.prog.info? 24).map (·.size) = some 24 := by kernel_rfl
attribute [-simp] Tryz.isAgg24
set_option maxHeartbeats 3200000 in
set_option maxRecDepth 100000 in
theorem tcheck_any (t : TV) (w : World) (hs : t.nm.size ≤ maxLen) : Calls Tryz.prog 41 #[.agg t.cells] w fun e w' => e = .returned (.int .i64 (t.chk nameS)) ∧ Below w.heap.size w w' := by
  have hu := (Below.refl w.heap.size w).alloc (Nat.le_refl _) (.cells t.cells 26); have X0 := Blk.new w 26 t.cells; have HXP : Sl _ := ⟨fun (W : World) (k : Nat) (hk : k < 12) => idxT t W hk⟩; have HN : Sl (∀ W : World, Calls Tryz.prog 80 #[.string t.nm] W fun e w' => e = .returned (.bool (nameS t.nm)) ∧ Below W.heap.size W w') := ⟨fun W => name_any t.nm W hs⟩; have c0 := t.cell0; have c2 := t.cell2; have cn : ∀ k, k < 12 → t.cells[3 + 2 * k]? = some (.int .i64 (t.num k)) := fun k hk => t.cell_num hk
  have hrg : (w.alloc (.cells t.cells 26)).rangeAt w.heap.size 3 t.parts.toList := by
    have := World.rangeAt_of_block X0 3 24; rw [t.cells_parts] at this; exact this
  have hln : (Tryz.prog.info? 24).map (·.size) = some t.parts.toList.length := size_parts; generalize t.cells = cs at *
  generalize t.parts = P at *
  have HC : Sl _ := ⟨And.intro c0 (And.intro c2 cn)⟩; have HU : Sl _ := ⟨And.intro hu X0⟩; have HRG : Sl _ := ⟨And.intro hrg hln⟩; have c2 := HU.out.2.cell 2; rw [HC.out.2.1] at c2; clear hu X0 c0 hrg hln cn
  by_cases hwolf : t.wolf < 0 ∨ 11 < t.wolf
  · have HR : Sl (t.chk nameS = 2) := ⟨TV.chk_wolf hwolf⟩; rcases hwolf with h1 | h1
    · go_enter Tryz.func41, Tryz.ntmps41; go_wp2_with fail; go_ret; exact ⟨by rw [HR.out]; rfl, HU.out.1⟩
    · have h2 : ¬ t.wolf < 0 := (by omega); go_enter Tryz.func41, Tryz.ntmps41; go_wp2_with fail; go_ret; exact ⟨by rw [HR.out]; rfl, HU.out.1⟩
  have h1 : ¬ t.wolf < 0 := (by omega); have h2 : ¬ 11 < t.wolf := (by omega); have HW : Sl _ := ⟨And.intro h1 h2⟩; clear hwolf; go_enter Tryz.func41, Tryz.ntmps41; go_wp2_with (refine wpList_load_mid rfl 24 (.tmp 15) rfl w.heap.size 3 rfl P.toList _ HRG.out.1 Tryz.underlying24 rfl HRG.out.2 ?_); generalize w.alloc (.cells cs 26) = w0 at *
  clear c2 h1 h2
  go_loopw [3, 4, 17] (fun s3 s4 s17 wr => ∃ k : Nat, k ≤ 12 ∧ s17 = .int .i64 k ∧ s3 = .bool (t.lowB k) ∧ s4 = .int .i64 (t.all k : Nat) ∧ Sl (Below w.heap.size w wr ∧ Below w0.heap.size w0 wr ∧ ∀ j, j < k → ¬ t.bad j)) (fun _ _ s17 _ => 12 - (RowKit.intOf s17).toNat)
  case atStart => exact ⟨0, by decide, rfl, rfl, rfl, ⟨HU.out.1, Below.refl _ _, fun j hj => absurd hj (Nat.not_lt_zero _)⟩⟩
  case round =>
    obtain ⟨k, hk, rfl, rfl, rfl, HR⟩ := hrel
    by_cases hk12 : k < 12
    · have hix := fun W : World => HXP.out W k hk12
      obtain ⟨n, hn⟩ : ∃ n, t.num k = n := ⟨_, rfl⟩; obtain ⟨d, hd⟩ : ∃ d, t.den k = d := ⟨_, rfl⟩; rw [hn, hd] at hix; have hbd : t.bad k ↔ (d < 1 ∨ 24 < d ∨ n < -2 * d ∨ 2 * d < n) := (by unfold TV.bad; rw [hn, hd])
      by_cases hb : t.bad k
      · have HRS : Sl (t.chk nameS = 2) := ⟨TV.chk_bad hk12 hb⟩; have hb' := hbd.1 hb; clear hb hbd HXP hn hd
        by_cases b1 : d < 1
        · clear hb'; go_wp2_with fail; go_ret; exact ⟨by rw [HRS.out]; rfl, (HR.out.1.alloc (HR.out.1.size) _)⟩
        · by_cases b2 : 24 < d
          · clear hb'; go_wp2_with fail; go_ret; exact ⟨by rw [HRS.out]; rfl, (HR.out.1.alloc (HR.out.1.size) _)⟩
          · have q1 : ¬ 24 < d := b2
            by_cases b3 : n < -2 * d
            · clear hb'; go_wp2_with fail; go_ret; exact ⟨by rw [HRS.out]; rfl, (HR.out.1.alloc (HR.out.1.size) _)⟩
            · have b4 : 2 * d < n := (by omega); clear hb'; go_wp2_with fail; go_ret; exact ⟨by rw [HRS.out]; rfl, (HR.out.1.alloc (HR.out.1.size) _)⟩
      · have hr : 1 ≤ d ∧ d ≤ 24 ∧ -2 * d ≤ n ∧ n ≤ 2 * d := (by have := (not_congr hbd).1 hb; omega); obtain ⟨r1, r2, r3, r4⟩ := hr; have hap := t.all_pos2 HR.out.2.2 hk12; obtain ⟨a, hae⟩ : ∃ a, t.all k = a := ⟨_, rfl⟩; obtain ⟨a', hae'⟩ : ∃ a', t.all (k + 1) = a' := ⟨_, rfl⟩; obtain ⟨L, hL⟩ : ∃ L, t.lowB k = L := ⟨_, rfl⟩; obtain ⟨g, hg⟩ : ∃ g, Nat.gcd n.natAbs d.natAbs = g := ⟨_, rfl⟩; obtain ⟨g2, hg2⟩ : ∃ g2, Nat.gcd a d.natAbs = g2 := ⟨_, rfl⟩; have hL' : t.lowB (k + 1) = (L && ((g : Int) == 1)) := (by rw [TV.lowB, hL, hn, hd, hg]); have ha' : a' = if a ≤ 120 then a / g2 * d.natAbs else a := (by rw [← hae', TV.all, hae, hd, hg2])
        have hg2p : 1 ≤ g2 ∧ g2 ≤ 24 := by
          rw [← hg2]; exact ⟨Nat.gcd_pos_of_pos_right _ (by omega), Nat.le_trans (Nat.gcd_le_right _ (by omega)) (by omega)⟩
        have ha2 : 1 ≤ a ∧ a ≤ 2880 := (by rw [← hae]; exact hap); have HK : Sl _ := ⟨And.intro hL' (And.intro hae' ha')⟩
        have HNB : Sl (∀ j, j < k + 1 → ¬ t.bad j) := ⟨fun j hj => by
          rcases Nat.lt_or_ge j k with h | h
          · exact HR.out.2.2 j h
          · obtain rfl : j = k := (by omega)
            exact hb⟩
        have HRB := HR.out.1.alloc HR.out.1.size (.cells #[.int .i64 n, .int .i64 d] 23); have HRB2 := HR.out.2.1.alloc HR.out.2.1.size (.cells #[.int .i64 n, .int .i64 d] 23); have HRR : Sl _ := ⟨And.intro HRB HRB2⟩; rw [hL, hae]; clear hL hae hL' hae' ha' hbd hb hn hd HXP HRB HRB2 hap HR; have b1 : decide (d < 1) = false := (by rw [decide_eq_false_iff_not]; omega); have b2 : decide (24 < d) = false := (by rw [decide_eq_false_iff_not]; omega); have b3 : decide (n < -2 * d) = false := (by rw [decide_eq_false_iff_not]; omega); have b4 : decide (2 * d < n) = false := (by rw [decide_eq_false_iff_not]; omega); have hcd : (wr.alloc (.cells #[.int .i64 n, .int .i64 d] 23)).cell? ⟨wr.heap.size, 1, none⟩ = some (.int .i64 d) := (Blk.new wr 23 #[.int .i64 n, .int .i64 d]).cell 1; have hcn : (wr.alloc (.cells #[.int .i64 n, .int .i64 d] 23)).cell? ⟨wr.heap.size, 0, none⟩ = some (.int .i64 n) := (Blk.new wr 23 #[.int .i64 n, .int .i64 d]).cell 0; have HHC : Sl _ := ⟨And.intro hcd hcn⟩; clear hcd hcn; have HG2 : Sl _ := ⟨And.intro hg hg2⟩; clear hg hg2
        cases L
        · have HL : Sl (t.lowB (k + 1) = false) := ⟨by rw [HK.out.1]; rfl⟩
          by_cases ha : a ≤ 120
          · have had : decide ((a : Int) ≤ 120) = true := (by rw [decide_eq_true_iff]; omega); have hdv : (a : Int).tdiv (g2 : Int) = ((a / g2 : Nat) : Int) := (by rw [Int.tdiv_eq_ediv_of_nonneg (by omega)]; exact (Int.natCast_ediv a g2).symm); have hq : a / g2 ≤ a := Nat.div_le_self _ _; have HMU : Sl (((a / g2 : Nat) : Int) * d = (a' : Int)) := ⟨by rw [HK.out.2.2, if_pos ha, Int.natCast_mul, show ((d.natAbs : Nat) : Int) = d by omega]⟩
            have VA : Sl (∀ (W : World) q, Calls Tryz.prog 79 #[.int .i64 a, .int .i64 d] (W.drewN q) fun e w'' => e = .returned (.int .i64 g2) ∧ ∃ m, w'' = W.drewN m) := ⟨fun W q => by
              have h := tgcd_any a d.natAbs (W.drewN q) (by omega) (by omega); rw [HG2.out.2, show ((d.natAbs : Nat) : Int) = d by omega] at h
              exact h.mono fun e w'' h => ⟨h.1, by obtain ⟨m, hm⟩ := h.2; exact ⟨q + m, by rw [hm, drew2]⟩⟩⟩
            have hdv2 : (a : Int) / (g2 : Int) = ((a / g2 : Nat) : Int) := (Int.natCast_ediv a g2).symm; have hg01 : ¬ (g2 : Int) = 0 := (by omega); have hg00 : ¬ g2 = 0 := (by omega); have hg0b : ((g2 : Int) == 0) = false := (by rw [beq_eq_false_iff_ne]; omega); generalize a / g2 = q2 at *
            have hmb : 0 ≤ (q2 : Int) * d ∧ (q2 : Int) * d ≤ 69120 := by
              have l1 := Int.mul_le_mul (show (q2 : Int) ≤ 2880 by omega) r2 (by omega) (by decide); exact ⟨Int.mul_nonneg (by omega) (by omega), by omega⟩
            obtain ⟨hmb1, hmb2⟩ := hmb; clear ha hg2p; go_wp2_with fail; have hcd : (wr.alloc (.cells #[.int .i64 n, .int .i64 d] 23)).cell? ⟨wr.heap.size, 1, none⟩ = some (.int .i64 d) := HHC.out.1; have HRW : Sl (Below w.heap.size w (wr.alloc (.cells #[.int .i64 n, .int .i64 d] 23)) ∧ Below w0.heap.size w0 (wr.alloc (.cells #[.int .i64 n, .int .i64 d] 23))) := ⟨⟨HRR.out.1, HRR.out.2⟩⟩; generalize wr.alloc (.cells #[.int .i64 n, .int .i64 d] 23) = wp at *
            go_quiet ((go_at_call 79; (with_reducible exact VA.out _ _)))
            go_wp2_with fail; refine ⟨⟨k + 1, hk12, by go_num, by rw [HL.out], ret_val (by rw [HMU.out, HK.out.2.1]), ⟨below_drewN HRW.out.1 _, below_drewN HRW.out.2 _, HNB.out⟩⟩, by simp [RowKit.intOf]; omega⟩
          · have had : decide ((a : Int) ≤ 120) = false := (by rw [decide_eq_false_iff_not]; omega); have HAE : Sl (a = a') := ⟨by rw [HK.out.2.2, if_neg ha]⟩; clear ha; go_wp2_with fail; refine ⟨⟨k + 1, hk12, by go_num, by rw [HL.out], ret_val (by rw [HAE.out, HK.out.2.1]), ⟨HRR.out.1,  HRR.out.2, HNB.out⟩⟩, by simp [RowKit.intOf]; omega⟩
        · have HL : Sl (t.lowB (k + 1) = ((g : Int) == 1)) := ⟨by rw [HK.out.1, Bool.true_and]⟩; have hwz : IntKind.i64.wrap (-n) = -n := (by rw [IntKind.wrap_i64]; omega)
          by_cases h0 : 0 ≤ n
          · have hm1 : max n (-n) = n := (by omega); have hm2 : ¬ n < -n := (by omega); have hm3 : -n ≤ n := (by omega)
            have HG : Sl (∀ W : World, Calls Tryz.prog 79 #[.int .i64 n, .int .i64 d] W fun e w' => e = .returned (.int .i64 g) ∧ ∃ m, w' = W.drewN m) := ⟨fun W => by
              have h := tgcd_any n.natAbs d.natAbs W (by omega) (by omega); rw [HG2.out.1, show ((d.natAbs : Nat) : Int) = d by omega, show ((n.natAbs : Nat) : Int) = n by omega] at h
              exact h⟩
            by_cases ha : a ≤ 120
            · have had : decide ((a : Int) ≤ 120) = true := (by rw [decide_eq_true_iff]; omega); have hdv : (a : Int).tdiv (g2 : Int) = ((a / g2 : Nat) : Int) := (by rw [Int.tdiv_eq_ediv_of_nonneg (by omega)]; exact (Int.natCast_ediv a g2).symm); have hq : a / g2 ≤ a := Nat.div_le_self _ _; have HMU : Sl (((a / g2 : Nat) : Int) * d = (a' : Int)) := ⟨by rw [HK.out.2.2, if_pos ha, Int.natCast_mul, show ((d.natAbs : Nat) : Int) = d by omega]⟩
              have VA : Sl (∀ (W : World) q, Calls Tryz.prog 79 #[.int .i64 a, .int .i64 d] (W.drewN q) fun e w'' => e = .returned (.int .i64 g2) ∧ ∃ m, w'' = W.drewN m) := ⟨fun W q => by
                have h := tgcd_any a d.natAbs (W.drewN q) (by omega) (by omega); rw [HG2.out.2, show ((d.natAbs : Nat) : Int) = d by omega] at h
                exact h.mono fun e w'' h => ⟨h.1, by obtain ⟨m, hm⟩ := h.2; exact ⟨q + m, by rw [hm, drew2]⟩⟩⟩
              have hdv2 : (a : Int) / (g2 : Int) = ((a / g2 : Nat) : Int) := (Int.natCast_ediv a g2).symm; have hg01 : ¬ (g2 : Int) = 0 := (by omega); have hg00 : ¬ g2 = 0 := (by omega); have hg0b : ((g2 : Int) == 0) = false := (by rw [beq_eq_false_iff_ne]; omega); generalize a / g2 = q2 at *
              have hmb : 0 ≤ (q2 : Int) * d ∧ (q2 : Int) * d ≤ 69120 := by
                have l1 := Int.mul_le_mul (show (q2 : Int) ≤ 2880 by omega) r2 (by omega) (by decide); exact ⟨Int.mul_nonneg (by omega) (by omega), by omega⟩
              obtain ⟨hmb1, hmb2⟩ := hmb; clear ha hg2p; go_wp2_with fail; refine (HG.out _).mono ?_; rintro e w1 ⟨rfl, dn, rfl⟩; go_wp2_with fail; have hcd : ((wr.alloc (.cells #[.int .i64 n, .int .i64 d] 23)).drewN dn).cell? ⟨wr.heap.size, 1, none⟩ = some (.int .i64 d) := HHC.out.1; have HRW : Sl (Below w.heap.size w ((wr.alloc (.cells #[.int .i64 n, .int .i64 d] 23)).drewN dn) ∧ Below w0.heap.size w0 ((wr.alloc (.cells #[.int .i64 n, .int .i64 d] 23)).drewN dn)) := ⟨⟨below_drewN HRR.out.1 dn, below_drewN HRR.out.2 dn⟩⟩; generalize (wr.alloc (.cells #[.int .i64 n, .int .i64 d] 23)).drewN dn = wp at *
              go_quiet ((go_at_call 79; (with_reducible exact VA.out _ _)))
              go_wp2_with fail; refine ⟨⟨k + 1, hk12, by go_num, by rw [HL.out], ret_val (by rw [HMU.out, HK.out.2.1]), ⟨below_drewN HRW.out.1 _, below_drewN HRW.out.2 _, HNB.out⟩⟩, by simp [RowKit.intOf]; omega⟩
            · have had : decide ((a : Int) ≤ 120) = false := (by rw [decide_eq_false_iff_not]; omega); have HAE : Sl (a = a') := ⟨by rw [HK.out.2.2, if_neg ha]⟩; clear ha; go_wp2_with fail; refine (HG.out _).mono ?_; rintro e w1 ⟨rfl, dn, rfl⟩; go_wp2_with fail; refine ⟨⟨k + 1, hk12, by go_num, by rw [HL.out], ret_val (by rw [HAE.out, HK.out.2.1]), ⟨below_drewN HRR.out.1 dn,  below_drewN HRR.out.2 dn, HNB.out⟩⟩, by simp [RowKit.intOf]; omega⟩
          · have hm1 : max n (-n) = -n := (by omega); have hm3 : n < -n := (by omega)
            have HG : Sl (∀ W : World, Calls Tryz.prog 79 #[.int .i64 (-n), .int .i64 d] W fun e w' => e = .returned (.int .i64 g) ∧ ∃ m, w' = W.drewN m) := ⟨fun W => by
              have h := tgcd_any n.natAbs d.natAbs W (by omega) (by omega); rw [HG2.out.1, show ((d.natAbs : Nat) : Int) = d by omega, show ((n.natAbs : Nat) : Int) = -n by omega] at h
              exact h⟩
            by_cases ha : a ≤ 120
            · have had : decide ((a : Int) ≤ 120) = true := (by rw [decide_eq_true_iff]; omega); have hdv : (a : Int).tdiv (g2 : Int) = ((a / g2 : Nat) : Int) := (by rw [Int.tdiv_eq_ediv_of_nonneg (by omega)]; exact (Int.natCast_ediv a g2).symm); have hq : a / g2 ≤ a := Nat.div_le_self _ _; have HMU : Sl (((a / g2 : Nat) : Int) * d = (a' : Int)) := ⟨by rw [HK.out.2.2, if_pos ha, Int.natCast_mul, show ((d.natAbs : Nat) : Int) = d by omega]⟩
              have VA : Sl (∀ (W : World) q, Calls Tryz.prog 79 #[.int .i64 a, .int .i64 d] (W.drewN q) fun e w'' => e = .returned (.int .i64 g2) ∧ ∃ m, w'' = W.drewN m) := ⟨fun W q => by
                have h := tgcd_any a d.natAbs (W.drewN q) (by omega) (by omega); rw [HG2.out.2, show ((d.natAbs : Nat) : Int) = d by omega] at h
                exact h.mono fun e w'' h => ⟨h.1, by obtain ⟨m, hm⟩ := h.2; exact ⟨q + m, by rw [hm, drew2]⟩⟩⟩
              have hdv2 : (a : Int) / (g2 : Int) = ((a / g2 : Nat) : Int) := (Int.natCast_ediv a g2).symm; have hg01 : ¬ (g2 : Int) = 0 := (by omega); have hg00 : ¬ g2 = 0 := (by omega); have hg0b : ((g2 : Int) == 0) = false := (by rw [beq_eq_false_iff_ne]; omega); generalize a / g2 = q2 at *
              have hmb : 0 ≤ (q2 : Int) * d ∧ (q2 : Int) * d ≤ 69120 := by
                have l1 := Int.mul_le_mul (show (q2 : Int) ≤ 2880 by omega) r2 (by omega) (by decide); exact ⟨Int.mul_nonneg (by omega) (by omega), by omega⟩
              obtain ⟨hmb1, hmb2⟩ := hmb; clear ha hg2p; go_wp2_with fail; refine (HG.out _).mono ?_; rintro e w1 ⟨rfl, dn, rfl⟩; go_wp2_with fail; have hcd : ((wr.alloc (.cells #[.int .i64 n, .int .i64 d] 23)).drewN dn).cell? ⟨wr.heap.size, 1, none⟩ = some (.int .i64 d) := HHC.out.1; have HRW : Sl (Below w.heap.size w ((wr.alloc (.cells #[.int .i64 n, .int .i64 d] 23)).drewN dn) ∧ Below w0.heap.size w0 ((wr.alloc (.cells #[.int .i64 n, .int .i64 d] 23)).drewN dn)) := ⟨⟨below_drewN HRR.out.1 dn, below_drewN HRR.out.2 dn⟩⟩; generalize (wr.alloc (.cells #[.int .i64 n, .int .i64 d] 23)).drewN dn = wp at *
              go_quiet ((go_at_call 79; (with_reducible exact VA.out _ _)))
              go_wp2_with fail; refine ⟨⟨k + 1, hk12, by go_num, by rw [HL.out], ret_val (by rw [HMU.out, HK.out.2.1]), ⟨below_drewN HRW.out.1 _, below_drewN HRW.out.2 _, HNB.out⟩⟩, by simp [RowKit.intOf]; omega⟩
            · have had : decide ((a : Int) ≤ 120) = false := (by rw [decide_eq_false_iff_not]; omega); have HAE : Sl (a = a') := ⟨by rw [HK.out.2.2, if_neg ha]⟩; clear ha; go_wp2_with fail; refine (HG.out _).mono ?_; rintro e w1 ⟨rfl, dn, rfl⟩; go_wp2_with fail; refine ⟨⟨k + 1, hk12, by go_num, by rw [HL.out], ret_val (by rw [HAE.out, HK.out.2.1]), ⟨below_drewN HRR.out.1 dn,  below_drewN HRR.out.2 dn, HNB.out⟩⟩, by simp [RowKit.intOf]; omega⟩
    · obtain rfl : k = 12 := (by omega); have hall : ∀ j, j < 12 → ¬ t.bad j := HR.out.2.2; have hfin := TV.chk_fin (N := nameS) (t := t) (by have := HW.out; omega) hall; obtain ⟨wn, hwn⟩ : ∃ z, t.num t.wolf.toNat = z := ⟨_, rfl⟩; obtain ⟨a, ha⟩ : ∃ z, t.all 12 = z := ⟨_, rfl⟩; obtain ⟨L, hL⟩ : ∃ z, t.lowB 12 = z := ⟨_, rfl⟩; obtain ⟨N, hN⟩ : ∃ z, nameS t.nm = z := ⟨_, rfl⟩; obtain ⟨W, hW⟩ : ∃ W : Nat, t.wolf = (W : Int) := ⟨t.wolf.toNat, by have := HW.out; omega⟩; rw [hwn, ha, hL, hN] at hfin; rw [hN] at HN; have hW12 : W < 12 := (by have := HW.out; omega); have X := HU.out.2.below HR.out.2.1 HU.out.2.lt; have c0 : wr.cell? ⟨w.heap.size, 0, none⟩ = some (.string t.nm) := (by rw [X.cell]; exact HC.out.1)
      have CW : Sl (∀ w1 : World, Below wr.heap.size wr w1 → w1.cell? ⟨w.heap.size, 2, none⟩ = some (.int .i64 (W : Int)) ∧ w1.cell? ⟨w.heap.size, 3 + W * 2, none⟩ = some (.int .i64 wn)) := ⟨fun w1 h => by
        have X1 := X.below h X.lt; refine ⟨?_, ?_⟩
        · rw [X1.cell, HC.out.2.1, hW]
        · rw [X1.cell, Nat.mul_comm, HC.out.2.2 W hW12, ← hwn, hW, Int.toNat_natCast]⟩
      have HF : Sl _ := ⟨hfin⟩; rw [hL, ha, hW]; clear hfin hwn ha hL hN hW HXP hall X hk12 HC HU HRG HW; have hw1 : (0 : Int) ≤ (W : Int) := (by omega); have hw2 : (W : Int) < 12 := (by omega); go_wp2_with fail; refine (HN.out _).mono ?_; rintro e w1 ⟨rfl, hb1⟩; obtain ⟨d2, dn⟩ := CW.out w1 hb1; have HB : Sl _ := ⟨HR.out.1.trans (hb1.mono HR.out.1.size)⟩; clear hb1 c0 CW
      by_cases h120 : 120 < a
      · have q1 : decide ((120 : Int) < (a : Int)) = true := (by rw [decide_eq_true_iff]; omega)
        cases N
        · go_wp2_with fail; go_ret; exact ⟨by rw [HF.out]; unfold TV.fin; rw [if_pos (.inl rfl)]; rfl, HB.out⟩
        · cases L
          · go_wp2_with fail; go_ret; exact ⟨by rw [HF.out]; unfold TV.fin; rw [if_pos (.inr (.inl rfl))]; rfl, HB.out⟩
          · by_cases hz : wn = 0
            · subst hz; go_wp2_with fail; go_ret; exact ⟨by rw [HF.out]; unfold TV.fin; rw [if_neg (by simp), if_pos h120]; rfl, HB.out⟩
            · have hzb : (wn != 0) = true := (by rw [bne_iff_ne]; exact hz); go_wp2_with fail; go_ret; exact ⟨by rw [HF.out]; unfold TV.fin; rw [if_pos (.inr (.inr hz))]; rfl, HB.out⟩
      · have q1 : decide ((120 : Int) < (a : Int)) = false := (by rw [decide_eq_false_iff_not]; omega)
        cases N
        · go_wp2_with fail; go_ret; exact ⟨by rw [HF.out]; unfold TV.fin; rw [if_pos (.inl rfl)]; rfl, HB.out⟩
        · cases L
          · go_wp2_with fail; go_ret; exact ⟨by rw [HF.out]; unfold TV.fin; rw [if_pos (.inr (.inl rfl))]; rfl, HB.out⟩
          · by_cases hz : wn = 0
            · subst hz; go_wp2_with fail; go_ret; exact ⟨by rw [HF.out]; unfold TV.fin; rw [if_neg (by simp), if_neg h120]; rfl, HB.out⟩
            · have hzb : (wn != 0) = true := (by rw [bne_iff_ne]; exact hz); go_wp2_with fail; go_ret; exact ⟨by rw [HF.out]; unfold TV.fin; rw [if_pos (.inr (.inr hz))]; rfl, HB.out⟩
end Go.Proofs.YtmcoadmnkelkkaaGreatDoor
namespace Go.Proofs.YtmcoadmnkelkkaaGreatDoor
set_option linter.unusedSimpArgs false
open Go.RowKit
set_option linter.unusedVariables false
attribute [-simp] Tryz.isAgg24
theorem TV.chk_low {N : ByteArray → Bool} {t : TV} {i : Nat} (h1 : ¬ (t.wolf < 0 ∨ 11 < t.wolf)) (h2 : ∀ i, i < 12 → ¬ t.bad i) (hi : i < 12) (h : ¬ t.low i) : t.chk N = 6 := by
  unfold TV.chk; rw [if_neg h1, if_neg (by rintro ⟨i, hi, hb⟩; exact h2 i hi hb), if_pos (.inr (.inl ⟨i, hi, h⟩))]
theorem TV.chk_name {N : ByteArray → Bool} {t : TV} (h1 : ¬ (t.wolf < 0 ∨ 11 < t.wolf)) (h2 : ∀ i, i < 12 → ¬ t.bad i) (h : N t.nm = false) : t.chk N = 6 := by
  unfold TV.chk; rw [if_neg h1, if_neg (by rintro ⟨i, hi, hb⟩; exact h2 i hi hb), if_pos (.inl h)]
theorem TV.chk_wolfn {N : ByteArray → Bool} {t : TV} (h1 : ¬ (t.wolf < 0 ∨ 11 < t.wolf)) (h2 : ∀ i, i < 12 → ¬ t.bad i) (h : ¬ (t.num t.wolf.toNat = 0 ∧ t.den t.wolf.toNat = 1)) : t.chk N = 6 := by
  unfold TV.chk; rw [if_neg h1, if_neg (by rintro ⟨i, hi, hb⟩; exact h2 i hi hb), if_pos]
  by_cases h0 : t.num t.wolf.toNat = 0
  · refine .inr (.inl ⟨t.wolf.toNat, by omega, fun hl => h ⟨h0, ?_⟩⟩); have hb := h2 t.wolf.toNat (by omega); unfold TV.low at hl; rw [h0] at hl; simp at hl; unfold TV.bad at hb; omega
  · exact .inr (.inr h0)
theorem TV.chk_end {N : ByteArray → Bool} {t : TV} (h1 : ¬ (t.wolf < 0 ∨ 11 < t.wolf)) (h2 : ∀ i, i < 12 → ¬ t.bad i) (hn : N t.nm = true) (hw : t.num t.wolf.toNat = 0) (hl : ∀ i, i < 12 → t.low i) : t.chk N = if 120 < t.all 12 then 7 else 0 := by
  unfold TV.chk; rw [if_neg h1, if_neg (by rintro ⟨i, hi, hb⟩; exact h2 i hi hb), if_neg]; rintro (h | ⟨i, hi, h⟩ | h)
  · rw [hn] at h; cases h
  · exact h (hl i hi)
  · exact h hw
set_option maxHeartbeats 3200000 in
set_option maxRecDepth 100000 in
theorem r5check_any (t : TV) (w : World) (hs : t.nm.size ≤ maxLen) : Calls Tryz.prog 8 #[.agg t.cells] w fun e w' => e = .returned (.int .i64 (t.chk nameS)) ∧ Below w.heap.size w w' := by
  have hu := (Below.refl w.heap.size w).alloc (Nat.le_refl _) (.cells t.cells 26); have X0 := Blk.new w 26 t.cells; have HN : Sl (∀ W : World, Calls Tryz.prog 39 #[.string t.nm] W fun e w' => e = .returned (.bool (nameS t.nm)) ∧ Below W.heap.size W w') := ⟨fun W => r1name_any t.nm W hs⟩; have c0 := t.cell0; have c2 := t.cell2; have cn : ∀ k, k < 12 → t.cells[3 + 2 * k]? = some (.int .i64 (t.num k)) := fun k hk => t.cell_num hk
  have cd : ∀ k, k < 12 → t.cells[3 + 2 * k + 1]? = some (.int .i64 (t.den k)) := fun k hk => t.cell_den hk
  generalize t.cells = cs at *
  have HC : Sl _ := ⟨And.intro c0 (And.intro c2 (And.intro cn cd))⟩; have HU : Sl _ := ⟨And.intro hu X0⟩; have c2 := HU.out.2.cell 2; rw [HC.out.2.1] at c2; clear hu X0 c0 cn cd
  by_cases hwolf : t.wolf < 0 ∨ 11 < t.wolf
  · have HR : Sl (t.chk nameS = 2) := ⟨TV.chk_wolf hwolf⟩; rcases hwolf with h1 | h1
    · go_enter Tryz.func8, Tryz.ntmps8; go_wp2_with fail; go_ret; exact ⟨by rw [HR.out]; rfl, HU.out.1⟩
    · have h2 : ¬ t.wolf < 0 := (by omega); go_enter Tryz.func8, Tryz.ntmps8; go_wp2_with fail; go_ret; exact ⟨by rw [HR.out]; rfl, HU.out.1⟩
  have h1 : ¬ t.wolf < 0 := (by omega); have h2 : ¬ 11 < t.wolf := (by omega); have HW : Sl _ := ⟨hwolf⟩; clear hwolf; go_enter Tryz.func8, Tryz.ntmps8; go_wp2_with fail; generalize w.alloc (.cells cs 26) = w0 at *
  clear c2 h1 h2
  go_loopw [3] (fun s3 wr => ∃ k : Nat, k ≤ 12 ∧ s3 = .int .i64 k ∧ Sl (Below w.heap.size w wr ∧ Below w0.heap.size w0 wr ∧ ∀ j, j < k → ¬ t.bad j)) (fun s3 _ => 12 - (RowKit.intOf s3).toNat)
  case atStart => exact ⟨0, by decide, rfl, ⟨HU.out.1, Below.refl _ _, fun j hj => absurd hj (Nat.not_lt_zero _)⟩⟩
  case round =>
    obtain ⟨k, hk, rfl, HR⟩ := hrel
    by_cases hk12 : k < 12
    · obtain ⟨n, hn⟩ : ∃ n, t.num k = n := ⟨_, rfl⟩; obtain ⟨d, hd⟩ : ∃ d, t.den k = d := ⟨_, rfl⟩; have X := HU.out.2.below HR.out.2.1 HU.out.2.lt; have cn : wr.cell? ⟨w.heap.size, 3 + k * 2, none⟩ = some (.int .i64 n) := (by rw [X.cell, Nat.mul_comm, HC.out.2.2.1 k hk12, hn]); have cd : wr.cell? ⟨w.heap.size, 3 + k * 2 + 1, none⟩ = some (.int .i64 d) := (by rw [X.cell, Nat.mul_comm, HC.out.2.2.2 k hk12, hd]); have hi1 : (0 : Int) ≤ (k : Int) := (by omega); have hi2 : (k : Int) < 12 := (by omega); have hbd : t.bad k ↔ (d < 1 ∨ 24 < d ∨ n < -2 * d ∨ 2 * d < n) := (by unfold TV.bad; rw [hn, hd])
      by_cases hb : t.bad k
      · have HRS : Sl (t.chk nameS = 2) := ⟨TV.chk_bad hk12 hb⟩; have hb' := hbd.1 hb; clear hb hbd hn hd X
        by_cases b1 : d < 1
        · clear hb'; go_wp2_with fail; go_ret; exact ⟨by rw [HRS.out]; rfl, (HR.out.1.alloc (HR.out.1.size) _)⟩
        · by_cases b2 : 24 < d
          · clear hb'; go_wp2_with fail; go_ret; exact ⟨by rw [HRS.out]; rfl, (HR.out.1.alloc (HR.out.1.size) _)⟩
          · have q1 : ¬ 24 < d := b2
            by_cases b3 : n < -2 * d
            · clear hb'; go_wp2_with fail; go_ret; exact ⟨by rw [HRS.out]; rfl, (HR.out.1.alloc (HR.out.1.size) _)⟩
            · have b4 : 2 * d < n := (by omega); clear hb'; go_wp2_with fail; go_ret; exact ⟨by rw [HRS.out]; rfl, (HR.out.1.alloc (HR.out.1.size) _)⟩
      · have hr : 1 ≤ d ∧ d ≤ 24 ∧ -2 * d ≤ n ∧ n ≤ 2 * d := (by have := (not_congr hbd).1 hb; omega); obtain ⟨r1, r2, r3, r4⟩ := hr
        have HNB : Sl (∀ j, j < k + 1 → ¬ t.bad j) := ⟨fun j hj => by
          rcases Nat.lt_or_ge j k with h | h
          · exact HR.out.2.2 j h
          · obtain rfl : j = k := (by omega)
            exact hb⟩
        have HRR : Sl _ := ⟨And.intro (HR.out.1.alloc HR.out.1.size (.cells #[.int .i64 n, .int .i64 d] 23)) (HR.out.2.1.alloc HR.out.2.1.size (.cells #[.int .i64 n, .int .i64 d] 23))⟩; clear hbd hb hn hd X HR; have b1 : decide (d < 1) = false := (by rw [decide_eq_false_iff_not]; omega); have b2 : decide (24 < d) = false := (by rw [decide_eq_false_iff_not]; omega); have b3 : decide (n < -2 * d) = false := (by rw [decide_eq_false_iff_not]; omega); have b4 : decide (2 * d < n) = false := (by rw [decide_eq_false_iff_not]; omega); go_wp2_with fail; exact ⟨⟨k + 1, hk12, by go_num, ⟨HRR.out.1, HRR.out.2, HNB.out⟩⟩, by simp [RowKit.intOf]; omega⟩
    · obtain rfl : k = 12 := (by omega); have hall : ∀ j, j < 12 → ¬ t.bad j := HR.out.2.2; have HAL : Sl _ := ⟨hall⟩; obtain ⟨wn, hwn⟩ : ∃ z, t.num t.wolf.toNat = z := ⟨_, rfl⟩; obtain ⟨wd, hwd⟩ : ∃ z, t.den t.wolf.toNat = z := ⟨_, rfl⟩; obtain ⟨N, hN⟩ : ∃ z, nameS t.nm = z := ⟨_, rfl⟩; obtain ⟨W, hW⟩ : ∃ W : Nat, t.wolf = (W : Int) := ⟨t.wolf.toNat, by have := HW.out; omega⟩; rw [hN] at HN; have hW12 : W < 12 := (by have := HW.out; omega); have X := HU.out.2.below HR.out.2.1 HU.out.2.lt; have c0 : wr.cell? ⟨w.heap.size, 0, none⟩ = some (.string t.nm) := (by rw [X.cell]; exact HC.out.1)
      have CW : Sl (∀ w1 : World, Below wr.heap.size wr w1 → w1.cell? ⟨w.heap.size, 2, none⟩ = some (.int .i64 (W : Int)) ∧ w1.cell? ⟨w.heap.size, 3 + W * 2, none⟩ = some (.int .i64 wn) ∧ w1.cell? ⟨w.heap.size, 3 + W * 2 + 1, none⟩ = some (.int .i64 wd)) := ⟨fun w1 h => by
        have X1 := X.below h X.lt; refine ⟨?_, ?_, ?_⟩
        · rw [X1.cell, HC.out.2.1, hW]
        · rw [X1.cell, Nat.mul_comm, HC.out.2.2.1 W hW12, ← hwn, hW, Int.toNat_natCast]
        · rw [X1.cell, Nat.mul_comm, HC.out.2.2.2 W hW12, ← hwd, hW, Int.toNat_natCast]⟩
      have HF1 : Sl (N = false → t.chk nameS = 6) := ⟨fun h => TV.chk_name HW.out hall (by rw [hN]; exact h)⟩; have HF2 : Sl (¬ (wn = 0 ∧ wd = 1) → t.chk nameS = 6) := ⟨fun h => TV.chk_wolfn HW.out hall (by rw [hwn, hwd]; exact h)⟩; have HF3 : Sl (N = true → wn = 0 → (∀ i, i < 12 → t.low i) → t.chk nameS = if 120 < t.all 12 then 7 else 0) := ⟨fun h1 h2 h3 => TV.chk_end HW.out hall (by rw [hN]; exact h1) (by rw [hwn]; exact h2) h3⟩; have HF4 : Sl (∀ i, i < 12 → ¬ t.low i → t.chk nameS = 6) := ⟨fun i hi h => TV.chk_low HW.out hall hi h⟩; rw [hW]; clear hwn hwd hN hW hall hk12 HW; have hw1 : (0 : Int) ≤ (W : Int) := (by omega); have hw2 : (W : Int) < 12 := (by omega); have XS : Sl _ := ⟨X⟩; clear X; go_wp2_with fail; refine (HN.out _).mono ?_; rintro e w1 ⟨rfl, hb1⟩; obtain ⟨d2, dn, dd⟩ := CW.out w1 hb1; have HB : Sl _ := ⟨And.intro (HR.out.1.trans (hb1.mono HR.out.1.size)) (HR.out.2.1.trans (hb1.mono HR.out.2.1.size))⟩; clear hb1 c0 CW HR XS
      cases N
      · clear d2 dn dd; go_wp2_with fail; go_ret; exact ⟨by rw [HF1.out (by simp)]; rfl, HB.out.1⟩
      by_cases hz : wn = 0 ∧ wd = 1
      · obtain ⟨rfl, rfl⟩ := hz; go_wp2_with fail; clear d2 dn dd
        go_loopw [5, 6] (fun s5 s6 wr => ∃ k : Nat, k ≤ 12 ∧ s6 = .int .i64 k ∧ s5 = .int .i64 (t.all k : Nat) ∧ Sl (Below w.heap.size w wr ∧ Below w0.heap.size w0 wr ∧ ∀ j, j < k → t.low j)) (fun _ s6 _ => 12 - (RowKit.intOf s6).toNat)
        case atStart => exact ⟨0, by decide, rfl, rfl, ⟨HB.out.1, HB.out.2, fun j hj => absurd hj (Nat.not_lt_zero _)⟩⟩
        case round =>
          obtain ⟨k, hk, rfl, rfl, HR⟩ := hrel
          by_cases hk12 : k < 12
          · obtain ⟨n, hn⟩ : ∃ n, t.num k = n := ⟨_, rfl⟩; obtain ⟨d, hd⟩ : ∃ d, t.den k = d := ⟨_, rfl⟩; have X := HU.out.2.below HR.out.2.1 HU.out.2.lt; have cn : wr.cell? ⟨w.heap.size, 3 + k * 2, none⟩ = some (.int .i64 n) := (by rw [X.cell, Nat.mul_comm, HC.out.2.2.1 k hk12, hn]); have cd : wr.cell? ⟨w.heap.size, 3 + k * 2 + 1, none⟩ = some (.int .i64 d) := (by rw [X.cell, Nat.mul_comm, HC.out.2.2.2 k hk12, hd]); have hi1 : (0 : Int) ≤ (k : Int) := (by omega); have hi2 : (k : Int) < 12 := (by omega); have hb := HAL.out k hk12; unfold TV.bad at hb; rw [hn, hd] at hb; have hr : 1 ≤ d ∧ d ≤ 24 ∧ -2 * d ≤ n ∧ n ≤ 2 * d := (by omega); obtain ⟨r1, r2, r3, r4⟩ := hr; have hap := t.all_pos2 (fun j hj => HAL.out j (by omega)) hk12; obtain ⟨a, hae⟩ : ∃ a, t.all k = a := ⟨_, rfl⟩; obtain ⟨a', hae'⟩ : ∃ a', t.all (k + 1) = a' := ⟨_, rfl⟩; obtain ⟨g, hg⟩ : ∃ g, Nat.gcd n.natAbs d.natAbs = g := ⟨_, rfl⟩; obtain ⟨g2, hg2⟩ : ∃ g2, Nat.gcd a d.natAbs = g2 := ⟨_, rfl⟩; have hlow : t.low k ↔ g = 1 := (by unfold TV.low; rw [hn, hd, hg]); have ha' : a' = if a ≤ 120 then a / g2 * d.natAbs else a := (by rw [← hae', TV.all, hae, hd, hg2])
            have hg2p : 1 ≤ g2 ∧ g2 ≤ 24 := by
              rw [← hg2]; exact ⟨Nat.gcd_pos_of_pos_right _ (by omega), Nat.le_trans (Nat.gcd_le_right _ (by omega)) (by omega)⟩
            have ha2 : 1 ≤ a ∧ a ≤ 2880 := (by rw [← hae]; exact hap)
            have HLW : Sl (g = 1 → ∀ j, j < k + 1 → t.low j) := ⟨fun h j hj => by
              rcases Nat.lt_or_ge j k with g | g
              · exact HR.out.2.2 j g
              · obtain rfl : j = k := (by omega)
                exact hlow.2 h⟩
            have HLN : Sl (¬ g = 1 → t.chk nameS = 6) := ⟨fun h => HF4.out k hk12 fun hl => h (hlow.1 hl)⟩; have HK : Sl _ := ⟨And.intro hae' ha'⟩; have HRR : Sl _ := ⟨And.intro (HR.out.1.alloc HR.out.1.size (.cells #[.int .i64 n, .int .i64 d] 23)) (HR.out.2.1.alloc HR.out.2.1.size (.cells #[.int .i64 n, .int .i64 d] 23))⟩; have hcd : (wr.alloc (.cells #[.int .i64 n, .int .i64 d] 23)).cell? ⟨wr.heap.size, 1, none⟩ = some (.int .i64 d) := (Blk.new wr 23 #[.int .i64 n, .int .i64 d]).cell 1; have HHC : Sl _ := ⟨hcd⟩; have HG2 : Sl _ := ⟨And.intro hg hg2⟩; rw [hae]; clear hae hae' ha' hb hn hd X hap HR hlow hg hg2 hcd HAL HF1 HF2 HF3 HF4; have hwz : IntKind.i64.wrap (-n) = -n := (by rw [IntKind.wrap_i64]; omega)
            by_cases h0 : 0 ≤ n
            · have hm1 : max n (-n) = n := (by omega); have hm2 : ¬ n < -n := (by omega); have hm3 : -n ≤ n := (by omega)
              have HG : Sl (∀ W : World, Calls Tryz.prog 40 #[.int .i64 n, .int .i64 d] W fun e w' => e = .returned (.int .i64 g) ∧ ∃ m, w' = W.drewN m) := ⟨fun W => by
                have h := r5gcd_any n.natAbs d.natAbs W (by omega) (by omega); rw [HG2.out.1, show ((d.natAbs : Nat) : Int) = d by omega, show ((n.natAbs : Nat) : Int) = n by omega] at h
                exact h⟩
              go_wp2_with fail; refine (HG.out _).mono ?_; rintro e w1 ⟨rfl, dn, rfl⟩
              by_cases hg1 : g = 1
              · subst hg1; have HL := HLW.out rfl; have HLS : Sl _ := ⟨HL⟩; clear HL HLW HLN; have hcd : ((wr.alloc (.cells #[.int .i64 n, .int .i64 d] 23)).drewN dn).cell? ⟨wr.heap.size, 1, none⟩ = some (.int .i64 d) := HHC.out; have HRW : Sl (Below w.heap.size w ((wr.alloc (.cells #[.int .i64 n, .int .i64 d] 23)).drewN dn) ∧ Below w0.heap.size w0 ((wr.alloc (.cells #[.int .i64 n, .int .i64 d] 23)).drewN dn)) := ⟨below_drewN HRR.out.1 dn, below_drewN HRR.out.2 dn⟩; generalize (wr.alloc (.cells #[.int .i64 n, .int .i64 d] 23)).drewN dn = wp at *
                by_cases ha : a ≤ 120
                · have had : decide ((a : Int) ≤ 120) = true := (by rw [decide_eq_true_iff]; omega); have hdv : (a : Int).tdiv (g2 : Int) = ((a / g2 : Nat) : Int) := (by rw [Int.tdiv_eq_ediv_of_nonneg (by omega)]; exact (Int.natCast_ediv a g2).symm); have hq : a / g2 ≤ a := Nat.div_le_self _ _; have HMU : Sl (((a / g2 : Nat) : Int) * d = (a' : Int)) := ⟨by rw [HK.out.2, if_pos ha, Int.natCast_mul, show ((d.natAbs : Nat) : Int) = d by omega]⟩
                  have VA : Sl (∀ (W : World) q, Calls Tryz.prog 40 #[.int .i64 a, .int .i64 d] (W.drewN q) fun e w'' => e = .returned (.int .i64 g2) ∧ ∃ m, w'' = W.drewN m) := ⟨fun W q => by
                    have h := r5gcd_any a d.natAbs (W.drewN q) (by omega) (by omega); rw [HG2.out.2, show ((d.natAbs : Nat) : Int) = d by omega] at h
                    exact h.mono fun e w'' h => ⟨h.1, by obtain ⟨m, hm⟩ := h.2; exact ⟨q + m, by rw [hm, drew2]⟩⟩⟩
                  have hdv2 : (a : Int) / (g2 : Int) = ((a / g2 : Nat) : Int) := (Int.natCast_ediv a g2).symm; have hg01 : ¬ (g2 : Int) = 0 := (by omega); have hg00 : ¬ g2 = 0 := (by omega); have hg0b : ((g2 : Int) == 0) = false := (by rw [beq_eq_false_iff_ne]; omega); generalize a / g2 = q2 at *
                  have hmb : 0 ≤ (q2 : Int) * d ∧ (q2 : Int) * d ≤ 69120 := by
                    have l1 := Int.mul_le_mul (show (q2 : Int) ≤ 2880 by omega) r2 (by omega) (by decide); exact ⟨Int.mul_nonneg (by omega) (by omega), by omega⟩
                  obtain ⟨hmb1, hmb2⟩ := hmb; clear ha hg2p; go_wp2_with fail
                  go_quiet ((go_at_call 40; (with_reducible exact VA.out _ _)))
                  go_wp2_with fail; refine ⟨⟨k + 1, hk12, by go_num, ret_val (by rw [HMU.out, HK.out.1]), ⟨below_drewN HRW.out.1 _, below_drewN HRW.out.2 _, HLS.out⟩⟩, by simp [RowKit.intOf]; omega⟩
                · have had : decide ((a : Int) ≤ 120) = false := (by rw [decide_eq_false_iff_not]; omega); have HAE : Sl (a = a') := ⟨by rw [HK.out.2, if_neg ha]⟩; clear ha; go_wp2_with fail; refine ⟨⟨k + 1, hk12, by go_num, ret_val (by rw [HAE.out, HK.out.1]), ⟨HRW.out.1, HRW.out.2, HLS.out⟩⟩, by simp [RowKit.intOf]; omega⟩
              · have HL := HLN.out hg1; have HLS : Sl _ := ⟨HL⟩; have hgn : ((g : Int) != 1) = true := (by rw [bne_iff_ne]; omega); clear HL HLW HLN hg1; go_wp2_with fail; go_ret; exact ⟨by rw [HLS.out]; rfl, below_drewN HRR.out.1 dn⟩
            · have hm1 : max n (-n) = -n := (by omega); have hm3 : n < -n := (by omega)
              have HG : Sl (∀ W : World, Calls Tryz.prog 40 #[.int .i64 (-n), .int .i64 d] W fun e w' => e = .returned (.int .i64 g) ∧ ∃ m, w' = W.drewN m) := ⟨fun W => by
                have h := r5gcd_any n.natAbs d.natAbs W (by omega) (by omega); rw [HG2.out.1, show ((d.natAbs : Nat) : Int) = d by omega, show ((n.natAbs : Nat) : Int) = -n by omega] at h
                exact h⟩
              go_wp2_with fail; refine (HG.out _).mono ?_; rintro e w1 ⟨rfl, dn, rfl⟩
              by_cases hg1 : g = 1
              · subst hg1; have HL := HLW.out rfl; have HLS : Sl _ := ⟨HL⟩; clear HL HLW HLN; have hcd : ((wr.alloc (.cells #[.int .i64 n, .int .i64 d] 23)).drewN dn).cell? ⟨wr.heap.size, 1, none⟩ = some (.int .i64 d) := HHC.out; have HRW : Sl (Below w.heap.size w ((wr.alloc (.cells #[.int .i64 n, .int .i64 d] 23)).drewN dn) ∧ Below w0.heap.size w0 ((wr.alloc (.cells #[.int .i64 n, .int .i64 d] 23)).drewN dn)) := ⟨below_drewN HRR.out.1 dn, below_drewN HRR.out.2 dn⟩; generalize (wr.alloc (.cells #[.int .i64 n, .int .i64 d] 23)).drewN dn = wp at *
                by_cases ha : a ≤ 120
                · have had : decide ((a : Int) ≤ 120) = true := (by rw [decide_eq_true_iff]; omega); have hdv : (a : Int).tdiv (g2 : Int) = ((a / g2 : Nat) : Int) := (by rw [Int.tdiv_eq_ediv_of_nonneg (by omega)]; exact (Int.natCast_ediv a g2).symm); have hq : a / g2 ≤ a := Nat.div_le_self _ _; have HMU : Sl (((a / g2 : Nat) : Int) * d = (a' : Int)) := ⟨by rw [HK.out.2, if_pos ha, Int.natCast_mul, show ((d.natAbs : Nat) : Int) = d by omega]⟩
                  have VA : Sl (∀ (W : World) q, Calls Tryz.prog 40 #[.int .i64 a, .int .i64 d] (W.drewN q) fun e w'' => e = .returned (.int .i64 g2) ∧ ∃ m, w'' = W.drewN m) := ⟨fun W q => by
                    have h := r5gcd_any a d.natAbs (W.drewN q) (by omega) (by omega); rw [HG2.out.2, show ((d.natAbs : Nat) : Int) = d by omega] at h
                    exact h.mono fun e w'' h => ⟨h.1, by obtain ⟨m, hm⟩ := h.2; exact ⟨q + m, by rw [hm, drew2]⟩⟩⟩
                  have hdv2 : (a : Int) / (g2 : Int) = ((a / g2 : Nat) : Int) := (Int.natCast_ediv a g2).symm; have hg01 : ¬ (g2 : Int) = 0 := (by omega); have hg00 : ¬ g2 = 0 := (by omega); have hg0b : ((g2 : Int) == 0) = false := (by rw [beq_eq_false_iff_ne]; omega); generalize a / g2 = q2 at *
                  have hmb : 0 ≤ (q2 : Int) * d ∧ (q2 : Int) * d ≤ 69120 := by
                    have l1 := Int.mul_le_mul (show (q2 : Int) ≤ 2880 by omega) r2 (by omega) (by decide); exact ⟨Int.mul_nonneg (by omega) (by omega), by omega⟩
                  obtain ⟨hmb1, hmb2⟩ := hmb; clear ha hg2p; go_wp2_with fail
                  go_quiet ((go_at_call 40; (with_reducible exact VA.out _ _)))
                  go_wp2_with fail; refine ⟨⟨k + 1, hk12, by go_num, ret_val (by rw [HMU.out, HK.out.1]), ⟨below_drewN HRW.out.1 _, below_drewN HRW.out.2 _, HLS.out⟩⟩, by simp [RowKit.intOf]; omega⟩
                · have had : decide ((a : Int) ≤ 120) = false := (by rw [decide_eq_false_iff_not]; omega); have HAE : Sl (a = a') := ⟨by rw [HK.out.2, if_neg ha]⟩; clear ha; go_wp2_with fail; refine ⟨⟨k + 1, hk12, by go_num, ret_val (by rw [HAE.out, HK.out.1]), ⟨HRW.out.1, HRW.out.2, HLS.out⟩⟩, by simp [RowKit.intOf]; omega⟩
              · have HL := HLN.out hg1; have HLS : Sl _ := ⟨HL⟩; have hgn : ((g : Int) != 1) = true := (by rw [bne_iff_ne]; omega); clear HL HLW HLN hg1; go_wp2_with fail; go_ret; exact ⟨by rw [HLS.out]; rfl, below_drewN HRR.out.1 dn⟩
          · obtain rfl : k = 12 := (by omega); have hf := HF3.out (by simp) (by simp) HR.out.2.2; obtain ⟨a, ha⟩ : ∃ z, t.all 12 = z := ⟨_, rfl⟩; rw [ha] at hf ⊢; have HFS : Sl _ := ⟨hf⟩; clear hf ha HF1 HF2 HF3 HF4 HAL hk12
            by_cases h120 : 120 < a
            · go_wp2_with fail; go_ret; exact ⟨by rw [HFS.out, if_pos h120]; rfl, HR.out.1⟩
            · go_wp2_with fail; go_ret; exact ⟨by rw [HFS.out, if_neg h120]; rfl, HR.out.1⟩
      · have HS6 : Sl _ := ⟨HF2.out hz⟩
        by_cases hz0 : wn = 0
        · have hz1 : ¬ wd = 1 := fun h => hz ⟨hz0, h⟩
          have hzb : ((wd : Int) == 1) = false := (by rw [beq_eq_false_iff_ne]; exact hz1); subst hz0; clear hz; go_wp2_with fail; go_ret; exact ⟨by rw [HS6.out]; rfl, HB.out.1⟩
        · have hzb : ((wn : Int) == 0) = false := (by rw [beq_eq_false_iff_ne]; exact hz0); clear hz; go_wp2_with fail; go_ret; exact ⟨by rw [HS6.out]; rfl, HB.out.1⟩
end Go.Proofs.YtmcoadmnkelkkaaGreatDoor
namespace Go.Proofs.YtmcoadmnkelkkaaGreatDoor
set_option linter.unusedSimpArgs false
open Go.ChangeShapes Go.WideShapes Go.ChangeAt Go.RowKit
set_option linter.unusedVariables false
set_option maxRecDepth 100000 in
theorem open_part {H : Type} {enc : TypeId × Value → H} {W : World} {b : Nat} {spare : Nat → Bool} {held : Bool} {fuel : Nat} {cs : List Value} {x : DataW H × List MemPlace} (h : DataW.trod enc Tryz.prog W b spare held fuel 23 cs = some x) :
    ∃ z0 z1 : Int, cs = [.int .i64 z0, .int .i64 z1] ∧ x.2 = [] := by
  obtain ⟨y0, y1, n, hx, hl, h0, h1⟩ := trod_struct2 Tryz.underlying23 h; obtain ⟨z0, c0, rfl, _⟩ := DataW.trod_int Tryz.underlying3 h0; obtain ⟨z1, c1, rfl, _⟩ := DataW.trod_int Tryz.underlying3 h1; have hc : Tryz.prog.cellsOf 3 = 1 := (by kernel_rfl); have hc2 : Tryz.prog.cellsOf 23 = 2 := (by kernel_rfl); rw [hc2] at hl; simp only [hc] at c0 c1; refine ⟨z0, z1, ?_, ?_⟩
  · match cs, hl with
    | [a0, a1], _ =>
      simp at c0 c1; rw [c0, c1]
  · simp only [Prod.mk.injEq] at hx; rw [hx]; rfl
set_option maxRecDepth 100000 in
set_option maxHeartbeats 1600000 in
theorem open_parts {H : Type} {enc : TypeId × Value → H} {W : World} {b : Nat} {spare : Nat → Bool} {held : Bool} {fuel : Nat} {cs : List Value} {x : DataW H × List MemPlace} (h : DataW.trod enc Tryz.prog W b spare held fuel 24 cs = some x) :
    ∃ n d : Nat → Int, cs = (TV.mk ⟨#[]⟩ false 0 n d).parts.toList ∧ x.2 = [] := by
  obtain ⟨ys, m, rfl, rfl, hl, hn, hf⟩ := DataW.trod_array Tryz.underlying24 h; have hc : Tryz.prog.cellsOf 23 = 2 := (by kernel_rfl); have hc24 : Tryz.prog.cellsOf 24 = 24 := (by kernel_rfl); rw [hc24] at hl
  match cs, hl, ys, hn with
  | [c0, c1, c2, c3, c4, c5, c6, c7, c8, c9, c10, c11, c12, c13, c14, c15, c16, c17, c18, c19, c20, c21, c22, c23], _, [y0, y1, y2, y3, y4, y5, y6, y7, y8, y9, y10, y11], _ =>
    have g0 := hf 0 (by omega); have g1 := hf 1 (by omega); have g2 := hf 2 (by omega); have g3 := hf 3 (by omega); have g4 := hf 4 (by omega); have g5 := hf 5 (by omega); have g6 := hf 6 (by omega); have g7 := hf 7 (by omega); have g8 := hf 8 (by omega); have g9 := hf 9 (by omega); have g10 := hf 10 (by omega); have g11 := hf 11 (by omega); simp [hc] at g0 g1 g2 g3 g4 g5 g6 g7 g8 g9 g10 g11; obtain ⟨n0, d0, e0, p0⟩ := open_part g0; obtain ⟨n1, d1, e1, p1⟩ := open_part g1; obtain ⟨n2, d2, e2, p2⟩ := open_part g2; obtain ⟨n3, d3, e3, p3⟩ := open_part g3; obtain ⟨n4, d4, e4, p4⟩ := open_part g4; obtain ⟨n5, d5, e5, p5⟩ := open_part g5; obtain ⟨n6, d6, e6, p6⟩ := open_part g6; obtain ⟨n7, d7, e7, p7⟩ := open_part g7; obtain ⟨n8, d8, e8, p8⟩ := open_part g8; obtain ⟨n9, d9, e9, p9⟩ := open_part g9; obtain ⟨n10, d10, e10, p10⟩ := open_part g10; obtain ⟨n11, d11, e11, p11⟩ := open_part g11; simp at e0 e1 e2 e3 e4 e5 e6 e7 e8 e9 e10 e11; obtain ⟨rfl, rfl⟩ := e0; obtain ⟨rfl, rfl⟩ := e1; obtain ⟨rfl, rfl⟩ := e2; obtain ⟨rfl, rfl⟩ := e3; obtain ⟨rfl, rfl⟩ := e4; obtain ⟨rfl, rfl⟩ := e5; obtain ⟨rfl, rfl⟩ := e6; obtain ⟨rfl, rfl⟩ := e7; obtain ⟨rfl, rfl⟩ := e8; obtain ⟨rfl, rfl⟩ := e9; obtain ⟨rfl, rfl⟩ := e10; obtain ⟨rfl, rfl⟩ := e11; refine ⟨fun i => if i = 0 then n0 else if i = 1 then n1 else if i = 2 then n2 else if i = 3 then n3 else if i = 4 then n4 else if i = 5 then n5 else if i = 6 then n6 else if i = 7 then n7 else if i = 8 then n8 else if i = 9 then n9 else if i = 10 then n10 else n11, fun i => if i = 0 then d0 else if i = 1 then d1 else if i = 2 then d2 else if i = 3 then d3 else if i = 4 then d4 else if i = 5 then d5 else if i = 6 then d6 else if i = 7 then d7 else if i = 8 then d8 else if i = 9 then d9 else if i = 10 then d10 else d11, rfl, ?_⟩; simp [p0, p1, p2, p3, p4, p5, p6, p7, p8, p9, p10, p11]
set_option maxRecDepth 100000 in
set_option maxHeartbeats 1600000 in
theorem temper_arg {H : Type} {enc : TypeId × Value → H} {W : World} {base : Nat} {v : Value} {d : DataW H} {ps : List MemPlace} (hval : Value.okWide Tryz.prog W .any base 26 v) (h : DataW.Trod enc Tryz.prog W 0 (fun _ => true) true 26 v d ps) :
    ∃ t : TV, v = .agg t.cells ∧ t.nm.size ≤ maxLen ∧ ps = [] := by
  obtain ⟨ws, rfl, _⟩ := okWide_struct Tryz.underlying26 hval; obtain ⟨fuel, h⟩ := h; obtain ⟨y0, y1, y2, y3, n, hx, hl, h0, h1, h2, h3⟩ := Go.Joins.trod_struct4 Tryz.underlying26 h; obtain ⟨s, c0, rfl, hs⟩ := DataW.trod_string Tryz.underlying9 h0; obtain ⟨b, c1, rfl⟩ := DataW.trod_bool Tryz.underlying4 h1; obtain ⟨z, c2, rfl, _⟩ := DataW.trod_int Tryz.underlying3 h2; obtain ⟨nn, dd, c3, p3⟩ := open_parts h3; have hcs : Tryz.prog.cellsOf 9 = 1 := (by kernel_rfl); have hcb : Tryz.prog.cellsOf 4 = 1 := (by kernel_rfl); have hci : Tryz.prog.cellsOf 3 = 1 := (by kernel_rfl); have hcp : Tryz.prog.cellsOf 24 = 24 := (by kernel_rfl); have hct : Tryz.prog.cellsOf 26 = 27 := (by kernel_rfl); simp only [Value.cells] at hl c0 c1 c2 c3; rw [hct] at hl; simp only [hcs, hcb, hci, hcp] at c0 c1 c2 c3; refine ⟨⟨s, b, z, nn, dd⟩, ?_, hs, ?_⟩
  · obtain ⟨l⟩ := ws; simp only at hl c0 c1 c2 c3
    match l, hl with
    | a0 :: a1 :: a2 :: r, hl =>
      simp at c0 c1 c2 c3 hl; subst c0 c1 c2
      have hr : r = (TV.mk ⟨#[]⟩ false 0 nn dd).parts.toList := by
        rw [← c3, List.take_of_length_le (by omega)]
      subst hr; rfl
  · simp only [Prod.mk.injEq] at hx; rw [hx.2, p3]; rfl
end Go.Proofs.YtmcoadmnkelkkaaGreatDoor
namespace Go.Proofs.YtmcoadmnkelkkaaGreatDoor
set_option linter.unusedSimpArgs false
open Go.RowKit
set_option linter.unusedVariables false
set_option maxHeartbeats 800000 in
theorem r4gcd_any (a b : Nat) (w : World) (ha : a < 4000000000000000000) (hb : b < 4000000000000000000) :
    Calls Tryz.prog 86 #[.int .i64 a, .int .i64 b] w fun e w' => e = .returned (.int .i64 (Nat.gcd a b)) ∧ ∃ m, w' = w.drewN m := by
  go_enter Tryz.func86, Tryz.ntmps86; go_wp2_with fail
  go_loopw [0, 1] (fun s0 s1 wr => ∃ (x y : Nat), s0 = .int .i64 x ∧ s1 = .int .i64 y ∧ x < 4000000000000000000 ∧ y < 4000000000000000000 ∧ Sl (Nat.gcd x y = Nat.gcd a b ∧ ∃ m, wr = w.drewN m)) (fun _ s1 _ => (RowKit.intOf s1).toNat)
  case atStart => exact ⟨a, b, rfl, rfl, ha, hb, ⟨rfl, 0, rfl⟩⟩
  case round =>
    clear ha hb; obtain ⟨x, y, rfl, rfl, hx, hy, HG⟩ := hrel; rcases Nat.eq_zero_or_pos y with h0 | h0
    · subst h0; go_wp2_with fail; go_ret; obtain ⟨h1, m, h2⟩ := HG.out; rw [Nat.gcd_zero_right] at h1; exact ⟨by rw [← h1]; rfl, m, h2⟩
    · have hne : ((y : Int) == 0) = false := (by rw [beq_eq_false_iff_ne]; omega); have hmod : (x : Int).tmod (y : Int) = ((x % y : Nat) : Int) := (by rw [Int.tmod_eq_emod_of_nonneg (by omega)]; omega); have hlt : x % y < y := Nat.mod_lt _ h0; have HGN : Sl (Nat.gcd y (x % y) = Nat.gcd a b) := ⟨by rw [← HG.out.1, Nat.gcd_comm y, ← Nat.gcd_rec, Nat.gcd_comm]⟩; generalize x % y = r at *
      go_wp2_with fail
      go_quiet (fail)
      go_wp2_with fail; obtain ⟨m, hm⟩ := HG.out.2; refine ⟨⟨y, r, rfl, rfl, hy, by omega, ⟨HGN.out, m + nq, by rw [hm]; simp⟩⟩, by simp [RowKit.intOf]; omega⟩
theorem RV.cell_num (r : RV) {i : Nat} (hi : i < 6) : r.cells[i]? = some (.int .i64 (r.num i)) := by
  have h6 : i = 0 ∨ i = 1 ∨ i = 2 ∨ i = 3 ∨ i = 4 ∨ i = 5 := (by omega); rcases h6 with rfl | rfl | rfl | rfl | rfl | rfl <;> rfl
set_option maxHeartbeats 3200000 in
set_option maxRecDepth 100000 in
theorem r4Check_any (r : RV) (w : World) : Calls Tryz.prog 46 #[.agg r.cells] w fun e w' => e = .returned (.int .i64 (checkS r)) ∧ Below w.heap.size w w' := by
  have hu := (Below.refl w.heap.size w).alloc (Nat.le_refl _) (.cells r.cells 35); have X0 := Blk.new w 35 r.cells; have HU : Sl _ := ⟨And.intro hu X0⟩; have hcells : r.cells = #[.int .i64 r.n0, .int .i64 r.n1, .int .i64 r.n2, .int .i64 r.n3, .int .i64 r.n4, .int .i64 r.n5, .int .i64 r.d] := rfl; rw [hcells]; have HCE : Sl _ := ⟨hcells⟩; clear hu X0 hcells
  by_cases hd : r.d < 1 ∨ 1000 < r.d
  · have HR : Sl (checkS r = 2) := ⟨by unfold checkS; rw [if_pos hd]⟩; rw [HCE.out] at HU; rcases Decidable.em (r.d < 1) with h1 | h1
    · clear hd; go_enter Tryz.func46, Tryz.ntmps46; go_wp2_with fail; go_ret; exact ⟨by rw [HR.out]; rfl, HU.out.1⟩
    · have h2 : 1000 < r.d := (by omega); have h3 : ¬ r.d < 1 := (by omega); clear hd; go_enter Tryz.func46, Tryz.ntmps46; go_wp2_with fail; go_ret; exact ⟨by rw [HR.out]; rfl, HU.out.1⟩
  · have hd1 : ¬ r.d < 1 := (by omega); have hd2 : ¬ 1000 < r.d := (by omega); have HD : Sl _ := ⟨hd⟩; clear hd; go_enter Tryz.func46, Tryz.ntmps46; go_wp2_with fail; rw [← HCE.out]; generalize w.alloc (.cells r.cells 35) = w0 at *
    go_loopw [3, 4] (fun s3 s4 wr => ∃ i : Nat, i ≤ 6 ∧ s4 = .int .i64 i ∧ s3 = .int .i64 (r.gcd i : Nat) ∧ Sl (Below w.heap.size w wr ∧ Blk wr w.heap.size 35 r.cells ∧ ∀ j, j < i → inR (r.num j))) (fun _ s4 _ => 6 - (RowKit.intOf s4).toNat)
    case atStart => exact ⟨0, by decide, rfl, ret_val (by show r.d = ((r.d.natAbs : Nat) : Int); omega), ⟨HU.out.1, HU.out.2, fun j hj => absurd hj (Nat.not_lt_zero _)⟩⟩
    case round =>
      obtain ⟨i, hi, rfl, rfl, HR⟩ := hrel
      by_cases hi6 : i < 6
      · obtain ⟨z, hz⟩ : ∃ z, r.num i = z := ⟨_, rfl⟩; have hc : wr.cell? ⟨w.heap.size, i, none⟩ = some (.int .i64 z) := (by rw [HR.out.2.1.cell, RV.cell_num r hi6, hz]); obtain ⟨g, hg⟩ : ∃ g, r.gcd i = g := ⟨_, rfl⟩; obtain ⟨g', hg'⟩ : ∃ g', r.gcd (i + 1) = g' := ⟨_, rfl⟩; have hgp := RV.gcd_pos (r := r) (by omega) i; rw [hg] at hgp; have hgd : Nat.gcd g z.natAbs = g' := (by rw [← hg', ← hg, ← hz]; rfl); rw [hg]; have HZ : Sl _ := ⟨And.intro hz (And.intro hg hg')⟩; clear hz hg hg'
        by_cases hin : inR z
        · have h1 : ¬ z < -100000 := (by have := hin.1; omega); have h2 : ¬ 100000 < z := (by have := hin.2; omega); have hwz : IntKind.i64.wrap (-z) = -z := (by rw [IntKind.wrap_i64]; have := hin.1; have := hin.2; omega); rcases Decidable.em (0 ≤ z) with h0 | h0
          · have hm1 : max z (-z) = z := (by omega); have hm2 : ¬ z < -z := (by omega); have hm3 : -z ≤ z := (by omega)
            have VA : Sl (∀ q, Calls Tryz.prog 86 #[.int .i64 g, .int .i64 z] (wr.drewN q) fun e w'' => e = .returned (.int .i64 g') ∧ ∃ m, w'' = wr.drewN m) := ⟨fun q => by
              have h := r4gcd_any g z.natAbs (wr.drewN q) (by omega) (by have := hin.1; have := hin.2; omega); rw [hgd, show ((z.natAbs : Nat) : Int) = z by omega] at h
              exact h.mono fun e w'' h => ⟨h.1, by obtain ⟨m, hm⟩ := h.2; exact ⟨q + m, by rw [hm, drew2]⟩⟩⟩
            have HIN : Sl _ := ⟨hin⟩; clear hgd hgp hin; go_wp2_with fail
            go_quiet ((go_at_call 86; (with_reducible exact VA.out _)))
            go_wp2_with fail; refine ⟨⟨i + 1, hi6, by go_num, ret_val (by rw [HZ.out.2.2]), ⟨below_drewN HR.out.1 _, HR.out.2.1.drewN _, fun j hj => ?_⟩⟩, by simp [RowKit.intOf]; omega⟩; rcases Nat.lt_or_ge j i with h | h
            · exact HR.out.2.2 j h
            · have : j = i := (by omega); rw [this, HZ.out.1]; exact HIN.out
          · have hm1 : max z (-z) = -z := (by omega); have hm3 : z < -z := (by omega)
            have VA : Sl (∀ q, Calls Tryz.prog 86 #[.int .i64 g, .int .i64 (-z)] (wr.drewN q) fun e w'' => e = .returned (.int .i64 g') ∧ ∃ m, w'' = wr.drewN m) := ⟨fun q => by
              have h := r4gcd_any g z.natAbs (wr.drewN q) (by omega) (by have := hin.1; have := hin.2; omega); rw [hgd, show ((z.natAbs : Nat) : Int) = (-z) by omega] at h
              exact h.mono fun e w'' h => ⟨h.1, by obtain ⟨m, hm⟩ := h.2; exact ⟨q + m, by rw [hm, drew2]⟩⟩⟩
            have HIN : Sl _ := ⟨hin⟩; clear hgd hgp hin; go_wp2_with fail
            go_quiet ((go_at_call 86; (with_reducible exact VA.out _)))
            go_wp2_with fail; refine ⟨⟨i + 1, hi6, by go_num, ret_val (by rw [HZ.out.2.2]), ⟨below_drewN HR.out.1 _, HR.out.2.1.drewN _, fun j hj => ?_⟩⟩, by simp [RowKit.intOf]; omega⟩; rcases Nat.lt_or_ge j i with h | h
            · exact HR.out.2.2 j h
            · have : j = i := (by omega); rw [this, HZ.out.1]; exact HIN.out
        · have hres : Sl (checkS r = 2) := ⟨by
            unfold checkS; rw [if_neg HD.out, if_neg]; intro h; have := h i hi6; rw [HZ.out.1] at this
            exact hin this⟩
          clear hgd; rcases Decidable.em (z < -100000) with h1 | h1
          · clear hin; go_wp2_with fail; go_ret; exact ⟨by rw [hres.out]; rfl, HR.out.1⟩
          · have h2 : 100000 < z := by
              rcases Decidable.em (100000 < z) with h | h
              · exact h
              · exact absurd ⟨by omega, by omega⟩ hin
            clear hin; go_wp2_with fail; go_ret; exact ⟨by rw [hres.out]; rfl, HR.out.1⟩
      · obtain rfl : i = 6 := (by omega); have hall : ∀ i, i < 6 → inR (r.num i) := HR.out.2.2; obtain ⟨g, hg⟩ : ∃ g, r.gcd 6 = g := ⟨_, rfl⟩; rw [hg]
        by_cases h1 : g = 1
        · have hres : Sl (checkS r = 0) := ⟨by unfold checkS; rw [if_neg HD.out, if_pos hall, if_pos (hg.trans h1)]⟩; subst h1; clear hall hg; go_wp2_with fail; go_ret; exact ⟨by rw [hres.out]; rfl, HR.out.1⟩
        · have hres : Sl (checkS r = 6) := ⟨by unfold checkS; rw [if_neg HD.out, if_pos hall, if_neg (by rw [hg]; exact h1)]⟩; have h2 : ((g : Int) == 1) = false := (by rw [beq_eq_false_iff_ne]; omega); clear hall hg; go_wp2_with fail; go_ret; exact ⟨by rw [hres.out]; rfl, HR.out.1⟩
end Go.Proofs.YtmcoadmnkelkkaaGreatDoor
namespace Go.Proofs.YtmcoadmnkelkkaaGreatDoor
set_option linter.unusedSimpArgs false
open Go.RowKit
set_option linter.unusedVariables false
def primeCells : Array Value := #[.int .i64 2, .int .i64 3, .int .i64 5, .int .i64 7, .int .i64 11, .int .i64 13]
theorem primeCells_at {i : Nat} (hi : i < 6) : primeCells[i]? = some (.int .i64 (prime i : Nat)) := by
  have h6 : i = 0 ∨ i = 1 ∨ i = 2 ∨ i = 3 ∨ i = 4 ∨ i = 5 := (by omega); rcases h6 with rfl | rfl | rfl | rfl | rfl | rfl <;> rfl
theorem Primes_any (w : World) : Calls Tryz.prog 87 #[] w fun e w' => e = .returned (.slice (some ⟨w.heap.size, 0, none⟩) 6 6) ∧ w' = w.alloc (.cells primeCells 2) := by
  go_enter Tryz.func87, Tryz.ntmps87; go_wp2_with fail; go_ret; exact ⟨rfl, rfl⟩
set_option maxHeartbeats 3200000 in
set_option maxRecDepth 100000 in
theorem r4Terms_any (r : RV) (w : World) : Calls Tryz.prog 49 #[.agg r.cells] w fun e w' => TermsRes w' e r ∧ Below w.heap.size w w' := by
  have hu := (Below.refl w.heap.size w).alloc (Nat.le_refl _) (.cells r.cells 35); have X0 := Blk.new w 35 r.cells; have HC : Sl _ := ⟨fun W : World => r4Check_any r W⟩; have HU : Sl _ := ⟨And.intro hu X0⟩; have hcells : r.cells = #[.int .i64 r.n0, .int .i64 r.n1, .int .i64 r.n2, .int .i64 r.n3, .int .i64 r.n4, .int .i64 r.n5, .int .i64 r.d] := rfl; have HCE : Sl _ := ⟨hcells⟩; rw [hcells] at HC ⊢; clear hu X0 hcells; obtain ⟨er, her⟩ : ∃ er, checkS r = er := ⟨_, rfl⟩; rw [her] at HC; have HE : Sl _ := ⟨her⟩; clear her
  by_cases h0 : er = 0
  · subst h0; obtain ⟨i0, hi0, hz0, hz1, hz2⟩ := info_term; have HI : Sl _ := ⟨And.intro hi0 (And.intro hz0 (And.intro hz1 hz2))⟩; clear hi0 hz0 hz1 hz2; go_enter Tryz.func49, Tryz.ntmps49; go_wp2_with fail; rw [← HCE.out]; generalize w.alloc (.cells r.cells 35) = w0 at *
    rw [HCE.out]; refine (HC.out _).mono ?_; rintro e w1 ⟨rfl, hb1⟩; have X1 := HU.out.2.below hb1 HU.out.2.lt; have HB1 := HU.out.1.trans (hb1.mono HU.out.1.size); clear hb1; go_wp2_with fail; refine (Primes_any w1).mono ?_; rintro e w2 ⟨rfl, rfl⟩; have Q2 := Blk.new w1 2 primeCells; have X2 := X1.alloc (.cells primeCells 2); have B2 := HB1.alloc HB1.size (.cells primeCells 2); generalize hG : w1.heap.size = G at *
    generalize w1.alloc (.cells primeCells 2) = w2 at *
    have HW : Sl _ := ⟨And.intro B2 (And.intro X2 Q2)⟩; clear X1 HB1 Q2 X2 B2 hG; go_wp2_with fail
    go_loopw [6, 8] (fun s6 s8 wr => ∃ (i n c : Nat) (A : Option Addr), i ≤ 6 ∧ s8 = .int .i64 i ∧ s6 = .slice A n c ∧ Sl (Below w2.heap.size w2 wr ∧ n = (termsN r i).length ∧ wr.ownsRow w2.heap.size 112 2 (.slice A n c) n (flatT (termsN r i)))) (fun _ s8 _ => 6 - (RowKit.intOf s8).toNat)
    case atStart => exact ⟨0, 0, 0, none, by decide, rfl, rfl, ⟨Below.refl _ _, rfl, World.ownsRow_nil _ _ _ _⟩⟩
    case round =>
      obtain ⟨i, n, c, A, hi, rfl, rfl, HR⟩ := hrel; have hn6 : n ≤ 6 := (by have := termsN_len r i; have := HR.out.2.1; omega); have HX : Sl _ := ⟨HW.out.2.1.below HR.out.1 HW.out.2.1.lt⟩; have HQ : Sl _ := ⟨HW.out.2.2.below HR.out.1 HW.out.2.2.lt⟩
      by_cases hi6 : i < 6
      · obtain ⟨z, hz⟩ : ∃ z, r.num i = z := ⟨_, rfl⟩; obtain ⟨p, hp⟩ : ∃ p, prime i = p := ⟨_, rfl⟩; have hzc : wr.cell? ⟨w.heap.size, i, none⟩ = some (.int .i64 z) := (by rw [HX.out.cell, RV.cell_num r hi6, hz]); have hpc : wr.cell? ⟨G, i, none⟩ = some (.int .i64 (p : Nat)) := (by rw [HQ.out.cell, primeCells_at hi6, hp]); have HZ : Sl _ := ⟨And.intro hz hp⟩; clear hz hp
        by_cases hz0 : z = 0
        · subst hz0; go_wp2_with fail; have ht : termsN r (i + 1) = termsN r i := (by rw [termsN, if_pos HZ.out.1]); refine ⟨⟨i + 1, n, c, A, hi6, by go_num, rfl, ⟨HR.out.1, by rw [ht]; exact HR.out.2.1, by rw [ht]; exact HR.out.2.2⟩⟩, by simp [RowKit.intOf]; omega⟩
        · have HNW : Sl (Reads ((wr.drewN 1).alloc (.cells #[.int .i64 (p : Int), .int .i64 z] 112)) (wr.heap.size + 1) 2 (some ⟨wr.heap.size, 0, none⟩) 1 [.int .i64 (p : Int), .int .i64 z]) := ⟨by
            refine ⟨rfl, fun _ => ⟨_, rfl, Nat.lt_succ_self _, fun j u hu => ?_⟩⟩; have hb := Blk.new (wr.drewN 1) 112 #[.int .i64 (p : Int), .int .i64 z]
            have e : (⟨wr.heap.size, 0, none⟩ : Addr).add j = ⟨(wr.drewN 1).heap.size, j, none⟩ := by
              unfold Addr.add
              by_cases h : j = 0
              · subst h; simp
              · simp [h]
            rw [e, hb.cell]
            simpa using hu⟩
          have HO : Sl (((wr.drewN 1).alloc (.cells #[.int .i64 (p : Int), .int .i64 z] 112)).ownsRow w2.heap.size 112 2 (.slice A n c) n (flatT (termsN r i))) := ⟨own_alloc (w := wr.drewN 1) HR.out.2.2 _⟩; have hba := (below_drewN HR.out.1 1).alloc HR.out.1.size (.cells #[.int .i64 (p : Int), .int .i64 z] 112); have HBA : Sl _ := ⟨hba⟩; have HSZ : Sl (w2.heap.size ≤ ((wr.drewN 1).alloc (.cells #[.int .i64 (p : Int), .int .i64 z] 112)).heap.size) := ⟨hba.size⟩; clear hba; go_wp2_with fail
          go_region_law (refine step_append_any _ rfl (.tmp 24) (.tmp 34) _ rfl w2.heap.size 112 i0 _ 2 16 Tryz.underlying75 HI.out.1 HI.out.2.1 HI.out.2.2.1 HI.out.2.2.2 rfl (by decide) (.slice A n c) n _ (by simp [Act.eval, Act.put]) HO.out _ (some ⟨wr.heap.size, 0, none⟩) 1 1 [.int .i64 (p : Int), .int .i64 z] (by simp [Act.eval, Act.put]) HNW.out (by simp; exact ⟨rfl, rfl⟩) (by unfold maxLen; omega) (by omega) HSZ.out ?_; intro v1 w5 hown1 hg1 hat1)
          all_goals (
            obtain ⟨g5, c5, rfl, hfb, hfl⟩ := hown1.form (Nat.succ_pos n); have ht : termsN r (i + 1) = termsN r i ++ [(p, z)] := (by rw [termsN, if_neg (by rw [HZ.out.1]; exact hz0), HZ.out.1, HZ.out.2]); have hfin : Sl (Below w2.heap.size w2 w5 ∧ n + 1 = (termsN r (i + 1)).length ∧ w5.ownsRow w2.heap.size 112 2 (.slice (some ⟨g5, 0, none⟩) (n + 1) c5) (n + 1) (flatT (termsN r (i + 1)))) := ⟨HBA.out.grown hg1 HSZ.out (fun k hk => (HO.out.lt k hk).1), by rw [ht, List.length_append, ← HR.out.2.1]; rfl, by rw [ht, flatT_snoc]; exact hown1⟩; clear hown1 hg1 hat1 ht hfb hfl; go_wp2_with fail
            exact ⟨⟨i + 1, n + 1, c5, _, hi6, by go_num, rfl, hfin⟩, by simp [RowKit.intOf]; omega⟩)
      · obtain rfl : i = 6 := (by omega); have y6 := HX.out.cell 6; rw [HCE.out] at y6; simp at y6; clear hi6; go_wp2_with fail
        go_quiet (fail)
        go_wp2_with fail
        go_ret3
        have hBB := HW.out.1.trans (HR.out.1.mono HW.out.1.size); refine ⟨⟨fun h => absurd HE.out h, fun _ => ⟨A, n, c, rfl, HR.out.2.1.symm, ?_⟩⟩, below_drewN hBB _⟩; exact (Reads.of_own HR.out.2.2).drewN _
  · go_enter Tryz.func49, Tryz.ntmps49; rw [HCE.out] at HU; go_wp2_with fail; generalize w.alloc (.cells #[.int .i64 r.n0, .int .i64 r.n1, .int .i64 r.n2, .int .i64 r.n3, .int .i64 r.n4, .int .i64 r.n5, .int .i64 r.d] 35) = w0 at *
    refine (HC.out _).mono ?_; rintro e w1 ⟨rfl, hb1⟩; have HB1 : Sl _ := ⟨HU.out.1.trans (hb1.mono HU.out.1.size)⟩; go_wp2_with fail
    go_ret3
    exact ⟨⟨fun _ => by rw [HE.out]; rfl, fun h => absurd (HE.out.symm.trans h) h0⟩, HB1.out⟩
end Go.Proofs.YtmcoadmnkelkkaaGreatDoor
namespace Go.Proofs.YtmcoadmnkelkkaaGreatDoor
set_option linter.unusedSimpArgs false
open Go.RowKit
set_option linter.unusedVariables false
theorem p6_bounds {p : Nat} (h : p ∈ primes6) : 2 ≤ p ∧ p ≤ 13 := by
  simp only [primes6, List.mem_cons, List.not_mem_nil, or_false] at h; omega
theorem p6_gcd : ∀ p ∈ primes6, ∀ q ∈ primes6, Nat.gcd p q = if p = q then p else 1 := by
  unfold primes6
  decide
structure Nx (o q : List Nat) (i k n : Nat) : Prop where
  len : q.length + (if i < n then 1 else 0) + (if k < n then 1 else 0) = n
  mem : ∀ p, p ∈ q ↔ ∃ j, j < n ∧ j ≠ i ∧ j ≠ k ∧ o[j]? = some p
theorem Nx.start (o : List Nat) (i k : Nat) : Nx o [] i k 0 := ⟨by simp, fun p => ⟨fun h => by simp at h, fun ⟨j, h, _⟩ => absurd h (Nat.not_lt_zero _)⟩⟩
theorem Nx.skip {o q : List Nat} {i k n : Nat} (h : Nx o q i k n) (hik : i ≠ k) (hn : n = i ∨ n = k) : Nx o q i k (n + 1) := by
  refine ⟨?_, fun p => (h.mem p).trans ⟨fun ⟨j, h1, h2⟩ => ⟨j, by omega, h2⟩, fun ⟨j, h1, h2, h3, h4⟩ => ⟨j, by rcases hn with rfl | rfl <;> omega, h2, h3, h4⟩⟩⟩; have := h.len; rcases hn with rfl | rfl
  · rw [if_neg (Nat.lt_irrefl _)] at this; rw [if_pos (Nat.lt_succ_self _)]
    by_cases h2 : k < n
    · rw [if_pos h2] at this; rw [if_pos (by omega)]; omega
    · rw [if_neg h2] at this; rw [if_neg (by omega)]; omega
  · rw [if_neg (Nat.lt_irrefl n)] at this; rw [if_pos (Nat.lt_succ_self n)]
    by_cases h2 : i < n
    · rw [if_pos h2] at this; rw [if_pos (by omega)]; omega
    · rw [if_neg h2] at this; rw [if_neg (by omega)]; omega
theorem Nx.more {o q : List Nat} {i k n x : Nat} (h : Nx o q i k n) (h1 : n ≠ i) (h2 : n ≠ k) (hx : o[n]? = some x) : Nx o (q ++ [x]) i k (n + 1) := by
  refine ⟨?_, fun p => ?_⟩
  · have := h.len; rw [List.length_append, List.length_singleton]
    have e1 : (if i < n + 1 then 1 else 0) = (if i < n then 1 else 0) := by
      by_cases g : i < n
      · rw [if_pos g, if_pos (by omega)]
      · rw [if_neg g, if_neg (by omega)]
    have e2 : (if k < n + 1 then 1 else 0) = (if k < n then 1 else 0) := by
      by_cases g : k < n
      · rw [if_pos g, if_pos (by omega)]
      · rw [if_neg g, if_neg (by omega)]
    rw [e1, e2]; omega
  · rw [List.mem_append, h.mem p, List.mem_singleton]; constructor
    · rintro (⟨j, g1, g2⟩ | rfl)
      · exact ⟨j, by omega, g2⟩
      · exact ⟨n, by omega, h1, h2, hx⟩
    · rintro ⟨j, g1, g2, g3, g4⟩; rcases Nat.lt_or_ge j n with g | g
      · exact .inl ⟨j, g, g2, g3, g4⟩
      · obtain rfl : j = n := (by omega); rw [hx] at g4; injection g4 with g4
        exact .inr g4.symm
theorem Nx.done {o q : List Nat} {i k g : Nat} (h : Nx o q i k o.length) (hik : k < i) (hi : i < o.length) (h1 : o[i]? = some g) (h2 : o[k]? = some g) : (q ++ [g]).length + 1 = o.length ∧ ∀ p, p ∈ q ++ [g] ↔ p ∈ o := by
  refine ⟨?_, fun p => ?_⟩
  · have := h.len; rw [if_pos hi, if_pos (by omega)] at this; rw [List.length_append, List.length_singleton]; omega
  · rw [List.mem_append, h.mem p, List.mem_singleton]; constructor
    · rintro (⟨j, g1, g2, g3, g4⟩ | rfl)
      · exact List.mem_of_getElem? g4
      · exact List.mem_of_getElem? h1
    · intro hp; obtain ⟨j, hj⟩ := List.mem_iff_getElem?.1 hp
      have hjl : j < o.length := by
        rcases Nat.lt_or_ge j o.length with a | a
        · exact a
        · rw [List.getElem?_eq_none a] at hj; cases hj
      by_cases e1 : j = i
      · subst e1; rw [h1] at hj; injection hj with hj
        exact .inr hj.symm
      · by_cases e2 : j = k
        · subst e2; rw [h2] at hj; injection hj with hj
          exact .inr hj.symm
        · exact .inl ⟨j, hjl, e1, e2, hj⟩
structure Bs (l : List (Nat × Int)) (o : List Nat) (i : Nat) : Prop where
  mem : ∀ p, p ∈ o ↔ ∃ x ∈ l, x.1 = p
  dist : ∀ a b x, a < b → b < i → o[a]? = some x → o[b]? ≠ some x
def slen (v : Value) : Nat := match v with | .slice _ k _ => k | _ => 0
theorem slen_own {w : World} {B : Nat} {e : TypeId} {size n : Nat} {v : Value} {xs : List Value} (h : w.ownsRow B e size v n xs) : slen v = n := by
  rcases h.2 with ⟨rfl, h0⟩ | ⟨g, cap, cur, rfl, _⟩
  · exact h0.symm
  · rfl
theorem own_base {w : World} {B B' : Nat} {e : TypeId} {size n : Nat} {v : Value} {xs : List Value} (h : w.ownsRow B e size v n xs) (hb : B' ≤ B) : w.ownsRow B' e size v n xs := by
  refine ⟨h.1, ?_⟩; rcases h.2 with h0 | ⟨g, cap, cur, e1, hg, h1⟩
  · exact .inl h0
  · exact .inr ⟨g, cap, cur, e1, Nat.le_trans hb hg, h1⟩
theorem own_drewN {w : World} {B : Nat} {e : TypeId} {size n : Nat} {v : Value} {xs : List Value} (h : w.ownsRow B e size v n xs) (k : Nat) : (w.drewN k).ownsRow B e size v n xs := h
theorem V_own {w : World} {base : Nat} {e : TypeId} {v : Value} {n : Nat} {o : List Nat} (h : w.ownsRow base e 1 v n (o.map cv)) : ∃ A c, v = .slice A n c ∧ n ≤ c ∧ V w A n o := by
  have h' := h; rcases h.2 with ⟨rfl, h0⟩ | ⟨g, cap, cur, rfl, _, _, h1, h2, _⟩
  · rw [h0] at h'; exact ⟨none, 0, by rw [h0], by omega, by rw [h0]; exact V.of_own h'⟩
  · exact ⟨_, cap, rfl, h1, V.of_own h⟩
set_option maxHeartbeats 6400000 in
set_option maxRecDepth 100000 in
theorem r4base_any (A : Option Addr) (n c : Nat) (l : List (Nat × Int)) (w : World) (hl : TR w A n l) (hn : n ≤ 17) (h6 : ∀ x ∈ l, x.1 ∈ primes6) :
    Calls Tryz.prog 173 #[.slice A n c] w fun e w' => (∃ B m d o, e = .returned (.slice B m d) ∧ m ≤ 17 ∧ V w' B m o ∧ Bs l o m) ∧ Below w.heap.size w w' := by
  obtain ⟨i0, hi0, hz0, hz1, hz2⟩ := info_parts infoI; have HI : Sl _ := ⟨And.intro hi0 (And.intro hz0 (And.intro hz1 hz2))⟩; clear hi0 hz0 hz1 hz2; have HL : Sl _ := ⟨And.intro hl h6⟩; clear hl h6; go_enter Tryz.func173, Tryz.ntmps173; go_wp2_with fail
  go_loopw [3, 4] (fun s3 s4 wr => ∃ i : Nat, i ≤ n ∧ s4 = .int .i64 i ∧ Sl (wr.ownsRow w.heap.size 2 1 s3 i (((l.take i).map Prod.fst).map cv) ∧ Below w.heap.size w wr)) (fun _ s4 _ => n - (RowKit.intOf s4).toNat)
  case atStart => exact ⟨0, Nat.zero_le _, rfl, ⟨World.ownsRow_nil _ _ _ _, Below.refl _ _⟩⟩
  case round =>
    obtain ⟨i, hi, rfl, HR⟩ := hrel
    by_cases hin : i < n
    · obtain ⟨⟨nn, kk⟩, hx⟩ : ∃ x, l[i]? = some x := ⟨_, List.getElem?_eq_getElem (by rw [HL.out.1.1]; exact hin)⟩; obtain ⟨ad, rfl, hab, e1, e2⟩ := (HL.out.1.below HR.out.2).cells hx; simp only [] at e1; clear e2; have hp := p6_bounds (HL.out.2 _ (List.mem_of_getElem? hx)); simp only [] at hp; have hgt : 1 < (nn : Int) := (by omega); have HX : Sl _ := ⟨hx⟩; have HOA := HR.out.1.alloc (.cells #[.int .i64 (nn : Int)] 2); have hsz := HR.out.2.size; clear hx hp; go_wp2_with (at_builtin; go_loud (refine wpList_append_any _ rfl (.tmp 23) (.tmp 29) _ rfl w.heap.size 2 i0 _ 1 8 Tryz.underlying47 HI.out.1 HI.out.2.1 HI.out.2.2.1 HI.out.2.2.2 rfl (by decide) _ i _ rfl HOA _ (some ⟨wr.heap.size, 0, none⟩) 1 1 ([nn].map cv) rfl (V_one wr nn _) (one_cv nn) (by unfold maxLen; omega) (by omega) (Nat.le_trans hsz (by simp)) ?_; intro v1 w3 hown1 hg1 hat1)); have hBa := HR.out.2.alloc hsz (.cells #[.int .i64 (nn : Int)] 2); have hown := HR.out.1.lt; have hB3 := hBa.grown hg1 (Nat.le_trans hsz (by simp)) (fun k hk => (hown k hk).1); refine ⟨⟨i + 1, hin, by go_num, ⟨?_, hB3⟩⟩, by simp [RowKit.intOf]; try omega⟩; rw [show l.take (i + 1) = l.take i ++ [(nn, kk)] by rw [List.take_add_one, HX.out]; rfl, List.map_append, List.map_append]; exact hown1
    · obtain rfl : n = i := (by omega); have h2 := HR.out; rw [List.take_of_length_le (by rw [HL.out.1.1]; exact Nat.le_refl _)] at h2; have H2 : Sl _ := ⟨h2⟩; clear h2 HR hin hi; go_wp2_with fail
      go_loopw [3, 5] (fun s3 s5 wr => ∃ (i L : Nat) (o : List Nat), i ≤ L ∧ L ≤ 17 ∧ s5 = .int .i64 i ∧ Sl (wr.ownsRow w.heap.size 2 1 s3 L (o.map cv) ∧ Bs l o i ∧ Below w.heap.size w wr)) (fun s3 s5 _ => slen s3 * 100 + (slen s3 - (RowKit.intOf s5).toNat))
      case atStart =>
        refine ⟨0, n, _, Nat.zero_le _, hn, rfl, ⟨H2.out.1, ⟨fun p => ?_, fun a b x _ hb => absurd hb (Nat.not_lt_zero _)⟩, H2.out.2⟩⟩; rw [List.mem_map]
      case round =>
        clear H2; obtain ⟨i, L, o, hi, hL, rfl, HO⟩ := hrel; obtain ⟨wo, rfl⟩ : ∃ wo : World, wo = wr := ⟨_, rfl⟩; obtain ⟨A1, c1, rfl, hc1, hV⟩ := V_own HO.out.1; have hol : o.length = L := hV.len
        by_cases hiL : i < L
        · have h6o : ∀ p, p ∈ o → p ∈ primes6 := fun p hp => by
            obtain ⟨x, hx, rfl⟩ := (HO.out.2.1.mem p).1 hp; exact HL.out.2 x hx
          obtain ⟨p, hp⟩ : ∃ p, o[i]? = some p := ⟨_, List.getElem?_eq_getElem (by omega)⟩; have hp6 := h6o p (List.mem_of_getElem? hp); have HV1 : Sl _ := ⟨And.intro hV (And.intro h6o (And.intro hp (And.intro hp6 hol)))⟩; clear hV h6o hp hp6 hol; go_wp2_with fail
          go_loopw [3, 5, 6] (fun s3 s5 s6 wq => ∃ k : Nat, k ≤ i ∧ s3 = .slice A1 L c1 ∧ s5 = .int .i64 i ∧ s6 = .int .i64 k ∧ Sl ((∀ a, a < k → o[a]? ≠ some p) ∧ ∃ m, wq = wo.drewN m)) (fun _ _ s6 _ => i - (RowKit.intOf s6).toNat)
          case atStart => exact ⟨0, Nat.zero_le _, rfl, rfl, rfl, ⟨fun a ha => absurd ha (Nat.not_lt_zero _), 0, rfl⟩⟩
          case round =>
            obtain ⟨k, hk, rfl, rfl, rfl, HK⟩ := hrel
            have HVW : Sl (V wr A1 L o ∧ RowKit.Below w.heap.size w wr ∧ wr.ownsRow w.heap.size 2 1 (.slice A1 L c1) L (o.map cv)) := ⟨by
              obtain ⟨m, hm⟩ := HK.out.2; rw [hm]
              exact ⟨HV1.out.1.drewN m, below_drewN HO.out.2.2 m, own_drewN HO.out.1 m⟩⟩
            by_cases hki : k < i
            · obtain ⟨q, hq⟩ : ∃ q, o[k]? = some q := ⟨_, List.getElem?_eq_getElem (by have := HV1.out.2.2.2.2; omega)⟩; have hq6 := HV1.out.2.1 q (List.mem_of_getElem? hq); obtain ⟨ad, rfl, hab, hci⟩ := HVW.out.1.cell (k := i) hiL; obtain ⟨ad', e, hab', hck⟩ := HVW.out.1.cell (k := k) (by omega); injection e with e
              subst e; rw [HV1.out.2.2.1] at hci; rw [hq] at hck; simp only [Option.getD_some] at hci hck; have bp := p6_bounds HV1.out.2.2.2.1; have bq := p6_bounds hq6; have hg := p6_gcd p HV1.out.2.2.2.1 q hq6; obtain ⟨bp1, bp2⟩ := bp; obtain ⟨bq1, bq2⟩ := bq; have hkL : (k : Int) < (L : Int) := (by omega); have hkL2 : k < L := (by omega); have HQ : Sl _ := ⟨hq⟩; clear hq hq6 hab hab'
              by_cases hpq : p = q
              · subst hpq; rw [if_pos rfl] at hg
                have VA : Sl (∀ z, Calls Tryz.prog 86 #[.int .i64 p, .int .i64 p] (wr.drewN z) fun e w'' => e = .returned (.int .i64 p) ∧ ∃ y, w'' = wr.drewN y) := ⟨fun z => by
                  have h := r4gcd_any p p (wr.drewN z) (by omega) (by omega); rw [hg] at h
                  exact h.mono fun e w'' h => ⟨h.1, by obtain ⟨y, hy⟩ := h.2; exact ⟨z + y, by rw [hy, drew2]⟩⟩⟩
                have hp1 : ((p : Int) == 1) = false := (by rw [beq_eq_false_iff_ne]; omega); clear hg; go_wp2_with fail
                go_quiet ((go_at_call 86; (with_reducible exact VA.out _)))
                go_wp2_with fail; generalize hws : wr.drewN nq = ws at *
                have hB0 : RowKit.Below w.heap.size w ws := (by rw [← hws]; exact below_drewN HVW.out.2.1 nq); have hV0 : V ws (some ad) L o := (by rw [← hws]; exact HVW.out.1.drewN nq); have HWS : Sl _ := ⟨And.intro hB0 hV0⟩; have HO2 : Sl _ := ⟨HO.out.2.1⟩; have HKO : Sl _ := ⟨HK.out.1⟩; clear hws hB0 hV0 HO HK hci hck HVW
                go_loopw [8, 9] (fun s8 s9 wq => ∃ (z : Nat) (y : List Nat), z ≤ L ∧ s9 = .int .i64 z ∧ Sl (wq.ownsRow ws.heap.size 2 1 s8 y.length (y.map cv) ∧ Nx o y i k z ∧ Below ws.heap.size ws wq)) (fun _ s9 _ => L - (RowKit.intOf s9).toNat)
                case atStart => exact ⟨0, [], Nat.zero_le _, rfl, ⟨World.ownsRow_nil _ _ _ _, Nx.start o i k, Below.refl _ _⟩⟩
                case round =>
                  obtain ⟨z, y, hz, rfl, HY⟩ := hrel; rcases Nat.lt_or_ge z L with hzL | hzL
                  · obtain ⟨x, hx⟩ : ∃ x, o[z]? = some x := ⟨_, List.getElem?_eq_getElem (by have := HV1.out.2.2.2.2; omega)⟩; have hx6 := p6_bounds (HV1.out.2.1 x (List.mem_of_getElem? hx)); obtain ⟨bx1, bx2⟩ := hx6; obtain ⟨ad', e, hab', hcz⟩ := (HWS.out.2.below HY.out.2.2).cell (k := z) hzL; injection e with e
                    subst e; rw [hx] at hcz; simp only [Option.getD_some] at hcz; have hlen := HY.out.2.1.len; have hyl : y.length ≤ 17 := (by omega); have HXX : Sl _ := ⟨hx⟩; have HYL : Sl _ := ⟨hlen⟩; clear hx hab' hlen
                    by_cases hzi : z = i ∨ z = k
                    · have hxp : x = p := by
                        rcases hzi with rfl | rfl
                        · have := HXX.out; rw [HV1.out.2.2.1] at this; injection this with this; exact this.symm
                        · have := HXX.out; rw [HQ.out] at this; injection this with this; exact this.symm
                      subst hxp; have hdv : (x : Int).tdiv (x : Int) = 1 := Int.tdiv_self (by omega); have HZI : Sl _ := ⟨hzi⟩; have hik : i ≠ k := (by omega); have hxne : ¬ (x : Int) = 0 := (by omega); rcases Nat.lt_trichotomy z i with h | h | h
                      · have hzk : z = k := (by omega); subst hzk; clear hzi; have hne2 : ((z : Int) == (i : Int)) = false := (by rw [beq_eq_false_iff_ne]; omega); go_wp2_with fail; exact ⟨⟨z + 1, y, hzL, by go_num, ⟨HY.out.1, HY.out.2.1.skip hik HZI.out, HY.out.2.2⟩⟩, by simp [RowKit.intOf]; omega⟩
                      · subst h; clear hzi; go_wp2_with fail; exact ⟨⟨z + 1, y, hzL, by go_num, ⟨HY.out.1, HY.out.2.1.skip hik HZI.out, HY.out.2.2⟩⟩, by simp [RowKit.intOf]; omega⟩
                      · exact absurd h (by omega)
                    · have hz1 : z ≠ i := fun h => hzi (.inl h)
                      have hz2 : z ≠ k := fun h => hzi (.inr h)
                      have g1 : ((z : Int) == (i : Int)) = false := (by rw [beq_eq_false_iff_ne]; omega); have g2 : ((z : Int) == (k : Int)) = false := (by rw [beq_eq_false_iff_ne]; omega); have hgt : 1 < (x : Int) := (by omega); have HOA := HY.out.1.alloc (.cells #[.int .i64 (x : Int)] 2); have hsz := HY.out.2.2.size; have HNX : Sl _ := ⟨HY.out.2.1.more hz1 hz2 HXX.out⟩; clear hzi hz1 hz2; go_wp2_with (at_builtin; go_loud (refine wpList_append_any _ rfl (.tmp 76) (.tmp 78) _ rfl ws.heap.size 2 i0 _ 1 8 Tryz.underlying47 HI.out.1 HI.out.2.1 HI.out.2.2.1 HI.out.2.2.2 rfl (by decide) _ y.length _ rfl HOA _ (some ⟨wr.heap.size, 0, none⟩) 1 1 ([x].map cv) rfl (V_one wr x _) (one_cv x) (by unfold maxLen; omega) (by omega) (Nat.le_trans hsz (by simp)) ?_; intro v1 w3 hown1 hg1 hat1)); have hBa := HY.out.2.2.alloc hsz (.cells #[.int .i64 (x : Int)] 2); have hown := HY.out.1.lt; have hB3 := hBa.grown hg1 (Nat.le_trans hsz (by simp)) (fun k hk => (hown k hk).1); refine ⟨⟨z + 1, y ++ [x], hzL, by go_num, ⟨?_, HNX.out, hB3⟩⟩, by simp [RowKit.intOf]; try omega⟩; rw [List.map_append, List.length_append]; exact hown1
                  · obtain rfl : z = L := (by omega); have hnd := HY.out.2.1; rw [← HV1.out.2.2.2.2] at hnd; obtain ⟨d1, d2⟩ := hnd.done hki (by have := HV1.out.2.2.2.2; omega) HV1.out.2.2.1 HQ.out; rw [HV1.out.2.2.2.2] at d1; have hyl : y.length ≤ 17 := (by rw [List.length_append] at d1; omega); have HD : Sl _ := ⟨And.intro d1 d2⟩; have HOA := HY.out.1.alloc (.cells #[.int .i64 (p : Int)] 2); have hsz := HY.out.2.2.size; clear hnd d1 d2; go_wp2_with (at_builtin; go_loud (refine wpList_append_any _ rfl (.tmp 80) (.tmp 82) _ rfl ws.heap.size 2 i0 _ 1 8 Tryz.underlying47 HI.out.1 HI.out.2.1 HI.out.2.2.1 HI.out.2.2.2 rfl (by decide) _ y.length _ rfl HOA _ (some ⟨wr.heap.size, 0, none⟩) 1 1 ([p].map cv) rfl (V_one wr p _) (one_cv p) (by unfold maxLen; omega) (by omega) (Nat.le_trans hsz (by simp)) ?_; intro v1 w3 hown1 hg1 hat1)); have hBa := HY.out.2.2.alloc hsz (.cells #[.int .i64 (p : Int)] 2); have hown := HY.out.1.lt; have hB3 := hBa.grown hg1 (Nat.le_trans hsz (by simp)) (fun k hk => (hown k hk).1); have hsl := slen_own hown1; have hll : y.length + 1 + 1 = z := (by have := HD.out.1; rw [List.length_append, List.length_singleton] at this; exact this); refine ⟨⟨0, y.length + 1, y ++ [p], Nat.zero_le _, by omega, rfl, ⟨own_base (B := ws.heap.size) (by rw [List.map_append]; exact hown1) HWS.out.1.size, ⟨fun t => (HD.out.2 t).trans (HO2.out.mem t), fun a b x _ hb => absurd hb (Nat.not_lt_zero _)⟩, HWS.out.1.trans (hB3.mono HWS.out.1.size)⟩⟩, ?_⟩; rw [hsl]; simp only [slen, RowKit.intOf]; omega
              · rw [if_neg hpq] at hg
                have VA : Sl (∀ z, Calls Tryz.prog 86 #[.int .i64 p, .int .i64 q] (wr.drewN z) fun e w'' => e = .returned (.int .i64 1) ∧ ∃ y, w'' = wr.drewN y) := ⟨fun z => by
                  have h := r4gcd_any p q (wr.drewN z) (by omega) (by omega); rw [hg] at h
                  exact h.mono fun e w'' h => ⟨h.1, by obtain ⟨y, hy⟩ := h.2; exact ⟨z + y, by rw [hy, drew2]⟩⟩⟩
                clear hg; go_wp2_with fail
                go_quiet ((go_at_call 86; (with_reducible exact VA.out _)))
                go_wp2_with fail; refine ⟨⟨k + 1, hki, rfl, rfl, by go_num, ⟨fun a ha => ?_, by obtain ⟨m, hm⟩ := HK.out.2; exact ⟨m + nq, by rw [hm, drew2]⟩⟩⟩, by simp [RowKit.intOf]; omega⟩; rcases Nat.lt_or_ge a k with h | h
                · exact HK.out.1 a h
                · obtain rfl : a = k := (by omega); rw [HQ.out]; intro e; injection e with e
                  exact hpq e.symm
            · obtain rfl : k = i := (by omega); go_wp2_with fail; refine ⟨⟨k + 1, L, o, hiL, hL, by go_num, ⟨HVW.out.2.2, ⟨HO.out.2.1.mem, fun a b x hab hb hx => ?_⟩, HVW.out.2.1⟩⟩, by simp [RowKit.intOf, slen]; omega⟩; rcases Nat.lt_or_ge b k with h | h
              · exact HO.out.2.1.dist a b x hab h hx
              · obtain rfl : b = k := (by omega); rw [HV1.out.2.2.1]; intro e; injection e with e
                subst e; exact HK.out.1 a hab hx
        · obtain rfl : i = L := (by omega); go_wp2_with fail; go_ret; exact ⟨⟨_, _, _, o, rfl, hL, hV, HO.out.2.1⟩, HO.out.2.2⟩
end Go.Proofs.YtmcoadmnkelkkaaGreatDoor
namespace Go.Proofs.YtmcoadmnkelkkaaGreatDoor
set_option linter.unusedSimpArgs false
open Go.RowKit
set_option linter.unusedVariables false
theorem esum_snoc (p n : Nat) (k : Int) : ∀ l : List (Nat × Int), esum p (l ++ [(n, k)]) = esum p l + if n = p then k else 0
  | [] => by simp [esum]
  | (m, j) :: l => by rw [List.cons_append, esum, esum_snoc p n k l, esum]; omega
theorem esum_none {p : Nat} : ∀ {l : List (Nat × Int)}, (∀ x ∈ l, x.1 ≠ p) → esum p l = 0
  | [], _ => rfl
  | (n, k) :: l, h => by
    rw [esum, esum_none fun x hx => h x (List.mem_cons_of_mem _ hx), if_neg (h _ List.mem_cons_self)]; rfl
theorem one_iff6 {l : List (Nat × Int)} (h : ∀ x ∈ l, x.1 ∈ primes6) : (∀ p ∈ primes6, esum p l = 0) ↔ up l = down l := by
  rw [← cop6.one_iff (fun x hx => Gen.of (h x hx))]; exact ⟨fun a b hb => by rw [expo6 hb h]; exact a b hb, fun a b hb => by rw [← expo6 hb h]; exact a b hb⟩
theorem p6_mod : ∀ p ∈ primes6, ∀ q ∈ primes6, p ≠ q → q % p ≠ 0 := by
  unfold primes6
  decide
set_option maxHeartbeats 6400000 in
set_option maxRecDepth 100000 in
theorem r4one_any (A : Option Addr) (n c : Nat) (l : List (Nat × Int)) (w : World) (hl : TR w A n l) (hn : n ≤ 17) (h6 : ∀ x ∈ l, x.1 ∈ primes6 ∧ x.2.natAbs ≤ 100000000000000000) :
    Calls Tryz.prog 142 #[.slice A n c] w fun e w' => e = .returned (.bool (decide (up l = down l))) ∧ Below w.heap.size w w' := by
  have HB : Sl _ := ⟨r4base_any A n c l w hl hn (fun x hx => (h6 x hx).1)⟩; have HL : Sl _ := ⟨And.intro hl h6⟩; clear hl h6; obtain ⟨r, hr⟩ : ∃ r, decide (up l = down l) = r := ⟨_, rfl⟩; rw [hr]; have HR : Sl _ := ⟨hr⟩; clear hr; go_enter Tryz.func142, Tryz.ntmps142; go_wp2_with fail; refine HB.out.mono ?_; rintro e w1 ⟨⟨B, m, d, o, rfl, hm, hV, hBs⟩, hb⟩; have HW : Sl _ := ⟨And.intro hV (And.intro hBs (And.intro hb (HL.out.1.below hb)))⟩; clear hV hBs hb HB; go_wp2_with fail
  go_loop [4] (fun s4 => ∃ i : Nat, i ≤ m ∧ s4 = .int .i64 i ∧ Sl (∀ a p, a < i → o[a]? = some p → esum p l = 0)) (fun s4 => m - (RowKit.intOf s4).toNat)
  case atStart => exact ⟨0, Nat.zero_le _, rfl, ⟨fun a p ha => absurd ha (Nat.not_lt_zero _)⟩⟩
  case round =>
    obtain ⟨i, hi, rfl, HI⟩ := hrel; have hol := HW.out.1.len; rcases Nat.lt_or_ge i m with him | him
    · obtain ⟨p, hp⟩ : ∃ p, o[i]? = some p := ⟨_, List.getElem?_eq_getElem (by omega)⟩; obtain ⟨bd, rfl, hbd, hcb⟩ := HW.out.1.cell (k := i) him; rw [hp] at hcb; simp only [Option.getD_some] at hcb
      have hp6 : p ∈ primes6 := by
        obtain ⟨x, hx, rfl⟩ := (HW.out.2.1.mem p).1 (List.mem_of_getElem? hp); exact (HL.out.2 x hx).1
      obtain ⟨bp1, bp2⟩ := p6_bounds hp6; have hpz : ¬ (p : Int) = 0 := (by omega); have HP : Sl _ := ⟨And.intro hp hp6⟩; clear hol hp hp6; go_wp2_with fail
      go_loop [5, 6] (fun s5 s6 => ∃ k : Nat, k ≤ n ∧ s6 = .int .i64 k ∧ s5 = .int .i64 (esum p (l.take k))) (fun _ s6 => n - (RowKit.intOf s6).toNat)
      case atStart => exact ⟨0, Nat.zero_le _, rfl, rfl⟩
      case round =>
        obtain ⟨k, hk, rfl, rfl⟩ := hrel; rcases Nat.lt_or_ge k n with hkn | hkn
        · obtain ⟨⟨nn, kk⟩, hx⟩ : ∃ x, l[k]? = some x := ⟨_, List.getElem?_eq_getElem (by rw [HL.out.1.1]; exact hkn)⟩; obtain ⟨ad, rfl, hab, e1, e2⟩ := HW.out.2.2.2.cells hx
          have e3 : (ad.add (k * 2)).add 1 = ⟨(ad.add (k * 2)).block, (ad.add (k * 2)).off + 1, none⟩ := by
            generalize ad.add (k * 2) = a1; simp [Addr.add]
          rw [← add_of_add, e3] at e2; have h6 := HL.out.2 _ (List.mem_of_getElem? hx); simp only [] at h6 e1 e2; obtain ⟨bn1, bn2⟩ := p6_bounds h6.1; have hkk := h6.2; have hsb := esum_le p (l.take k); have htb := tot_le (K := 100000000000000000) (l.take k) (fun x hx => (HL.out.2 x (List.mem_of_mem_take hx)).2); have hlt : (l.take k).length ≤ 17 := (by rw [List.length_take]; omega); have htl := Nat.mul_le_mul_right 100000000000000000 hlt; have hsn := esum_snoc p nn kk (l.take k); rw [show l.take k ++ [(nn, kk)] = l.take (k + 1) by rw [List.take_add_one, hx]; rfl] at hsn; obtain ⟨s0, hs0⟩ : ∃ s, esum p (l.take k) = s := ⟨_, rfl⟩; rw [hs0] at hsn hsb ⊢; have hs0b : -2000000000000000000 ≤ s0 ∧ s0 ≤ 2000000000000000000 := (by omega); obtain ⟨hs01, hs02⟩ := hs0b; have HX : Sl _ := ⟨And.intro hsn h6.1⟩; clear hx e3 h6 hsb htb hlt htl hsn hs0; go_wp2_with fail
          go_loop [5, 7] (fun s5 s7 => ∃ (z : Nat) (t : Int), s7 = .int .i64 z ∧ s5 = .int .i64 t ∧ ((z = nn ∧ t = s0) ∨ (nn = p ∧ z = 1 ∧ t = s0 + kk))) (fun _ s7 => (RowKit.intOf s7).toNat)
          case atStart => exact ⟨nn, s0, rfl, rfl, .inl ⟨rfl, rfl⟩⟩
          case round =>
            obtain ⟨z, t, rfl, rfl, hzt⟩ := hrel; rcases hzt with ⟨rfl, rfl⟩ | ⟨rfl, rfl, rfl⟩
            · by_cases hnp : z = p
              · subst hnp; have hmod : (z : Int).tmod (z : Int) = 0 := Int.tmod_self; have hdv : (z : Int).tdiv (z : Int) = 1 := Int.tdiv_self (by omega); go_wp2_with fail; exact ⟨⟨1, _, rfl, rfl, .inr (by simp)⟩, by simp [RowKit.intOf]; omega⟩
              · have hmod : (z : Int).tmod (p : Int) = ((z % p : Nat) : Int) := (by rw [Int.tmod_eq_emod_of_nonneg (by omega)]; omega); have hmz := p6_mod p HP.out.2 z HX.out.2 (fun h => hnp h.symm); obtain ⟨y, hy⟩ : ∃ y, z % p = y := ⟨_, rfl⟩; rw [hy] at hmod hmz; have hyz : ((y : Int) == 0) = false := (by rw [beq_eq_false_iff_ne]; omega); have HNE : Sl _ := ⟨hnp⟩; clear hy hmz hnp; go_wp2_with fail; exact ⟨⟨k + 1, hkn, by go_num, by rw [HX.out.1, if_neg HNE.out, Int.add_zero]⟩, by simp [RowKit.intOf]; omega⟩
            · have hmod : (1 : Int).tmod (nn : Int) = 1 := (by rw [Int.tmod_eq_emod_of_nonneg (by omega)]; exact Int.emod_eq_of_lt (by omega) (by omega)); go_wp2_with fail; exact ⟨⟨k + 1, hkn, by go_num, by rw [HX.out.1, if_pos rfl]⟩, by simp [RowKit.intOf]; omega⟩
        · obtain rfl : n = k := (by omega); rw [List.take_of_length_le (by rw [HL.out.1.1]; exact Nat.le_refl _)]; obtain ⟨s0, hs0⟩ : ∃ s, esum p l = s := ⟨_, rfl⟩; rw [hs0]
          by_cases hz : s0 = 0
          · have HS0 : Sl _ := ⟨hs0.trans hz⟩; subst hz; clear hs0; go_wp2_with fail; refine ⟨⟨i + 1, him, by go_num, ⟨fun a q ha hq => ?_⟩⟩, by simp [RowKit.intOf]; omega⟩; rcases Nat.lt_or_ge a i with h | h
            · exact HI.out a q h hq
            · obtain rfl : a = i := (by omega); rw [HP.out.1] at hq; injection hq with hq
              rw [← hq]; exact HS0.out
          · have hnz : (s0 != 0) = true := (by rw [bne_iff_ne]; exact hz)
            have HF : Sl (r = false) := ⟨by
              rw [← HR.out, decide_eq_false]; intro h; have := (one_iff6 (fun x hx => (HL.out.2 x hx).1)).2 h p HP.out.2; rw [hs0] at this
              exact hz this⟩
            clear hs0 hz; go_wp2_with fail; go_ret; exact ⟨by rw [HF.out]; rfl, HW.out.2.2.1⟩
    · obtain rfl : m = i := (by omega)
      have HT : Sl (r = true) := ⟨by
        rw [← HR.out, decide_eq_true]; refine (one_iff6 (fun x hx => (HL.out.2 x hx).1)).1 fun p hp => ?_
        by_cases hpo : p ∈ o
        · obtain ⟨a, ha⟩ := List.mem_iff_getElem?.1 hpo
          have hal : a < m := by
            rcases Nat.lt_or_ge a m with h | h
            · exact h
            · rw [List.getElem?_eq_none (by omega)] at ha; cases ha
          exact HI.out a p hal ha
        · exact esum_none fun x hx h => hpo ((HW.out.2.1.mem p).2 ⟨x, hx, h⟩)⟩
      clear hol; go_wp2_with fail; go_ret; exact ⟨by rw [HT.out]; rfl, HW.out.2.2.1⟩
end Go.Proofs.YtmcoadmnkelkkaaGreatDoor
namespace Go.Proofs.YtmcoadmnkelkkaaGreatDoor
set_option linter.unusedSimpArgs false
open Go.RowKit
set_option linter.unusedVariables false
def fifth : RV := ⟨-1, 1, 0, 0, 0, 0, 1⟩
attribute [local irreducible] FloorRes
end Go.Proofs.YtmcoadmnkelkkaaGreatDoor
namespace Go.Proofs.YtmcoadmnkelkkaaGreatDoor
set_option linter.unusedSimpArgs false
open Go.RowKit
set_option linter.unusedVariables false
theorem results_cell1 {P : Program} {fn : Func} {p : Tmp} {ty : TypeId} (h : fn.results = #[.cell p ty]) (tmps : Array Value) (w : World) (g : Nat) (t : TypeId) (cs : Array Value) (d : TypeDesc)
    (hp : tmps.getD p undef = .pointer (some ⟨g, 0, none⟩)) (hg : Blk w g t cs)
    (hu : P.underlying ty = some d) (hd : (match d with | .struct _ | .array _ _ => true | _ => false) = true) (hi : (P.info? ty).map (·.size) = some cs.size) :
    (results fn tmps).run P w = .ok (.agg cs) w := by
  have h1 := run_loadVar_row w g t ty cs (0, 0) d hg hu hd hi; have hp2 : tmps[p]?.getD undef = .pointer (some ⟨g, 0, none⟩) := (by simpa using hp); simp [results, h, hp2, asAddr, h1, Result.andThen]
end Go.Proofs.YtmcoadmnkelkkaaGreatDoor
namespace Go.Proofs.YtmcoadmnkelkkaaGreatDoor
set_option linter.unusedSimpArgs false
open Go.RowKit
set_option linter.unusedVariables false
def ordS (g : (Nat × Nat) × (Nat × Nat)) : Int := if g.2.2 < g.1.1 then 1 else if g.1.2 < g.2.1 then -1 else 0
theorem cmpN_gt0 {a b : Nat} : (0 < cmpN a b) ↔ b < a := by
  rcases Nat.lt_trichotomy a b with h | rfl | h
  · rw [cmpN_lt h]; omega
  · rw [cmpN_eq]; omega
  · rw [cmpN_gt h]; omega
set_option maxHeartbeats 1600000 in
set_option maxRecDepth 100000 in
theorem r4order_any (v1 v2 v3 v4 : Value) (g : (Nat × Nat) × (Nat × Nat)) (w : World) (hF : FourLN w g v1 v2 v3 v4) (hl : (C.limbs g.1.1).length ≤ 50000 ∧ (C.limbs g.1.2).length ≤ 50000 ∧ (C.limbs g.2.1).length ≤ 50000 ∧ (C.limbs g.2.2).length ≤ 50000) :
    Calls Tryz.prog 91 #[.agg #[v1, v2], .agg #[v3, v4]] w fun e w' => e = .returned (.int .i64 (ordS g)) ∧ Below w.heap.size w w' := by
  obtain ⟨⟨a1, a2⟩, b1, b2⟩ := g; obtain ⟨A1, n1, c1, rfl⟩ := hF.a.slice; obtain ⟨A2, n2, c2, rfl⟩ := hF.b.slice; obtain ⟨A3, n3, c3, rfl⟩ := hF.c.slice; obtain ⟨A4, n4, c4, rfl⟩ := hF.d.slice; have hu := ((Below.refl w.heap.size w).alloc (Nat.le_refl _) (.cells #[.slice A1 n1 c1, .slice A2 n2 c2] 115)).alloc (by simp) (.cells #[.slice A3 n3 c3, .slice A4 n4 c4] 115); have X0 := (Blk.new w 115 #[.slice A1 n1 c1, .slice A2 n2 c2]).alloc (.cells #[.slice A3 n3 c3, .slice A4 n4 c4] 115); have X1 := Blk.new (w.alloc (.cells #[.slice A1 n1 c1, .slice A2 n2 c2] 115)) 115 #[.slice A3 n3 c3, .slice A4 n4 c4]; rw [show (w.alloc (.cells #[.slice A1 n1 c1, .slice A2 n2 c2] 115)).heap.size = w.heap.size + 1 by simp] at X1; have hF2 := hF.below hu; obtain ⟨l1, l2, l3, l4⟩ := hl; simp only [] at l1 l2 l3 l4; have HU : Sl _ := ⟨And.intro hu (And.intro X0 (And.intro X1 hF2))⟩; have x0 := X0.cell 0; have x1 := X0.cell 1; have y0 := X1.cell 0; have y1 := X1.cell 1; simp at x0 x1 y0 y1; clear hu X0 X1 hF hF2; go_enter Tryz.func91, Tryz.ntmps91; go_wp2_with fail; clear x0 x1 y0 y1; generalize (w.alloc (.cells #[.slice A1 n1 c1, .slice A2 n2 c2] 115)).alloc (.cells #[.slice A3 n3 c3, .slice A4 n4 c4] 115) = w0 at *
  refine (r4cmp_any _ _ a1 b2 w0 HU.out.2.2.2.a HU.out.2.2.2.d (by omega) (by omega)).mono ?_; rintro e w1 ⟨rfl, q1, rfl⟩; obtain ⟨k1, hk1⟩ : ∃ k, cmpN a1 b2 = k := ⟨_, rfl⟩; rw [hk1]; have c1' := cmpN_gt0 (a := a1) (b := b2); rw [hk1] at c1'; clear hk1
  by_cases h1 : b2 < a1
  · have hk : 0 < k1 := c1'.2 h1; have HS : Sl (ordS ((a1, a2), (b1, b2)) = 1) := ⟨by unfold ordS; rw [if_pos h1]⟩; clear c1' h1; go_wp2_with fail; go_ret; exact ⟨by rw [HS.out]; rfl, below_drewN HU.out.1 q1⟩
  · have hk : ¬ 0 < k1 := fun h => h1 (c1'.1 h)
    have H1 : Sl _ := ⟨h1⟩; clear c1' h1; have HD : Sl _ := ⟨And.intro (HU.out.2.2.2.below (below_drewN (Below.refl _ _) q1)) (And.intro (below_drewN HU.out.1 q1) (And.intro (HU.out.2.1.drewN q1) (HU.out.2.2.1.drewN q1)))⟩; generalize w0.drewN q1 = w1 at *
    have x0 := HD.out.2.2.1.cell 0; have x1 := HD.out.2.2.1.cell 1; have y0 := HD.out.2.2.2.cell 0; have y1 := HD.out.2.2.2.cell 1; simp at x0 x1 y0 y1; clear HU; go_wp2_with fail; clear x0 x1 y0 y1; refine (r4cmp_any _ _ a2 b1 w1 HD.out.1.b HD.out.1.c (by omega) (by omega)).mono ?_; rintro e w2 ⟨rfl, q2, rfl⟩; obtain ⟨k2, hk2⟩ : ∃ k, cmpN a2 b1 = k := ⟨_, rfl⟩; rw [hk2]; have c2' := cmpN_lt0 (a := a2) (b := b1); rw [hk2] at c2'; clear hk2
    by_cases h2 : a2 < b1
    · have hk2 : k2 < 0 := c2'.2 h2; have HS : Sl (ordS ((a1, a2), (b1, b2)) = -1) := ⟨by unfold ordS; rw [if_neg H1.out, if_pos h2]⟩; clear c2' h2; go_wp2_with fail; go_ret; exact ⟨by rw [HS.out]; rfl, below_drewN HD.out.2.1 q2⟩
    · have hk2 : ¬ k2 < 0 := fun h => h2 (c2'.1 h)
      have HS : Sl (ordS ((a1, a2), (b1, b2)) = 0) := ⟨by unfold ordS; rw [if_neg H1.out, if_neg h2]⟩; clear c2' h2; go_wp2_with fail; go_ret; exact ⟨by rw [HS.out]; rfl, below_drewN HD.out.2.1 q2⟩
theorem bdr6 {n P : Nat} (h : n ∈ primes6) : Bd n P (lgr n P) := by
  have hb : 0 < n ∧ n < 2 ^ 64 ∧ Lib.bitLen n - 1 ≤ 3 := by
    simp only [primes6, List.mem_cons, List.not_mem_nil, or_false] at h; rcases h with rfl | rfl | rfl | rfl | rfl | rfl <;> exact ⟨by decide, by decide, by decide +kernel⟩
  exact lgr_bd hb.1 hb.2.1 (by omega)
theorem ord_sound {l : List (Nat × Int)} (h : ∀ x ∈ l, x.1 ∈ primes6) (P : Nat) : (ordS (sumB (fun n => lgr n P) l) ≠ 0 → ordS (sumB (fun n => lgr n P) l) = sgn l) ∧ (ordS (sumB (fun n => lgr n P) l) = 0 → guessG (sumB (fun n => lgr n P) l) = none) := by
  have hs := fun s => guessG_sound (B := fun n => lgr n P) (l := l) (P := P) (fun x hx => bdr6 (h x hx)) (s := s)
  generalize sumB (fun n => lgr n P) l = g at *
  unfold ordS; unfold guessG at hs ⊢
  split
  · rename_i h1; rw [if_pos h1] at hs; exact ⟨fun _ => hs 1 rfl, fun h => by cases h⟩
  · rename_i h1; rw [if_neg h1] at hs
    split
    · rename_i h2; rw [if_pos h2] at hs; exact ⟨fun _ => hs (-1) rfl, fun h => by cases h⟩
    · rename_i h2; exact ⟨fun h => absurd rfl h, fun _ => rfl⟩
set_option maxHeartbeats 3200000 in
set_option maxRecDepth 100000 in
theorem r4sign_any (A : Option Addr) (n c : Nat) (l : List (Nat × Int)) (w : World) (hl : TR w A n l) (h : ok6 l) :
    Calls Tryz.prog 115 #[.slice A n c] w fun e w' => e = .returned (.int .i64 (sgn l)) ∧ Below w.heap.size w w' := by
  have hn : n ≤ 17 := (by rw [← hl.1]; exact h.1); have HO : Sl _ := ⟨r4one_any A n c l w hl hn (fun x hx => ⟨(h.2 x hx).1, by have := (h.2 x hx).2; omega⟩)⟩; have HL : Sl _ := ⟨And.intro hl h⟩; clear hl h
  by_cases hone : up l = down l
  · rw [sgn_one hone]; rw [decide_eq_true hone] at HO; clear hone; go_enter Tryz.func115, Tryz.ntmps115; go_wp2_with fail; refine HO.out.mono ?_; rintro e w1 ⟨rfl, hb⟩; go_wp2_with fail; go_ret; exact ⟨rfl, hb⟩
  · rw [decide_eq_false hone] at HO; have HNE : Sl _ := ⟨hone⟩; clear hone; obtain ⟨sg, hsg⟩ : ∃ s, sgn l = s := ⟨_, rfl⟩; rw [hsg]; have HSG : Sl _ := ⟨hsg⟩; clear hsg; go_enter Tryz.func115, Tryz.ntmps115; go_wp2_with fail; refine HO.out.mono ?_; rintro e w1 ⟨rfl, hb⟩; have HB : Sl _ := ⟨hb⟩; clear hb HO; go_wp2_with fail
    go_loopg [3] 5 (fun g s3 wr => ∃ P : Nat, s3 = .int .i64 P ∧ Sl (Below w.heap.size w wr ∧ ((g = 5 ∧ P = 30) ∨ (g = 4 ∧ P = 60) ∨ (g = 3 ∧ P = 120) ∨ (g = 2 ∧ P = 240) ∨ (g = 1 ∧ P = 480))))
    case atStart => exact ⟨30, rfl, ⟨HB.out, .inl ⟨rfl, rfl⟩⟩⟩
    case round =>
      clear HB; obtain ⟨P, rfl, HP⟩ := hrel; have hP : P ≤ 480 := (by have := HP.out.2; omega); obtain ⟨t, ht⟩ : ∃ t, P = 15 * t := ⟨P / 15, by have := HP.out.2; omega⟩; have HSM : Sl _ := ⟨r4sums_any A n c P t l wr (HL.out.1.below HP.out.1) hn ht (by omega) (fun x hx => ⟨(HL.out.2.2 x hx).1, by have := (HL.out.2.2 x hx).2; omega⟩)⟩; have hlen := sums_len (l := l) (P := P) (by rw [HL.out.1.1]; exact hn) (by omega) (fun x hx => ⟨(HL.out.2.2 x hx).1, by have := (HL.out.2.2 x hx).2; omega⟩); have hos := ord_sound (l := l) (fun x hx => (HL.out.2.2 x hx).1) P
      have hend : P = 480 → guessG (sumB (fun n => lgr n P) l) = none → False := fun e hg => by
        rw [e] at hg; exact HNE.out (decided480 (fun x hx => (HL.out.2.2 x hx).1) HL.out.2.tot hg)
      obtain ⟨g, hg⟩ : ∃ g, sumB (fun n => lgr n P) l = g := ⟨_, rfl⟩; rw [hg] at HSM hlen hos hend; rw [HSG.out] at hos; have HLEN : Sl _ := ⟨And.intro (hlen _ (.inl rfl)) (And.intro (hlen _ (.inr (.inl rfl))) (And.intro (hlen _ (.inr (.inr (.inl rfl)))) (hlen _ (.inr (.inr (.inr rfl))))))⟩; have HOS : Sl _ := ⟨And.intro hos hend⟩; clear hlen hos hend hg ht; go_wp2_with fail; refine HSM.out.mono ?_; rintro e w3 ⟨⟨v1, v2, v3, v4, rfl, hF⟩, hb3⟩; obtain ⟨A1, n1, c1, rfl⟩ := hF.a.slice; obtain ⟨A2, n2, c2, rfl⟩ := hF.b.slice; obtain ⟨A3, n3, c3, rfl⟩ := hF.c.slice; obtain ⟨A4, n4, c4, rfl⟩ := hF.d.slice; have hB3 := HP.out.1.trans (hb3.mono HP.out.1.size); have HF : Sl _ := ⟨And.intro hF hB3⟩; clear hF hb3 hB3 HSM; have X0 := (Blk.new w3 115 #[.slice A1 n1 c1, .slice A2 n2 c2]).alloc (.cells #[.slice A3 n3 c3, .slice A4 n4 c4] 115); have X1 := Blk.new (w3.alloc (.cells #[.slice A1 n1 c1, .slice A2 n2 c2] 115)) 115 #[.slice A3 n3 c3, .slice A4 n4 c4]; rw [show (w3.alloc (.cells #[.slice A1 n1 c1, .slice A2 n2 c2] 115)).heap.size = w3.heap.size + 1 by simp] at X1; have hal := ((Below.refl w3.heap.size w3).alloc (Nat.le_refl _) (.cells #[.slice A1 n1 c1, .slice A2 n2 c2] 115)).alloc (by simp) (.cells #[.slice A3 n3 c3, .slice A4 n4 c4] 115); have HW : Sl _ := ⟨And.intro X0 (And.intro X1 (And.intro (HF.out.1.below hal) (HF.out.2.trans (hal.mono HF.out.2.size))))⟩; clear X0 X1 hal HF
      go_upto_region 6 with (fail)
      generalize (w3.alloc (.cells #[.slice A1 n1 c1, .slice A2 n2 c2] 115)).alloc (.cells #[.slice A3 n3 c3, .slice A4 n4 c4] 115) = w4 at *
      have x0 := HW.out.1.cell 0; have x1 := HW.out.1.cell 1; have y0 := HW.out.2.1.cell 0; have y1 := HW.out.2.1.cell 1; simp at x0 x1 y0 y1; have HOR : Sl _ := ⟨r4order_any _ _ _ _ g w4 HW.out.2.2.1 ⟨by have := HLEN.out.1; omega, by have := HLEN.out.2.1; omega, by have := HLEN.out.2.2.1; omega, by have := HLEN.out.2.2.2; omega⟩⟩; go_wp2_with fail; clear x0 x1 y0 y1; refine HOR.out.mono ?_; rintro e w5 ⟨rfl, hb5⟩; have hB5 := HW.out.2.2.2.trans (hb5.mono HW.out.2.2.2.size); have HB5 : Sl _ := ⟨hB5⟩; clear hB5 hb5 HW HOR; obtain ⟨s, hs⟩ : ∃ s, ordS g = s := ⟨_, rfl⟩; rw [hs] at HOS ⊢; clear hs
      by_cases h0 : s = 0
      · have hP2 : P < 480 := by
          rcases Nat.lt_or_ge P 480 with h | h
          · exact h
          · exact (HOS.out.2 (by omega) (HOS.out.1.2 h0)).elim
        subst h0; go_wp2_with fail
        go_roundg (gk - 1)
        case measure => have := HP.out.2; omega
        case rel => exact ⟨2 * P, by go_num, ⟨HB5.out, by have := HP.out.2; omega⟩⟩
      · have hsz : (s != 0) = true := (by rw [bne_iff_ne]; exact h0); have HSE : Sl _ := ⟨HOS.out.1.1 h0⟩; clear h0; go_wp2_with fail; go_ret; exact ⟨by rw [HSE.out]; rfl, HB5.out⟩
end Go.Proofs.YtmcoadmnkelkkaaGreatDoor
namespace Go.Proofs.YtmcoadmnkelkkaaGreatDoor
set_option linter.unusedSimpArgs false
open Go.RowKit
set_option linter.unusedVariables false
set_option maxHeartbeats 800000 in
set_option maxRecDepth 100000 in
theorem r4valid_ok (A : Option Addr) (n c : Nat) (l : List (Nat × Int)) (w : World) (hl : TR w A n l) (hok : okT l) :
    Calls Tryz.prog 88 #[.slice A n c] w fun e w' => e = .returned (.int .i64 0) ∧ w = w' := by
  have hn : n ≤ 16 := (by rw [← hl.1]; exact hok.1); have HL : Sl _ := ⟨hl⟩; have HK : Sl _ := ⟨hok⟩; clear hl hok; go_enter Tryz.func88, Tryz.ntmps88; go_wp2_with fail
  go_loop [3] (fun s3 => ∃ i : Nat, i ≤ n ∧ s3 = .int .i64 i) (fun s3 => n - (RowKit.intOf s3).toNat)
  case atStart => exact ⟨0, Nat.zero_le _, rfl⟩
  case round =>
    obtain ⟨i, hi, rfl⟩ := hrel
    by_cases hin : i < n
    · obtain ⟨⟨nn, kk⟩, hx⟩ : ∃ x, l[i]? = some x := ⟨_, List.getElem?_eq_getElem (by rw [HL.out.1]; exact hin)⟩; obtain ⟨ad, rfl, hab, c1, c2⟩ := HL.out.cells hx
      have e1 : (ad.add (i * 2)).add 1 = ⟨(ad.add (i * 2)).block, (ad.add (i * 2)).off + 1, none⟩ := by
        generalize ad.add (i * 2) = a1; simp [Addr.add]
      rw [← add_of_add, e1] at c2; have hk := HK.out.2 _ (List.mem_of_getElem? hx); obtain ⟨k1, k2, k3, k4⟩ := hk; simp only [] at k1 k2 k3 k4; have t1 : ¬ (nn : Int) < 1 := (by omega); have t2 : ¬ 1000000000000 < (nn : Int) := (by omega); have t3 : ¬ kk < -1000000000 := (by omega); have t4 : ¬ 1000000000 < kk := (by omega); clear e1 hx; go_wp2_with fail; exact ⟨⟨i + 1, hin, by go_num⟩, by simp [RowKit.intOf]; omega⟩
    · obtain rfl : i = n := (by omega); go_wp2_with fail; go_ret; exact ⟨rfl, rfl⟩
theorem TR.reads {w : World} {A : Option Addr} {n : Nat} {l : List (Nat × Int)} (h : TR w A n l) : Reads w w.heap.size 2 A n (l.flatMap fun x => [.int .i64 (x.1 : Int), .int .i64 x.2]) := h.2
theorem flat_one (l : List (Nat × Int)) : ∀ u ∈ (l.flatMap fun x => [Value.int .i64 (x.1 : Int), Value.int .i64 x.2]), u.oneCell' = true := by
  intro u hu; obtain ⟨x, _, hx⟩ := List.mem_flatMap.1 hu; simp only [List.mem_cons, List.not_mem_nil, or_false] at hx; rcases hx with rfl | rfl <;> rfl
theorem TR.of_own {w : World} {base : Nat} {e : TypeId} {v : Value} {n : Nat} {l : List (Nat × Int)} (h : w.ownsRow base e 2 v n (l.flatMap fun x => [.int .i64 (x.1 : Int), .int .i64 x.2])) (hn : l.length = n) : ∃ A c, v = .slice A n c ∧ TR w A n l := by
  have h' := h; rcases h.2 with ⟨rfl, h0⟩ | ⟨g, cap, cur, rfl, _, _, h1, h2, _⟩
  · rw [h0] at h' hn; exact ⟨none, 0, by rw [h0], by rw [h0]; exact ⟨hn, Reads.of_own h'⟩⟩
  · exact ⟨_, cap, rfl, hn, Reads.of_own h⟩
theorem reads_two (w : World) (a b : Int) : Reads (w.alloc (.cells #[.int .i64 a, .int .i64 b] 112)) (w.alloc (.cells #[.int .i64 a, .int .i64 b] 112)).heap.size 2 (some ⟨w.heap.size, 0, none⟩) 1 [.int .i64 a, .int .i64 b] := by
  refine ⟨rfl, fun _ => ⟨_, rfl, by simp, fun j u hj => ?_⟩⟩; have hb := Blk.new w 112 #[.int .i64 a, .int .i64 b]
  have e : (⟨w.heap.size, 0, none⟩ : Addr).add j = ⟨w.heap.size, j, none⟩ := by
    unfold Addr.add
    by_cases h : j = 0
    · subst h; simp
    · simp [h]
  rw [e, hb.cell]; simpa using hj
set_option maxHeartbeats 1600000 in
set_option maxRecDepth 100000 in
theorem r4exponent_any (A : Option Addr) (n c : Nat) (l : List (Nat × Int)) (m den : Int) (w : World) (hl : TR w A n l) (hn : n ≤ 16) (hm1 : -2000000000000 ≤ m) (hm2 : m ≤ 2000000000000) (hd1 : 1 ≤ den) (hd2 : den ≤ 1000) (h6 : ok6 (l ++ [(2, -m * den)])) :
    Calls Tryz.prog 89 #[.slice A n c, .int .i64 m, .int .i64 den] w fun e w' => e = .returned (.int .i64 (sgn (l ++ [(2, -m * den)]))) ∧ Below w.heap.size w w' := by
  obtain ⟨i0, hi0, hz0, hz1, hz2⟩ := info_term; have HI : Sl _ := ⟨And.intro hi0 (And.intro hz0 (And.intro hz1 hz2))⟩; clear hi0 hz0 hz1 hz2; have HL : Sl _ := ⟨And.intro hl h6⟩; have hln : l.length = n := hl.1
  have hab : (-m * den).natAbs ≤ 2000000000000 * 1000 := by
    rw [Int.natAbs_mul, Int.natAbs_neg]; exact Nat.mul_le_mul (by omega) (by omega)
  obtain ⟨x, hx⟩ : ∃ x, -m * den = x := ⟨_, rfl⟩; rw [hx] at hab HL ⊢; have hwm : IntKind.i64.wrap (-m) = -m := (by rw [IntKind.wrap_i64]; omega); have hwx : IntKind.i64.wrap x = x := (by rw [IntKind.wrap_i64]; omega); have hxi := hx; have HX : Sl _ := ⟨And.intro hab hln⟩; clear hab hl h6 hln; go_enter Tryz.func89, Tryz.ntmps89; have hone := flat_one l; have HONE : Sl _ := ⟨hone⟩; clear hone
  go_wp2_with (first
    | (at_builtin; refine wpList_append_any _ rfl (.tmp 7) (.tmp 8) _ rfl w.heap.size 112 i0 _ 2 16 Tryz.underlying75 HI.out.1 HI.out.2.1 HI.out.2.2.1 HI.out.2.2.2 rfl (by decide) (.slice (some ⟨w.heap.size, 0, none⟩) 0 0) 0 [] rfl (World.ownsRow_made w #[] 0 (Nat.le_refl _) (by decide) rfl) w.heap.size A n c _ rfl (Reads.alloc HL.out.1.reads (Nat.le_refl _) _) HONE.out (by simp only [maxLen]; omega) (by omega) (by simp) ?_; intro v1 w1 hown1 hg1 hat1; have hBx := ((Below.refl w.heap.size w).alloc (Nat.le_refl _) (.cells #[] 112)).grown hg1 (by simp) (fun k hk => by simp [Value.ownBlock] at hk; omega); have hsx := hBx.size)
    | (at_builtin; refine wpList_append_any _ rfl (.tmp 9) (.tmp 15) _ rfl w.heap.size 112 i0 _ 2 16 Tryz.underlying75 HI.out.1 HI.out.2.1 HI.out.2.2.1 HI.out.2.2.2 rfl (by decide) v1 (0 + n) _ rfl (hown1.alloc _) _ (some ⟨w1.heap.size, 0, none⟩) 1 1 _ rfl (reads_two w1 2 x) (by intro u hu; simp at hu; rcases hu with rfl | rfl <;> rfl) (by simp only [maxLen]; omega) (by omega) (by simp; omega) ?_; intro v2 w2 hown2 hg2 hat2)
    | fail)
  have hB2 := (hBx.alloc hsx (.cells #[.int .i64 2, .int .i64 x] 112)).grown hg2 (Nat.le_trans hsx (by simp)) (fun k hk => (hown1.lt k hk).1); obtain ⟨A2, c2, rfl, hTR⟩ := TR.of_own (l := l ++ [(2, x)]) (n := 0 + n + 1) (by rw [List.flatMap_append]; simpa using hown2) (by rw [List.length_append, HX.out.2]; simp); have HS : Sl _ := ⟨And.intro (r4sign_any A2 (0 + n + 1) c2 (l ++ [(2, x)]) w2 hTR HL.out.2) hB2⟩; clear hTR hB2 hBx hown1 hown2 hg1 hg2 hat1 hat2; refine HS.out.1.mono ?_; rintro e w3 ⟨rfl, hb3⟩; go_wp2_with fail; go_ret; exact ⟨rfl, HS.out.2.trans (hb3.mono HS.out.2.size)⟩
end Go.Proofs.YtmcoadmnkelkkaaGreatDoor
namespace Go.Proofs.YtmcoadmnkelkkaaGreatDoor
set_option linter.unusedSimpArgs false
open Go.RowKit
set_option linter.unusedVariables false
set_option maxHeartbeats 3200000 in
set_option maxRecDepth 100000 in
theorem r4moved_any (v1 v2 : Value) (a1 a2 : Nat) (n : Int) (w : World) (h1 : LN w v1 a1) (h2 : LN w v2 a2) (hl1 : (C.limbs a1).length ≤ 40000) (hl2 : (C.limbs a2).length ≤ 40000) (hn : n ≤ 4000000000000000) :
    Calls Tryz.prog 92 #[.agg #[v1, v2], .int .i64 n] w fun e w' => (∃ r1 r2, e = .returned (.agg #[r1, r2]) ∧ LN w' r1 (a1 + n.toNat * 2 ^ 60) ∧ LN w' r2 (a2 + n.toNat * 2 ^ 60)) ∧ Below w.heap.size w w' := by
  obtain ⟨A1, n1, c1, rfl⟩ := h1.slice; obtain ⟨A2, n2, c2, rfl⟩ := h2.slice; have hu := ((Below.refl w.heap.size w).alloc (Nat.le_refl _) (.cells #[.slice A1 n1 c1, .slice A2 n2 c2] 115)).alloc (by simp) (.cells #[.slice none 0 0, .slice none 0 0] 115); have X0 := (Blk.new w 115 #[.slice A1 n1 c1, .slice A2 n2 c2]).alloc (.cells #[.slice none 0 0, .slice none 0 0] 115); have X1 := Blk.new (w.alloc (.cells #[.slice A1 n1 c1, .slice A2 n2 c2] 115)) 115 #[.slice none 0 0, .slice none 0 0]; rw [show (w.alloc (.cells #[.slice A1 n1 c1, .slice A2 n2 c2] 115)).heap.size = w.heap.size + 1 by simp] at X1; have HU : Sl _ := ⟨And.intro hu (And.intro X0 (And.intro X1 (And.intro (h1.below hu) (h2.below hu))))⟩; clear hu X0 X1 h1 h2; have hzz := pair_not_int (.slice none 0 0) (.slice none 0 0) ⟨none, 0, 0, rfl⟩ ⟨none, 0, 0, rfl⟩; have HZZ : Sl _ := ⟨hzz⟩; clear hzz; have hne : w.heap.size ≠ w.heap.size + 1 := (by omega); have hne2 : w.heap.size + 1 ≠ w.heap.size := (by omega)
  have HEND : Sl (∀ (W : World) (A B : Option Addr) (i j c d x y : Nat), Blk W (w.heap.size + 1) 115 #[.slice none 0 0, .slice none 0 0] → RowKit.Below w.heap.size w W → LN W (.slice A i c) x → LN W (.slice B j d) y →
      Blk ((W.setCell ⟨w.heap.size + 1, 0, none⟩ (.slice A i c)).setCell ⟨w.heap.size + 1, 1, none⟩ (.slice B j d)) (w.heap.size + 1) 115 #[.slice A i c, .slice B j d] ∧
      RowKit.Below w.heap.size w ((W.setCell ⟨w.heap.size + 1, 0, none⟩ (.slice A i c)).setCell ⟨w.heap.size + 1, 1, none⟩ (.slice B j d)) ∧
      LN ((W.setCell ⟨w.heap.size + 1, 0, none⟩ (.slice A i c)).setCell ⟨w.heap.size + 1, 1, none⟩ (.slice B j d)) (.slice A i c) x ∧ LN ((W.setCell ⟨w.heap.size + 1, 0, none⟩ (.slice A i c)).setCell ⟨w.heap.size + 1, 1, none⟩ (.slice B j d)) (.slice B j d) y) := ⟨fun W A B i j c d x y hb hw hx hy => by
    have hb1 := hb.set_ 0 (.slice A i c); have hz1 := pair_not_int (.slice A i c) (.slice none 0 0) ⟨_, _, _, rfl⟩ ⟨_, _, _, rfl⟩
    exact ⟨hb1.set_ 1 (.slice B j d), (hw.setCell (p := ⟨w.heap.size + 1, 0, none⟩) (Nat.le_succ _) _).setCell (p := ⟨w.heap.size + 1, 1, none⟩) (Nat.le_succ _) _, (hx.set hb HZZ.out 0 _).set hb1 hz1 1 _, (hy.set hb HZZ.out 0 _).set hb1 hz1 1 _⟩⟩
  rcases Int.lt_or_le 0 n with hpos | hpos
  · obtain ⟨k, rfl⟩ : ∃ k : Nat, n = k := ⟨n.toNat, by omega⟩; rw [Int.toNat_natCast]; have hlk : (C.limbs k).length ≤ 10 := C.len_pow (Nat.lt_of_lt_of_le (show k < 4000000000000001 by omega) (by decide)); have HL : Sl _ := ⟨fun W : World => r4limbs_any k W (by omega)⟩
    have hlk2 : (C.limbs (k * 2 ^ 60)).length ≤ 20 := by
      have h1 := C.len_mul k (2 ^ 60); have h2 : (C.limbs (2 ^ 60)).length ≤ 5 := C.len_pow (by decide); omega
    go_enter Tryz.func92, Tryz.ntmps92; go_wp2_with fail; generalize (w.alloc (.cells #[.slice A1 n1 c1, .slice A2 n2 c2] 115)).alloc (.cells #[.slice none 0 0, .slice none 0 0] 115) = w0 at *
    refine (HL.out w0).mono ?_; rintro e w1 ⟨⟨vk, rfl, hk⟩, hb1⟩; have G1 : Sl _ := ⟨And.intro (r4shift_ok vk k 60 w1 hk (by omega) (by decide)) (And.intro (HU.out.1.trans (hb1.mono HU.out.1.size)) (And.intro (HU.out.2.1.below hb1 HU.out.2.1.lt) (And.intro (HU.out.2.2.1.below hb1 HU.out.2.2.1.lt) (And.intro (HU.out.2.2.2.1.below hb1) (HU.out.2.2.2.2.below hb1)))))⟩; clear hk hb1 HU HL; go_wp2_with fail; refine G1.out.1.mono ?_; rintro e w2 ⟨⟨vx, rfl, hx⟩, hb2⟩; have G2 : Sl _ := ⟨And.intro hx (And.intro (G1.out.2.1.trans (hb2.mono G1.out.2.1.size)) (And.intro (G1.out.2.2.1.below hb2 G1.out.2.2.1.lt) (And.intro (G1.out.2.2.2.1.below hb2 G1.out.2.2.2.1.lt) (And.intro (G1.out.2.2.2.2.1.below hb2) (G1.out.2.2.2.2.2.below hb2)))))⟩; clear hx hb2 G1; have x0 := G2.out.2.2.1.cell 0; simp at x0; have HA1 : Sl _ := ⟨r4add_any (.slice A1 n1 c1) vx a1 (k * 2 ^ 60) w2 G2.out.2.2.2.2.1 G2.out.1 (by omega) (by omega)⟩; go_wp2_with fail; clear x0; refine HA1.out.mono ?_; rintro e w3 ⟨⟨r1, rfl, hr1⟩, hb3⟩; obtain ⟨B1, m1, d1, rfl⟩ := hr1.slice; have hP := G2.out.2.2.1.below hb3 G2.out.2.2.1.lt; have hp0 := pair_not_int (.slice A1 n1 c1) (.slice A2 n2 c2) ⟨_, _, _, rfl⟩ ⟨_, _, _, rfl⟩; have x0 := hP.cell 0; have f0 := hP.frozen 0; simp at x0; have G3 : Sl _ := ⟨And.intro ((G2.out.1.below hb3).set hP hp0 0 (.slice B1 m1 d1)) (And.intro ((G2.out.2.1.trans (hb3.mono G2.out.2.1.size)).setCell (p := ⟨w.heap.size, 0, none⟩) (Nat.le_refl _) (.slice B1 m1 d1)) (And.intro (hP.set_ 0 (.slice B1 m1 d1)) (And.intro ((G2.out.2.2.2.1.below hb3 G2.out.2.2.2.1.lt).far (p := ⟨w.heap.size, 0, none⟩) hne2 (.slice B1 m1 d1)) (And.intro (hr1.set hP hp0 0 (.slice B1 m1 d1)) ((G2.out.2.2.2.2.2.below hb3).set hP hp0 0 (.slice B1 m1 d1))))))⟩; clear hP hr1 hb3 G2 HA1 hp0
    go_upto_region 4 with (fail)
    generalize w3.setCell ⟨w.heap.size, 0, none⟩ (.slice B1 m1 d1) = w4 at *
    clear x0 f0; have x1 := G3.out.2.2.1.cell 1; simp at x1; have HA2 : Sl _ := ⟨r4add_any (.slice A2 n2 c2) vx a2 (k * 2 ^ 60) w4 G3.out.2.2.2.2.2 G3.out.1 (by omega) (by omega)⟩; go_wp2_with fail; clear x1; refine HA2.out.mono ?_; rintro e w5 ⟨⟨r2, rfl, hr2⟩, hb5⟩; obtain ⟨B2, m2, d2, rfl⟩ := hr2.slice; have hP : Blk w5 w.heap.size 115 #[.slice B1 m1 d1, .slice A2 n2 c2] := G3.out.2.2.1.below hb5 G3.out.2.2.1.lt; have hp0 := pair_not_int (.slice B1 m1 d1) (.slice A2 n2 c2) ⟨_, _, _, rfl⟩ ⟨_, _, _, rfl⟩; have x1 := hP.cell 1; have f1 := hP.frozen 1; simp at x1; have hP2 : Blk (w5.setCell ⟨w.heap.size, 1, none⟩ (.slice B2 m2 d2)) w.heap.size 115 #[.slice B1 m1 d1, .slice B2 m2 d2] := hP.set_ 1 (.slice B2 m2 d2); have G4 : Sl _ := ⟨And.intro hP2 (HEND.out (w5.setCell ⟨w.heap.size, 1, none⟩ (.slice B2 m2 d2)) B1 B2 m1 m2 d1 d2 _ _ ((G3.out.2.2.2.1.below hb5 G3.out.2.2.2.1.lt).far (p := ⟨w.heap.size, 1, none⟩) hne2 (.slice B2 m2 d2)) ((G3.out.2.1.trans (hb5.mono G3.out.2.1.size)).setCell (p := ⟨w.heap.size, 1, none⟩) (Nat.le_refl _) (.slice B2 m2 d2)) ((G3.out.2.2.2.2.1.below hb5).set hP hp0 1 (.slice B2 m2 d2)) (hr2.set hP hp0 1 (.slice B2 m2 d2)))⟩; have H1Z : Sl _ := ⟨(G3.out.2.2.2.1.below hb5 G3.out.2.2.2.1.lt).far (p := ⟨w.heap.size, 1, none⟩) hne2 (.slice B2 m2 d2)⟩; clear hP hP2 hr2 hb5 G3 HA2 hp0
    go_upto_region 5 with (fail)
    generalize w5.setCell ⟨w.heap.size, 1, none⟩ (.slice B2 m2 d2) = w6 at *
    clear x1 f1; have x0 := G4.out.1.cell 0; have x1 := G4.out.1.cell 1; have y0 := H1Z.out.cell 0; have y1 := H1Z.out.cell 1; simp at x0 x1 y0 y1; have f0 := H1Z.out.frozen 0; have f1 := H1Z.out.frozen 1; go_wp2_with fail; refine bodyPost_ret (results_cell1 rfl _ _ (w.heap.size + 1) _ _ _ rfl G4.out.2.1 Tryz.underlying115 rfl (by kernel_rfl)) rfl ?_; exact ⟨⟨_, _, rfl, G4.out.2.2.2.1, G4.out.2.2.2.2⟩, G4.out.2.2.1⟩
  · rw [show n.toNat = 0 by omega, Nat.zero_mul, Nat.add_zero, Nat.add_zero]; have hnp : ¬ 0 < n := (by omega); go_enter Tryz.func92, Tryz.ntmps92
    go_upto_region 1 with (fail)
    generalize (w.alloc (.cells #[.slice A1 n1 c1, .slice A2 n2 c2] 115)).alloc (.cells #[.slice none 0 0, .slice none 0 0] 115) = w0 at *
    have x0 := HU.out.2.1.cell 0; have x1 := HU.out.2.1.cell 1; have y0 := HU.out.2.2.1.cell 0; have y1 := HU.out.2.2.1.cell 1; simp at x0 x1 y0 y1; have f0 := HU.out.2.2.1.frozen 0; have f1 := HU.out.2.2.1.frozen 1; have G4 : Sl _ := ⟨HEND.out w0 A1 A2 n1 n2 c1 c2 a1 a2 HU.out.2.2.1 HU.out.1 HU.out.2.2.2.1 HU.out.2.2.2.2⟩; go_wp2_with fail; refine bodyPost_ret (results_cell1 rfl _ _ (w.heap.size + 1) _ _ _ rfl G4.out.1 Tryz.underlying115 rfl (by kernel_rfl)) rfl ?_; exact ⟨⟨_, _, rfl, G4.out.2.2.1, G4.out.2.2.2⟩, G4.out.2.1⟩
end Go.Proofs.YtmcoadmnkelkkaaGreatDoor
namespace Go.Proofs.YtmcoadmnkelkkaaGreatDoor
set_option linter.unusedSimpArgs false
open Go.RowKit
set_option linter.unusedVariables false
theorem scaled_snoc (l : List (Nat × Int)) (s : Int) (n : Nat) (k : Int) : scaled (l ++ [(n, k)]) s = scaled l s ++ [(n, k * s)] := by unfold scaled; rw [List.map_append]; rfl
theorem flat_snoc2 (l : List (Nat × Int)) (n : Nat) (k : Int) : ((l ++ [(n, k)]).flatMap fun x => [Value.int .i64 (x.1 : Int), Value.int .i64 x.2]) = (l.flatMap fun x => [Value.int .i64 (x.1 : Int), Value.int .i64 x.2]) ++ [.int .i64 (n : Int), .int .i64 k] := by rw [List.flatMap_append]; rfl
theorem lgr_two (P : Nat) : lgr 2 P = (2 ^ P, 2 ^ P) := by
  have h : Go.Lib.bitLen 2 - 1 = 1 := (by decide +kernel); unfold lgr; rw [h]; simp
theorem sumB_two (l : List (Nat × Int)) (x y : Int) (h : y = -x) : sumB (fun n => lgr n 60) (l ++ [(2, x)]) = (((sumB (fun n => lgr n 60) l).1.1 + x.toNat * 2 ^ 60, (sumB (fun n => lgr n 60) l).1.2 + x.toNat * 2 ^ 60), ((sumB (fun n => lgr n 60) l).2.1 + y.toNat * 2 ^ 60, (sumB (fun n => lgr n 60) l).2.2 + y.toNat * 2 ^ 60)) := by
  rw [sumB_snoc, lgr_two]; simp only []; subst h
  split
  · rename_i h0; rw [show (-x).toNat = 0 by omega, show x.toNat = x.natAbs by omega, Nat.zero_mul, Nat.add_zero, Nat.add_zero, Nat.mul_comm]
  · rename_i h0; rw [show (-x).toNat = x.natAbs by omega, show x.toNat = 0 by omega, Nat.zero_mul, Nat.add_zero, Nat.add_zero, Nat.mul_comm]
theorem half_between {a b : Int} (h : 1 < b - a) : a < (a + b).tdiv 2 ∧ (a + b).tdiv 2 < b := by
  rcases Int.lt_or_le (a + b) 0 with h0 | h0
  · have e : (a + b).tdiv 2 = -((-(a + b)) / 2) := by
      rw [show a + b = -(-(a + b)) by omega, Int.neg_tdiv, Int.tdiv_eq_ediv_of_nonneg (by omega)]; simp
    rw [e]; omega
  · rw [Int.tdiv_eq_ediv_of_nonneg h0]; omega
set_option maxHeartbeats 6400000 in
set_option maxRecDepth 100000 in
theorem r4Floor_any (A : Option Addr) (n c : Nat) (l : List (Nat × Int)) (den s : Int) (w : World) (hl : TR w A n l) (hok : okT l) (hd1 : 1 ≤ den) (hd2 : den ≤ 1000) (hs1 : 1 ≤ s) (hs2 : s ≤ 10000000)
    (h6 : ∀ m, -1000000000000 ≤ m → m ≤ 1000000000001 → ok6 (atM l s den m)) :
    Calls Tryz.prog 50 #[.slice A n c, .int .i64 den, .int .i64 s] w fun e w' => FloorRes l s den (fun m => sgn (atM l s den m)) e ∧ Below w.heap.size w w' := by
  have hn : n ≤ 16 := (by rw [← hl.1]; exact hok.1); have HV : Sl _ := ⟨r4valid_ok A n c l w hl hok⟩; have HL : Sl _ := ⟨And.intro hl (And.intro hok h6)⟩; clear hl hok h6; obtain ⟨i0, hi0, hz0, hz1, hz2⟩ := info_term; have HI : Sl _ := ⟨And.intro hi0 (And.intro hz0 (And.intro hz1 hz2))⟩; clear hi0 hz0 hz1 hz2; have t1 : ¬ den < 1 := (by omega); have t2 : ¬ 1000000 < den := (by omega); have t3 : ¬ s < 1 := (by omega); have t4 : ¬ 10000000 < s := (by omega); go_enter Tryz.func50, Tryz.ntmps50; go_wp2_with fail; refine HV.out.mono ?_; rintro e w1 ⟨rfl, rfl⟩; clear HV; go_wp2_with fail; clear t1 t2 t3 t4
  go_loopw [10, 11] (fun s10 s11 wr => ∃ (i : Nat) (v10 : Value), i ≤ n ∧ s11 = .int .i64 i ∧ v10 = s10 ∧ Sl (wr.ownsRow w.heap.size 112 2 v10 i ((scaled (l.take i) s).flatMap fun x => [.int .i64 (x.1 : Int), .int .i64 x.2]) ∧ Below w.heap.size w wr)) (fun _ s11 _ => n - (RowKit.intOf s11).toNat)
  case atStart => exact ⟨0, _, Nat.zero_le _, rfl, rfl, ⟨World.ownsRow_nil _ _ _ _, Below.refl _ _⟩⟩
  case round =>
    obtain ⟨i, v10, hi, rfl, rfl, HR⟩ := hrel
    by_cases hin : i < n
    · obtain ⟨⟨nn, kk⟩, hx⟩ : ∃ x, l[i]? = some x := ⟨_, List.getElem?_eq_getElem (by rw [HL.out.1.1]; exact hin)⟩; obtain ⟨ad, rfl, hab, e1, e2⟩ := (HL.out.1.below HR.out.2).cells hx
      have e3 : (ad.add (i * 2)).add 1 = ⟨(ad.add (i * 2)).block, (ad.add (i * 2)).off + 1, none⟩ := by
        generalize ad.add (i * 2) = a1; simp [Addr.add]
      rw [← add_of_add, e3] at e2; have hnn := HL.out.2.1.2 _ (List.mem_of_getElem? hx); simp only [] at hnn e1 e2
      have hks : (kk * s).natAbs ≤ 1000000000 * 10000000 := by
        rw [Int.natAbs_mul]; exact Nat.mul_le_mul (by omega) (by omega)
      obtain ⟨y, hy⟩ : ∃ y, kk * s = y := ⟨_, rfl⟩; rw [hy] at hks; have hwy : IntKind.i64.wrap y = y := (by rw [IntKind.wrap_i64]; omega); have HY : Sl _ := ⟨And.intro hx hy⟩; have HO : Sl (World.ownsRow ((wr.drewN 1).alloc (.cells #[.int .i64 (nn : Int), .int .i64 y] 112)) w.heap.size 112 2 v10 i ((scaled (l.take i) s).flatMap fun x => [.int .i64 (x.1 : Int), .int .i64 x.2])) := ⟨World.ownsRow.alloc (w := wr.drewN 1) HR.out.1 _⟩; have hB1 := (below_drewN HR.out.2 1).alloc HR.out.2.size (.cells #[.int .i64 (nn : Int), .int .i64 y] 112); have HB1 : Sl _ := ⟨hB1⟩; have HZ : Sl (w.heap.size ≤ ((wr.drewN 1).alloc (.cells #[.int .i64 (nn : Int), .int .i64 y] 112)).heap.size) := ⟨hB1.size⟩; clear hx e3 hnn hks hB1; go_wp2_with fail
      go_region_law (refine step_append_any _ rfl (.tmp 43) (.tmp 57) _ rfl w.heap.size 112 i0 _ 2 16 Tryz.underlying75 HI.out.1 HI.out.2.1 HI.out.2.2.1 HI.out.2.2.2 rfl (by decide) v10 i _ (by simp [Act.eval, Act.put]) HO.out _ (some ⟨wr.heap.size, 0, none⟩) 1 1 [.int .i64 (nn : Int), .int .i64 y] (by simp [Act.eval, Act.put]) (reads_two (wr.drewN 1) nn y) (by intro u hu; simp at hu; rcases hu with rfl | rfl <;> rfl) (by unfold maxLen; omega) (by omega) HZ.out ?_; intro v1 w3 hown1 hg1 hat1)
      all_goals (
        have hB3 := HB1.out.grown hg1 HZ.out (fun k hk => (HO.out.lt k hk).1); have HN : Sl _ := ⟨And.intro hown1 hB3⟩; clear hown1 hg1 hat1 hB3; go_wp2_with fail; refine ⟨⟨i + 1, _, hin, by go_num, rfl, ⟨?_, HN.out.2⟩⟩, by simp [RowKit.intOf]; try omega⟩; rw [show l.take (i + 1) = l.take i ++ [(nn, kk)] by rw [List.take_add_one, HY.out.1]; rfl, scaled_snoc, HY.out.2, flat_snoc2]
        exact HN.out.1)
    · obtain rfl : n = i := (by omega); have hR := HR.out; rw [List.take_of_length_le (by rw [HL.out.1.1]; exact Nat.le_refl _)] at hR; have hsl : (scaled l s).length = n := (by unfold scaled; rw [List.length_map]; exact HL.out.1.1); obtain ⟨A2, c2, rfl, hTR⟩ := TR.of_own hR.1 hsl; have hp0 : sgn (atM l s den 1000000000001) = sgn (scaled l s ++ [(2, -1000000000001 * den)]) := rfl; have HP : Sl _ := ⟨And.intro hTR (And.intro hR.2 hsl)⟩; have hn17 : n ≤ 16 := hn; have HEX : Sl (∀ (W : World) (m : Int), -1000000000000 ≤ m → m ≤ 1000000000001 → RowKit.Below wr.heap.size wr W → Calls Tryz.prog 89 #[.slice A2 n c2, .int .i64 m, .int .i64 den] W fun e w' => e = .returned (.int .i64 (sgn (atM l s den m))) ∧ Below W.heap.size W w') := ⟨fun W m k1 k2 hb => r4exponent_any A2 n c2 (scaled l s) m den W (HP.out.1.below hb) hn17 (by omega) (by omega) hd1 hd2 (HL.out.2.2 m k1 k2)⟩; clear hR hTR hsl HR hp0 hin hi; obtain ⟨sh, hsh⟩ : ∃ z, sgn (atM l s den 1000000000001) = z := ⟨_, rfl⟩; obtain ⟨sw, hsw⟩ : ∃ z, sgn (atM l s den (-1000000000000)) = z := ⟨_, rfl⟩; have HSS : Sl _ := ⟨And.intro hsh hsw⟩; have HX1 : Sl _ := ⟨HEX.out wr 1000000000001 (by decide) (by decide) (Below.refl _ _)⟩; rw [hsh] at HX1
      have HX2 : Sl (∀ W : World, RowKit.Below wr.heap.size wr W → Calls Tryz.prog 89 #[.slice A2 n c2, .int .i64 (-1000000000000), .int .i64 den] W fun e w' => e = .returned (.int .i64 sw) ∧ Below W.heap.size W w') := ⟨fun W hb => by
        have := HEX.out W (-1000000000000) (by decide) (by decide) hb; rw [hsw] at this
        exact this⟩
      clear hsh hsw
      by_cases hbad1 : 0 ≤ sh
      · have HFR : Sl (FloorRes l s den (fun m => sgn (atM l s den m)) (.returned (.tuple #[.int .i64 0, .bool false, .int .i64 7]))) := ⟨by
          unfold FloorRes; simp only []; rw [HSS.out.1, if_pos (.inl hbad1)]
          trivial⟩
        go_wp2_with fail; refine HX1.out.mono ?_; rintro e w2 ⟨rfl, hb2⟩; go_wp2_with fail
        go_ret3
        exact ⟨HFR.out, HP.out.2.1.trans (hb2.mono HP.out.2.1.size)⟩
      · by_cases hbad2 : sw < 0
        · have HFR : Sl (FloorRes l s den (fun m => sgn (atM l s den m)) (.returned (.tuple #[.int .i64 0, .bool false, .int .i64 7]))) := ⟨by
            unfold FloorRes; simp only []; rw [HSS.out.1, HSS.out.2, if_pos (.inr hbad2)]
            trivial⟩
          go_wp2_with fail; refine HX1.out.mono ?_; rintro e w2 ⟨rfl, hb2⟩; have HX3 : Sl _ := ⟨And.intro (HX2.out w2 hb2) (HP.out.2.1.trans (hb2.mono HP.out.2.1.size))⟩; clear hb2; go_wp2_with fail; refine HX3.out.1.mono ?_; rintro e w3 ⟨rfl, hb3⟩; go_wp2_with fail
          go_ret3
          exact ⟨HFR.out, HX3.out.2.trans (hb3.mono HX3.out.2.size)⟩
        · have HGO : Sl _ := ⟨And.intro hbad1 hbad2⟩; go_wp2_with fail; refine HX1.out.mono ?_; rintro e w2 ⟨rfl, hb2⟩; have HX3 : Sl _ := ⟨And.intro (HX2.out w2 hb2) hb2⟩; clear hb2; go_wp2_with fail; refine HX3.out.1.mono ?_; rintro e w3 ⟨rfl, hb3⟩; have hb13 := HX3.out.2.trans (hb3.mono HX3.out.2.size)
          have HSM : Sl _ := ⟨And.intro (r4sums_any A2 n c2 60 4 (scaled l s) w3 (HP.out.1.below hb13) (by omega) rfl (by decide) (fun x hx => by
            have h := (HL.out.2.2 0 (by decide) (by decide)).2 x (by unfold atM; exact List.mem_append_left _ hx)
            exact ⟨h.1, by have := h.2; omega⟩)) hb13⟩
          clear hb3 hb13 HX3 HX1 HX2; go_wp2_with fail; refine HSM.out.1.mono ?_; rintro e w4 ⟨⟨v1, v2, v3, v4, rfl, hF⟩, hb4⟩; obtain ⟨A3, n3, c3, rfl⟩ := hF.a.slice; obtain ⟨A4, n4, c4, rfl⟩ := hF.b.slice; obtain ⟨A5, n5, c5, rfl⟩ := hF.c.slice; obtain ⟨A6, n6, c6, rfl⟩ := hF.d.slice; have hb14 := HSM.out.2.trans (hb4.mono HSM.out.2.size); have X0 := (Blk.new w4 115 #[.slice A3 n3 c3, .slice A4 n4 c4]).alloc (.cells #[.slice A5 n5 c5, .slice A6 n6 c6] 115); have X1 := Blk.new (w4.alloc (.cells #[.slice A3 n3 c3, .slice A4 n4 c4] 115)) 115 #[.slice A5 n5 c5, .slice A6 n6 c6]; rw [show (w4.alloc (.cells #[.slice A3 n3 c3, .slice A4 n4 c4] 115)).heap.size = w4.heap.size + 1 by simp] at X1; have hal := ((Below.refl w4.heap.size w4).alloc (Nat.le_refl _) (.cells #[.slice A3 n3 c3, .slice A4 n4 c4] 115)).alloc (by simp) (.cells #[.slice A5 n5 c5, .slice A6 n6 c6] 115); have HW : Sl _ := ⟨And.intro X0 (And.intro X1 (And.intro (hF.below hal) (hb14.trans (hal.mono hb14.size))))⟩; clear X0 X1 hal hF hb4 hb14 HSM
          go_upto_region 14 with (fail)
          generalize (w4.alloc (.cells #[.slice A3 n3 c3, .slice A4 n4 c4] 115)).alloc (.cells #[.slice A5 n5 c5, .slice A6 n6 c6] 115) = w5 at *
          have hlen := sums_len (l := scaled l s) (P := 60) (by have := HP.out.2.2; omega) (by decide) (fun x hx => by
            have h := (HL.out.2.2 0 (by decide) (by decide)).2 x (by unfold atM; exact List.mem_append_left _ hx)
            exact ⟨h.1, by have := h.2; omega⟩)
          obtain ⟨S, hS⟩ : ∃ S, sumB (fun n => lgr n 60) (scaled l s) = S := ⟨_, rfl⟩; rw [hS] at hlen HW; have HSL : Sl _ := ⟨And.intro hS (And.intro (hlen _ (.inl rfl)) (And.intro (hlen _ (.inr (.inl rfl))) (And.intro (hlen _ (.inr (.inr (.inl rfl)))) (hlen _ (.inr (.inr (.inr rfl)))))))⟩; clear hS hlen; generalize w4.heap.size = g4 at *
          have HBX : Sl _ := ⟨HW.out.2.2.2⟩; have HBW : Sl _ := ⟨HP.out.2.1.trans (HW.out.2.2.2.mono HP.out.2.1.size)⟩; go_wp2_with fail
          go_loopw [14, 15] (fun s14 s15 wq => ∃ lo hi : Int, -1000000000000 ≤ lo ∧ lo < hi ∧ hi ≤ 1000000000001 ∧ s14 = .int .i64 lo ∧ s15 = .int .i64 hi ∧ Sl (0 ≤ sgn (atM l s den lo) ∧ sgn (atM l s den hi) < 0 ∧ RowKit.Below w5.heap.size w5 wq)) (fun s14 s15 _ => (RowKit.intOf s15 - RowKit.intOf s14).toNat)
          case atStart => exact ⟨_, _, by decide, by decide, by decide, rfl, rfl, ⟨by rw [HSS.out.2]; have := HGO.out.2; omega, by rw [HSS.out.1]; have := HGO.out.1; omega, Below.refl _ _⟩⟩
          case round =>
            obtain ⟨lo, hi, hl1, hl2, hl3, rfl, rfl, HQ⟩ := hrel; have hBQ := HBW.out.trans (HQ.out.2.2.mono HBW.out.size)
            by_cases hgap : 1 < hi - lo
            · obtain ⟨hm1, hm2⟩ := half_between hgap; obtain ⟨m, hm⟩ : ∃ m, (lo + hi).tdiv 2 = m := ⟨_, rfl⟩; rw [hm] at hm1 hm2; have hmb : -1000000000000 ≤ m ∧ m ≤ 1000000000001 := (by omega); obtain ⟨hmb1, hmb2⟩ := hmb
              have hab : (m * den).natAbs ≤ 1000000000001 * 1000 := by
                rw [Int.natAbs_mul]; exact Nat.mul_le_mul (by omega) (by omega)
              obtain ⟨y, hy⟩ : ∃ y, m * den = y := ⟨_, rfl⟩; obtain ⟨x, hx⟩ : ∃ x, -m * den = x := ⟨_, rfl⟩; have hyx : y = -x := (by rw [← hy, ← hx, Int.neg_mul, Int.neg_neg]); rw [hy] at hab; have hxb : -2000000000000000 ≤ x ∧ x ≤ 2000000000000000 := (by omega); have hyb : -2000000000000000 ≤ y ∧ y ≤ 2000000000000000 := (by omega); obtain ⟨hxb1, hxb2⟩ := hxb; obtain ⟨hyb1, hyb2⟩ := hyb; have hw1 : IntKind.i64.wrap (-m) = -m := (by rw [IntKind.wrap_i64]; omega); have hw2 : IntKind.i64.wrap x = x := (by rw [IntKind.wrap_i64]; omega); have hw3 : IntKind.i64.wrap y = y := (by rw [IntKind.wrap_i64]; omega); have hgs := sumB_two (scaled l s) x y hyx; rw [HSL.out.1] at hgs; have hatm : atM l s den m = scaled l s ++ [(2, x)] := (by unfold atM; rw [hx]); rw [← hatm] at hgs; have HG : Sl _ := ⟨hgs⟩
              have hpx : (C.limbs (x.toNat * 2 ^ 60)).length ≤ 20 := C.len_le_pow (E := 120) (by
                have : x.toNat < 2 ^ 60 := (by omega); have e : (2 : Nat) ^ 120 = 2 ^ 60 * 2 ^ 60 := (by decide)
                rw [e]; exact Nat.mul_lt_mul_of_pos_right this (by decide)) (by decide)
              clear hgs hatm hyx hab
              go_upto_region 17 with (fail)
              have HS : Sl (∀ w' : World, RowKit.Below w5.heap.size w5 w' → w'.cell? ⟨g4, 0, none⟩ = some (.slice A3 n3 c3) ∧ w'.cell? ⟨g4, 1, none⟩ = some (.slice A4 n4 c4) ∧ w'.cell? ⟨g4 + 1, 0, none⟩ = some (.slice A5 n5 c5) ∧ w'.cell? ⟨g4 + 1, 1, none⟩ = some (.slice A6 n6 c6)) := ⟨fun w' h => by
                have e1 := HW.out.1.below h HW.out.1.lt; have e2 := HW.out.2.1.below h HW.out.2.1.lt
                exact ⟨e1.cell 0, e1.cell 1, e2.cell 0, e2.cell 1⟩⟩
              have HMU : Sl _ := ⟨fun (W : World) (h : RowKit.Below w5.heap.size w5 W) => r4moved_any (.slice A3 n3 c3) (.slice A4 n4 c4) S.1.1 S.1.2 x W ((HW.out.2.2.1.below h).a) ((HW.out.2.2.1.below h).b) (by have := HSL.out.2.1; omega) (by have := HSL.out.2.2.1; omega) (by omega)⟩; have HMD : Sl _ := ⟨fun (W : World) (h : RowKit.Below w5.heap.size w5 W) => r4moved_any (.slice A5 n5 c5) (.slice A6 n6 c6) S.2.1 S.2.2 y W ((HW.out.2.2.1.below h).c) ((HW.out.2.2.1.below h).d) (by have := HSL.out.2.2.2.1; omega) (by have := HSL.out.2.2.2.2; omega) (by omega)⟩
              have hpy : (C.limbs (y.toNat * 2 ^ 60)).length ≤ 20 := C.len_le_pow (E := 120) (by
                have : y.toNat < 2 ^ 60 := (by omega); have e : (2 : Nat) ^ 120 = 2 ^ 60 * 2 ^ 60 := (by decide)
                rw [e]; exact Nat.mul_lt_mul_of_pos_right this (by decide)) (by decide)
              have hatl := sums_len (l := atM l s den m) (P := 60) (by have := (HL.out.2.2 m hmb1 hmb2).1; exact this) (by decide) (fun z hz => by
                have h := (HL.out.2.2 m hmb1 hmb2).2 z hz
                exact ⟨h.1, by have := h.2; omega⟩)
              obtain ⟨G, hG⟩ : ∃ G, sumB (fun n => lgr n 60) (atM l s den m) = G := ⟨_, rfl⟩; have hgG := HG.out; rw [hG] at hgG hatl; have HGL : Sl _ := ⟨And.intro (Nat.le_trans (hatl _ (.inl rfl)) (by decide : 100 ≤ 50000)) (And.intro (Nat.le_trans (hatl _ (.inr (.inl rfl))) (by decide : 100 ≤ 50000)) (And.intro (Nat.le_trans (hatl _ (.inr (.inr (.inl rfl)))) (by decide : 100 ≤ 50000)) (Nat.le_trans (hatl _ (.inr (.inr (.inr rfl)))) (by decide : 100 ≤ 50000))))⟩; have HORD : Sl (∀ (W : World) (a b c d : Value), LN W a (S.1.1 + x.toNat * 2 ^ 60) → LN W b (S.1.2 + x.toNat * 2 ^ 60) → LN W c (S.2.1 + y.toNat * 2 ^ 60) → LN W d (S.2.2 + y.toNat * 2 ^ 60) → Calls Tryz.prog 91 #[.agg #[a, b], .agg #[c, d]] W fun e w' => e = .returned (.int .i64 (ordS G)) ∧ RowKit.Below W.heap.size W w') := ⟨fun W a b c d ha hb hc hd => r4order_any a b c d G W (by rw [hgG]; exact ⟨ha, hb, hc, hd⟩) HGL.out⟩; have HGG : Sl _ := ⟨hG⟩; clear hpx hpy hatl hG hgG HG; have hs : RowKit.Below w5.heap.size w5 wr.drew := below_drewN HQ.out.2.2 1
              go_region_held3 (fun w' : World => w'.cell? ⟨g4, 0, none⟩ = some (.slice A3 n3 c3) ∧ w'.cell? ⟨g4, 1, none⟩ = some (.slice A4 n4 c4) ∧ w'.cell? ⟨g4 + 1, 0, none⟩ = some (.slice A5 n5 c5) ∧ w'.cell? ⟨g4 + 1, 1, none⟩ = some (.slice A6 n6 c6))
                (first | (refine HS.out _ ?_; assumption) | fail)
                (first
                  | (go_at_call 92; have hh := HMU.out _ hs; (with_reducible refine hh.mono ?_); rintro e wz ⟨⟨r1, r2, rfl, hu1, hu2⟩, hb⟩; (try have hd1 := hd1.below hb); (try have hd2 := hd2.below hb); have hs := hs.trans (hb.mono hs.size))
                  | (go_at_call 92; have hh := HMD.out _ hs; (with_reducible refine hh.mono ?_); rintro e wz ⟨⟨r3, r4, rfl, hd1, hd2⟩, hb⟩; (try have hu1 := hu1.below hb); (try have hu2 := hu2.below hb); have hs := hs.trans (hb.mono hs.size))
                  | (go_at_call 91; have hh := HORD.out _ _ _ _ _ hu1 hu2 hd1 hd2; (with_reducible refine hh.mono ?_); rintro e wz ⟨rfl, hb⟩; have hs := hs.trans (hb.mono hs.size))
                  | fail)
              all_goals (
                obtain ⟨sm, hsm⟩ : ∃ z, sgn (atM l s den m) = z := ⟨_, rfl⟩; have hos := ord_sound (l := atM l s den m) (fun z hz => ((HL.out.2.2 m hmb1 hmb2).2 z hz).1) 60; rw [HGG.out, hsm] at hos; have HSM2 : Sl _ := ⟨hsm⟩; have HHS : Sl _ := ⟨hs⟩; have HXM := HEX.out wz m hmb1 hmb2 ((HBX.out).trans (hs.mono HBX.out.size)); rw [hsm] at HXM; have HXS : Sl _ := ⟨HXM⟩; obtain ⟨kq, hkq⟩ : ∃ z, ordS G = z := ⟨_, rfl⟩; rw [hkq] at hos ⊢; clear hsm hs HXM hkq HS HMU HMD HORD HGL HGG hu1 hu2 hd1 hd2 hb hBQ
                by_cases hk0 : kq = 0
                · subst hk0; clear hos; go_wp2_with fail; refine HXS.out.mono ?_; rintro e wy ⟨rfl, hby⟩; have HY : Sl _ := ⟨HHS.out.trans (hby.mono HHS.out.size)⟩; clear hby HXS HHS
                  by_cases hge : 0 ≤ sm
                  · have HGE : Sl _ := ⟨hge⟩; go_wp2_with fail; exact ⟨⟨m, hi, hmb1, hm2, hl3, rfl, rfl, ⟨by rw [HSM2.out]; exact HGE.out, HQ.out.2.1, HY.out⟩⟩, by simp [RowKit.intOf]; omega⟩
                  · have HGE : Sl _ := ⟨hge⟩; go_wp2_with fail; exact ⟨⟨lo, m, hl1, hm1, hmb2, rfl, rfl, ⟨HQ.out.1, by rw [HSM2.out]; have := HGE.out; omega, HY.out⟩⟩, by simp [RowKit.intOf]; omega⟩
                · have hkz : (kq == 0) = false := (by rw [beq_eq_false_iff_ne]; exact hk0); obtain rfl : kq = sm := hos.1 hk0; clear hos hk0 HXS
                  by_cases hge : 0 ≤ kq
                  · have HGE : Sl _ := ⟨hge⟩; go_wp2_with fail; exact ⟨⟨m, hi, hmb1, hm2, hl3, rfl, rfl, ⟨by rw [HSM2.out]; exact HGE.out, HQ.out.2.1, HHS.out⟩⟩, by simp [RowKit.intOf]; omega⟩
                  · have HGE : Sl _ := ⟨hge⟩; go_wp2_with fail; exact ⟨⟨lo, m, hl1, hm1, hmb2, rfl, rfl, ⟨HQ.out.1, by rw [HSM2.out]; have := HGE.out; omega, HHS.out⟩⟩, by simp [RowKit.intOf]; omega⟩
)
            · have hhi : hi = lo + 1 := (by omega); subst hhi; obtain ⟨sl, hsl⟩ : ∃ z, sgn (atM l s den lo) = z := ⟨_, rfl⟩; have HXM := HEX.out wr lo (by omega) (by omega) ((HBX.out).trans (HQ.out.2.2.mono HBX.out.size)); rw [hsl] at HXM; have HXS : Sl _ := ⟨HXM⟩
              have HF : Sl (FloorRes l s den (fun m => sgn (atM l s den m)) (.returned (.tuple #[.int .i64 lo, .bool (decide (sl = 0)), .int .i64 0]))) := ⟨by
                unfold FloorRes; simp only []; rw [HSS.out.1, HSS.out.2, if_neg (by have := HGO.out.1; have := HGO.out.2; omega)]; refine ⟨lo, by omega, by omega, HQ.out.1, HQ.out.2.1, ?_⟩
                have : decide (sl = 0) = decide (up (atM l s den lo) = down (atM l s den lo)) := by
                  rw [← hsl]
                  by_cases h : up (atM l s den lo) = down (atM l s den lo)
                  · rw [sgn_one h, decide_eq_true h]; rfl
                  · rw [decide_eq_false h, decide_eq_false]; unfold sgn
                    split
                    · decide
                    · rw [if_pos (by omega)]; decide
                rw [this]⟩
              clear HXM hsl
              by_cases hz : sl = 0
              · subst hz; have HF2 : Sl _ := ⟨HF.out⟩; go_wp2_with fail; refine HXS.out.mono ?_; rintro e wy ⟨rfl, hby⟩; go_wp2_with fail
                go_ret3
                exact ⟨HF.out, hBQ.trans (hby.mono hBQ.size)⟩
              · have hzz : (sl == 0) = false := (by rw [beq_eq_false_iff_ne]; exact hz); rw [decide_eq_false hz] at HF; go_wp2_with fail; refine HXS.out.mono ?_; rintro e wy ⟨rfl, hby⟩; go_wp2_with fail
                go_ret3
                exact ⟨HF.out, hBQ.trans (hby.mono hBQ.size)⟩
end Go.Proofs.YtmcoadmnkelkkaaGreatDoor
