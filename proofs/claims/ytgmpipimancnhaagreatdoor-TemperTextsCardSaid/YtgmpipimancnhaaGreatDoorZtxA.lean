/- What the rows of the laws of package ratios need: their list of tables, a world for the witness, the last step, an argument that is a ratio. Parts began as the given page's toy and as the guide's post_of_below, which its page bids to copy. -/
import Derived.Test.YtgmpipimancnhaaGreatDoorCards
import Derived.Test.YtgmpipimancnhaaGreatDoorTie
import Derived.Test.YtgmpipimancnhaaGreatDoorRatI
import Derived.ProofKit
import Derived.OpenShut
import Derived.Deep.DeepHandedRow
import Derived.Lib.LaidTab
import Derived.Stop.LaidErr
import Derived.ChangeSame
import Derived.ChangeSlices
import Derived.Carry
import Derived.Lay
import Derived.ChangeMaps5
import Derived.Test.YtgmpipimancnhaaGreatDoorBase
import Derived.Test.YtgmpipimancnhaaGreatDoorMixG
import Derived.Test.YtgmpipimancnhaaGreatDoorRatH
import Derived.Deep.MidRow
import Derived.Deep.RegionHeld3
namespace Go.Proofs.YtgmpipimancnhaaGreatDoor
set_option linter.unusedSimpArgs false
open Go.ChangeShapes Go.WideShapes Go.ChangeAt Go.RowKit
set_option linter.unusedVariables false
section
variable {H : Type} {enc : TypeId × Value → H} {P : Program}
theorem post_of_below {f : Func} {s : ChangeSpec} {apart fresh handsOn again : Bool} {W W' : World} {args : Array Value} {v : Value} {ds gs : List (DataW H)} {before pa pv : List MemPlace}
    (hW : DataW.Whole enc P f.params.toList s.vars apart W args.toList ds gs before)
    (hres : ∀ (b : Nat) (sp : Nat → Bool) (hd : Bool), DataW.TrodAll enc P W' b sp hd f.resultTypes.toList (v.resultList f.resultTypes.size) (s.fn H (ds ++ gs)).results [])
    (hargs : ∀ sp : Nat → Bool, (∀ p ∈ before, sp p.block = true) → DataW.TrodAll enc P W' 0 sp true f.params.toList args.toList (s.fn H (ds ++ gs)).args pa)
    (hvars : ∀ sp : Nat → Bool, (∀ p ∈ before, sp p.block = true) → DataW.TrodVars enc P W' sp s.vars (s.fn H (ds ++ gs)).vars pv)
    (hps : before = pa ++ pv) (hb : Below W.heap.size W W')
    (hok : ∀ (j : Nat) (t : TypeId) (r : Value), f.resultTypes[j]? = some t → (v.resultList f.resultTypes.size)[j]? = some r → Value.okWide P W' .any 0 t r) :
    s.post enc P f apart fresh handsOn again W args v W' := by
  have hlt : ∀ p ∈ before, p.block < W.heap.size := fun p hp => hW.lt p hp
  have hold : ∀ p ∈ before, (fun b => decide (b < W.heap.size)) p.block = true := fun p hp => by simpa using hlt p hp
  refine ⟨ds, gs, before, [], pa, pv, hW, hres _ _ _, hargs _ hold, hvars _ hold, World.keptBut_mono (fun p hp => ⟨hp, ?_⟩) (hb.frame (· ∈ before)), fun _ => ?_⟩
  · rw [hps, List.mem_append] at hp; exact Or.inr hp
  · obtain ⟨_, _, _, _, _, hz, hn⟩ := hW; refine ⟨hok, _, _, ([] ++ pa) ++ pv, ⟨[] ++ pa, pv, trodAll_append (hargs _ (fun _ _ => rfl)) (hres _ _ _), hvars _ (fun _ _ => rfl), rfl, ?_, ?_⟩, ?_⟩
    · intro b off hp; have hin : MemPlace.cell b off ∈ before := (by rw [hps]; simpa using hp); rw [hb.frozen (hlt _ hin)]; exact hz b off hin
    · intro ha; have := hn ha; rw [hps] at this; simpa using this
    · intro p hp _; rw [hps]; simpa using hp
end
theorem ownK : ownKnob Tryz.prog.godebug = none := by kernel_rfl
theorem laidO : laidOutB Tryz.prog = true := by kernel_rfl
theorem tabR_eq : (Rows.laid_quintadena_ratios_primes : DataW Unit) = Lib.tabData .i64 [2, 3, 5, 7, 11, 13] := by kernel_rfl
theorem stays {H : Type} {enc : TypeId × Value → H} {t : TypeId} (hr : Tryz.prog.readableRec t = true) (hrow : t < Tryz.prog.types.size) {W W' : World} {v : Value} {d : DataW H} {ps : List MemPlace} (h : DataW.Trod enc Tryz.prog W 0 (fun _ => true) true t v d ps) (hb : Below W.heap.size W W') (hlt : ∀ x ∈ ps, x.block < W.heap.size) (sp : Nat → Bool) (hsp : ∀ x ∈ ps, sp x.block = true) :
    DataW.Trod enc Tryz.prog W' 0 sp true t v d ps := WideElems.Trod_stays laidO hr hrow h (fun x hx => hb.same (hlt x hx)) (fun x hx => hsp x hx)
end Go.Proofs.YtgmpipimancnhaaGreatDoor
namespace Go.Proofs.YtgmpipimancnhaaGreatDoor
set_option linter.unusedSimpArgs false
set_option linter.unusedVariables false
structure TV where
  nm : ByteArray
  syn : Bool
  wolf : Int
  num : Nat → Int
  den : Nat → Int
def TV.bad (t : TV) (i : Nat) : Prop := t.den i < 1 ∨ 24 < t.den i ∨ t.num i < -2 * t.den i ∨ 2 * t.den i < t.num i
def TV.low (t : TV) (i : Nat) : Prop := Nat.gcd (t.num i).natAbs (t.den i).natAbs = 1
def TV.all (t : TV) : Nat → Nat
  | 0 => 1
  | i+1 => if t.all i ≤ 120 then t.all i / Nat.gcd (t.all i) (t.den i).natAbs * (t.den i).natAbs else t.all i
open Classical in
noncomputable def TV.chk (nameS : ByteArray → Bool) (t : TV) : Int :=
  if t.wolf < 0 ∨ 11 < t.wolf then 2 else
  if ∃ i, i < 12 ∧ t.bad i then 2 else
  if nameS t.nm = false ∨ (∃ i, i < 12 ∧ ¬ t.low i) ∨ t.num t.wolf.toNat ≠ 0 then 6 else
  if 120 < t.all 12 then 7 else 0
theorem TV.chk_ok {N : ByteArray → Bool} {t : TV} (h : t.chk N = 0) : (0 ≤ t.wolf ∧ t.wolf ≤ 11) ∧ (∀ i, i < 12 → ¬ t.bad i) ∧ N t.nm = true ∧ (∀ i, i < 12 → t.low i) ∧ t.num t.wolf.toNat = 0 ∧ t.all 12 ≤ 120 := by
  unfold TV.chk at h
  split at h
  · exact absurd h (by decide)
  · rename_i h1
    split at h
    · exact absurd h (by decide)
    · rename_i h2
      split at h
      · exact absurd h (by decide)
      · rename_i h3
        split at h
        · exact absurd h (by decide)
        · rename_i h4; refine ⟨by omega, fun i hi hb => h2 ⟨i, hi, hb⟩, ?_, fun i hi => ?_, ?_, by omega⟩
          · cases hN : N t.nm
            · exact absurd (.inl hN) h3
            · rfl
          · exact Classical.byContradiction fun hn => h3 (.inr (.inl ⟨i, hi, hn⟩))
          · exact Classical.byContradiction fun hn => h3 (.inr (.inr hn))
theorem TV.all_pos {t : TV} (h : ∀ i, i < 12 → ¬ t.bad i) : ∀ i, i ≤ 12 → 0 < t.all i
  | 0, _ => Nat.one_pos
  | i+1, hi => by
    have ih := TV.all_pos h i (by omega); have hb := h i (by omega); have hd : 0 < (t.den i).natAbs := (by unfold TV.bad at hb; omega); rw [TV.all]
    split
    · exact Nat.mul_pos (Nat.div_pos (Nat.le_of_dvd ih (Nat.gcd_dvd_left _ _)) (Nat.gcd_pos_of_pos_left _ ih)) hd
    · exact ih
theorem TV.all_mono {t : TV} (h : ∀ i, i < 12 → ¬ t.bad i) {i : Nat} (hi : i < 12) : (120 < t.all i → 120 < t.all (i + 1)) ∧ (t.all i ≤ 120 → t.all i ∣ t.all (i + 1) ∧ (t.den i).natAbs ∣ t.all (i + 1)) := by
  have hp := TV.all_pos h i (by omega); rw [TV.all]; refine ⟨fun h1 => ?_, fun h1 => ?_⟩
  · rw [if_neg (by omega)]; exact h1
  · rw [if_pos h1]; refine ⟨?_, Nat.dvd_mul_left _ _⟩; obtain ⟨c, hc⟩ := Nat.gcd_dvd_right (t.all i) (t.den i).natAbs
    have h2 : t.all i / Nat.gcd (t.all i) (t.den i).natAbs * (t.den i).natAbs = t.all i * c := by
      conv => lhs; rhs; rw [hc]
      rw [← Nat.mul_assoc, Nat.div_mul_cancel (Nat.gcd_dvd_left _ _)]
    rw [h2]; exact Nat.dvd_mul_right _ _
theorem TV.all_dvd {t : TV} (h : ∀ i, i < 12 → ¬ t.bad i) : ∀ n, n ≤ 12 → t.all n ≤ 120 → ∀ i, i < n → (t.den i).natAbs ∣ t.all n
  | 0, _, _, i, hi => absurd hi (Nat.not_lt_zero _)
  | n+1, hn, h1, i, hi => by
    obtain ⟨m1, m2⟩ := TV.all_mono h (i := n) (by omega)
    have h2 : t.all n ≤ 120 := by
      rcases Nat.lt_or_ge 120 (t.all n) with g | g
      · exact absurd (m1 g) (by omega)
      · exact g
    obtain ⟨d1, d2⟩ := m2 h2; rcases Nat.lt_or_ge i n with g | g
    · exact Nat.dvd_trans (TV.all_dvd h n (by omega) h2 i g) d1
    · obtain rfl : i = n := (by omega); exact d2
def letB (b : UInt8) : Bool := (decide (65 ≤ b.toNat) && decide (b.toNat ≤ 90)) || (decide (97 ≤ b.toNat) && decide (b.toNat ≤ 122))
def okB (i : Nat) (b : UInt8) : Bool := letB b || (decide (i ≠ 0) && (decide (b.toNat = 95) || (decide (48 ≤ b.toNat) && decide (b.toNat ≤ 57))))
def nameS (s : ByteArray) : Bool := decide ((1 ≤ s.size ∧ s.size ≤ 16) ∧ ∀ i, (h : i < s.size) → okB i s[i] = true)
end Go.Proofs.YtgmpipimancnhaaGreatDoor
namespace Go.Proofs.YtgmpipimancnhaaGreatDoor
set_option linter.unusedSimpArgs false
open Go.RowKit
set_option linter.unusedVariables false
def letN (n : Nat) : Bool := (decide (65 ≤ n) && decide (n ≤ 90)) || (decide (97 ≤ n) && decide (n ≤ 122))
theorem or_let0 : ∀ n : Nat, n < 256 → (decide (97 ≤ bits BinOp.or IntKind.u8 (n : Int) 32) && decide (bits BinOp.or IntKind.u8 (n : Int) 32 ≤ 122)) = letN n := by decide +kernel
theorem or_let (b : UInt8) : (decide (97 ≤ bits BinOp.or IntKind.u8 (b.toNat : Int) 32) && decide (bits BinOp.or IntKind.u8 (b.toNat : Int) 32 ≤ 122)) = letB b := or_let0 b.toNat b.toNat_lt
theorem letter_any (b : UInt8) (w : World) : Calls Tryz.prog 42 #[.int .u8 (b.toNat : Int)] w fun e w' => e = .returned (.bool (letB b)) ∧ w' = w := by
  have HO : Sl _ := ⟨or_let b⟩; go_enter Tryz.func42, Tryz.ntmps42; go_wp2_with fail
  all_goals (go_ret; rw [← HO.out])
  · rename_i h; rw [decide_eq_true (p := 97 ≤ _) h, Bool.true_and]; exact ⟨rfl, rfl⟩
  · rename_i h; rw [decide_eq_false (p := 97 ≤ _) (by omega), Bool.false_and]; exact ⟨rfl, rfl⟩
theorem digit_any (b : UInt8) (w : World) : Calls Tryz.prog 43 #[.int .u8 (b.toNat : Int)] w fun e w' => e = .returned (.bool (decide (48 ≤ b.toNat) && decide (b.toNat ≤ 57))) ∧ w' = w := by
  by_cases h : 48 ≤ b.toNat
  · have hb : decide ((48 : Int) ≤ (b.toNat : Int)) = true := (by rw [decide_eq_true_iff]; omega); go_enter Tryz.func43, Tryz.ntmps43; go_wp2_with fail; go_ret; rw [decide_eq_true h, Bool.true_and]
    by_cases h2 : b.toNat ≤ 57
    · rw [decide_eq_true h2, decide_eq_true (by omega)]; exact ⟨rfl, rfl⟩
    · rw [decide_eq_false h2, decide_eq_false (by omega)]; exact ⟨rfl, rfl⟩
  · have hb : decide ((48 : Int) ≤ (b.toNat : Int)) = false := (by rw [decide_eq_false_iff_not]; omega); go_enter Tryz.func43, Tryz.ntmps43; go_wp2_with fail; go_ret; rw [decide_eq_false h, Bool.false_and]; exact ⟨rfl, rfl⟩
set_option maxHeartbeats 800000 in
theorem tgcd_any (a b : Nat) (w : World) (ha : a < 4000000000000000000) (hb : b < 4000000000000000000) :
    Calls Tryz.prog 24 #[.int .i64 a, .int .i64 b] w fun e w' => e = .returned (.int .i64 (Nat.gcd a b)) ∧ ∃ m, w' = w.drewN m := by
  go_enter Tryz.func24, Tryz.ntmps24; go_wp2_with fail
  go_loopw [0, 1] (fun s0 s1 wr => ∃ (x y : Nat), s0 = .int .i64 x ∧ s1 = .int .i64 y ∧ x < 4000000000000000000 ∧ y < 4000000000000000000 ∧ Sl (Nat.gcd x y = Nat.gcd a b ∧ ∃ m, wr = w.drewN m)) (fun _ s1 _ => (RowKit.intOf s1).toNat)
  case atStart => exact ⟨a, b, rfl, rfl, ha, hb, ⟨rfl, 0, rfl⟩⟩
  case round =>
    clear ha hb; obtain ⟨x, y, rfl, rfl, hx, hy, HG⟩ := hrel; rcases Nat.eq_zero_or_pos y with h0 | h0
    · subst h0; go_wp2_with fail; go_ret; obtain ⟨h1, m, h2⟩ := HG.out; rw [Nat.gcd_zero_right] at h1; exact ⟨by rw [← h1]; rfl, m, h2⟩
    · have hne : ((y : Int) == 0) = false := (by rw [beq_eq_false_iff_ne]; omega); have hmod : (x : Int).tmod (y : Int) = ((x % y : Nat) : Int) := (by rw [Int.tmod_eq_emod_of_nonneg (by omega)]; omega); have hlt : x % y < y := Nat.mod_lt _ h0; have HGN : Sl (Nat.gcd y (x % y) = Nat.gcd a b) := ⟨by rw [← HG.out.1, Nat.gcd_comm y, ← Nat.gcd_rec, Nat.gcd_comm]⟩; generalize x % y = r at *
      go_wp2_with fail
      go_quiet (fail)
      go_wp2_with fail; obtain ⟨m, hm⟩ := HG.out.2; refine ⟨⟨y, r, rfl, rfl, hy, by omega, ⟨HGN.out, m + nq, by rw [hm]; simp⟩⟩, by simp [RowKit.intOf]; omega⟩
set_option maxHeartbeats 800000 in
theorem r5gcd_any (a b : Nat) (w : World) (ha : a < 4000000000000000000) (hb : b < 4000000000000000000) :
    Calls Tryz.prog 31 #[.int .i64 a, .int .i64 b] w fun e w' => e = .returned (.int .i64 (Nat.gcd a b)) ∧ ∃ m, w' = w.drewN m := by
  go_enter Tryz.func31, Tryz.ntmps31; go_wp2_with fail
  go_loopw [0, 1] (fun s0 s1 wr => ∃ (x y : Nat), s0 = .int .i64 x ∧ s1 = .int .i64 y ∧ x < 4000000000000000000 ∧ y < 4000000000000000000 ∧ Sl (Nat.gcd x y = Nat.gcd a b ∧ ∃ m, wr = w.drewN m)) (fun _ s1 _ => (RowKit.intOf s1).toNat)
  case atStart => exact ⟨a, b, rfl, rfl, ha, hb, ⟨rfl, 0, rfl⟩⟩
  case round =>
    clear ha hb; obtain ⟨x, y, rfl, rfl, hx, hy, HG⟩ := hrel; rcases Nat.eq_zero_or_pos y with h0 | h0
    · subst h0; go_wp2_with fail; go_ret; obtain ⟨h1, m, h2⟩ := HG.out; rw [Nat.gcd_zero_right] at h1; exact ⟨by rw [← h1]; rfl, m, h2⟩
    · have hne : ((y : Int) == 0) = false := (by rw [beq_eq_false_iff_ne]; omega); have hmod : (x : Int).tmod (y : Int) = ((x % y : Nat) : Int) := (by rw [Int.tmod_eq_emod_of_nonneg (by omega)]; omega); have hlt : x % y < y := Nat.mod_lt _ h0; have HGN : Sl (Nat.gcd y (x % y) = Nat.gcd a b) := ⟨by rw [← HG.out.1, Nat.gcd_comm y, ← Nat.gcd_rec, Nat.gcd_comm]⟩; generalize x % y = r at *
      go_wp2_with fail
      go_quiet (fail)
      go_wp2_with fail; obtain ⟨m, hm⟩ := HG.out.2; refine ⟨⟨y, r, rfl, rfl, hy, by omega, ⟨HGN.out, m + nq, by rw [hm]; simp⟩⟩, by simp [RowKit.intOf]; omega⟩
theorem nameS_false {s : ByteArray} {k : Nat} (hk : k < s.size) (h : okB k s[k] = false) : nameS s = false := by
  unfold nameS; rw [decide_eq_false_iff_not]; rintro ⟨_, h2⟩; rw [h2 k hk] at h
  cases h
theorem nameS_size {s : ByteArray} (h : s.size < 1 ∨ 16 < s.size) : nameS s = false := by
  unfold nameS; rw [decide_eq_false_iff_not]; rintro ⟨h1, _⟩; omega
theorem nameS_true {s : ByteArray} (h : 1 ≤ s.size ∧ s.size ≤ 16) (h2 : ∀ i, (h : i < s.size) → okB i s[i] = true) : nameS s = true := by
  unfold nameS; rw [decide_eq_true_iff]; exact ⟨h, h2⟩
set_option maxHeartbeats 1600000 in
set_option maxRecDepth 100000 in
theorem name_any (s : ByteArray) (w : World) (hs : s.size ≤ maxLen) : Calls Tryz.prog 25 #[.string s] w fun e w' => e = .returned (.bool (nameS s)) ∧ Below w.heap.size w w' := by
  unfold maxLen at hs; go_enter Tryz.func25, Tryz.ntmps25; go_wp2_with fail
  go_loopw [7] (fun s7 wr => ∃ k : Nat, k ≤ s.size ∧ s7 = .int .i64 k ∧ Sl (∀ i, (h : i < s.size) → i < k → okB i s[i] = true) ∧ Below w.heap.size w wr) (fun s7 _ => s.size - (RowKit.intOf s7).toNat)
  case atStart => exact ⟨0, Nat.zero_le _, rfl, ⟨fun i _ h => absurd h (Nat.not_lt_zero _)⟩, Below.refl _ _⟩
  case round =>
    obtain ⟨k, hk, rfl, HV, hB⟩ := hrel
    by_cases hlt : k < s.size
    · have HL : Sl (∀ W : World, Calls Tryz.prog 42 #[.int .u8 (s[k].toNat : Int)] W fun e w' => e = .returned (.bool (letB s[k])) ∧ w' = W) := ⟨fun W => letter_any s[k] W⟩; have HD : Sl (∀ W : World, Calls Tryz.prog 43 #[.int .u8 (s[k].toNat : Int)] W fun e w' => e = .returned (.bool (decide (48 ≤ s[k].toNat) && decide (s[k].toNat ≤ 57))) ∧ w' = W) := ⟨fun W => digit_any s[k] W⟩; have hb8 : (s[k].toNat : Int) < 256 := (by have := s[k].toNat_lt; omega); have HOK : Sl (okB k s[k] = (letB s[k] || (decide (k ≠ 0) && (decide (s[k].toNat = 95) || (decide (48 ≤ s[k].toNat) && decide (s[k].toNat ≤ 57)))))) := ⟨rfl⟩
      have HNX : Sl (okB k s[k] = true → ∀ i, (h : i < s.size) → i < k + 1 → okB i s[i] = true) := ⟨fun h i hi h2 => by
        rcases Nat.lt_or_ge i k with g | g
        · exact HV.out i hi g
        · obtain rfl : i = k := (by omega)
          exact h⟩
      have HNF : Sl (okB k s[k] = false → nameS s = false) := ⟨fun h => nameS_false hlt h⟩; clear HV; generalize hL : letB s[k] = L at *
      generalize (decide (48 ≤ s[k].toNat) && decide (s[k].toNat ≤ 57)) = D at *
      clear hL; go_wp2_with fail; refine (HL.out _).mono ?_; rintro e w1 ⟨rfl, rfl⟩
      cases L
      · -- no letter
        by_cases h0 : k = 0
        · subst h0; have HF := HNF.out (by rw [HOK.out]; rfl); have HFS : Sl _ := ⟨HF⟩; clear HF HNF HNX HOK; go_wp2_with fail; go_ret; rw [HFS.out]; exact ⟨rfl, hB⟩
        · have hk0 : ((k : Int) == 0) = false := (by rw [beq_eq_false_iff_ne]; omega)
          by_cases h5 : s[k].toNat = 95
          · have hT := HNX.out (by rw [HOK.out, decide_eq_true h0, decide_eq_true h5]; rfl); have HT : Sl _ := ⟨hT⟩; have h95 : ((s[k].toNat : Int) != 95) = false := (by rw [bne_eq_false_iff_eq]; omega); clear hT HNF HNX HOK h5; go_wp2_with fail; exact ⟨⟨k + 1, hlt, by go_num, HT, hB⟩, by simp [RowKit.intOf]; try omega⟩
          · have h95 : ((s[k].toNat : Int) != 95) = true := (by rw [bne_iff_ne]; omega)
            cases D
            · have HF := HNF.out (by rw [HOK.out, decide_eq_false h5, Bool.or_false, Bool.and_false]; rfl); have HFS : Sl _ := ⟨HF⟩; clear HF HNF HNX HOK h5; go_wp2_with fail; refine (HD.out _).mono ?_; rintro e w1 ⟨rfl, rfl⟩; go_wp2_with fail; go_ret; rw [HFS.out]; exact ⟨rfl, hB⟩
            · have hT := HNX.out (by rw [HOK.out, decide_eq_true h0, Bool.or_true]; rfl); have HT : Sl _ := ⟨hT⟩; clear hT HNF HNX HOK h5; go_wp2_with fail; refine (HD.out _).mono ?_; rintro e w1 ⟨rfl, rfl⟩; go_wp2_with fail; exact ⟨⟨k + 1, hlt, by go_num, HT, hB⟩, by simp [RowKit.intOf]; try omega⟩
      · have hT := HNX.out (by rw [HOK.out]; rfl); have HT : Sl _ := ⟨hT⟩; clear hT HNF HNX HOK; go_wp2_with fail; exact ⟨⟨k + 1, hlt, by go_num, HT, hB⟩, by simp [RowKit.intOf]; try omega⟩
    · have hke : k = s.size := (by omega)
      by_cases h1 : 1 ≤ s.size
      · by_cases h2 : s.size ≤ 16
        · have HF : Sl (nameS s = true) := ⟨nameS_true ⟨h1, h2⟩ fun i hi => HV.out i hi (by omega)⟩; clear HV; have hd : decide ((s.size : Int) ≤ 16) = true := (by rw [decide_eq_true_iff]; omega); go_wp2_with fail; go_ret; rw [HF.out]; exact ⟨rfl, hB⟩
        · have HF : Sl (nameS s = false) := ⟨nameS_size (.inr (by omega))⟩; clear HV; have hd : decide ((s.size : Int) ≤ 16) = false := (by rw [decide_eq_false_iff_not]; omega); go_wp2_with fail; go_ret; rw [HF.out]; exact ⟨rfl, hB⟩
      · have HF : Sl (nameS s = false) := ⟨nameS_size (.inl (by omega))⟩; clear HV; go_wp2_with fail; go_ret; rw [HF.out]; exact ⟨rfl, hB⟩
theorem r1letter_any (b : UInt8) (w : World) : Calls Tryz.prog 47 #[.int .u8 (b.toNat : Int)] w fun e w' => e = .returned (.bool (letB b)) ∧ w' = w := by
  by_cases h1 : 97 ≤ b.toNat
  · have b1 : decide ((97 : Int) ≤ (b.toNat : Int)) = true := (by rw [decide_eq_true_iff]; omega)
    by_cases h2 : b.toNat ≤ 122
    · have b2 : decide ((b.toNat : Int) ≤ 122) = true := (by rw [decide_eq_true_iff]; omega); have HF : Sl (letB b = true) := ⟨by unfold letB; rw [decide_eq_true h1, decide_eq_true h2]; simp⟩; clear h1 h2; go_enter Tryz.func47, Tryz.ntmps47; go_wp2_with fail; go_ret; rw [HF.out]; exact ⟨rfl, rfl⟩
    · have b2 : decide ((b.toNat : Int) ≤ 122) = false := (by rw [decide_eq_false_iff_not]; omega); have b3 : decide ((65 : Int) ≤ (b.toNat : Int)) = true := (by rw [decide_eq_true_iff]; omega); have b4 : decide ((b.toNat : Int) ≤ 90) = false := (by rw [decide_eq_false_iff_not]; omega); have HF : Sl (letB b = false) := ⟨by unfold letB; rw [decide_eq_false h2, decide_eq_false (p := b.toNat ≤ 90) (by omega)]; simp⟩; clear h1 h2; go_enter Tryz.func47, Tryz.ntmps47; go_wp2_with fail; go_ret; rw [HF.out]; exact ⟨rfl, rfl⟩
  · have b1 : decide ((97 : Int) ≤ (b.toNat : Int)) = false := (by rw [decide_eq_false_iff_not]; omega)
    by_cases h3 : 65 ≤ b.toNat
    · have b3 : decide ((65 : Int) ≤ (b.toNat : Int)) = true := (by rw [decide_eq_true_iff]; omega)
      by_cases h4 : b.toNat ≤ 90
      · have b4 : decide ((b.toNat : Int) ≤ 90) = true := (by rw [decide_eq_true_iff]; omega); have HF : Sl (letB b = true) := ⟨by unfold letB; rw [decide_eq_true h3, decide_eq_true h4]; simp⟩; clear h1 h3 h4; go_enter Tryz.func47, Tryz.ntmps47; go_wp2_with fail; go_ret; rw [HF.out]; exact ⟨rfl, rfl⟩
      · have b4 : decide ((b.toNat : Int) ≤ 90) = false := (by rw [decide_eq_false_iff_not]; omega); have HF : Sl (letB b = false) := ⟨by unfold letB; rw [decide_eq_false h4, decide_eq_false h1]; simp⟩; clear h1 h3 h4; go_enter Tryz.func47, Tryz.ntmps47; go_wp2_with fail; go_ret; rw [HF.out]; exact ⟨rfl, rfl⟩
    · have b3 : decide ((65 : Int) ≤ (b.toNat : Int)) = false := (by rw [decide_eq_false_iff_not]; omega); have HF : Sl (letB b = false) := ⟨by unfold letB; rw [decide_eq_false h3, decide_eq_false h1]; simp⟩; clear h1 h3; go_enter Tryz.func47, Tryz.ntmps47; go_wp2_with fail; go_ret; rw [HF.out]; exact ⟨rfl, rfl⟩
theorem r1digit_any (b : UInt8) (w : World) : Calls Tryz.prog 48 #[.int .u8 (b.toNat : Int)] w fun e w' => e = .returned (.bool (decide (48 ≤ b.toNat) && decide (b.toNat ≤ 57))) ∧ w' = w := by
  by_cases h : 48 ≤ b.toNat
  · have hb : decide ((48 : Int) ≤ (b.toNat : Int)) = true := (by rw [decide_eq_true_iff]; omega); go_enter Tryz.func48, Tryz.ntmps48; go_wp2_with fail; go_ret; rw [decide_eq_true h, Bool.true_and]
    by_cases h2 : b.toNat ≤ 57
    · rw [decide_eq_true h2, decide_eq_true (by omega)]; exact ⟨rfl, rfl⟩
    · rw [decide_eq_false h2, decide_eq_false (by omega)]; exact ⟨rfl, rfl⟩
  · have hb : decide ((48 : Int) ≤ (b.toNat : Int)) = false := (by rw [decide_eq_false_iff_not]; omega); go_enter Tryz.func48, Tryz.ntmps48; go_wp2_with fail; go_ret; rw [decide_eq_false h, Bool.false_and]; exact ⟨rfl, rfl⟩
set_option maxHeartbeats 1600000 in
set_option maxRecDepth 100000 in
theorem r1name_any (s : ByteArray) (w : World) (hs : s.size ≤ maxLen) : Calls Tryz.prog 30 #[.string s] w fun e w' => e = .returned (.bool (nameS s)) ∧ Below w.heap.size w w' := by
  unfold maxLen at hs
  by_cases h1 : s.size < 1
  · have HF : Sl (nameS s = false) := ⟨nameS_size (.inl h1)⟩; go_enter Tryz.func30, Tryz.ntmps30; go_wp2_with fail; go_ret; rw [HF.out]; exact ⟨rfl, Below.refl _ _⟩
  by_cases h2 : 16 < s.size
  · have HF : Sl (nameS s = false) := ⟨nameS_size (.inr h2)⟩; go_enter Tryz.func30, Tryz.ntmps30; go_wp2_with fail; go_ret; rw [HF.out]; exact ⟨rfl, Below.refl _ _⟩
  have h0 : 0 < s.size := (by omega); have HL0 : Sl (∀ W : World, Calls Tryz.prog 47 #[.int .u8 (s[0].toNat : Int)] W fun e w' => e = .returned (.bool (letB s[0])) ∧ w' = W) := ⟨fun W => r1letter_any s[0] W⟩; have HOK0 : Sl (okB 0 s[0] = letB s[0]) := ⟨by unfold okB; simp⟩; have HF0 : Sl (okB 0 s[0] = false → nameS s = false) := ⟨fun h => nameS_false h0 h⟩; generalize hL : letB s[0] = L at *
  go_enter Tryz.func30, Tryz.ntmps30; go_wp2_with fail; refine (HL0.out _).mono ?_; rintro e w1 ⟨rfl, rfl⟩
  cases L
  · have HF : Sl _ := ⟨HF0.out HOK0.out⟩; clear HF0 HOK0 hL; go_wp2_with fail; go_ret; rw [HF.out]; exact ⟨rfl, Below.refl _ _⟩
  have HLT : Sl (letB s[0] = true) := ⟨hL⟩; clear hL HF0 HOK0 HL0; go_wp2_with fail
  go_loopw [3] (fun s3 wr => ∃ k : Nat, k ≤ s.size ∧ s3 = .int .i64 k ∧ Sl (∀ i, (h : i < s.size) → i < k → okB i s[i] = true) ∧ Below w1.heap.size w1 wr) (fun s3 _ => s.size - (RowKit.intOf s3).toNat)
  case atStart => exact ⟨0, Nat.zero_le _, rfl, ⟨fun i _ h => absurd h (Nat.not_lt_zero _)⟩, Below.refl _ _⟩
  case round =>
    obtain ⟨k, hk, rfl, HV, hB⟩ := hrel
    by_cases hlt : k < s.size
    · have HL : Sl (∀ W : World, Calls Tryz.prog 47 #[.int .u8 (s[k].toNat : Int)] W fun e w' => e = .returned (.bool (letB s[k])) ∧ w' = W) := ⟨fun W => r1letter_any s[k] W⟩; have HD : Sl (∀ W : World, Calls Tryz.prog 48 #[.int .u8 (s[k].toNat : Int)] W fun e w' => e = .returned (.bool (decide (48 ≤ s[k].toNat) && decide (s[k].toNat ≤ 57))) ∧ w' = W) := ⟨fun W => r1digit_any s[k] W⟩; have hb8 : (s[k].toNat : Int) < 256 := (by have := s[k].toNat_lt; omega); have HOK : Sl (okB k s[k] = (letB s[k] || (decide (k ≠ 0) && (decide (s[k].toNat = 95) || (decide (48 ≤ s[k].toNat) && decide (s[k].toNat ≤ 57)))))) := ⟨rfl⟩
      have HNX : Sl (okB k s[k] = true → ∀ i, (h : i < s.size) → i < k + 1 → okB i s[i] = true) := ⟨fun h i hi h2 => by
        rcases Nat.lt_or_ge i k with g | g
        · exact HV.out i hi g
        · obtain rfl : i = k := (by omega)
          exact h⟩
      have HNF : Sl (okB k s[k] = false → nameS s = false) := ⟨fun h => nameS_false hlt h⟩; have HK0 : Sl (letB s[k] = false → k ≠ 0) := ⟨fun h h2 => by subst h2; rw [HLT.out] at h; cases h⟩; clear HV; generalize hL : letB s[k] = L at *
      generalize (decide (48 ≤ s[k].toNat) && decide (s[k].toNat ≤ 57)) = D at *
      clear hL; go_wp2_with fail; refine (HL.out _).mono ?_; rintro e w2 ⟨rfl, rfl⟩
      cases L
      · have h0 := HK0.out rfl; clear HK0
        cases D
        · by_cases h5 : s[k].toNat = 95
          · have hT := HNX.out (by rw [HOK.out, decide_eq_true h0, decide_eq_true h5]; rfl); have HT : Sl _ := ⟨hT⟩; have h95 : ((s[k].toNat : Int) != 95) = false := (by rw [bne_eq_false_iff_eq]; omega); clear hT HNF HNX HOK h5; go_wp2_with fail; refine (HD.out _).mono ?_; rintro e w3 ⟨rfl, rfl⟩; go_wp2_with fail; exact ⟨⟨k + 1, hlt, by go_num, HT, hB⟩, by simp [RowKit.intOf]; try omega⟩
          · have h95 : ((s[k].toNat : Int) != 95) = true := (by rw [bne_iff_ne]; omega); have HF := HNF.out (by rw [HOK.out, decide_eq_false h5, Bool.or_false, Bool.and_false]; rfl); have HFS : Sl _ := ⟨HF⟩; clear HF HNF HNX HOK h5; go_wp2_with fail; refine (HD.out _).mono ?_; rintro e w3 ⟨rfl, rfl⟩; go_wp2_with fail; go_ret; rw [HFS.out]; exact ⟨rfl, hB⟩
        · have hT := HNX.out (by rw [HOK.out, decide_eq_true h0, Bool.or_true]; rfl); have HT : Sl _ := ⟨hT⟩; clear hT HNF HNX HOK; go_wp2_with fail; refine (HD.out _).mono ?_; rintro e w3 ⟨rfl, rfl⟩; go_wp2_with fail; exact ⟨⟨k + 1, hlt, by go_num, HT, hB⟩, by simp [RowKit.intOf]; try omega⟩
      · have hT := HNX.out (by rw [HOK.out]; rfl); have HT : Sl _ := ⟨hT⟩; clear hT HNF HNX HOK HK0; go_wp2_with fail; exact ⟨⟨k + 1, hlt, by go_num, HT, hB⟩, by simp [RowKit.intOf]; try omega⟩
    · have hke : k = s.size := (by omega); have HF : Sl (nameS s = true) := ⟨nameS_true ⟨by omega, by omega⟩ fun i hi => HV.out i hi (by omega)⟩; clear HV; go_wp2_with fail; go_ret; rw [HF.out]; exact ⟨rfl, hB⟩
end Go.Proofs.YtgmpipimancnhaaGreatDoor
namespace Go.Proofs.YtgmpipimancnhaaGreatDoor
set_option linter.unusedSimpArgs false
open Go.RowKit
set_option linter.unusedVariables false
def TV.parts (t : TV) : Array Value := #[.int .i64 (t.num 0), .int .i64 (t.den 0), .int .i64 (t.num 1), .int .i64 (t.den 1), .int .i64 (t.num 2), .int .i64 (t.den 2), .int .i64 (t.num 3), .int .i64 (t.den 3), .int .i64 (t.num 4), .int .i64 (t.den 4), .int .i64 (t.num 5), .int .i64 (t.den 5), .int .i64 (t.num 6), .int .i64 (t.den 6), .int .i64 (t.num 7), .int .i64 (t.den 7), .int .i64 (t.num 8), .int .i64 (t.den 8), .int .i64 (t.num 9), .int .i64 (t.den 9), .int .i64 (t.num 10), .int .i64 (t.den 10), .int .i64 (t.num 11), .int .i64 (t.den 11)]
def TV.cells (t : TV) : Array Value := #[.string t.nm, .bool t.syn, .int .i64 t.wolf, .int .i64 (t.num 0), .int .i64 (t.den 0), .int .i64 (t.num 1), .int .i64 (t.den 1), .int .i64 (t.num 2), .int .i64 (t.den 2), .int .i64 (t.num 3), .int .i64 (t.den 3), .int .i64 (t.num 4), .int .i64 (t.den 4), .int .i64 (t.num 5), .int .i64 (t.den 5), .int .i64 (t.num 6), .int .i64 (t.den 6), .int .i64 (t.num 7), .int .i64 (t.den 7), .int .i64 (t.num 8), .int .i64 (t.den 8), .int .i64 (t.num 9), .int .i64 (t.den 9), .int .i64 (t.num 10), .int .i64 (t.den 10), .int .i64 (t.num 11), .int .i64 (t.den 11)]
theorem TV.cells_size (t : TV) : t.cells.size = 27 := by kernel_rfl
theorem TV.cells_parts (t : TV) : t.cells.extract 3 (3 + 24) = t.parts := by kernel_rfl
theorem TV.cell0 (t : TV) : t.cells[0]? = some (.string t.nm) := by kernel_rfl
theorem TV.cell1 (t : TV) : t.cells[1]? = some (.bool t.syn) := by kernel_rfl
theorem TV.cell2 (t : TV) : t.cells[2]? = some (.int .i64 t.wolf) := by kernel_rfl
theorem twelve {k : Nat} (hk : k < 12) : k = 0 ∨ k = 1 ∨ k = 2 ∨ k = 3 ∨ k = 4 ∨ k = 5 ∨ k = 6 ∨ k = 7 ∨ k = 8 ∨ k = 9 ∨ k = 10 ∨ k = 11 := by omega
theorem idxT (t : TV) (W : World) {k : Nat} (hk : k < 12) : (Instr.index 24 (.agg t.parts) (.int .i64 (k : Int))).run Tryz.prog W = .ok (.agg #[.int .i64 (t.num k), .int .i64 (t.den k)]) W := by
  rcases twelve hk with rfl | rfl | rfl | rfl | rfl | rfl | rfl | rfl | rfl | rfl | rfl | rfl <;> kernel_rfl
theorem TV.cell_num (t : TV) {k : Nat} (hk : k < 12) : t.cells[3 + 2 * k]? = some (.int .i64 (t.num k)) := by
  rcases twelve hk with rfl | rfl | rfl | rfl | rfl | rfl | rfl | rfl | rfl | rfl | rfl | rfl <;> rfl
theorem TV.cell_den (t : TV) {k : Nat} (hk : k < 12) : t.cells[3 + 2 * k + 1]? = some (.int .i64 (t.den k)) := by
  rcases twelve hk with rfl | rfl | rfl | rfl | rfl | rfl | rfl | rfl | rfl | rfl | rfl | rfl <;> rfl
theorem Blk.loads {P : Program} {w : World} {g : Nat} {t : TypeId} {cs : Array Value} (h : Blk w g t cs) (o n : Nat) (hn : o + n ≤ cs.size) : (loadCellsFrom ⟨g, o, none⟩ 0 n #[]).run P w = .ok (cs.extract o (o + n)) w := by
  show (loadCells ⟨g, o, none⟩ n).run P w = _; have hl : (cs.extract o (o + n)).toList.length = n := (by simp; omega)
  have := run_loadCells_list (P := P) w ⟨g, o, none⟩ (cs.extract o (o + n)).toList (fun j v hv => by
    have hj : j < n := by
      rcases Nat.lt_or_ge j n with g | g
      · exact g
      · rw [List.getElem?_eq_none (by rw [hl]; exact g)] at hv; cases hv
    have hadd : (⟨g, o, none⟩ : Addr).add j = ⟨g, o + j, none⟩ := (by unfold Addr.add; split <;> simp_all); rw [hadd, h.cell (o + j)]; rw [Array.getElem?_toList, Array.getElem?_extract] at hv; rw [if_pos (by omega)] at hv
    exact hv)
  rw [hl] at this; rw [this]
theorem Blk.whole {P : Program} {w : World} {g : Nat} {t : TypeId} {cs : Array Value} (h : Blk w g t cs) {n : Nat} (hn : cs.size = n) : (loadCellsFrom ⟨g, 0, none⟩ 0 n #[]).run P w = .ok cs w := by
  have := h.loads (P := P) 0 n (by omega); rw [this, Nat.zero_add, ← hn, Array.extract_size]
theorem TV.chk_wolf {N : ByteArray → Bool} {t : TV} (h : t.wolf < 0 ∨ 11 < t.wolf) : t.chk N = 2 := by unfold TV.chk; rw [if_pos h]
theorem TV.chk_bad {N : ByteArray → Bool} {t : TV} {i : Nat} (hi : i < 12) (h : t.bad i) : t.chk N = 2 := by
  unfold TV.chk
  by_cases h0 : t.wolf < 0 ∨ 11 < t.wolf
  · rw [if_pos h0]
  · rw [if_neg h0, if_pos ⟨i, hi, h⟩]
def TV.lowB (t : TV) : Nat → Bool
  | 0 => true
  | i+1 => t.lowB i && (((Nat.gcd (t.num i).natAbs (t.den i).natAbs : Nat) : Int) == 1)
theorem TV.lowB_true (t : TV) : ∀ n, t.lowB n = true ↔ ∀ i, i < n → t.low i
  | 0 => ⟨fun _ i h => absurd h (Nat.not_lt_zero _), fun _ => rfl⟩
  | n+1 => by
    rw [TV.lowB, Bool.and_eq_true, TV.lowB_true t n, beq_iff_eq]; constructor
    · rintro ⟨h1, h2⟩ i hi; rcases Nat.lt_or_ge i n with g | g
      · exact h1 i g
      · obtain rfl : i = n := (by omega); unfold TV.low; omega
    · intro h; refine ⟨fun i hi => h i (by omega), ?_⟩; have := h n (by omega); unfold TV.low at this; omega
theorem TV.all_pos2 (t : TV) {k : Nat} (h : ∀ j, j < k → ¬ t.bad j) (hk : k < 12) : 1 ≤ t.all k ∧ t.all k ≤ 2880 := by
  have key : ∀ i, i ≤ k → 1 ≤ t.all i ∧ t.all i ≤ 2880 := by
    intro i
    induction i with
    | zero => intro _; rw [TV.all]; decide
    | succ i ih =>
      intro hi; have h1 := ih (by omega); have hb := h i (by omega); unfold TV.bad at hb; rw [TV.all]
      split
      · rename_i h2; have h3 : t.all i / Nat.gcd (t.all i) (t.den i).natAbs ≤ 120 := Nat.le_trans (Nat.div_le_self _ _) h2; have h4 : (t.den i).natAbs ≤ 24 := (by omega); exact ⟨Nat.mul_pos (Nat.div_pos (Nat.le_of_dvd h1.1 (Nat.gcd_dvd_left _ _)) (Nat.gcd_pos_of_pos_left _ h1.1)) (by omega), Nat.mul_le_mul h3 h4⟩
      · exact h1
  exact key k (Nat.le_refl _)
def TV.fin (nm low : Bool) (wn : Int) (all : Nat) : Int := if nm = false ∨ low = false ∨ wn ≠ 0 then 6 else if 120 < all then 7 else 0
theorem TV.chk_fin {N : ByteArray → Bool} {t : TV} (h1 : ¬ (t.wolf < 0 ∨ 11 < t.wolf)) (h2 : ∀ i, i < 12 → ¬ t.bad i) : t.chk N = TV.fin (N t.nm) (t.lowB 12) (t.num t.wolf.toNat) (t.all 12) := by
  unfold TV.chk TV.fin; rw [if_neg h1, if_neg (by rintro ⟨i, hi, hb⟩; exact h2 i hi hb)]
  have e : (∃ i, i < 12 ∧ ¬ t.low i) ↔ t.lowB 12 = false := by
    constructor
    · rintro ⟨i, hi, hn⟩
      cases hb : t.lowB 12
      · rfl
      · exact absurd ((TV.lowB_true t 12).1 hb i hi) hn
    · intro hb; refine Classical.byContradiction fun hn => ?_
      rw [(TV.lowB_true t 12).2 (fun i hi => Classical.byContradiction fun hl => hn ⟨i, hi, hl⟩)] at hb
      cases hb
  simp only [e]
theorem size_parts : (Tryz.prog.info? 24).map (·.size) = some 24 := by kernel_rfl
attribute [-simp] Tryz.isAgg24
set_option maxHeartbeats 3200000 in
set_option maxRecDepth 100000 in
theorem tcheck_any (t : TV) (w : World) (hs : t.nm.size ≤ maxLen) : Calls Tryz.prog 9 #[.agg t.cells] w fun e w' => e = .returned (.int .i64 (t.chk nameS)) ∧ Below w.heap.size w w' := by
  have hu := (Below.refl w.heap.size w).alloc (Nat.le_refl _) (.cells t.cells 26); have X0 := Blk.new w 26 t.cells; have HXP : Sl _ := ⟨fun (W : World) (k : Nat) (hk : k < 12) => idxT t W hk⟩; have HN : Sl (∀ W : World, Calls Tryz.prog 25 #[.string t.nm] W fun e w' => e = .returned (.bool (nameS t.nm)) ∧ Below W.heap.size W w') := ⟨fun W => name_any t.nm W hs⟩; have c0 := t.cell0; have c2 := t.cell2; have cn : ∀ k, k < 12 → t.cells[3 + 2 * k]? = some (.int .i64 (t.num k)) := fun k hk => t.cell_num hk
  have hrg : (w.alloc (.cells t.cells 26)).rangeAt w.heap.size 3 t.parts.toList := by
    have := World.rangeAt_of_block X0 3 24; rw [t.cells_parts] at this; exact this
  have hln : (Tryz.prog.info? 24).map (·.size) = some t.parts.toList.length := size_parts; generalize t.cells = cs at *
  generalize t.parts = P at *
  have HC : Sl _ := ⟨And.intro c0 (And.intro c2 cn)⟩; have HU : Sl _ := ⟨And.intro hu X0⟩; have HRG : Sl _ := ⟨And.intro hrg hln⟩; have c2 := HU.out.2.cell 2; rw [HC.out.2.1] at c2; clear hu X0 c0 hrg hln cn
  by_cases hwolf : t.wolf < 0 ∨ 11 < t.wolf
  · have HR : Sl (t.chk nameS = 2) := ⟨TV.chk_wolf hwolf⟩; rcases hwolf with h1 | h1
    · go_enter Tryz.func9, Tryz.ntmps9; go_wp2_with fail; go_ret; exact ⟨by rw [HR.out]; rfl, HU.out.1⟩
    · have h2 : ¬ t.wolf < 0 := (by omega); go_enter Tryz.func9, Tryz.ntmps9; go_wp2_with fail; go_ret; exact ⟨by rw [HR.out]; rfl, HU.out.1⟩
  have h1 : ¬ t.wolf < 0 := (by omega); have h2 : ¬ 11 < t.wolf := (by omega); have HW : Sl _ := ⟨And.intro h1 h2⟩; clear hwolf; go_enter Tryz.func9, Tryz.ntmps9; go_wp2_with (refine wpList_load_mid rfl 24 (.tmp 15) rfl w.heap.size 3 rfl P.toList _ HRG.out.1 Tryz.underlying24 rfl HRG.out.2 ?_); generalize w.alloc (.cells cs 26) = w0 at *
  clear c2 h1 h2
  go_loopw [3, 4, 17] (fun s3 s4 s17 wr => ∃ k : Nat, k ≤ 12 ∧ s17 = .int .i64 k ∧ s3 = .bool (t.lowB k) ∧ s4 = .int .i64 (t.all k : Nat) ∧ Sl (Below w.heap.size w wr ∧ Below w0.heap.size w0 wr ∧ ∀ j, j < k → ¬ t.bad j)) (fun _ _ s17 _ => 12 - (RowKit.intOf s17).toNat)
  case atStart => exact ⟨0, by decide, rfl, rfl, rfl, ⟨HU.out.1, Below.refl _ _, fun j hj => absurd hj (Nat.not_lt_zero _)⟩⟩
  case round =>
    obtain ⟨k, hk, rfl, rfl, rfl, HR⟩ := hrel
    by_cases hk12 : k < 12
    · have hix := fun W : World => HXP.out W k hk12
      obtain ⟨n, hn⟩ : ∃ n, t.num k = n := ⟨_, rfl⟩; obtain ⟨d, hd⟩ : ∃ d, t.den k = d := ⟨_, rfl⟩; rw [hn, hd] at hix; have hbd : t.bad k ↔ (d < 1 ∨ 24 < d ∨ n < -2 * d ∨ 2 * d < n) := (by unfold TV.bad; rw [hn, hd])
      by_cases hb : t.bad k
      · have HRS : Sl (t.chk nameS = 2) := ⟨TV.chk_bad hk12 hb⟩; have hb' := hbd.1 hb; clear hb hbd HXP hn hd
        by_cases b1 : d < 1
        · clear hb'; go_wp2_with fail; go_ret; exact ⟨by rw [HRS.out]; rfl, (HR.out.1.alloc (HR.out.1.size) _)⟩
        · by_cases b2 : 24 < d
          · clear hb'; go_wp2_with fail; go_ret; exact ⟨by rw [HRS.out]; rfl, (HR.out.1.alloc (HR.out.1.size) _)⟩
          · have q1 : ¬ 24 < d := b2
            by_cases b3 : n < -2 * d
            · clear hb'; go_wp2_with fail; go_ret; exact ⟨by rw [HRS.out]; rfl, (HR.out.1.alloc (HR.out.1.size) _)⟩
            · have b4 : 2 * d < n := (by omega); clear hb'; go_wp2_with fail; go_ret; exact ⟨by rw [HRS.out]; rfl, (HR.out.1.alloc (HR.out.1.size) _)⟩
      · have hr : 1 ≤ d ∧ d ≤ 24 ∧ -2 * d ≤ n ∧ n ≤ 2 * d := (by have := (not_congr hbd).1 hb; omega); obtain ⟨r1, r2, r3, r4⟩ := hr; have hap := t.all_pos2 HR.out.2.2 hk12; obtain ⟨a, hae⟩ : ∃ a, t.all k = a := ⟨_, rfl⟩; obtain ⟨a', hae'⟩ : ∃ a', t.all (k + 1) = a' := ⟨_, rfl⟩; obtain ⟨L, hL⟩ : ∃ L, t.lowB k = L := ⟨_, rfl⟩; obtain ⟨g, hg⟩ : ∃ g, Nat.gcd n.natAbs d.natAbs = g := ⟨_, rfl⟩; obtain ⟨g2, hg2⟩ : ∃ g2, Nat.gcd a d.natAbs = g2 := ⟨_, rfl⟩; have hL' : t.lowB (k + 1) = (L && ((g : Int) == 1)) := (by rw [TV.lowB, hL, hn, hd, hg]); have ha' : a' = if a ≤ 120 then a / g2 * d.natAbs else a := (by rw [← hae', TV.all, hae, hd, hg2])
        have hg2p : 1 ≤ g2 ∧ g2 ≤ 24 := by
          rw [← hg2]; exact ⟨Nat.gcd_pos_of_pos_right _ (by omega), Nat.le_trans (Nat.gcd_le_right _ (by omega)) (by omega)⟩
        have ha2 : 1 ≤ a ∧ a ≤ 2880 := (by rw [← hae]; exact hap); have HK : Sl _ := ⟨And.intro hL' (And.intro hae' ha')⟩
        have HNB : Sl (∀ j, j < k + 1 → ¬ t.bad j) := ⟨fun j hj => by
          rcases Nat.lt_or_ge j k with h | h
          · exact HR.out.2.2 j h
          · obtain rfl : j = k := (by omega)
            exact hb⟩
        have HRB := HR.out.1.alloc HR.out.1.size (.cells #[.int .i64 n, .int .i64 d] 23); have HRB2 := HR.out.2.1.alloc HR.out.2.1.size (.cells #[.int .i64 n, .int .i64 d] 23); have HRR : Sl _ := ⟨And.intro HRB HRB2⟩; rw [hL, hae]; clear hL hae hL' hae' ha' hbd hb hn hd HXP HRB HRB2 hap HR; have b1 : decide (d < 1) = false := (by rw [decide_eq_false_iff_not]; omega); have b2 : decide (24 < d) = false := (by rw [decide_eq_false_iff_not]; omega); have b3 : decide (n < -2 * d) = false := (by rw [decide_eq_false_iff_not]; omega); have b4 : decide (2 * d < n) = false := (by rw [decide_eq_false_iff_not]; omega); have hcd : (wr.alloc (.cells #[.int .i64 n, .int .i64 d] 23)).cell? ⟨wr.heap.size, 1, none⟩ = some (.int .i64 d) := (Blk.new wr 23 #[.int .i64 n, .int .i64 d]).cell 1; have hcn : (wr.alloc (.cells #[.int .i64 n, .int .i64 d] 23)).cell? ⟨wr.heap.size, 0, none⟩ = some (.int .i64 n) := (Blk.new wr 23 #[.int .i64 n, .int .i64 d]).cell 0; have HHC : Sl _ := ⟨And.intro hcd hcn⟩; clear hcd hcn; have HG2 : Sl _ := ⟨And.intro hg hg2⟩; clear hg hg2
        cases L
        · have HL : Sl (t.lowB (k + 1) = false) := ⟨by rw [HK.out.1]; rfl⟩
          by_cases ha : a ≤ 120
          · have had : decide ((a : Int) ≤ 120) = true := (by rw [decide_eq_true_iff]; omega); have hdv : (a : Int).tdiv (g2 : Int) = ((a / g2 : Nat) : Int) := (by rw [Int.tdiv_eq_ediv_of_nonneg (by omega)]; exact (Int.natCast_ediv a g2).symm); have hq : a / g2 ≤ a := Nat.div_le_self _ _; have HMU : Sl (((a / g2 : Nat) : Int) * d = (a' : Int)) := ⟨by rw [HK.out.2.2, if_pos ha, Int.natCast_mul, show ((d.natAbs : Nat) : Int) = d by omega]⟩
            have VA : Sl (∀ (W : World) q, Calls Tryz.prog 24 #[.int .i64 a, .int .i64 d] (W.drewN q) fun e w'' => e = .returned (.int .i64 g2) ∧ ∃ m, w'' = W.drewN m) := ⟨fun W q => by
              have h := tgcd_any a d.natAbs (W.drewN q) (by omega) (by omega); rw [HG2.out.2, show ((d.natAbs : Nat) : Int) = d by omega] at h
              exact h.mono fun e w'' h => ⟨h.1, by obtain ⟨m, hm⟩ := h.2; exact ⟨q + m, by rw [hm, drew2]⟩⟩⟩
            have hdv2 : (a : Int) / (g2 : Int) = ((a / g2 : Nat) : Int) := (Int.natCast_ediv a g2).symm; have hg01 : ¬ (g2 : Int) = 0 := (by omega); have hg00 : ¬ g2 = 0 := (by omega); have hg0b : ((g2 : Int) == 0) = false := (by rw [beq_eq_false_iff_ne]; omega); generalize a / g2 = q2 at *
            have hmb : 0 ≤ (q2 : Int) * d ∧ (q2 : Int) * d ≤ 69120 := by
              have l1 := Int.mul_le_mul (show (q2 : Int) ≤ 2880 by omega) r2 (by omega) (by decide); exact ⟨Int.mul_nonneg (by omega) (by omega), by omega⟩
            obtain ⟨hmb1, hmb2⟩ := hmb; clear ha hg2p; go_wp2_with fail; have hcd : (wr.alloc (.cells #[.int .i64 n, .int .i64 d] 23)).cell? ⟨wr.heap.size, 1, none⟩ = some (.int .i64 d) := HHC.out.1; have HRW : Sl (Below w.heap.size w (wr.alloc (.cells #[.int .i64 n, .int .i64 d] 23)) ∧ Below w0.heap.size w0 (wr.alloc (.cells #[.int .i64 n, .int .i64 d] 23))) := ⟨⟨HRR.out.1, HRR.out.2⟩⟩; generalize wr.alloc (.cells #[.int .i64 n, .int .i64 d] 23) = wp at *
            go_quiet ((go_at_call 24; (with_reducible exact VA.out _ _)))
            go_wp2_with fail; refine ⟨⟨k + 1, hk12, by go_num, by rw [HL.out], ret_val (by rw [HMU.out, HK.out.2.1]), ⟨below_drewN HRW.out.1 _, below_drewN HRW.out.2 _, HNB.out⟩⟩, by simp [RowKit.intOf]; omega⟩
          · have had : decide ((a : Int) ≤ 120) = false := (by rw [decide_eq_false_iff_not]; omega); have HAE : Sl (a = a') := ⟨by rw [HK.out.2.2, if_neg ha]⟩; clear ha; go_wp2_with fail; refine ⟨⟨k + 1, hk12, by go_num, by rw [HL.out], ret_val (by rw [HAE.out, HK.out.2.1]), ⟨HRR.out.1,  HRR.out.2, HNB.out⟩⟩, by simp [RowKit.intOf]; omega⟩
        · have HL : Sl (t.lowB (k + 1) = ((g : Int) == 1)) := ⟨by rw [HK.out.1, Bool.true_and]⟩; have hwz : IntKind.i64.wrap (-n) = -n := (by rw [IntKind.wrap_i64]; omega)
          by_cases h0 : 0 ≤ n
          · have hm1 : max n (-n) = n := (by omega); have hm2 : ¬ n < -n := (by omega); have hm3 : -n ≤ n := (by omega)
            have HG : Sl (∀ W : World, Calls Tryz.prog 24 #[.int .i64 n, .int .i64 d] W fun e w' => e = .returned (.int .i64 g) ∧ ∃ m, w' = W.drewN m) := ⟨fun W => by
              have h := tgcd_any n.natAbs d.natAbs W (by omega) (by omega); rw [HG2.out.1, show ((d.natAbs : Nat) : Int) = d by omega, show ((n.natAbs : Nat) : Int) = n by omega] at h
              exact h⟩
            by_cases ha : a ≤ 120
            · have had : decide ((a : Int) ≤ 120) = true := (by rw [decide_eq_true_iff]; omega); have hdv : (a : Int).tdiv (g2 : Int) = ((a / g2 : Nat) : Int) := (by rw [Int.tdiv_eq_ediv_of_nonneg (by omega)]; exact (Int.natCast_ediv a g2).symm); have hq : a / g2 ≤ a := Nat.div_le_self _ _; have HMU : Sl (((a / g2 : Nat) : Int) * d = (a' : Int)) := ⟨by rw [HK.out.2.2, if_pos ha, Int.natCast_mul, show ((d.natAbs : Nat) : Int) = d by omega]⟩
              have VA : Sl (∀ (W : World) q, Calls Tryz.prog 24 #[.int .i64 a, .int .i64 d] (W.drewN q) fun e w'' => e = .returned (.int .i64 g2) ∧ ∃ m, w'' = W.drewN m) := ⟨fun W q => by
                have h := tgcd_any a d.natAbs (W.drewN q) (by omega) (by omega); rw [HG2.out.2, show ((d.natAbs : Nat) : Int) = d by omega] at h
                exact h.mono fun e w'' h => ⟨h.1, by obtain ⟨m, hm⟩ := h.2; exact ⟨q + m, by rw [hm, drew2]⟩⟩⟩
              have hdv2 : (a : Int) / (g2 : Int) = ((a / g2 : Nat) : Int) := (Int.natCast_ediv a g2).symm; have hg01 : ¬ (g2 : Int) = 0 := (by omega); have hg00 : ¬ g2 = 0 := (by omega); have hg0b : ((g2 : Int) == 0) = false := (by rw [beq_eq_false_iff_ne]; omega); generalize a / g2 = q2 at *
              have hmb : 0 ≤ (q2 : Int) * d ∧ (q2 : Int) * d ≤ 69120 := by
                have l1 := Int.mul_le_mul (show (q2 : Int) ≤ 2880 by omega) r2 (by omega) (by decide); exact ⟨Int.mul_nonneg (by omega) (by omega), by omega⟩
              obtain ⟨hmb1, hmb2⟩ := hmb; clear ha hg2p; go_wp2_with fail; refine (HG.out _).mono ?_; rintro e w1 ⟨rfl, dn, rfl⟩; go_wp2_with fail; have hcd : ((wr.alloc (.cells #[.int .i64 n, .int .i64 d] 23)).drewN dn).cell? ⟨wr.heap.size, 1, none⟩ = some (.int .i64 d) := HHC.out.1; have HRW : Sl (Below w.heap.size w ((wr.alloc (.cells #[.int .i64 n, .int .i64 d] 23)).drewN dn) ∧ Below w0.heap.size w0 ((wr.alloc (.cells #[.int .i64 n, .int .i64 d] 23)).drewN dn)) := ⟨⟨below_drewN HRR.out.1 dn, below_drewN HRR.out.2 dn⟩⟩; generalize (wr.alloc (.cells #[.int .i64 n, .int .i64 d] 23)).drewN dn = wp at *
              go_quiet ((go_at_call 24; (with_reducible exact VA.out _ _)))
              go_wp2_with fail; refine ⟨⟨k + 1, hk12, by go_num, by rw [HL.out], ret_val (by rw [HMU.out, HK.out.2.1]), ⟨below_drewN HRW.out.1 _, below_drewN HRW.out.2 _, HNB.out⟩⟩, by simp [RowKit.intOf]; omega⟩
            · have had : decide ((a : Int) ≤ 120) = false := (by rw [decide_eq_false_iff_not]; omega); have HAE : Sl (a = a') := ⟨by rw [HK.out.2.2, if_neg ha]⟩; clear ha; go_wp2_with fail; refine (HG.out _).mono ?_; rintro e w1 ⟨rfl, dn, rfl⟩; go_wp2_with fail; refine ⟨⟨k + 1, hk12, by go_num, by rw [HL.out], ret_val (by rw [HAE.out, HK.out.2.1]), ⟨below_drewN HRR.out.1 dn,  below_drewN HRR.out.2 dn, HNB.out⟩⟩, by simp [RowKit.intOf]; omega⟩
          · have hm1 : max n (-n) = -n := (by omega); have hm3 : n < -n := (by omega)
            have HG : Sl (∀ W : World, Calls Tryz.prog 24 #[.int .i64 (-n), .int .i64 d] W fun e w' => e = .returned (.int .i64 g) ∧ ∃ m, w' = W.drewN m) := ⟨fun W => by
              have h := tgcd_any n.natAbs d.natAbs W (by omega) (by omega); rw [HG2.out.1, show ((d.natAbs : Nat) : Int) = d by omega, show ((n.natAbs : Nat) : Int) = -n by omega] at h
              exact h⟩
            by_cases ha : a ≤ 120
            · have had : decide ((a : Int) ≤ 120) = true := (by rw [decide_eq_true_iff]; omega); have hdv : (a : Int).tdiv (g2 : Int) = ((a / g2 : Nat) : Int) := (by rw [Int.tdiv_eq_ediv_of_nonneg (by omega)]; exact (Int.natCast_ediv a g2).symm); have hq : a / g2 ≤ a := Nat.div_le_self _ _; have HMU : Sl (((a / g2 : Nat) : Int) * d = (a' : Int)) := ⟨by rw [HK.out.2.2, if_pos ha, Int.natCast_mul, show ((d.natAbs : Nat) : Int) = d by omega]⟩
              have VA : Sl (∀ (W : World) q, Calls Tryz.prog 24 #[.int .i64 a, .int .i64 d] (W.drewN q) fun e w'' => e = .returned (.int .i64 g2) ∧ ∃ m, w'' = W.drewN m) := ⟨fun W q => by
                have h := tgcd_any a d.natAbs (W.drewN q) (by omega) (by omega); rw [HG2.out.2, show ((d.natAbs : Nat) : Int) = d by omega] at h
                exact h.mono fun e w'' h => ⟨h.1, by obtain ⟨m, hm⟩ := h.2; exact ⟨q + m, by rw [hm, drew2]⟩⟩⟩
              have hdv2 : (a : Int) / (g2 : Int) = ((a / g2 : Nat) : Int) := (Int.natCast_ediv a g2).symm; have hg01 : ¬ (g2 : Int) = 0 := (by omega); have hg00 : ¬ g2 = 0 := (by omega); have hg0b : ((g2 : Int) == 0) = false := (by rw [beq_eq_false_iff_ne]; omega); generalize a / g2 = q2 at *
              have hmb : 0 ≤ (q2 : Int) * d ∧ (q2 : Int) * d ≤ 69120 := by
                have l1 := Int.mul_le_mul (show (q2 : Int) ≤ 2880 by omega) r2 (by omega) (by decide); exact ⟨Int.mul_nonneg (by omega) (by omega), by omega⟩
              obtain ⟨hmb1, hmb2⟩ := hmb; clear ha hg2p; go_wp2_with fail; refine (HG.out _).mono ?_; rintro e w1 ⟨rfl, dn, rfl⟩; go_wp2_with fail; have hcd : ((wr.alloc (.cells #[.int .i64 n, .int .i64 d] 23)).drewN dn).cell? ⟨wr.heap.size, 1, none⟩ = some (.int .i64 d) := HHC.out.1; have HRW : Sl (Below w.heap.size w ((wr.alloc (.cells #[.int .i64 n, .int .i64 d] 23)).drewN dn) ∧ Below w0.heap.size w0 ((wr.alloc (.cells #[.int .i64 n, .int .i64 d] 23)).drewN dn)) := ⟨⟨below_drewN HRR.out.1 dn, below_drewN HRR.out.2 dn⟩⟩; generalize (wr.alloc (.cells #[.int .i64 n, .int .i64 d] 23)).drewN dn = wp at *
              go_quiet ((go_at_call 24; (with_reducible exact VA.out _ _)))
              go_wp2_with fail; refine ⟨⟨k + 1, hk12, by go_num, by rw [HL.out], ret_val (by rw [HMU.out, HK.out.2.1]), ⟨below_drewN HRW.out.1 _, below_drewN HRW.out.2 _, HNB.out⟩⟩, by simp [RowKit.intOf]; omega⟩
            · have had : decide ((a : Int) ≤ 120) = false := (by rw [decide_eq_false_iff_not]; omega); have HAE : Sl (a = a') := ⟨by rw [HK.out.2.2, if_neg ha]⟩; clear ha; go_wp2_with fail; refine (HG.out _).mono ?_; rintro e w1 ⟨rfl, dn, rfl⟩; go_wp2_with fail; refine ⟨⟨k + 1, hk12, by go_num, by rw [HL.out], ret_val (by rw [HAE.out, HK.out.2.1]), ⟨below_drewN HRR.out.1 dn,  below_drewN HRR.out.2 dn, HNB.out⟩⟩, by simp [RowKit.intOf]; omega⟩
    · obtain rfl : k = 12 := (by omega); have hall : ∀ j, j < 12 → ¬ t.bad j := HR.out.2.2; have hfin := TV.chk_fin (N := nameS) (t := t) (by have := HW.out; omega) hall; obtain ⟨wn, hwn⟩ : ∃ z, t.num t.wolf.toNat = z := ⟨_, rfl⟩; obtain ⟨a, ha⟩ : ∃ z, t.all 12 = z := ⟨_, rfl⟩; obtain ⟨L, hL⟩ : ∃ z, t.lowB 12 = z := ⟨_, rfl⟩; obtain ⟨N, hN⟩ : ∃ z, nameS t.nm = z := ⟨_, rfl⟩; obtain ⟨W, hW⟩ : ∃ W : Nat, t.wolf = (W : Int) := ⟨t.wolf.toNat, by have := HW.out; omega⟩; rw [hwn, ha, hL, hN] at hfin; rw [hN] at HN; have hW12 : W < 12 := (by have := HW.out; omega); have X := HU.out.2.below HR.out.2.1 HU.out.2.lt; have c0 : wr.cell? ⟨w.heap.size, 0, none⟩ = some (.string t.nm) := (by rw [X.cell]; exact HC.out.1)
      have CW : Sl (∀ w1 : World, Below wr.heap.size wr w1 → w1.cell? ⟨w.heap.size, 2, none⟩ = some (.int .i64 (W : Int)) ∧ w1.cell? ⟨w.heap.size, 3 + W * 2, none⟩ = some (.int .i64 wn)) := ⟨fun w1 h => by
        have X1 := X.below h X.lt; refine ⟨?_, ?_⟩
        · rw [X1.cell, HC.out.2.1, hW]
        · rw [X1.cell, Nat.mul_comm, HC.out.2.2 W hW12, ← hwn, hW, Int.toNat_natCast]⟩
      have HF : Sl _ := ⟨hfin⟩; rw [hL, ha, hW]; clear hfin hwn ha hL hN hW HXP hall X hk12 HC HU HRG HW; have hw1 : (0 : Int) ≤ (W : Int) := (by omega); have hw2 : (W : Int) < 12 := (by omega); go_wp2_with fail; refine (HN.out _).mono ?_; rintro e w1 ⟨rfl, hb1⟩; obtain ⟨d2, dn⟩ := CW.out w1 hb1; have HB : Sl _ := ⟨HR.out.1.trans (hb1.mono HR.out.1.size)⟩; clear hb1 c0 CW
      by_cases h120 : 120 < a
      · have q1 : decide ((120 : Int) < (a : Int)) = true := (by rw [decide_eq_true_iff]; omega)
        cases N
        · go_wp2_with fail; go_ret; exact ⟨by rw [HF.out]; unfold TV.fin; rw [if_pos (.inl rfl)]; rfl, HB.out⟩
        · cases L
          · go_wp2_with fail; go_ret; exact ⟨by rw [HF.out]; unfold TV.fin; rw [if_pos (.inr (.inl rfl))]; rfl, HB.out⟩
          · by_cases hz : wn = 0
            · subst hz; go_wp2_with fail; go_ret; exact ⟨by rw [HF.out]; unfold TV.fin; rw [if_neg (by simp), if_pos h120]; rfl, HB.out⟩
            · have hzb : (wn != 0) = true := (by rw [bne_iff_ne]; exact hz); go_wp2_with fail; go_ret; exact ⟨by rw [HF.out]; unfold TV.fin; rw [if_pos (.inr (.inr hz))]; rfl, HB.out⟩
      · have q1 : decide ((120 : Int) < (a : Int)) = false := (by rw [decide_eq_false_iff_not]; omega)
        cases N
        · go_wp2_with fail; go_ret; exact ⟨by rw [HF.out]; unfold TV.fin; rw [if_pos (.inl rfl)]; rfl, HB.out⟩
        · cases L
          · go_wp2_with fail; go_ret; exact ⟨by rw [HF.out]; unfold TV.fin; rw [if_pos (.inr (.inl rfl))]; rfl, HB.out⟩
          · by_cases hz : wn = 0
            · subst hz; go_wp2_with fail; go_ret; exact ⟨by rw [HF.out]; unfold TV.fin; rw [if_neg (by simp), if_neg h120]; rfl, HB.out⟩
            · have hzb : (wn != 0) = true := (by rw [bne_iff_ne]; exact hz); go_wp2_with fail; go_ret; exact ⟨by rw [HF.out]; unfold TV.fin; rw [if_pos (.inr (.inr hz))]; rfl, HB.out⟩
end Go.Proofs.YtgmpipimancnhaaGreatDoor
namespace Go.Proofs.YtgmpipimancnhaaGreatDoor
set_option linter.unusedSimpArgs false
open Go.RowKit
set_option linter.unusedVariables false
attribute [-simp] Tryz.isAgg24
theorem TV.chk_low {N : ByteArray → Bool} {t : TV} {i : Nat} (h1 : ¬ (t.wolf < 0 ∨ 11 < t.wolf)) (h2 : ∀ i, i < 12 → ¬ t.bad i) (hi : i < 12) (h : ¬ t.low i) : t.chk N = 6 := by
  unfold TV.chk; rw [if_neg h1, if_neg (by rintro ⟨i, hi, hb⟩; exact h2 i hi hb), if_pos (.inr (.inl ⟨i, hi, h⟩))]
theorem TV.chk_name {N : ByteArray → Bool} {t : TV} (h1 : ¬ (t.wolf < 0 ∨ 11 < t.wolf)) (h2 : ∀ i, i < 12 → ¬ t.bad i) (h : N t.nm = false) : t.chk N = 6 := by
  unfold TV.chk; rw [if_neg h1, if_neg (by rintro ⟨i, hi, hb⟩; exact h2 i hi hb), if_pos (.inl h)]
theorem TV.chk_wolfn {N : ByteArray → Bool} {t : TV} (h1 : ¬ (t.wolf < 0 ∨ 11 < t.wolf)) (h2 : ∀ i, i < 12 → ¬ t.bad i) (h : ¬ (t.num t.wolf.toNat = 0 ∧ t.den t.wolf.toNat = 1)) : t.chk N = 6 := by
  unfold TV.chk; rw [if_neg h1, if_neg (by rintro ⟨i, hi, hb⟩; exact h2 i hi hb), if_pos]
  by_cases h0 : t.num t.wolf.toNat = 0
  · refine .inr (.inl ⟨t.wolf.toNat, by omega, fun hl => h ⟨h0, ?_⟩⟩); have hb := h2 t.wolf.toNat (by omega); unfold TV.low at hl; rw [h0] at hl; simp at hl; unfold TV.bad at hb; omega
  · exact .inr (.inr h0)
theorem TV.chk_end {N : ByteArray → Bool} {t : TV} (h1 : ¬ (t.wolf < 0 ∨ 11 < t.wolf)) (h2 : ∀ i, i < 12 → ¬ t.bad i) (hn : N t.nm = true) (hw : t.num t.wolf.toNat = 0) (hl : ∀ i, i < 12 → t.low i) : t.chk N = if 120 < t.all 12 then 7 else 0 := by
  unfold TV.chk; rw [if_neg h1, if_neg (by rintro ⟨i, hi, hb⟩; exact h2 i hi hb), if_neg]; rintro (h | ⟨i, hi, h⟩ | h)
  · rw [hn] at h; cases h
  · exact h (hl i hi)
  · exact h hw
set_option maxHeartbeats 3200000 in
set_option maxRecDepth 100000 in
theorem r5check_any (t : TV) (w : World) (hs : t.nm.size ≤ maxLen) : Calls Tryz.prog 12 #[.agg t.cells] w fun e w' => e = .returned (.int .i64 (t.chk nameS)) ∧ Below w.heap.size w w' := by
  have hu := (Below.refl w.heap.size w).alloc (Nat.le_refl _) (.cells t.cells 26); have X0 := Blk.new w 26 t.cells; have HN : Sl (∀ W : World, Calls Tryz.prog 30 #[.string t.nm] W fun e w' => e = .returned (.bool (nameS t.nm)) ∧ Below W.heap.size W w') := ⟨fun W => r1name_any t.nm W hs⟩; have c0 := t.cell0; have c2 := t.cell2; have cn : ∀ k, k < 12 → t.cells[3 + 2 * k]? = some (.int .i64 (t.num k)) := fun k hk => t.cell_num hk
  have cd : ∀ k, k < 12 → t.cells[3 + 2 * k + 1]? = some (.int .i64 (t.den k)) := fun k hk => t.cell_den hk
  generalize t.cells = cs at *
  have HC : Sl _ := ⟨And.intro c0 (And.intro c2 (And.intro cn cd))⟩; have HU : Sl _ := ⟨And.intro hu X0⟩; have c2 := HU.out.2.cell 2; rw [HC.out.2.1] at c2; clear hu X0 c0 cn cd
  by_cases hwolf : t.wolf < 0 ∨ 11 < t.wolf
  · have HR : Sl (t.chk nameS = 2) := ⟨TV.chk_wolf hwolf⟩; rcases hwolf with h1 | h1
    · go_enter Tryz.func12, Tryz.ntmps12; go_wp2_with fail; go_ret; exact ⟨by rw [HR.out]; rfl, HU.out.1⟩
    · have h2 : ¬ t.wolf < 0 := (by omega); go_enter Tryz.func12, Tryz.ntmps12; go_wp2_with fail; go_ret; exact ⟨by rw [HR.out]; rfl, HU.out.1⟩
  have h1 : ¬ t.wolf < 0 := (by omega); have h2 : ¬ 11 < t.wolf := (by omega); have HW : Sl _ := ⟨hwolf⟩; clear hwolf; go_enter Tryz.func12, Tryz.ntmps12; go_wp2_with fail; generalize w.alloc (.cells cs 26) = w0 at *
  clear c2 h1 h2
  go_loopw [3] (fun s3 wr => ∃ k : Nat, k ≤ 12 ∧ s3 = .int .i64 k ∧ Sl (Below w.heap.size w wr ∧ Below w0.heap.size w0 wr ∧ ∀ j, j < k → ¬ t.bad j)) (fun s3 _ => 12 - (RowKit.intOf s3).toNat)
  case atStart => exact ⟨0, by decide, rfl, ⟨HU.out.1, Below.refl _ _, fun j hj => absurd hj (Nat.not_lt_zero _)⟩⟩
  case round =>
    obtain ⟨k, hk, rfl, HR⟩ := hrel
    by_cases hk12 : k < 12
    · obtain ⟨n, hn⟩ : ∃ n, t.num k = n := ⟨_, rfl⟩; obtain ⟨d, hd⟩ : ∃ d, t.den k = d := ⟨_, rfl⟩; have X := HU.out.2.below HR.out.2.1 HU.out.2.lt; have cn : wr.cell? ⟨w.heap.size, 3 + k * 2, none⟩ = some (.int .i64 n) := (by rw [X.cell, Nat.mul_comm, HC.out.2.2.1 k hk12, hn]); have cd : wr.cell? ⟨w.heap.size, 3 + k * 2 + 1, none⟩ = some (.int .i64 d) := (by rw [X.cell, Nat.mul_comm, HC.out.2.2.2 k hk12, hd]); have hi1 : (0 : Int) ≤ (k : Int) := (by omega); have hi2 : (k : Int) < 12 := (by omega); have hbd : t.bad k ↔ (d < 1 ∨ 24 < d ∨ n < -2 * d ∨ 2 * d < n) := (by unfold TV.bad; rw [hn, hd])
      by_cases hb : t.bad k
      · have HRS : Sl (t.chk nameS = 2) := ⟨TV.chk_bad hk12 hb⟩; have hb' := hbd.1 hb; clear hb hbd hn hd X
        by_cases b1 : d < 1
        · clear hb'; go_wp2_with fail; go_ret; exact ⟨by rw [HRS.out]; rfl, (HR.out.1.alloc (HR.out.1.size) _)⟩
        · by_cases b2 : 24 < d
          · clear hb'; go_wp2_with fail; go_ret; exact ⟨by rw [HRS.out]; rfl, (HR.out.1.alloc (HR.out.1.size) _)⟩
          · have q1 : ¬ 24 < d := b2
            by_cases b3 : n < -2 * d
            · clear hb'; go_wp2_with fail; go_ret; exact ⟨by rw [HRS.out]; rfl, (HR.out.1.alloc (HR.out.1.size) _)⟩
            · have b4 : 2 * d < n := (by omega); clear hb'; go_wp2_with fail; go_ret; exact ⟨by rw [HRS.out]; rfl, (HR.out.1.alloc (HR.out.1.size) _)⟩
      · have hr : 1 ≤ d ∧ d ≤ 24 ∧ -2 * d ≤ n ∧ n ≤ 2 * d := (by have := (not_congr hbd).1 hb; omega); obtain ⟨r1, r2, r3, r4⟩ := hr
        have HNB : Sl (∀ j, j < k + 1 → ¬ t.bad j) := ⟨fun j hj => by
          rcases Nat.lt_or_ge j k with h | h
          · exact HR.out.2.2 j h
          · obtain rfl : j = k := (by omega)
            exact hb⟩
        have HRR : Sl _ := ⟨And.intro (HR.out.1.alloc HR.out.1.size (.cells #[.int .i64 n, .int .i64 d] 23)) (HR.out.2.1.alloc HR.out.2.1.size (.cells #[.int .i64 n, .int .i64 d] 23))⟩; clear hbd hb hn hd X HR; have b1 : decide (d < 1) = false := (by rw [decide_eq_false_iff_not]; omega); have b2 : decide (24 < d) = false := (by rw [decide_eq_false_iff_not]; omega); have b3 : decide (n < -2 * d) = false := (by rw [decide_eq_false_iff_not]; omega); have b4 : decide (2 * d < n) = false := (by rw [decide_eq_false_iff_not]; omega); go_wp2_with fail; exact ⟨⟨k + 1, hk12, by go_num, ⟨HRR.out.1, HRR.out.2, HNB.out⟩⟩, by simp [RowKit.intOf]; omega⟩
    · obtain rfl : k = 12 := (by omega); have hall : ∀ j, j < 12 → ¬ t.bad j := HR.out.2.2; have HAL : Sl _ := ⟨hall⟩; obtain ⟨wn, hwn⟩ : ∃ z, t.num t.wolf.toNat = z := ⟨_, rfl⟩; obtain ⟨wd, hwd⟩ : ∃ z, t.den t.wolf.toNat = z := ⟨_, rfl⟩; obtain ⟨N, hN⟩ : ∃ z, nameS t.nm = z := ⟨_, rfl⟩; obtain ⟨W, hW⟩ : ∃ W : Nat, t.wolf = (W : Int) := ⟨t.wolf.toNat, by have := HW.out; omega⟩; rw [hN] at HN; have hW12 : W < 12 := (by have := HW.out; omega); have X := HU.out.2.below HR.out.2.1 HU.out.2.lt; have c0 : wr.cell? ⟨w.heap.size, 0, none⟩ = some (.string t.nm) := (by rw [X.cell]; exact HC.out.1)
      have CW : Sl (∀ w1 : World, Below wr.heap.size wr w1 → w1.cell? ⟨w.heap.size, 2, none⟩ = some (.int .i64 (W : Int)) ∧ w1.cell? ⟨w.heap.size, 3 + W * 2, none⟩ = some (.int .i64 wn) ∧ w1.cell? ⟨w.heap.size, 3 + W * 2 + 1, none⟩ = some (.int .i64 wd)) := ⟨fun w1 h => by
        have X1 := X.below h X.lt; refine ⟨?_, ?_, ?_⟩
        · rw [X1.cell, HC.out.2.1, hW]
        · rw [X1.cell, Nat.mul_comm, HC.out.2.2.1 W hW12, ← hwn, hW, Int.toNat_natCast]
        · rw [X1.cell, Nat.mul_comm, HC.out.2.2.2 W hW12, ← hwd, hW, Int.toNat_natCast]⟩
      have HF1 : Sl (N = false → t.chk nameS = 6) := ⟨fun h => TV.chk_name HW.out hall (by rw [hN]; exact h)⟩; have HF2 : Sl (¬ (wn = 0 ∧ wd = 1) → t.chk nameS = 6) := ⟨fun h => TV.chk_wolfn HW.out hall (by rw [hwn, hwd]; exact h)⟩; have HF3 : Sl (N = true → wn = 0 → (∀ i, i < 12 → t.low i) → t.chk nameS = if 120 < t.all 12 then 7 else 0) := ⟨fun h1 h2 h3 => TV.chk_end HW.out hall (by rw [hN]; exact h1) (by rw [hwn]; exact h2) h3⟩; have HF4 : Sl (∀ i, i < 12 → ¬ t.low i → t.chk nameS = 6) := ⟨fun i hi h => TV.chk_low HW.out hall hi h⟩; rw [hW]; clear hwn hwd hN hW hall hk12 HW; have hw1 : (0 : Int) ≤ (W : Int) := (by omega); have hw2 : (W : Int) < 12 := (by omega); have XS : Sl _ := ⟨X⟩; clear X; go_wp2_with fail; refine (HN.out _).mono ?_; rintro e w1 ⟨rfl, hb1⟩; obtain ⟨d2, dn, dd⟩ := CW.out w1 hb1; have HB : Sl _ := ⟨And.intro (HR.out.1.trans (hb1.mono HR.out.1.size)) (HR.out.2.1.trans (hb1.mono HR.out.2.1.size))⟩; clear hb1 c0 CW HR XS
      cases N
      · clear d2 dn dd; go_wp2_with fail; go_ret; exact ⟨by rw [HF1.out (by simp)]; rfl, HB.out.1⟩
      by_cases hz : wn = 0 ∧ wd = 1
      · obtain ⟨rfl, rfl⟩ := hz; go_wp2_with fail; clear d2 dn dd
        go_loopw [5, 6] (fun s5 s6 wr => ∃ k : Nat, k ≤ 12 ∧ s6 = .int .i64 k ∧ s5 = .int .i64 (t.all k : Nat) ∧ Sl (Below w.heap.size w wr ∧ Below w0.heap.size w0 wr ∧ ∀ j, j < k → t.low j)) (fun _ s6 _ => 12 - (RowKit.intOf s6).toNat)
        case atStart => exact ⟨0, by decide, rfl, rfl, ⟨HB.out.1, HB.out.2, fun j hj => absurd hj (Nat.not_lt_zero _)⟩⟩
        case round =>
          obtain ⟨k, hk, rfl, rfl, HR⟩ := hrel
          by_cases hk12 : k < 12
          · obtain ⟨n, hn⟩ : ∃ n, t.num k = n := ⟨_, rfl⟩; obtain ⟨d, hd⟩ : ∃ d, t.den k = d := ⟨_, rfl⟩; have X := HU.out.2.below HR.out.2.1 HU.out.2.lt; have cn : wr.cell? ⟨w.heap.size, 3 + k * 2, none⟩ = some (.int .i64 n) := (by rw [X.cell, Nat.mul_comm, HC.out.2.2.1 k hk12, hn]); have cd : wr.cell? ⟨w.heap.size, 3 + k * 2 + 1, none⟩ = some (.int .i64 d) := (by rw [X.cell, Nat.mul_comm, HC.out.2.2.2 k hk12, hd]); have hi1 : (0 : Int) ≤ (k : Int) := (by omega); have hi2 : (k : Int) < 12 := (by omega); have hb := HAL.out k hk12; unfold TV.bad at hb; rw [hn, hd] at hb; have hr : 1 ≤ d ∧ d ≤ 24 ∧ -2 * d ≤ n ∧ n ≤ 2 * d := (by omega); obtain ⟨r1, r2, r3, r4⟩ := hr; have hap := t.all_pos2 (fun j hj => HAL.out j (by omega)) hk12; obtain ⟨a, hae⟩ : ∃ a, t.all k = a := ⟨_, rfl⟩; obtain ⟨a', hae'⟩ : ∃ a', t.all (k + 1) = a' := ⟨_, rfl⟩; obtain ⟨g, hg⟩ : ∃ g, Nat.gcd n.natAbs d.natAbs = g := ⟨_, rfl⟩; obtain ⟨g2, hg2⟩ : ∃ g2, Nat.gcd a d.natAbs = g2 := ⟨_, rfl⟩; have hlow : t.low k ↔ g = 1 := (by unfold TV.low; rw [hn, hd, hg]); have ha' : a' = if a ≤ 120 then a / g2 * d.natAbs else a := (by rw [← hae', TV.all, hae, hd, hg2])
            have hg2p : 1 ≤ g2 ∧ g2 ≤ 24 := by
              rw [← hg2]; exact ⟨Nat.gcd_pos_of_pos_right _ (by omega), Nat.le_trans (Nat.gcd_le_right _ (by omega)) (by omega)⟩
            have ha2 : 1 ≤ a ∧ a ≤ 2880 := (by rw [← hae]; exact hap)
            have HLW : Sl (g = 1 → ∀ j, j < k + 1 → t.low j) := ⟨fun h j hj => by
              rcases Nat.lt_or_ge j k with g | g
              · exact HR.out.2.2 j g
              · obtain rfl : j = k := (by omega)
                exact hlow.2 h⟩
            have HLN : Sl (¬ g = 1 → t.chk nameS = 6) := ⟨fun h => HF4.out k hk12 fun hl => h (hlow.1 hl)⟩; have HK : Sl _ := ⟨And.intro hae' ha'⟩; have HRR : Sl _ := ⟨And.intro (HR.out.1.alloc HR.out.1.size (.cells #[.int .i64 n, .int .i64 d] 23)) (HR.out.2.1.alloc HR.out.2.1.size (.cells #[.int .i64 n, .int .i64 d] 23))⟩; have hcd : (wr.alloc (.cells #[.int .i64 n, .int .i64 d] 23)).cell? ⟨wr.heap.size, 1, none⟩ = some (.int .i64 d) := (Blk.new wr 23 #[.int .i64 n, .int .i64 d]).cell 1; have HHC : Sl _ := ⟨hcd⟩; have HG2 : Sl _ := ⟨And.intro hg hg2⟩; rw [hae]; clear hae hae' ha' hb hn hd X hap HR hlow hg hg2 hcd HAL HF1 HF2 HF3 HF4; have hwz : IntKind.i64.wrap (-n) = -n := (by rw [IntKind.wrap_i64]; omega)
            by_cases h0 : 0 ≤ n
            · have hm1 : max n (-n) = n := (by omega); have hm2 : ¬ n < -n := (by omega); have hm3 : -n ≤ n := (by omega)
              have HG : Sl (∀ W : World, Calls Tryz.prog 31 #[.int .i64 n, .int .i64 d] W fun e w' => e = .returned (.int .i64 g) ∧ ∃ m, w' = W.drewN m) := ⟨fun W => by
                have h := r5gcd_any n.natAbs d.natAbs W (by omega) (by omega); rw [HG2.out.1, show ((d.natAbs : Nat) : Int) = d by omega, show ((n.natAbs : Nat) : Int) = n by omega] at h
                exact h⟩
              go_wp2_with fail; refine (HG.out _).mono ?_; rintro e w1 ⟨rfl, dn, rfl⟩
              by_cases hg1 : g = 1
              · subst hg1; have HL := HLW.out rfl; have HLS : Sl _ := ⟨HL⟩; clear HL HLW HLN; have hcd : ((wr.alloc (.cells #[.int .i64 n, .int .i64 d] 23)).drewN dn).cell? ⟨wr.heap.size, 1, none⟩ = some (.int .i64 d) := HHC.out; have HRW : Sl (Below w.heap.size w ((wr.alloc (.cells #[.int .i64 n, .int .i64 d] 23)).drewN dn) ∧ Below w0.heap.size w0 ((wr.alloc (.cells #[.int .i64 n, .int .i64 d] 23)).drewN dn)) := ⟨below_drewN HRR.out.1 dn, below_drewN HRR.out.2 dn⟩; generalize (wr.alloc (.cells #[.int .i64 n, .int .i64 d] 23)).drewN dn = wp at *
                by_cases ha : a ≤ 120
                · have had : decide ((a : Int) ≤ 120) = true := (by rw [decide_eq_true_iff]; omega); have hdv : (a : Int).tdiv (g2 : Int) = ((a / g2 : Nat) : Int) := (by rw [Int.tdiv_eq_ediv_of_nonneg (by omega)]; exact (Int.natCast_ediv a g2).symm); have hq : a / g2 ≤ a := Nat.div_le_self _ _; have HMU : Sl (((a / g2 : Nat) : Int) * d = (a' : Int)) := ⟨by rw [HK.out.2, if_pos ha, Int.natCast_mul, show ((d.natAbs : Nat) : Int) = d by omega]⟩
                  have VA : Sl (∀ (W : World) q, Calls Tryz.prog 31 #[.int .i64 a, .int .i64 d] (W.drewN q) fun e w'' => e = .returned (.int .i64 g2) ∧ ∃ m, w'' = W.drewN m) := ⟨fun W q => by
                    have h := r5gcd_any a d.natAbs (W.drewN q) (by omega) (by omega); rw [HG2.out.2, show ((d.natAbs : Nat) : Int) = d by omega] at h
                    exact h.mono fun e w'' h => ⟨h.1, by obtain ⟨m, hm⟩ := h.2; exact ⟨q + m, by rw [hm, drew2]⟩⟩⟩
                  have hdv2 : (a : Int) / (g2 : Int) = ((a / g2 : Nat) : Int) := (Int.natCast_ediv a g2).symm; have hg01 : ¬ (g2 : Int) = 0 := (by omega); have hg00 : ¬ g2 = 0 := (by omega); have hg0b : ((g2 : Int) == 0) = false := (by rw [beq_eq_false_iff_ne]; omega); generalize a / g2 = q2 at *
                  have hmb : 0 ≤ (q2 : Int) * d ∧ (q2 : Int) * d ≤ 69120 := by
                    have l1 := Int.mul_le_mul (show (q2 : Int) ≤ 2880 by omega) r2 (by omega) (by decide); exact ⟨Int.mul_nonneg (by omega) (by omega), by omega⟩
                  obtain ⟨hmb1, hmb2⟩ := hmb; clear ha hg2p; go_wp2_with fail
                  go_quiet ((go_at_call 31; (with_reducible exact VA.out _ _)))
                  go_wp2_with fail; refine ⟨⟨k + 1, hk12, by go_num, ret_val (by rw [HMU.out, HK.out.1]), ⟨below_drewN HRW.out.1 _, below_drewN HRW.out.2 _, HLS.out⟩⟩, by simp [RowKit.intOf]; omega⟩
                · have had : decide ((a : Int) ≤ 120) = false := (by rw [decide_eq_false_iff_not]; omega); have HAE : Sl (a = a') := ⟨by rw [HK.out.2, if_neg ha]⟩; clear ha; go_wp2_with fail; refine ⟨⟨k + 1, hk12, by go_num, ret_val (by rw [HAE.out, HK.out.1]), ⟨HRW.out.1, HRW.out.2, HLS.out⟩⟩, by simp [RowKit.intOf]; omega⟩
              · have HL := HLN.out hg1; have HLS : Sl _ := ⟨HL⟩; have hgn : ((g : Int) != 1) = true := (by rw [bne_iff_ne]; omega); clear HL HLW HLN hg1; go_wp2_with fail; go_ret; exact ⟨by rw [HLS.out]; rfl, below_drewN HRR.out.1 dn⟩
            · have hm1 : max n (-n) = -n := (by omega); have hm3 : n < -n := (by omega)
              have HG : Sl (∀ W : World, Calls Tryz.prog 31 #[.int .i64 (-n), .int .i64 d] W fun e w' => e = .returned (.int .i64 g) ∧ ∃ m, w' = W.drewN m) := ⟨fun W => by
                have h := r5gcd_any n.natAbs d.natAbs W (by omega) (by omega); rw [HG2.out.1, show ((d.natAbs : Nat) : Int) = d by omega, show ((n.natAbs : Nat) : Int) = -n by omega] at h
                exact h⟩
              go_wp2_with fail; refine (HG.out _).mono ?_; rintro e w1 ⟨rfl, dn, rfl⟩
              by_cases hg1 : g = 1
              · subst hg1; have HL := HLW.out rfl; have HLS : Sl _ := ⟨HL⟩; clear HL HLW HLN; have hcd : ((wr.alloc (.cells #[.int .i64 n, .int .i64 d] 23)).drewN dn).cell? ⟨wr.heap.size, 1, none⟩ = some (.int .i64 d) := HHC.out; have HRW : Sl (Below w.heap.size w ((wr.alloc (.cells #[.int .i64 n, .int .i64 d] 23)).drewN dn) ∧ Below w0.heap.size w0 ((wr.alloc (.cells #[.int .i64 n, .int .i64 d] 23)).drewN dn)) := ⟨below_drewN HRR.out.1 dn, below_drewN HRR.out.2 dn⟩; generalize (wr.alloc (.cells #[.int .i64 n, .int .i64 d] 23)).drewN dn = wp at *
                by_cases ha : a ≤ 120
                · have had : decide ((a : Int) ≤ 120) = true := (by rw [decide_eq_true_iff]; omega); have hdv : (a : Int).tdiv (g2 : Int) = ((a / g2 : Nat) : Int) := (by rw [Int.tdiv_eq_ediv_of_nonneg (by omega)]; exact (Int.natCast_ediv a g2).symm); have hq : a / g2 ≤ a := Nat.div_le_self _ _; have HMU : Sl (((a / g2 : Nat) : Int) * d = (a' : Int)) := ⟨by rw [HK.out.2, if_pos ha, Int.natCast_mul, show ((d.natAbs : Nat) : Int) = d by omega]⟩
                  have VA : Sl (∀ (W : World) q, Calls Tryz.prog 31 #[.int .i64 a, .int .i64 d] (W.drewN q) fun e w'' => e = .returned (.int .i64 g2) ∧ ∃ m, w'' = W.drewN m) := ⟨fun W q => by
                    have h := r5gcd_any a d.natAbs (W.drewN q) (by omega) (by omega); rw [HG2.out.2, show ((d.natAbs : Nat) : Int) = d by omega] at h
                    exact h.mono fun e w'' h => ⟨h.1, by obtain ⟨m, hm⟩ := h.2; exact ⟨q + m, by rw [hm, drew2]⟩⟩⟩
                  have hdv2 : (a : Int) / (g2 : Int) = ((a / g2 : Nat) : Int) := (Int.natCast_ediv a g2).symm; have hg01 : ¬ (g2 : Int) = 0 := (by omega); have hg00 : ¬ g2 = 0 := (by omega); have hg0b : ((g2 : Int) == 0) = false := (by rw [beq_eq_false_iff_ne]; omega); generalize a / g2 = q2 at *
                  have hmb : 0 ≤ (q2 : Int) * d ∧ (q2 : Int) * d ≤ 69120 := by
                    have l1 := Int.mul_le_mul (show (q2 : Int) ≤ 2880 by omega) r2 (by omega) (by decide); exact ⟨Int.mul_nonneg (by omega) (by omega), by omega⟩
                  obtain ⟨hmb1, hmb2⟩ := hmb; clear ha hg2p; go_wp2_with fail
                  go_quiet ((go_at_call 31; (with_reducible exact VA.out _ _)))
                  go_wp2_with fail; refine ⟨⟨k + 1, hk12, by go_num, ret_val (by rw [HMU.out, HK.out.1]), ⟨below_drewN HRW.out.1 _, below_drewN HRW.out.2 _, HLS.out⟩⟩, by simp [RowKit.intOf]; omega⟩
                · have had : decide ((a : Int) ≤ 120) = false := (by rw [decide_eq_false_iff_not]; omega); have HAE : Sl (a = a') := ⟨by rw [HK.out.2, if_neg ha]⟩; clear ha; go_wp2_with fail; refine ⟨⟨k + 1, hk12, by go_num, ret_val (by rw [HAE.out, HK.out.1]), ⟨HRW.out.1, HRW.out.2, HLS.out⟩⟩, by simp [RowKit.intOf]; omega⟩
              · have HL := HLN.out hg1; have HLS : Sl _ := ⟨HL⟩; have hgn : ((g : Int) != 1) = true := (by rw [bne_iff_ne]; omega); clear HL HLW HLN hg1; go_wp2_with fail; go_ret; exact ⟨by rw [HLS.out]; rfl, below_drewN HRR.out.1 dn⟩
          · obtain rfl : k = 12 := (by omega); have hf := HF3.out (by simp) (by simp) HR.out.2.2; obtain ⟨a, ha⟩ : ∃ z, t.all 12 = z := ⟨_, rfl⟩; rw [ha] at hf ⊢; have HFS : Sl _ := ⟨hf⟩; clear hf ha HF1 HF2 HF3 HF4 HAL hk12
            by_cases h120 : 120 < a
            · go_wp2_with fail; go_ret; exact ⟨by rw [HFS.out, if_pos h120]; rfl, HR.out.1⟩
            · go_wp2_with fail; go_ret; exact ⟨by rw [HFS.out, if_neg h120]; rfl, HR.out.1⟩
      · have HS6 : Sl _ := ⟨HF2.out hz⟩
        by_cases hz0 : wn = 0
        · have hz1 : ¬ wd = 1 := fun h => hz ⟨hz0, h⟩
          have hzb : ((wd : Int) == 1) = false := (by rw [beq_eq_false_iff_ne]; exact hz1); subst hz0; clear hz; go_wp2_with fail; go_ret; exact ⟨by rw [HS6.out]; rfl, HB.out.1⟩
        · have hzb : ((wn : Int) == 0) = false := (by rw [beq_eq_false_iff_ne]; exact hz0); clear hz; go_wp2_with fail; go_ret; exact ⟨by rw [HS6.out]; rfl, HB.out.1⟩
end Go.Proofs.YtgmpipimancnhaaGreatDoor
