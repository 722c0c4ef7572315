/- Plain law: the ratio in lowest terms with given exponents and denominator; products, quotients, powers. No program in sight. -/
import Derived.Test.YtafadpaljanghaaGreatDoorZnAb
import Derived.Deep.RegionHeld3
import Derived.ChangeKeysEq
import Derived.Test.YtafadpaljanghaaGreatDoorShelB
import Derived.Laws.Strings
import Derived.Test.YtafadpaljanghaaGreatDoorMixB
import Derived.Test.YtafadpaljanghaaGreatDoorMixE
import Derived.Test.YtafadpaljanghaaGreatDoorRgC
import Derived.Test.YtafadpaljanghaaGreatDoorMixQ
import Derived.Deep.RegionWith
import Derived.Test.YtafadpaljanghaaGreatDoorHld
import Derived.Test.YtafadpaljanghaaGreatDoorMyZ
namespace Go.Proofs.YtafadpaljanghaaGreatDoor
set_option linter.unusedSimpArgs false
set_option linter.unusedVariables false
end Go.Proofs.YtafadpaljanghaaGreatDoor
namespace Go.Proofs.YtafadpaljanghaaGreatDoor
set_option linter.unusedSimpArgs false
open Go.RowKit
set_option linter.unusedVariables false
end Go.Proofs.YtafadpaljanghaaGreatDoor
namespace Go.Proofs.YtafadpaljanghaaGreatDoor
set_option linter.unusedSimpArgs false
open Go.RowKit
set_option linter.unusedVariables false
end Go.Proofs.YtafadpaljanghaaGreatDoor
namespace Go.Proofs.YtafadpaljanghaaGreatDoor
set_option linter.unusedSimpArgs false
open Go.RowKit
set_option linter.unusedVariables false
end Go.Proofs.YtafadpaljanghaaGreatDoor
namespace Go.Proofs.YtafadpaljanghaaGreatDoor
set_option linter.unusedSimpArgs false
open Go.RowKit
set_option linter.unusedVariables false
end Go.Proofs.YtafadpaljanghaaGreatDoor
namespace Go.Proofs.YtafadpaljanghaaGreatDoor
set_option linter.unusedSimpArgs false
open Go.RowKit
set_option linter.unusedVariables false
end Go.Proofs.YtafadpaljanghaaGreatDoor
namespace Go.Proofs.YtafadpaljanghaaGreatDoor
set_option linter.unusedSimpArgs false
open Go.RowKit
set_option linter.unusedVariables false
end Go.Proofs.YtafadpaljanghaaGreatDoor
namespace Go.Proofs.YtafadpaljanghaaGreatDoor
set_option linter.unusedSimpArgs false
open Go.RowKit
set_option linter.unusedVariables false
theorem sgn_ge {l : List (Nat × Int)} : 0 ≤ sgn l ↔ down l ≤ up l := by
  unfold sgn
  split
  · exact ⟨fun _ => by omega, fun _ => by decide⟩
  · split
    · exact ⟨fun h => absurd h (by decide), fun h => by omega⟩
    · exact ⟨fun _ => by omega, fun _ => by decide⟩
theorem up_two (x : Int) : ∀ l : List (Nat × Int), up (l ++ [(2, x)]) = up l * 2 ^ x.toNat
  | [] => by
    rw [List.nil_append, up, up]
    split
    · rw [show x.toNat = x.natAbs by omega, Nat.mul_comm]; rfl
    · rw [show x.toNat = 0 by omega]; rfl
  | (n, k) :: l => by
    rw [List.cons_append, up, up_two x l, up]
    split
    · rw [Nat.mul_assoc]
    · rfl
theorem down_two (x : Int) : ∀ l : List (Nat × Int), down (l ++ [(2, x)]) = down l * 2 ^ (-x).toNat
  | [] => by
    rw [List.nil_append, down, down]
    split
    · rw [show (-x).toNat = 0 by omega]; rfl
    · rw [show (-x).toNat = x.natAbs by omega, Nat.mul_comm]; rfl
  | (n, k) :: l => by
    rw [List.cons_append, down, down_two x l, down]
    split
    · rfl
    · rw [Nat.mul_assoc]
theorem atM_anti {l : List (Nat × Int)} {s den m m' : Int} (hd : 1 ≤ den) (h : m ≤ m') (hs : 0 ≤ sgn (atM l s den m')) : 0 ≤ sgn (atM l s den m) := by
  rw [sgn_ge] at hs ⊢; unfold atM at hs ⊢; rw [up_two, down_two] at hs ⊢; have hmm : m * den ≤ m' * den := Int.mul_le_mul_of_nonneg_right h (by omega); rw [Int.neg_mul] at hs ⊢; rw [Int.neg_neg] at hs ⊢; generalize m * den = y at *
  generalize m' * den = y' at *
  calc down (scaled l s) * 2 ^ y.toNat ≤ down (scaled l s) * 2 ^ y'.toNat := Nat.mul_le_mul_left _ (Nat.pow_le_pow_right (by decide) (by omega))
    _ ≤ up (scaled l s) * 2 ^ (-y').toNat := hs
    _ ≤ up (scaled l s) * 2 ^ (-y).toNat := Nat.mul_le_mul_left _ (Nat.pow_le_pow_right (by decide) (by omega))
theorem FloorRes_det {l : List (Nat × Int)} {s den : Int} (hd : 1 ≤ den) {e e' : Ending} (h : FloorRes l s den (fun m => sgn (atM l s den m)) e) (h' : FloorRes l s den (fun m => sgn (atM l s den m)) e') : e = e' := by
  unfold FloorRes at h h'
  split at h
  · rename_i hc; rw [if_pos hc] at h'; rw [h, h']
  · rename_i hc; rw [if_neg hc] at h'; obtain ⟨m, _, _, h1, h2, rfl⟩ := h; obtain ⟨m', _, _, h3, h4, rfl⟩ := h'; have h2 : sgn (atM l s den (m + 1)) < 0 := h2; have h4 : sgn (atM l s den (m' + 1)) < 0 := h4; have hle : ¬ m + 1 ≤ m' := fun hlt => by have := atM_anti hd hlt h3; omega
    have hle' : ¬ m' + 1 ≤ m := fun hlt => by have := atM_anti hd hlt h1; omega
    obtain rfl : m = m' := (by omega); rfl
theorem FloorRes_shape {l : List (Nat × Int)} {s den : Int} {sg : Int → Int} {e : Ending} (h : FloorRes l s den sg e) : ∃ k b er, e = .returned (.tuple #[.int .i64 k, .bool b, .int .i64 er]) ∧ -1000000000000 ≤ k ∧ k ≤ 1000000000000 := by
  unfold FloorRes at h
  split at h
  · exact ⟨0, false, 7, h, by decide, by decide⟩
  · obtain ⟨m, h1, h2, _, _, h⟩ := h; exact ⟨m, _, 0, h, h1, by omega⟩
end Go.Proofs.YtafadpaljanghaaGreatDoor
namespace Go.Proofs.YtafadpaljanghaaGreatDoor
set_option linter.unusedSimpArgs false
open Go.RowKit
set_option linter.unusedVariables false
end Go.Proofs.YtafadpaljanghaaGreatDoor
namespace Go.Proofs.YtafadpaljanghaaGreatDoor
set_option linter.unusedSimpArgs false
open Go.RowKit
set_option linter.unusedVariables false
end Go.Proofs.YtafadpaljanghaaGreatDoor
namespace Go.Proofs.YtafadpaljanghaaGreatDoor
set_option linter.unusedSimpArgs false
set_option linter.unusedVariables false
def ftB (r : Nat) : Option (Nat × Nat) := if r = 0 then some (64, 1) else if r = 4 then some (256, 5) else if r = 7 then some (128, 3) else if r = 10 then some (256, 7) else none
def ftR (p d : Nat) : Nat × Nat := (p / Nat.gcd p d, d / Nat.gcd p d)
def ftS (n : Int) : (Nat × Nat) × Int :=
  if n < -36 ∨ 82 < n then ((0, 0), 7) else match ftB ((n + 36).toNat % 12) with
    | none => ((0, 0), 4)
    | some x => (ftR x.1 (x.2 * 2 ^ ((n + 36).toNat / 12)), 0)
def ftLe (f : Nat × Nat) (m : Int) : Bool := Nat.ble (f.1 ^ 24 * 2 ^ m.toNat) ((8 * f.2) ^ 24 * 2 ^ (-m).toNat)
def ftOk (f : Nat × Nat) : Bool := Nat.ble 1 f.2 && Nat.ble f.2 15 && Nat.ble 1 f.1 && Nat.ble f.1 (64 * f.2) && Nat.beq (Nat.gcd f.1 f.2) 1
def ftMid (f : Nat × Nat) (m : Int) : Bool := ftLe f m && !ftLe f (m + 1)
def backT (k : Nat) : Bool := match ftB (k % 12) with
  | none => true
  | some x => ftOk (ftR x.1 (x.2 * 2 ^ (k / 12))) && (ftMid (ftR x.1 (x.2 * 2 ^ (k / 12))) (2 * ((k : Int) - 36)) || ftMid (ftR x.1 (x.2 * 2 ^ (k / 12))) (2 * ((k : Int) - 36) - 1))
theorem back_all : (List.range 119).all backT = true := by decide +kernel
theorem ftOk_okF {f : Nat × Nat} (h : ftOk f = true) : okF f.1 f.2 ∧ f.1 ≤ 64 * f.2 ∧ Nat.gcd f.1 f.2 = 1 := by
  unfold ftOk at h; simp only [Bool.and_eq_true, Nat.ble_eq] at h; obtain ⟨⟨⟨⟨h1, h2⟩, h3⟩, h4⟩, h5⟩ := h; exact ⟨⟨⟨h1, h2⟩, h3, by omega⟩, h4, Nat.eq_of_beq_eq_true h5⟩
theorem ft_sgn (f : Nat × Nat) (m : Int) : 0 ≤ sgn (atM (ftL f.1 f.2) 24 1 m) ↔ ftLe f m = true := by
  rw [sgn_ge]; unfold atM ftLe; rw [up_two, down_two, Nat.ble_eq]
  have e1 : up (scaled (ftL f.1 f.2) 24) = (8 * f.2) ^ 24 := by
    unfold scaled ftL; simp [up]
  have e2 : down (scaled (ftL f.1 f.2) 24) = f.1 ^ 24 := by
    unfold scaled ftL; simp [down]
  rw [e1, e2]; simp
theorem ft_back {n : Int} (h : (ftS n).2 = 0) : okF (ftS n).1.1 (ftS n).1.2 ∧ ((ftS n).1.1 ≤ 64 * (ftS n).1.2 ∧ Nat.gcd (ftS n).1.1 (ftS n).1.2 = 1) ∧ ∃ m : Int, (m + 1) / 2 = n ∧ (-1000 ≤ m ∧ m ≤ 1000) ∧ 0 ≤ sgn (atM (ftL (ftS n).1.1 (ftS n).1.2) 24 1 m) ∧ sgn (atM (ftL (ftS n).1.1 (ftS n).1.2) 24 1 (m + 1)) < 0 := by
  unfold ftS at h ⊢
  by_cases hc : n < -36 ∨ 82 < n
  · rw [if_pos hc] at h; cases h
  · rw [if_neg hc] at h ⊢; have hk := List.all_eq_true.1 back_all (n + 36).toNat (List.mem_range.2 (by omega)); unfold backT at hk
    cases hb : ftB ((n + 36).toNat % 12) with
    | none => rw [hb] at h; cases h
    | some x =>
      rw [hb] at hk; simp only [Bool.and_eq_true, Bool.or_eq_true] at hk ⊢; rw [show (((n + 36).toNat : Nat) : Int) - 36 = n by omega] at hk; generalize ftR x.1 (x.2 * 2 ^ ((n + 36).toNat / 12)) = f at *
      obtain ⟨k1, k2⟩ := hk; obtain ⟨o1, o2, o3⟩ := ftOk_okF k1
      have key : ∀ m, ftMid f m = true → 0 ≤ sgn (atM (ftL f.1 f.2) 24 1 m) ∧ sgn (atM (ftL f.1 f.2) 24 1 (m + 1)) < 0 := fun m hm => by
        unfold ftMid at hm; rw [Bool.and_eq_true] at hm; refine ⟨(ft_sgn f m).2 hm.1, ?_⟩; rcases Int.lt_or_le (sgn (atM (ftL f.1 f.2) 24 1 (m + 1))) 0 with h1 | h1
        · exact h1
        · have h2 := hm.2; rw [(ft_sgn f (m + 1)).1 h1] at h2
          cases h2
      refine ⟨o1, ⟨o2, o3⟩, ?_⟩; rcases k2 with k2 | k2
      · exact ⟨_, by omega, by omega, key _ k2⟩
      · exact ⟨_, by omega, by omega, key _ k2⟩
end Go.Proofs.YtafadpaljanghaaGreatDoor
namespace Go.Proofs.YtafadpaljanghaaGreatDoor
set_option linter.unusedSimpArgs false
open Go.RowKit
set_option linter.unusedVariables false
def vF (num den : Int) : Prop := (1 ≤ den ∧ den ≤ 15) ∧ (1 ≤ num ∧ num ≤ 64 * den) ∧ Nat.gcd num.natAbs den.natAbs = 1
instance (a b : Int) : Decidable (vF a b) := inferInstanceAs (Decidable (_ ∧ _ ∧ _))
set_option maxHeartbeats 1600000 in
set_option maxRecDepth 100000 in
theorem wvalid_any (num den : Int) (w : World) : Calls Tryz.prog 54 #[.agg #[.int .i64 num, .int .i64 den]] w fun e w' => e = .returned (.bool (decide (vF num den))) ∧ Below w.heap.size w w' := by
  have hu : Below w.heap.size w (w.alloc (.cells #[.int .i64 num, .int .i64 den] 23)) := (Below.refl _ _).alloc (Nat.le_refl _) _; have HU : Sl _ := ⟨hu⟩; clear hu; obtain ⟨r, hr⟩ : ∃ r, decide (vF num den) = r := ⟨_, rfl⟩; rw [hr]; have HR : Sl _ := ⟨hr⟩; clear hr
  by_cases hok : (1 ≤ den ∧ den ≤ 15) ∧ (1 ≤ num ∧ num ≤ 64 * den)
  · obtain ⟨⟨h1, h2⟩, h3, h4⟩ := hok; obtain ⟨n, rfl⟩ := Int.eq_ofNat_of_zero_le (show 0 ≤ num by omega); obtain ⟨d, rfl⟩ := Int.eq_ofNat_of_zero_le (show 0 ≤ den by omega); have HG : Sl _ := ⟨fun W : World => wgcd_any n d W (by omega) (by omega)⟩
    have HV : Sl (r = (((Nat.gcd n d : Nat) : Int) == 1)) := ⟨by
      rw [← HR.out, Bool.eq_iff_iff, decide_eq_true_iff, beq_iff_eq]; unfold vF; simp only [Int.natAbs_natCast]
      omega⟩
    have hw : IntKind.i64.wrap (64 * (d : Int)) = 64 * (d : Int) := (by rw [IntKind.wrap_i64]; omega); have g1 : ¬ (d : Int) < 1 := (by omega); have g2 : ¬ 15 < (d : Int) := (by omega); have g3 : ¬ (n : Int) < 1 := (by omega); have g4 : ¬ 64 * (d : Int) < (n : Int) := (by omega); generalize Nat.gcd n d = g at *
    go_enter Tryz.func54, Tryz.ntmps54; go_wp2_with fail; refine (HG.out _).mono ?_; rintro e w1 ⟨rfl, m, rfl⟩; go_wp2_with fail; go_ret; exact ⟨by rw [HV.out]; rfl, below_drewN HU.out m⟩
  · have HV : Sl (r = false) := ⟨by
      rw [← HR.out, decide_eq_false_iff_not]; unfold vF; intro h
      exact hok ⟨h.1, h.2.1⟩⟩
    have hcase : den < 1 ∨ (¬ den < 1 ∧ 15 < den) ∨ (¬ den < 1 ∧ ¬ 15 < den ∧ num < 1) ∨ (¬ den < 1 ∧ ¬ 15 < den ∧ ¬ num < 1 ∧ 64 * den < num) := (by omega); clear hok HR; rcases hcase with h1 | ⟨h1, h2⟩ | ⟨h1, h2, h3⟩ | ⟨h1, h2, h3, h4⟩
    · have d1 : decide (1 ≤ den) = false := decide_eq_false (by omega); go_enter Tryz.func54, Tryz.ntmps54; go_wp2_with fail; go_ret; exact ⟨by rw [HV.out]; rfl, HU.out⟩
    · have d1 : decide (1 ≤ den) = true := decide_eq_true (by omega); have d2 : decide (den ≤ 15) = false := decide_eq_false (by omega); go_enter Tryz.func54, Tryz.ntmps54; go_wp2_with fail; go_ret; exact ⟨by rw [HV.out]; rfl, HU.out⟩
    · have d1 : decide (1 ≤ den) = true := decide_eq_true (by omega); have d2 : decide (den ≤ 15) = true := decide_eq_true (by omega); have d3 : decide (1 ≤ num) = false := decide_eq_false (by omega); go_enter Tryz.func54, Tryz.ntmps54; go_wp2_with fail; go_ret; exact ⟨by rw [HV.out]; rfl, HU.out⟩
    · have d1 : decide (1 ≤ den) = true := decide_eq_true (by omega); have d2 : decide (den ≤ 15) = true := decide_eq_true (by omega); have d3 : decide (1 ≤ num) = true := decide_eq_true (by omega); have hw : IntKind.i64.wrap (64 * den) = 64 * den := (by rw [IntKind.wrap_i64]; omega); have d4 : decide (num ≤ 64 * den) = false := decide_eq_false (by omega); go_enter Tryz.func54, Tryz.ntmps54; go_wp2_with fail; go_ret; exact ⟨by rw [HV.out]; rfl, HU.out⟩
end Go.Proofs.YtafadpaljanghaaGreatDoor
namespace Go.Proofs.YtafadpaljanghaaGreatDoor
set_option linter.unusedSimpArgs false
open Go.RowKit
set_option linter.unusedVariables false
def tx (u : Nat) : ByteArray := ⟨(Lib.decDigits u).toArray⟩
theorem tx_size {u : Nat} (h : u < 100) : (tx u).size ≤ 2 := by
  unfold tx; have e : (⟨(Lib.decDigits u).toArray⟩ : ByteArray).size = (Lib.decDigits u).length := (by simp [ByteArray.size]); rw [e, Lib.decDigits]
  split
  · simp
  · rw [Lib.decDigits, dif_pos (by omega)]; simp
theorem itoa_tx {u : Nat} (h : u < 100) (W : World) : Calls Tryz.prog 55 #[.int .i64 u] W fun e w' => e = .returned (.string (tx u)) ∧ w' = W := Tryz.strconv_Itoa_small u h W
set_option maxHeartbeats 3200000 in
set_option maxRecDepth 100000 in
theorem feet_any (num den : Int) (w : World) : Calls Tryz.prog 24 #[.agg #[.int .i64 num, .int .i64 den]] w fun e w' => (∃ s, e = .returned (.tuple #[.string s, .int .i64 (if vF num den then 0 else 2)])) ∧ Below w.heap.size w w' := by
  have hu : Below w.heap.size w (w.alloc (.cells #[.int .i64 num, .int .i64 den] 23)) := (Below.refl _ _).alloc (Nat.le_refl _) _; have X0 := Blk.new w 23 #[.int .i64 num, .int .i64 den]; have HV : Sl _ := ⟨fun W : World => wvalid_any num den W⟩
  by_cases hv : vF num den
  · rw [if_pos hv]; rw [decide_eq_true hv] at HV; obtain ⟨⟨h1, h2⟩, ⟨h3, h4⟩, _⟩ := hv; obtain ⟨n, rfl⟩ := Int.eq_ofNat_of_zero_le (show 0 ≤ num by omega); obtain ⟨d, rfl⟩ := Int.eq_ofNat_of_zero_le (show 0 ≤ den by omega); have hd0 : ¬ (d : Int) = 0 := (by omega); have hq : (n : Int).tdiv (d : Int) = ((n / d : Nat) : Int) := (by rw [Int.tdiv_eq_ediv_of_nonneg (by omega)]; rfl); have hr : (n : Int).tmod (d : Int) = ((n % d : Nat) : Int) := (by rw [Int.tmod_eq_emod_of_nonneg (by omega)]; rfl)
    have hq64 : n / d < 100 := by
      have : n / d ≤ 64 := (by rw [Nat.div_le_iff_le_mul_add_pred (by omega)]; omega); omega
    have hr15 : n % d < 100 := (by have := Nat.mod_lt n (show d > 0 by omega); omega); have hd15 : d < 100 := (by omega); obtain ⟨q, hqe⟩ : ∃ q, n / d = q := ⟨_, rfl⟩; obtain ⟨r, hre⟩ : ∃ r, n % d = r := ⟨_, rfl⟩; rw [hqe] at hq hq64; rw [hre] at hr hr15; have HIq : Sl _ := ⟨fun W : World => itoa_tx hq64 W⟩; have HIr : Sl _ := ⟨fun W : World => itoa_tx hr15 W⟩; have HId : Sl _ := ⟨fun W : World => itoa_tx hd15 W⟩; have sq := tx_size hq64; have sr := tx_size hr15; have sd := tx_size hd15; generalize tx q = tq at *
    generalize tx r = tr at *
    generalize tx d = td at *
    clear hqe hre h3 h4 h1 h2; go_enter Tryz.func24, Tryz.ntmps24; go_wp2_with fail; generalize w.alloc (.cells #[.int .i64 (n : Int), .int .i64 (d : Int)] 23) = w0 at *
    refine (HV.out w0).mono ?_; rintro e w1 ⟨rfl, hb⟩; have u1 := hu.trans (hb.mono hu.size); have X1 := X0.below hb X0.lt; have x0 := X1.cell 0; have x1 := X1.cell 1; simp at x0 x1; clear hu hb X0 HV; go_wp2_with fail
    go_quiet (fail)
    have u2 := below_drewN u1 nq; have X2 : Blk (w1.drewN nq) w.heap.size _ _ := X1.drewN nq; clear u1 X1 x0 x1; generalize w1.drewN nq = w2 at *
    have x0 := X2.cell 0; have x1 := X2.cell 1; simp at x0 x1; go_wp2_with fail; have hd2 : RowKit.Below w.heap.size w w2.drew := below_drewN u2 1; have xx1 : w2.drew.cell? ⟨w.heap.size, 1, none⟩ = some (.int .i64 d) := x1
    go_region_with (first
      | (go_at_call 55; (with_reducible refine (HIr.out _).mono ?_); rintro e w3 ⟨rfl, rfl⟩)
      | (go_at_call 55; (with_reducible refine (HId.out _).mono ?_); rintro e w4 ⟨rfl, rfl⟩)
      | fail)
    all_goals (
      clear x0 x1 X2 u2; generalize w2.drew = w5 at *
      by_cases hd1 : (d : Int) = 1
      · have hb1 : ((d : Int) == 1) = true := (by rw [hd1]; rfl); go_wp2_with fail; refine (HIq.out _).mono ?_; rintro e w6 ⟨rfl, rfl⟩; go_wp2_with fail; go_ret2; exact ⟨⟨_, rfl⟩, hd2⟩
      · have hb1 : ((d : Int) == 1) = false := (by rw [beq_eq_false_iff_ne]; exact hd1)
        by_cases hq0 : (q : Int) = 0
        · have hb2 : ((q : Int) == 0) = true := (by rw [hq0]; rfl); go_wp2_with fail; go_ret2; exact ⟨⟨_, rfl⟩, hd2⟩
        · have hb2 : ((q : Int) == 0) = false := (by rw [beq_eq_false_iff_ne]; exact hq0); go_wp2_with fail; refine (HIq.out _).mono ?_; rintro e w6 ⟨rfl, rfl⟩; go_wp2_with fail; go_ret2
          exact ⟨⟨_, rfl⟩, hd2⟩)
  · rw [if_neg hv]; rw [decide_eq_false hv] at HV; have HU : Sl _ := ⟨hu⟩; clear hv hu X0; go_enter Tryz.func24, Tryz.ntmps24; go_wp2_with fail; refine (HV.out _).mono ?_; rintro e w1 ⟨rfl, hb⟩; go_wp2_with fail; go_ret2; exact ⟨⟨_, rfl⟩, HU.out.trans (hb.mono HU.out.size)⟩
end Go.Proofs.YtafadpaljanghaaGreatDoor
namespace Go.Proofs.YtafadpaljanghaaGreatDoor
set_option linter.unusedSimpArgs false
open Go.RowKit
set_option linter.unusedVariables false
def ftSg (num den : Nat) (m : Int) : Int := sgn (atM (ftL num den) 24 1 m)
noncomputable def semI (num den : Nat) : Int :=
  (Classical.epsilon (fun k : Int => ∃ b er, FloorRes (ftL num den) 24 1 (ftSg num den) (.returned (.tuple #[.int .i64 k, .bool b, .int .i64 er]))) + 1) / 2
theorem semI_of {num den : Nat} {k er : Int} {b : Bool} (h : FloorRes (ftL num den) 24 1 (ftSg num den) (.returned (.tuple #[.int .i64 k, .bool b, .int .i64 er]))) : semI num den = (k + 1) / 2 := by
  have hx : ∃ k : Int, ∃ b er, FloorRes (ftL num den) 24 1 (ftSg num den) (.returned (.tuple #[.int .i64 k, .bool b, .int .i64 er])) := ⟨k, b, er, h⟩; obtain ⟨b', er', h'⟩ := Classical.epsilon_spec hx; have e := FloorRes_det (den := 1) (by decide) h h'; unfold semI; generalize Classical.epsilon (fun k : Int => ∃ b er, FloorRes (ftL num den) 24 1 (ftSg num den) (.returned (.tuple #[.int .i64 k, .bool b, .int .i64 er]))) = k' at *
  simp at e; rw [e.1]
theorem okF_of {num den : Int} (h : vF num den) : ∃ n d : Nat, num = (n : Int) ∧ den = (d : Int) ∧ okF n d := by
  obtain ⟨⟨h1, h2⟩, ⟨h3, h4⟩, _⟩ := h; obtain ⟨n, rfl⟩ := Int.eq_ofNat_of_zero_le (show 0 ≤ num by omega); obtain ⟨d, rfl⟩ := Int.eq_ofNat_of_zero_le (show 0 ≤ den by omega); exact ⟨n, d, rfl, rfl, ⟨by omega, by omega⟩, by omega, by omega⟩
theorem ft_floor (A : Option Addr) (c num den : Nat) (w : World) (h : okF num den) (hl : TR w A 2 (ftL num den)) :
    Calls Tryz.prog 56 #[.slice A 2 c, .int .i64 1, .int .i64 24] w fun e w' => FloorRes (ftL num den) 24 1 (ftSg num den) e ∧ Below w.heap.size w w' :=
  Floor_any A 2 c (ftL num den) 1 24 (ftSg num den) w hl (ftL_ok h) (by decide) (by decide) (by decide) (by decide) fun m h1 h2 => sign_of _ 256 (ft_sg h h1 h2)
theorem ftL_mem (W : World) (T : TypeId) (num den : Nat) : TR (W.alloc (.cells #[.int .i64 (8 * (den : Int)), .int .i64 1, .int .i64 (num : Int), .int .i64 (-1)] T)) (some ⟨W.heap.size, 0, none⟩) 2 (ftL num den) := by
  refine ⟨rfl, rfl, fun _ => ⟨_, rfl, by simp, fun j u hj => ?_⟩⟩; have hb := Blk.new W T #[.int .i64 (8 * (den : Int)), .int .i64 1, .int .i64 (num : Int), .int .i64 (-1)]
  have e : (⟨W.heap.size, 0, none⟩ : Addr).add j = ⟨W.heap.size, j, none⟩ := by
    unfold Addr.add
    by_cases h : j = 0
    · subst h; simp
    · simp [h]
  rw [e, hb.cell]; simpa [flat, ftL] using hj
theorem shr1 (k : Int) : k >>> 1 = k / 2 := by rw [Int.shiftRight_eq_div_pow]; rfl
set_option maxHeartbeats 1600000 in
set_option maxRecDepth 100000 in
theorem semi_any (num den : Nat) (h : okF num den) (w : World) : Calls Tryz.prog 25 #[.agg #[.int .i64 (num : Int), .int .i64 (den : Int)]] w fun e w' => e = .returned (.int .i64 (semI num den)) ∧ Below w.heap.size w w' := by
  have X0 := Blk.new w 23 #[.int .i64 (num : Int), .int .i64 (den : Int)]; have hu := (Below.refl w.heap.size w).alloc (Nat.le_refl _) (.cells #[.int .i64 (num : Int), .int .i64 (den : Int)] 23); have hT := ftL_mem (w.alloc (.cells #[.int .i64 (num : Int), .int .i64 (den : Int)] 23)) 69 num den; rw [show (w.alloc (.cells #[.int .i64 (num : Int), .int .i64 (den : Int)] 23)).heap.size = w.heap.size + 1 by simp] at hT; have HU : Sl _ := ⟨hu.alloc (by simp) (.cells #[.int .i64 (8 * (den : Int)), .int .i64 1, .int .i64 (num : Int), .int .i64 (-1)] 69)⟩; have HF : Sl _ := ⟨ft_floor _ 2 num den _ h hT⟩; have hb1 : (den : Int) ≤ 15 ∧ (num : Int) ≤ 960 := (by have := h.1; have := h.2; omega); have hw8 : IntKind.i64.wrap (8 * (den : Int)) = 8 * (den : Int) := (by rw [IntKind.wrap_i64]; omega); clear hu X0 hT h; go_enter Tryz.func25, Tryz.ntmps25; go_wp2_with fail; refine HF.out.mono ?_; rintro e w1 ⟨hr, hb⟩; obtain ⟨k, b, er, rfl, hk1, hk2⟩ := FloorRes_shape hr; have HS : Sl (semI num den = (k + 1) / 2) := ⟨semI_of hr⟩; have HB : Sl _ := ⟨hb⟩; have hkw : IntKind.i64.wrap (k + 1) = k + 1 := (by rw [IntKind.wrap_i64]; omega); clear hr hb HF; go_wp2_with fail; go_ret; refine ⟨?_, HU.out.trans (HB.out.mono HU.out.size)⟩; rw [HS.out, ← shr1]
  first | rfl | (congr 3; done) | (simp; done) | (rw [shr1]; simp; omega)
noncomputable def SmV (num den : Int) : Int × Int := if vF num den then (semI num.toNat den.toNat, 0) else (0, 2)
set_option maxHeartbeats 1600000 in
set_option maxRecDepth 100000 in
theorem Semi_any (num den : Int) (w : World) : Calls Tryz.prog 8 #[.agg #[.int .i64 num, .int .i64 den]] w fun e w' => e = .returned (.tuple #[.int .i64 (SmV num den).1, .int .i64 (SmV num den).2]) ∧ Below w.heap.size w w' := by
  have X0 := Blk.new w 23 #[.int .i64 num, .int .i64 den]; have hu := (Below.refl w.heap.size w).alloc (Nat.le_refl _) (.cells #[.int .i64 num, .int .i64 den] 23); have HF : Sl _ := ⟨fun W : World => feet_any num den W⟩; have HU : Sl _ := ⟨hu⟩; have HX : Sl _ := ⟨X0⟩; clear hu X0
  by_cases hv : vF num den
  · have HV : Sl (SmV num den = (semI num.toNat den.toNat, 0)) := ⟨by unfold SmV; rw [if_pos hv]⟩; rw [if_pos hv] at HF
    have HS : Sl (∀ W : World, Calls Tryz.prog 25 #[.agg #[.int .i64 num, .int .i64 den]] W fun e w' => e = .returned (.int .i64 (semI num.toNat den.toNat)) ∧ Below W.heap.size W w') := ⟨fun W => by
      obtain ⟨n, d, e1, e2, hk⟩ := okF_of hv; subst e1 e2
      simpa using semi_any n d hk W⟩
    clear hv; go_enter Tryz.func8, Tryz.ntmps8; go_wp2_with fail; generalize w.alloc (.cells #[.int .i64 num, .int .i64 den] 23) = w0 at *
    refine (HF.out w0).mono ?_; rintro e w1 ⟨⟨s, rfl⟩, hb⟩; have X1 := HX.out.below hb HX.out.lt; have x0 := X1.cell 0; have x1 := X1.cell 1; simp at x0 x1; have HB : Sl _ := ⟨hb⟩; clear hb X1; go_wp2_with fail; refine (HS.out w1).mono ?_; rintro e w2 ⟨rfl, hb2⟩; have HB2 : Sl _ := ⟨hb2⟩; clear hb2 x0 x1; go_wp2_with fail; go_ret2; have h1 := HU.out.trans (HB.out.mono HU.out.size); exact ⟨by rw [HV.out]; rfl, h1.trans (HB2.out.mono h1.size)⟩
  · have HV : Sl (SmV num den = (0, 2)) := ⟨by unfold SmV; rw [if_neg hv]⟩; rw [if_neg hv] at HF; clear hv; go_enter Tryz.func8, Tryz.ntmps8; go_wp2_with fail; generalize w.alloc (.cells #[.int .i64 num, .int .i64 den] 23) = w0 at *
    refine (HF.out w0).mono ?_; rintro e w1 ⟨⟨s, rfl⟩, hb⟩; have HB : Sl _ := ⟨hb⟩; clear hb; go_wp2_with fail; go_ret2; have h1 := HU.out.trans (HB.out.mono HU.out.size); exact ⟨by rw [HV.out]; rfl, h1⟩
end Go.Proofs.YtafadpaljanghaaGreatDoor
namespace Go.Proofs.YtafadpaljanghaaGreatDoor
set_option linter.unusedSimpArgs false
set_option linter.unusedVariables false
def nxe (o : List Nat) (i k g n : Nat) : Nat := if n = i ∨ n = k then o[n]?.getD 0 / g else o[n]?.getD 0
def nxt (o : List Nat) (i k g : Nat) : Nat → List Nat
  | 0 => []
  | n+1 => if 1 < nxe o i k g n then nxt o i k g n ++ [nxe o i k g n] else nxt o i k g n
structure Bz (N : List Nat) (o : List Nat) : Prop where
  two : ∀ p ∈ o, 2 ≤ p ∧ p < 2097152
  gen : ∀ x ∈ N, Gen o x
  mzb : mz o [] ≤ 1100
theorem mz_nil (o : List Nat) : mz o [] = (o.map fun n => 3 * n.log2).sum := by unfold mz; simp
theorem mz_snoc (o : List Nat) (x : Nat) : mz (o ++ [x]) [] = mz o [] + 3 * x.log2 := by rw [mz_nil, mz_nil, List.map_append, List.sum_append]; simp
theorem mz_length : ∀ (o : List Nat), (∀ p ∈ o, 2 ≤ p) → 3 * o.length ≤ mz o []
  | [], _ => by simp [mz]
  | p :: o, h => by
    have ih := mz_length o fun q hq => h q (List.mem_cons_of_mem _ hq)
    have := log2_pos (h p List.mem_cons_self); rw [mz_nil] at ih ⊢; rw [List.map_cons, List.sum_cons, List.length_cons]; omega
theorem Bz.len {N o : List Nat} (h : Bz N o) : o.length ≤ 366 := by
  have := mz_length o fun p hp => (h.two p hp).1
  have := h.mzb; omega
theorem nxe_pos {o : List Nat} {i k g : Nat} (h : ∀ p ∈ o, 2 ≤ p) (hi : ∀ x, o[i]? = some x → g ∣ x) (hk : ∀ x, o[k]? = some x → g ∣ x) (hg : 1 < g) {n : Nat} (hn : n < o.length) :
    ∃ x, o[n]? = some x ∧ 1 ≤ nxe o i k g n ∧ nxe o i k g n ≤ x ∧ (n = i ∨ n = k → nxe o i k g n * g = x) ∧ (¬ (n = i ∨ n = k) → nxe o i k g n = x) := by
  obtain ⟨x, hx⟩ : ∃ x, o[n]? = some x := ⟨_, List.getElem?_eq_getElem hn⟩; have h2 := h x (List.mem_of_getElem? hx); refine ⟨x, hx, ?_⟩; unfold nxe; rw [hx, Option.getD_some]
  by_cases hc : n = i ∨ n = k
  · have hd : g ∣ x := by
      rcases hc with rfl | rfl
      · exact hi x hx
      · exact hk x hx
    rw [if_pos hc]; obtain ⟨c, rfl⟩ := hd; rw [Nat.mul_div_cancel_left _ (by omega)]; have hc0 : c ≠ 0 := fun h0 => by subst h0; simp at h2
    have := Nat.le_mul_of_pos_left c (show 0 < g by omega); exact ⟨by omega, this, fun _ => Nat.mul_comm _ _, fun h => absurd hc h⟩
  · rw [if_neg hc]; exact ⟨by omega, Nat.le_refl _, fun h => absurd h hc, fun _ => rfl⟩
theorem nxt_mem {o : List Nat} {i k g : Nat} {p : Nat} : ∀ {n}, p ∈ nxt o i k g n ↔ ∃ j, j < n ∧ 1 < nxe o i k g j ∧ p = nxe o i k g j
  | 0 => by simp [nxt]
  | n+1 => by
    rw [nxt]; constructor
    · intro h
      split at h
      · rename_i h1; rcases List.mem_append.1 h with h | h
        · obtain ⟨j, a, b⟩ := nxt_mem.1 h; exact ⟨j, by omega, b⟩
        · exact ⟨n, by omega, h1, by simpa using h⟩
      · obtain ⟨j, a, b⟩ := nxt_mem.1 h; exact ⟨j, by omega, b⟩
    · rintro ⟨j, a, b, c⟩
      by_cases hj : j = n
      · subst hj; rw [if_pos b, c]; exact List.mem_append_right _ (by simp)
      · have := nxt_mem (n := n).2 ⟨j, by omega, b, c⟩
        split
        · exact List.mem_append_left _ this
        · exact this
theorem nxt_mz {o : List Nat} {i k g : Nat} (h : ∀ p ∈ o, 2 ≤ p) (hi : ∀ x, o[i]? = some x → g ∣ x) (hk : ∀ x, o[k]? = some x → g ∣ x) (hg : 1 < g) (hik : i ≠ k) : ∀ n, n ≤ o.length →
    mz (nxt o i k g n) [] + (if i < n then 3 * g.log2 else 0) + (if k < n then 3 * g.log2 else 0) ≤ mz (o.take n) []
  | 0, _ => by simp [nxt, mz]
  | n+1, hn => by
    have ih := nxt_mz h hi hk hg hik n (by omega); obtain ⟨x, hx, p1, p2, p3, p4⟩ := nxe_pos h hi hk hg (show n < o.length by omega)
    have e : mz (nxt o i k g (n + 1)) [] = mz (nxt o i k g n) [] + 3 * (nxe o i k g n).log2 := by
      rw [nxt]
      split
      · exact mz_snoc _ _
      · have : nxe o i k g n = 1 := (by omega); rw [this, show Nat.log2 1 = 0 by decide]; rfl
    rw [e, List.take_add_one, hx]; show _ ≤ mz (o.take n ++ [x]) []; rw [mz_snoc]
    by_cases hc : n = i ∨ n = k
    · have hl := log2_mul (a := nxe o i k g n) (b := g) (by omega) (by omega); rw [p3 hc] at hl; rcases hc with rfl | rfl
      · rw [if_neg (Nat.lt_irrefl _)] at ih; rw [if_pos (Nat.lt_succ_self _)]
        by_cases h2 : k < n
        · rw [if_pos h2] at ih; rw [if_pos (by omega)]; omega
        · rw [if_neg h2] at ih; rw [if_neg (by omega)]; omega
      · rw [if_neg (Nat.lt_irrefl n)] at ih; rw [if_pos (Nat.lt_succ_self n)]
        by_cases h2 : i < n
        · rw [if_pos h2] at ih; rw [if_pos (by omega)]; omega
        · rw [if_neg h2] at ih; rw [if_neg (by omega)]; omega
    · rw [p4 hc]
      have e1 : (if i < n + 1 then 3 * g.log2 else 0) = (if i < n then 3 * g.log2 else 0) := by
        by_cases g1 : i < n
        · rw [if_pos g1, if_pos (by omega)]
        · rw [if_neg g1, if_neg (by omega)]
      have e2 : (if k < n + 1 then 3 * g.log2 else 0) = (if k < n then 3 * g.log2 else 0) := by
        by_cases g1 : k < n
        · rw [if_pos g1, if_pos (by omega)]
        · rw [if_neg g1, if_neg (by omega)]
      rw [e1, e2]; omega
theorem Bz.next {N o : List Nat} {i k x y g : Nat} (h : Bz N o) (hki : k < i) (hx : o[i]? = some x) (hy : o[k]? = some y) (hg : Nat.gcd x y = g) (h1 : 1 < g) : Bz N (nxt o i k g o.length ++ [g]) ∧ mz (nxt o i k g o.length ++ [g]) [] + 3 ≤ mz o [] := by
  have h2 : ∀ p ∈ o, 2 ≤ p := fun p hp => (h.two p hp).1
  have hi : ∀ z, o[i]? = some z → g ∣ z := fun z hz => by rw [hx] at hz; injection hz with hz; rw [← hz, ← hg]; exact Nat.gcd_dvd_left _ _
  have hk : ∀ z, o[k]? = some z → g ∣ z := fun z hz => by rw [hy] at hz; injection hz with hz; rw [← hz, ← hg]; exact Nat.gcd_dvd_right _ _
  have hil : i < o.length := by
    rcases Nat.lt_or_ge i o.length with a | a
    · exact a
    · rw [List.getElem?_eq_none a] at hx; cases hx
  have hm := nxt_mz h2 hi hk h1 (by omega) o.length (Nat.le_refl _); rw [if_pos hil, if_pos (by omega), List.take_length] at hm; have hl := log2_pos h1; have hms : mz (nxt o i k g o.length ++ [g]) [] + 3 ≤ mz o [] := (by rw [mz_snoc]; omega)
  have hgx : g < 2097152 := by
    have hxb := h.two x (List.mem_of_getElem? hx); have := Nat.le_of_dvd (by omega) (hi x hx); omega
  refine ⟨⟨fun p hp => ?_, fun z hz => (h.gen z hz).subst fun s hs => ?_, by have := h.mzb; omega⟩, hms⟩
  · rcases List.mem_append.1 hp with hp | hp
    · obtain ⟨j, a, b, c⟩ := nxt_mem.1 hp; obtain ⟨w, hw, p1, p2, _⟩ := nxe_pos h2 hi hk h1 a; have := h.two w (List.mem_of_getElem? hw); rw [c]; omega
    · rw [List.mem_singleton] at hp; rw [hp]; omega
  · obtain ⟨j, hj⟩ := List.mem_iff_getElem?.1 hs
    have hjl : j < o.length := by
      rcases Nat.lt_or_ge j o.length with a | a
      · exact a
      · rw [List.getElem?_eq_none a] at hj; cases hj
    obtain ⟨w, hw, p1, p2, p3, p4⟩ := nxe_pos h2 hi hk h1 hjl; rw [hj] at hw; injection hw with hw
    subst hw
    have hG : Gen (nxt o i k g o.length ++ [g]) (nxe o i k g j) := by
      rcases Nat.lt_or_ge 1 (nxe o i k g j) with a | a
      · exact Gen.of (List.mem_append_left _ (nxt_mem.2 ⟨j, hjl, a, rfl⟩))
      · rw [show nxe o i k g j = 1 by omega]; exact Gen.one
    by_cases hc : j = i ∨ j = k
    · rw [← p3 hc]; exact hG.times (Gen.of (List.mem_append_right _ (by simp)))
    · rw [← p4 hc]; exact hG
def big (l : List Nat) : List Nat := l.filter fun n => decide (1 < n)
theorem big_mz : ∀ (l : List Nat), (∀ x ∈ l, x < 2097152) → mz (big l) [] ≤ l.length * 60
  | [], _ => by simp [big, mz]
  | n :: l, h => by
    have ih := big_mz l fun x hx => h x (List.mem_cons_of_mem _ hx)
    have hn := h n List.mem_cons_self
    have hl : n.log2 ≤ 20 := by
      rcases Nat.eq_zero_or_pos n with h0 | h0
      · subst h0; decide
      · have := (Nat.log2_lt (by omega)).2 (show n < 2 ^ 21 from hn); omega
    unfold big at ih ⊢; rw [List.filter_cons]
    split
    · rw [mz_nil] at ih ⊢; rw [List.map_cons, List.sum_cons, List.length_cons]; omega
    · rw [List.length_cons]; omega
theorem Bz.start {l : List Nat} (h : ∀ x ∈ l, 1 ≤ x ∧ x < 2097152) (hl : l.length ≤ 17) : Bz l (big l) := by
  refine ⟨fun p hp => ?_, fun x hx => ?_, ?_⟩
  · have := List.mem_filter.1 hp; have h1 := h p this.1; have h2 := of_decide_eq_true this.2; omega
  · rcases Nat.lt_or_ge 1 x with h1 | h1
    · exact Gen.of (List.mem_filter.2 ⟨hx, decide_eq_true h1⟩)
    · have := h x hx; rw [show x = 1 by omega]; exact Gen.one
  · have := big_mz l fun x hx => (h x hx).2
    omega
def Pc (o : List Nat) (i : Nat) : Prop := ∀ a b x y, a < b → b < i → o[a]? = some x → o[b]? = some y → Nat.gcd x y = 1
theorem Pc.cop {N o : List Nat} (h : Bz N o) (hp : Pc o o.length) : Cop o := by
  refine ⟨fun p hp => (h.two p hp).1, ?_⟩; rw [List.pairwise_iff_getElem]; intro i j hi hj hij; exact hp i j _ _ hij hj (List.getElem?_eq_getElem hi) (List.getElem?_eq_getElem hj)
end Go.Proofs.YtafadpaljanghaaGreatDoor
namespace Go.Proofs.YtafadpaljanghaaGreatDoor
set_option linter.unusedSimpArgs false
open Go.RowKit
set_option linter.unusedVariables false
end Go.Proofs.YtafadpaljanghaaGreatDoor
namespace Go.Proofs.YtafadpaljanghaaGreatDoor
set_option linter.unusedSimpArgs false
open Go.RowKit
set_option linter.unusedVariables false
end Go.Proofs.YtafadpaljanghaaGreatDoor
namespace Go.Proofs.YtafadpaljanghaaGreatDoor
set_option linter.unusedSimpArgs false
open Go.RowKit
set_option linter.unusedVariables false
end Go.Proofs.YtafadpaljanghaaGreatDoor
namespace Go.Proofs.YtafadpaljanghaaGreatDoor
set_option linter.unusedSimpArgs false
open Go.RowKit
set_option linter.unusedVariables false
end Go.Proofs.YtafadpaljanghaaGreatDoor
namespace Go.Proofs.YtafadpaljanghaaGreatDoor
set_option linter.unusedSimpArgs false
open Go.RowKit
set_option linter.unusedVariables false
set_option maxHeartbeats 800000 in
theorem m11gcd_any (a b : Nat) (w : World) (ha : a < 4000000000000000000) (hb : b < 4000000000000000000) :
    Calls Tryz.prog 29 #[.int .i64 a, .int .i64 b] w fun e w' => e = .returned (.int .i64 (Nat.gcd a b)) ∧ ∃ m, w' = w.drewN m := by
  go_enter Tryz.func29, Tryz.ntmps29; go_wp2_with fail
  go_loopw [0, 1] (fun s0 s1 wr => ∃ (x y : Nat), s0 = .int .i64 x ∧ s1 = .int .i64 y ∧ x < 4000000000000000000 ∧ y < 4000000000000000000 ∧ Sl (Nat.gcd x y = Nat.gcd a b ∧ ∃ m, wr = w.drewN m)) (fun _ s1 _ => (RowKit.intOf s1).toNat)
  case atStart => exact ⟨a, b, rfl, rfl, ha, hb, ⟨rfl, 0, rfl⟩⟩
  case round =>
    clear ha hb; obtain ⟨x, y, rfl, rfl, hx, hy, HG⟩ := hrel; rcases Nat.eq_zero_or_pos y with h0 | h0
    · subst h0; go_wp2_with fail; go_ret; obtain ⟨h1, m, h2⟩ := HG.out; rw [Nat.gcd_zero_right] at h1; exact ⟨by rw [← h1]; rfl, m, h2⟩
    · have hne : ((y : Int) == 0) = false := (by rw [beq_eq_false_iff_ne]; omega); have hmod : (x : Int).tmod (y : Int) = ((x % y : Nat) : Int) := (by rw [Int.tmod_eq_emod_of_nonneg (by omega)]; omega); have hlt : x % y < y := Nat.mod_lt _ h0; have HGN : Sl (Nat.gcd y (x % y) = Nat.gcd a b) := ⟨by rw [← HG.out.1, Nat.gcd_comm y, ← Nat.gcd_rec, Nat.gcd_comm]⟩; generalize x % y = r at *
      go_wp2_with fail
      go_quiet (fail)
      go_wp2_with fail; obtain ⟨m, hm⟩ := HG.out.2; refine ⟨⟨y, r, rfl, rfl, hy, by omega, ⟨HGN.out, m + nq, by rw [hm]; simp⟩⟩, by simp [RowKit.intOf]; omega⟩
end Go.Proofs.YtafadpaljanghaaGreatDoor
namespace Go.Proofs.YtafadpaljanghaaGreatDoor
set_option linter.unusedSimpArgs false
open Go.RowKit
set_option linter.unusedVariables false
def FtT (n : Int) (e : Ending) : Prop := e = .returned (.tuple #[.agg #[.int .i64 ((ftS n).1.1 : Int), .int .i64 ((ftS n).1.2 : Int)], .int .i64 (ftS n).2])
theorem ftS_none {n : Int} {k r : Nat} (hc : ¬ (n < -36 ∨ 82 < n)) (hk : n + 36 = (k : Int)) (hr : k % 12 = r) (h : ftB r = none) : ftS n = ((0, 0), 4) := by
  unfold ftS; rw [if_neg hc, show (n + 36).toNat = k by omega, hr, h]
theorem ftS_some {n : Int} {k r q p d : Nat} (hc : ¬ (n < -36 ∨ 82 < n)) (hk : n + 36 = (k : Int)) (hr : k % 12 = r) (hq : k / 12 = q) (h : ftB r = some (p, d)) : ftS n = (ftR p (d * 2 ^ q), 0) := by
  unfold ftS; rw [if_neg hc, show (n + 36).toNat = k by omega, hr, hq, h]
theorem pow_9 {q : Nat} (h : q ≤ 9) : 1 ≤ 2 ^ q ∧ 2 ^ q ≤ 512 := ⟨Nat.one_le_two_pow, by have := Nat.pow_le_pow_right (show 0 < 2 by decide) h; simpa using this⟩
set_option maxHeartbeats 6400000 in
set_option maxRecDepth 100000 in
theorem mfeet_any (n : Int) (w : World) (hn : i64 n) : Calls Tryz.prog 10 #[.int .i64 n] w fun e w' => FtT n e ∧ Below w.heap.size w w' := by
  have X0 : Sl (Blk (w.alloc (.cells #[.int .i64 0, .int .i64 0] 23)) w.heap.size 23 #[.int .i64 0, .int .i64 0]) := ⟨Blk.new _ _ _⟩; have HU : Sl (Below w.heap.size w (w.alloc (.cells #[.int .i64 0, .int .i64 0] 23))) := ⟨(Below.refl _ _).alloc (Nat.le_refl _) _⟩
  by_cases hc : n < -36 ∨ 82 < n
  · have HFT : Sl (ftS n = ((0, 0), 7)) := ⟨by unfold ftS; rw [if_pos hc]⟩
    by_cases h1 : n < -36
    · have hd1 : decide (n < -36) = true := decide_eq_true h1; clear hc; go_enter Tryz.func10, Tryz.ntmps10; go_wp2_with fail; refine bodyPost_ret (results_row2m rfl _ _ w.heap.size _ _ _ rfl X0.out Tryz.underlying23 rfl (by kernel_rfl)) rfl ?_; exact ⟨by unfold FtT; rw [HFT.out]; rfl, HU.out⟩
    · have hd1 : decide (n < -36) = false := decide_eq_false h1; have h2 : 82 < n := (by omega); have hd2 : decide (82 < n) = true := decide_eq_true h2; clear hc; go_enter Tryz.func10, Tryz.ntmps10; go_wp2_with fail; refine bodyPost_ret (results_row2m rfl _ _ w.heap.size _ _ _ rfl X0.out Tryz.underlying23 rfl (by kernel_rfl)) rfl ?_; exact ⟨by unfold FtT; rw [HFT.out]; rfl, HU.out⟩
  · have h1 : ¬ n < -36 := fun h => hc (.inl h)
    have h2 : ¬ 82 < n := fun h => hc (.inr h)
    have hd1 : decide (n < -36) = false := decide_eq_false h1; have hd2 : decide (82 < n) = false := decide_eq_false h2; obtain ⟨k, hk⟩ : ∃ k : Nat, n + 36 = (k : Int) := ⟨(n + 36).toNat, by omega⟩; have hw : IntKind.i64.wrap (k : Int) = (k : Int) := (by rw [IntKind.wrap_i64]; omega); have hq : (k : Int).tdiv 12 = ((k / 12 : Nat) : Int) := (by rw [Int.tdiv_eq_ediv_of_nonneg (by omega)]; omega); have hr : (k : Int).tmod 12 = ((k % 12 : Nat) : Int) := (by rw [Int.tmod_eq_emod_of_nonneg (by omega)]; omega); obtain ⟨q, hqq⟩ : ∃ q, k / 12 = q := ⟨_, rfl⟩; obtain ⟨r, hrr⟩ : ∃ r, k % 12 = r := ⟨_, rfl⟩; have HK : Sl (n + 36 = (k : Int) ∧ k / 12 = q ∧ k % 12 = r ∧ ¬ (n < -36 ∨ 82 < n)) := ⟨hk, hqq, hrr, hc⟩; have hq9 : q ≤ 9 := (by omega); have hr12 : r < 12 := (by omega); rw [hqq] at hq; rw [hrr] at hr; obtain ⟨z, hz⟩ : ∃ z, 2 ^ q = z := ⟨_, rfl⟩; have hzb : 1 ≤ z ∧ z ≤ 512 := (by rw [← hz]; exact pow_9 hq9); have hzI : (2 : Int) ^ q = (z : Int) := (by rw [← hz]; simp); have HZ : Sl (2 ^ q = z) := ⟨hz⟩; clear hqq hrr hz hc
    by_cases r0 : r = 0
    · subst r0; have HFT : Sl (ftS n = (ftR 64 (1 * z), 0)) := ⟨by rw [← HZ.out]; exact ftS_some HK.out.2.2.2 HK.out.1 HK.out.2.2.1 HK.out.2.1 rfl⟩; obtain ⟨D, hD⟩ : ∃ D, 1 * z = D := ⟨_, rfl⟩; have HD : Sl (1 * z = D) := ⟨hD⟩; have hDb : 1 ≤ D ∧ D ≤ 3584 := (by omega); have hDI : (z : Int) = (D : Int) := (by omega); have hDw : IntKind.i64.wrap (D : Int) = (D : Int) := (by rw [IntKind.wrap_i64]; omega); rw [hD] at HFT; obtain ⟨g, hg⟩ : ∃ g, Nat.gcd 64 D = g := ⟨_, rfl⟩; have HG : Sl (Nat.gcd 64 D = g) := ⟨hg⟩
      have hg0 : 1 ≤ g ∧ g ≤ 3584 := by
        have h3 : 0 < g := (by rw [← hg]; exact Nat.gcd_pos_of_pos_left _ (by decide)); have h4 : g ≤ D := (by rw [← hg]; exact Nat.gcd_le_right _ (by omega)); omega
      have HFR : Sl (ftS n = ((64 / g, D / g), 0)) := ⟨by rw [HFT.out]; unfold ftR; rw [HG.out]⟩
      have HGC : Sl (∀ W : World, Calls Tryz.prog 29 #[.int .i64 64, .int .i64 (D : Int)] W fun e w' => e = .returned (.int .i64 (g : Int)) ∧ ∃ m, w' = W.drewN m) := ⟨fun W => by
        have := m11gcd_any 64 D W (by decide) (by omega); rw [HG.out] at this
        exact this⟩
      have hgne : ¬ (g : Int) = 0 := (by omega); have hgn1 : ¬ (g : Int) = -1 := (by omega); obtain ⟨x, hx⟩ : ∃ x, 64 / g = x := ⟨_, rfl⟩; obtain ⟨y, hy⟩ : ∃ y, D / g = y := ⟨_, rfl⟩; have hx1 : (64 : Int).tdiv (g : Int) = (x : Int) := (by rw [Int.tdiv_eq_ediv_of_nonneg (by decide), ← hx]; rfl); have hy1 : (D : Int).tdiv (g : Int) = (y : Int) := (by rw [Int.tdiv_eq_ediv_of_nonneg (by omega), ← hy]; rfl); have hxb : x ≤ 256 := (by rw [← hx]; exact Nat.le_trans (Nat.div_le_self _ _) (by decide)); have hyb : y ≤ 3584 := (by rw [← hy]; exact Nat.le_trans (Nat.div_le_self _ _) (by omega)); have hxw : IntKind.i64.wrap (x : Int) = (x : Int) := (by rw [IntKind.wrap_i64]; omega); have hyw : IntKind.i64.wrap (y : Int) = (y : Int) := (by rw [IntKind.wrap_i64]; omega); rw [hx, hy] at HFR; clear hD hg hx hy HFT h1 h2
      have X5 : Sl (Blk ((w.alloc (.cells #[.int .i64 0, .int .i64 0] 23)).alloc (.cells #[.int .i64 64, .int .i64 (D : Int)] 23)) (w.heap.size + 1) 23 #[.int .i64 64, .int .i64 (D : Int)]) := ⟨by
        have := Blk.new (w.alloc (.cells #[.int .i64 0, .int .i64 0] 23)) 23 #[.int .i64 64, .int .i64 (D : Int)]
        rwa [show (w.alloc (.cells #[.int .i64 0, .int .i64 0] 23)).heap.size = w.heap.size + 1 by simp] at this⟩
      have X1 : Sl (Blk ((w.alloc (.cells #[.int .i64 0, .int .i64 0] 23)).alloc (.cells #[.int .i64 64, .int .i64 (D : Int)] 23)) w.heap.size 23 #[.int .i64 0, .int .i64 0]) := ⟨X0.out.alloc _⟩; have HU1 : Sl (Below w.heap.size w ((w.alloc (.cells #[.int .i64 0, .int .i64 0] 23)).alloc (.cells #[.int .i64 64, .int .i64 (D : Int)] 23))) := ⟨HU.out.alloc (by simp) _⟩; clear X0 HU; go_enter Tryz.func10, Tryz.ntmps10; go_wp2_with fail; generalize (w.alloc (.cells #[.int .i64 0, .int .i64 0] 23)).alloc (.cells #[.int .i64 64, .int .i64 (D : Int)] 23) = w1 at *
      refine (HGC.out w1).mono ?_; rintro e w2 ⟨rfl, m, rfl⟩; have X2 : Sl (Blk (w1.drewN m) w.heap.size 23 #[.int .i64 0, .int .i64 0]) := ⟨X1.out.drewN m⟩; have HU2 : Sl (Below w.heap.size w (w1.drewN m)) := ⟨below_drewN HU1.out m⟩; have X6 : Sl (Blk (w1.drewN m) (w.heap.size + 1) 23 #[.int .i64 64, .int .i64 (D : Int)]) := ⟨X5.out.drewN m⟩; generalize w1.drewN m = w3 at *
      have c0 := X6.out.cell 0; have c1 := X6.out.cell 1; simp at c0 c1; have e0 := X2.out.cell 0; have e1 := X2.out.cell 1; have f0 := X2.out.frozen 0; have f1 := X2.out.frozen 1; simp at e0 e1; go_wp2_with fail
      go_region
      go_wp2_with fail; have XZ := (((X2.out.drewN 1).set_ 0 (.int .i64 (x : Int))).set_ 1 (.int .i64 (y : Int))); refine bodyPost_ret (results_row2m rfl _ _ w.heap.size _ _ _ rfl XZ Tryz.underlying23 rfl (by kernel_rfl)) rfl ?_; exact ⟨by unfold FtT; rw [HFR.out]; rfl, ((below_drewN HU2.out 1).setCell (p := ⟨w.heap.size, 0, none⟩) (Nat.le_refl _) _).setCell (p := ⟨w.heap.size, 1, none⟩) (Nat.le_refl _) _⟩
    by_cases r4 : r = 4
    · subst r4; have HFT : Sl (ftS n = (ftR 256 (5 * z), 0)) := ⟨by rw [← HZ.out]; exact ftS_some HK.out.2.2.2 HK.out.1 HK.out.2.2.1 HK.out.2.1 rfl⟩; obtain ⟨D, hD⟩ : ∃ D, 5 * z = D := ⟨_, rfl⟩; have HD : Sl (5 * z = D) := ⟨hD⟩; have hDb : 1 ≤ D ∧ D ≤ 3584 := (by omega); have hDI : 5 * (z : Int) = (D : Int) := (by omega); have hDw : IntKind.i64.wrap (D : Int) = (D : Int) := (by rw [IntKind.wrap_i64]; omega); rw [hD] at HFT; obtain ⟨g, hg⟩ : ∃ g, Nat.gcd 256 D = g := ⟨_, rfl⟩; have HG : Sl (Nat.gcd 256 D = g) := ⟨hg⟩
      have hg0 : 1 ≤ g ∧ g ≤ 3584 := by
        have h3 : 0 < g := (by rw [← hg]; exact Nat.gcd_pos_of_pos_left _ (by decide)); have h4 : g ≤ D := (by rw [← hg]; exact Nat.gcd_le_right _ (by omega)); omega
      have HFR : Sl (ftS n = ((256 / g, D / g), 0)) := ⟨by rw [HFT.out]; unfold ftR; rw [HG.out]⟩
      have HGC : Sl (∀ W : World, Calls Tryz.prog 29 #[.int .i64 256, .int .i64 (D : Int)] W fun e w' => e = .returned (.int .i64 (g : Int)) ∧ ∃ m, w' = W.drewN m) := ⟨fun W => by
        have := m11gcd_any 256 D W (by decide) (by omega); rw [HG.out] at this
        exact this⟩
      have hgne : ¬ (g : Int) = 0 := (by omega); have hgn1 : ¬ (g : Int) = -1 := (by omega); obtain ⟨x, hx⟩ : ∃ x, 256 / g = x := ⟨_, rfl⟩; obtain ⟨y, hy⟩ : ∃ y, D / g = y := ⟨_, rfl⟩; have hx1 : (256 : Int).tdiv (g : Int) = (x : Int) := (by rw [Int.tdiv_eq_ediv_of_nonneg (by decide), ← hx]; rfl); have hy1 : (D : Int).tdiv (g : Int) = (y : Int) := (by rw [Int.tdiv_eq_ediv_of_nonneg (by omega), ← hy]; rfl); have hxb : x ≤ 256 := (by rw [← hx]; exact Nat.le_trans (Nat.div_le_self _ _) (by decide)); have hyb : y ≤ 3584 := (by rw [← hy]; exact Nat.le_trans (Nat.div_le_self _ _) (by omega)); have hxw : IntKind.i64.wrap (x : Int) = (x : Int) := (by rw [IntKind.wrap_i64]; omega); have hyw : IntKind.i64.wrap (y : Int) = (y : Int) := (by rw [IntKind.wrap_i64]; omega); rw [hx, hy] at HFR; clear hD hg hx hy HFT h1 h2
      have X5 : Sl (Blk ((w.alloc (.cells #[.int .i64 0, .int .i64 0] 23)).alloc (.cells #[.int .i64 256, .int .i64 (D : Int)] 23)) (w.heap.size + 1) 23 #[.int .i64 256, .int .i64 (D : Int)]) := ⟨by
        have := Blk.new (w.alloc (.cells #[.int .i64 0, .int .i64 0] 23)) 23 #[.int .i64 256, .int .i64 (D : Int)]
        rwa [show (w.alloc (.cells #[.int .i64 0, .int .i64 0] 23)).heap.size = w.heap.size + 1 by simp] at this⟩
      have X1 : Sl (Blk ((w.alloc (.cells #[.int .i64 0, .int .i64 0] 23)).alloc (.cells #[.int .i64 256, .int .i64 (D : Int)] 23)) w.heap.size 23 #[.int .i64 0, .int .i64 0]) := ⟨X0.out.alloc _⟩; have HU1 : Sl (Below w.heap.size w ((w.alloc (.cells #[.int .i64 0, .int .i64 0] 23)).alloc (.cells #[.int .i64 256, .int .i64 (D : Int)] 23))) := ⟨HU.out.alloc (by simp) _⟩; clear X0 HU; go_enter Tryz.func10, Tryz.ntmps10; go_wp2_with fail; generalize (w.alloc (.cells #[.int .i64 0, .int .i64 0] 23)).alloc (.cells #[.int .i64 256, .int .i64 (D : Int)] 23) = w1 at *
      refine (HGC.out w1).mono ?_; rintro e w2 ⟨rfl, m, rfl⟩; have X2 : Sl (Blk (w1.drewN m) w.heap.size 23 #[.int .i64 0, .int .i64 0]) := ⟨X1.out.drewN m⟩; have HU2 : Sl (Below w.heap.size w (w1.drewN m)) := ⟨below_drewN HU1.out m⟩; have X6 : Sl (Blk (w1.drewN m) (w.heap.size + 1) 23 #[.int .i64 256, .int .i64 (D : Int)]) := ⟨X5.out.drewN m⟩; generalize w1.drewN m = w3 at *
      have c0 := X6.out.cell 0; have c1 := X6.out.cell 1; simp at c0 c1; have e0 := X2.out.cell 0; have e1 := X2.out.cell 1; have f0 := X2.out.frozen 0; have f1 := X2.out.frozen 1; simp at e0 e1; go_wp2_with fail
      go_region
      go_wp2_with fail; have XZ := (((X2.out.drewN 1).set_ 0 (.int .i64 (x : Int))).set_ 1 (.int .i64 (y : Int))); refine bodyPost_ret (results_row2m rfl _ _ w.heap.size _ _ _ rfl XZ Tryz.underlying23 rfl (by kernel_rfl)) rfl ?_; exact ⟨by unfold FtT; rw [HFR.out]; rfl, ((below_drewN HU2.out 1).setCell (p := ⟨w.heap.size, 0, none⟩) (Nat.le_refl _) _).setCell (p := ⟨w.heap.size, 1, none⟩) (Nat.le_refl _) _⟩
    by_cases r7 : r = 7
    · subst r7; have HFT : Sl (ftS n = (ftR 128 (3 * z), 0)) := ⟨by rw [← HZ.out]; exact ftS_some HK.out.2.2.2 HK.out.1 HK.out.2.2.1 HK.out.2.1 rfl⟩; obtain ⟨D, hD⟩ : ∃ D, 3 * z = D := ⟨_, rfl⟩; have HD : Sl (3 * z = D) := ⟨hD⟩; have hDb : 1 ≤ D ∧ D ≤ 3584 := (by omega); have hDI : 3 * (z : Int) = (D : Int) := (by omega); have hDw : IntKind.i64.wrap (D : Int) = (D : Int) := (by rw [IntKind.wrap_i64]; omega); rw [hD] at HFT; obtain ⟨g, hg⟩ : ∃ g, Nat.gcd 128 D = g := ⟨_, rfl⟩; have HG : Sl (Nat.gcd 128 D = g) := ⟨hg⟩
      have hg0 : 1 ≤ g ∧ g ≤ 3584 := by
        have h3 : 0 < g := (by rw [← hg]; exact Nat.gcd_pos_of_pos_left _ (by decide)); have h4 : g ≤ D := (by rw [← hg]; exact Nat.gcd_le_right _ (by omega)); omega
      have HFR : Sl (ftS n = ((128 / g, D / g), 0)) := ⟨by rw [HFT.out]; unfold ftR; rw [HG.out]⟩
      have HGC : Sl (∀ W : World, Calls Tryz.prog 29 #[.int .i64 128, .int .i64 (D : Int)] W fun e w' => e = .returned (.int .i64 (g : Int)) ∧ ∃ m, w' = W.drewN m) := ⟨fun W => by
        have := m11gcd_any 128 D W (by decide) (by omega); rw [HG.out] at this
        exact this⟩
      have hgne : ¬ (g : Int) = 0 := (by omega); have hgn1 : ¬ (g : Int) = -1 := (by omega); obtain ⟨x, hx⟩ : ∃ x, 128 / g = x := ⟨_, rfl⟩; obtain ⟨y, hy⟩ : ∃ y, D / g = y := ⟨_, rfl⟩; have hx1 : (128 : Int).tdiv (g : Int) = (x : Int) := (by rw [Int.tdiv_eq_ediv_of_nonneg (by decide), ← hx]; rfl); have hy1 : (D : Int).tdiv (g : Int) = (y : Int) := (by rw [Int.tdiv_eq_ediv_of_nonneg (by omega), ← hy]; rfl); have hxb : x ≤ 256 := (by rw [← hx]; exact Nat.le_trans (Nat.div_le_self _ _) (by decide)); have hyb : y ≤ 3584 := (by rw [← hy]; exact Nat.le_trans (Nat.div_le_self _ _) (by omega)); have hxw : IntKind.i64.wrap (x : Int) = (x : Int) := (by rw [IntKind.wrap_i64]; omega); have hyw : IntKind.i64.wrap (y : Int) = (y : Int) := (by rw [IntKind.wrap_i64]; omega); rw [hx, hy] at HFR; clear hD hg hx hy HFT h1 h2
      have X5 : Sl (Blk ((w.alloc (.cells #[.int .i64 0, .int .i64 0] 23)).alloc (.cells #[.int .i64 128, .int .i64 (D : Int)] 23)) (w.heap.size + 1) 23 #[.int .i64 128, .int .i64 (D : Int)]) := ⟨by
        have := Blk.new (w.alloc (.cells #[.int .i64 0, .int .i64 0] 23)) 23 #[.int .i64 128, .int .i64 (D : Int)]
        rwa [show (w.alloc (.cells #[.int .i64 0, .int .i64 0] 23)).heap.size = w.heap.size + 1 by simp] at this⟩
      have X1 : Sl (Blk ((w.alloc (.cells #[.int .i64 0, .int .i64 0] 23)).alloc (.cells #[.int .i64 128, .int .i64 (D : Int)] 23)) w.heap.size 23 #[.int .i64 0, .int .i64 0]) := ⟨X0.out.alloc _⟩; have HU1 : Sl (Below w.heap.size w ((w.alloc (.cells #[.int .i64 0, .int .i64 0] 23)).alloc (.cells #[.int .i64 128, .int .i64 (D : Int)] 23))) := ⟨HU.out.alloc (by simp) _⟩; clear X0 HU; go_enter Tryz.func10, Tryz.ntmps10; go_wp2_with fail; generalize (w.alloc (.cells #[.int .i64 0, .int .i64 0] 23)).alloc (.cells #[.int .i64 128, .int .i64 (D : Int)] 23) = w1 at *
      refine (HGC.out w1).mono ?_; rintro e w2 ⟨rfl, m, rfl⟩; have X2 : Sl (Blk (w1.drewN m) w.heap.size 23 #[.int .i64 0, .int .i64 0]) := ⟨X1.out.drewN m⟩; have HU2 : Sl (Below w.heap.size w (w1.drewN m)) := ⟨below_drewN HU1.out m⟩; have X6 : Sl (Blk (w1.drewN m) (w.heap.size + 1) 23 #[.int .i64 128, .int .i64 (D : Int)]) := ⟨X5.out.drewN m⟩; generalize w1.drewN m = w3 at *
      have c0 := X6.out.cell 0; have c1 := X6.out.cell 1; simp at c0 c1; have e0 := X2.out.cell 0; have e1 := X2.out.cell 1; have f0 := X2.out.frozen 0; have f1 := X2.out.frozen 1; simp at e0 e1; go_wp2_with fail
      go_region
      go_wp2_with fail; have XZ := (((X2.out.drewN 1).set_ 0 (.int .i64 (x : Int))).set_ 1 (.int .i64 (y : Int))); refine bodyPost_ret (results_row2m rfl _ _ w.heap.size _ _ _ rfl XZ Tryz.underlying23 rfl (by kernel_rfl)) rfl ?_; exact ⟨by unfold FtT; rw [HFR.out]; rfl, ((below_drewN HU2.out 1).setCell (p := ⟨w.heap.size, 0, none⟩) (Nat.le_refl _) _).setCell (p := ⟨w.heap.size, 1, none⟩) (Nat.le_refl _) _⟩
    by_cases r10 : r = 10
    · subst r10; have HFT : Sl (ftS n = (ftR 256 (7 * z), 0)) := ⟨by rw [← HZ.out]; exact ftS_some HK.out.2.2.2 HK.out.1 HK.out.2.2.1 HK.out.2.1 rfl⟩; obtain ⟨D, hD⟩ : ∃ D, 7 * z = D := ⟨_, rfl⟩; have HD : Sl (7 * z = D) := ⟨hD⟩; have hDb : 1 ≤ D ∧ D ≤ 3584 := (by omega); have hDI : 7 * (z : Int) = (D : Int) := (by omega); have hDw : IntKind.i64.wrap (D : Int) = (D : Int) := (by rw [IntKind.wrap_i64]; omega); rw [hD] at HFT; obtain ⟨g, hg⟩ : ∃ g, Nat.gcd 256 D = g := ⟨_, rfl⟩; have HG : Sl (Nat.gcd 256 D = g) := ⟨hg⟩
      have hg0 : 1 ≤ g ∧ g ≤ 3584 := by
        have h3 : 0 < g := (by rw [← hg]; exact Nat.gcd_pos_of_pos_left _ (by decide)); have h4 : g ≤ D := (by rw [← hg]; exact Nat.gcd_le_right _ (by omega)); omega
      have HFR : Sl (ftS n = ((256 / g, D / g), 0)) := ⟨by rw [HFT.out]; unfold ftR; rw [HG.out]⟩
      have HGC : Sl (∀ W : World, Calls Tryz.prog 29 #[.int .i64 256, .int .i64 (D : Int)] W fun e w' => e = .returned (.int .i64 (g : Int)) ∧ ∃ m, w' = W.drewN m) := ⟨fun W => by
        have := m11gcd_any 256 D W (by decide) (by omega); rw [HG.out] at this
        exact this⟩
      have hgne : ¬ (g : Int) = 0 := (by omega); have hgn1 : ¬ (g : Int) = -1 := (by omega); obtain ⟨x, hx⟩ : ∃ x, 256 / g = x := ⟨_, rfl⟩; obtain ⟨y, hy⟩ : ∃ y, D / g = y := ⟨_, rfl⟩; have hx1 : (256 : Int).tdiv (g : Int) = (x : Int) := (by rw [Int.tdiv_eq_ediv_of_nonneg (by decide), ← hx]; rfl); have hy1 : (D : Int).tdiv (g : Int) = (y : Int) := (by rw [Int.tdiv_eq_ediv_of_nonneg (by omega), ← hy]; rfl); have hxb : x ≤ 256 := (by rw [← hx]; exact Nat.le_trans (Nat.div_le_self _ _) (by decide)); have hyb : y ≤ 3584 := (by rw [← hy]; exact Nat.le_trans (Nat.div_le_self _ _) (by omega)); have hxw : IntKind.i64.wrap (x : Int) = (x : Int) := (by rw [IntKind.wrap_i64]; omega); have hyw : IntKind.i64.wrap (y : Int) = (y : Int) := (by rw [IntKind.wrap_i64]; omega); rw [hx, hy] at HFR; clear hD hg hx hy HFT h1 h2
      have X5 : Sl (Blk ((w.alloc (.cells #[.int .i64 0, .int .i64 0] 23)).alloc (.cells #[.int .i64 256, .int .i64 (D : Int)] 23)) (w.heap.size + 1) 23 #[.int .i64 256, .int .i64 (D : Int)]) := ⟨by
        have := Blk.new (w.alloc (.cells #[.int .i64 0, .int .i64 0] 23)) 23 #[.int .i64 256, .int .i64 (D : Int)]
        rwa [show (w.alloc (.cells #[.int .i64 0, .int .i64 0] 23)).heap.size = w.heap.size + 1 by simp] at this⟩
      have X1 : Sl (Blk ((w.alloc (.cells #[.int .i64 0, .int .i64 0] 23)).alloc (.cells #[.int .i64 256, .int .i64 (D : Int)] 23)) w.heap.size 23 #[.int .i64 0, .int .i64 0]) := ⟨X0.out.alloc _⟩; have HU1 : Sl (Below w.heap.size w ((w.alloc (.cells #[.int .i64 0, .int .i64 0] 23)).alloc (.cells #[.int .i64 256, .int .i64 (D : Int)] 23))) := ⟨HU.out.alloc (by simp) _⟩; clear X0 HU; go_enter Tryz.func10, Tryz.ntmps10; go_wp2_with fail; generalize (w.alloc (.cells #[.int .i64 0, .int .i64 0] 23)).alloc (.cells #[.int .i64 256, .int .i64 (D : Int)] 23) = w1 at *
      refine (HGC.out w1).mono ?_; rintro e w2 ⟨rfl, m, rfl⟩; have X2 : Sl (Blk (w1.drewN m) w.heap.size 23 #[.int .i64 0, .int .i64 0]) := ⟨X1.out.drewN m⟩; have HU2 : Sl (Below w.heap.size w (w1.drewN m)) := ⟨below_drewN HU1.out m⟩; have X6 : Sl (Blk (w1.drewN m) (w.heap.size + 1) 23 #[.int .i64 256, .int .i64 (D : Int)]) := ⟨X5.out.drewN m⟩; generalize w1.drewN m = w3 at *
      have c0 := X6.out.cell 0; have c1 := X6.out.cell 1; simp at c0 c1; have e0 := X2.out.cell 0; have e1 := X2.out.cell 1; have f0 := X2.out.frozen 0; have f1 := X2.out.frozen 1; simp at e0 e1; go_wp2_with fail
      go_region
      go_wp2_with fail; have XZ := (((X2.out.drewN 1).set_ 0 (.int .i64 (x : Int))).set_ 1 (.int .i64 (y : Int))); refine bodyPost_ret (results_row2m rfl _ _ w.heap.size _ _ _ rfl XZ Tryz.underlying23 rfl (by kernel_rfl)) rfl ?_; exact ⟨by unfold FtT; rw [HFR.out]; rfl, ((below_drewN HU2.out 1).setCell (p := ⟨w.heap.size, 0, none⟩) (Nat.le_refl _) _).setCell (p := ⟨w.heap.size, 1, none⟩) (Nat.le_refl _) _⟩
    have HFT : Sl (ftS n = ((0, 0), 4)) := ⟨ftS_none HK.out.2.2.2 HK.out.1 HK.out.2.2.1 (by unfold ftB; rw [if_neg r0, if_neg r4, if_neg r7, if_neg r10])⟩; have b0 : ((r : Int) == 0) = false := (by simp; omega); have b4 : ((r : Int) == 4) = false := (by simp; omega); have b7 : ((r : Int) == 7) = false := (by simp; omega); have b10 : ((r : Int) == 10) = false := (by simp; omega); clear r0 r4 r7 r10; have HU1 : Sl (Below w.heap.size w ((w.alloc (.cells #[.int .i64 0, .int .i64 0] 23)).alloc (.cells #[.int .i64 0, .int .i64 0] 23))) := ⟨HU.out.alloc (by simp) _⟩; have X1 : Sl (Blk ((w.alloc (.cells #[.int .i64 0, .int .i64 0] 23)).alloc (.cells #[.int .i64 0, .int .i64 0] 23)) w.heap.size 23 #[.int .i64 0, .int .i64 0]) := ⟨X0.out.alloc _⟩; go_enter Tryz.func10, Tryz.ntmps10; go_wp2_with fail; refine bodyPost_ret (results_row2m rfl _ _ w.heap.size _ _ _ rfl X1.out Tryz.underlying23 rfl (by kernel_rfl)) rfl ?_; exact ⟨by unfold FtT; rw [HFT.out]; rfl, HU1.out⟩
end Go.Proofs.YtafadpaljanghaaGreatDoor
namespace Go.Proofs.YtafadpaljanghaaGreatDoor
set_option linter.unusedSimpArgs false
set_option linter.unusedVariables false
theorem semI_eq {num den : Nat} {m : Int} (h1 : 0 ≤ ftSg num den m) (h2 : ftSg num den (m + 1) < 0) (hm : -1000 ≤ m ∧ m ≤ 1000) : semI num den = (m + 1) / 2 := by
  have hF : FloorRes (ftL num den) 24 1 (ftSg num den) (.returned (.tuple #[.int .i64 m, .bool (decide (up (atM (ftL num den) 24 1 m) = down (atM (ftL num den) 24 1 m))), .int .i64 0])) := by
    unfold FloorRes; rw [if_neg]
    · exact ⟨m, by omega, by omega, h1, h2, rfl⟩
    · rintro (h | h)
      · have h3 : 0 ≤ sgn (atM (ftL num den) 24 1 (m + 1)) := atM_anti (m' := 1000000000001) (by decide) (by omega) h; have h4 : ftSg num den (m + 1) = sgn (atM (ftL num den) 24 1 (m + 1)) := rfl; omega
      · have h3 : 0 ≤ sgn (atM (ftL num den) 24 1 (-1000000000000)) := atM_anti (m' := m) (by decide) (by omega) h1; have h4 : ftSg num den (-1000000000000) = sgn (atM (ftL num den) 24 1 (-1000000000000)) := rfl; omega
  exact semI_of hF
theorem ft_vF {n : Int} (h : (ftS n).2 = 0) : vF ((ftS n).1.1 : Int) ((ftS n).1.2 : Int) := by
  obtain ⟨⟨⟨a1, a2⟩, a3, a4⟩, ⟨b1, b2⟩, _⟩ := ft_back h; refine ⟨⟨by omega, by omega⟩, ⟨by omega, by omega⟩, ?_⟩; rw [Int.natAbs_natCast, Int.natAbs_natCast]; exact b2
theorem SmV_back {n : Int} (h : (ftS n).2 = 0) : SmV ((ftS n).1.1 : Int) ((ftS n).1.2 : Int) = (n, 0) := by
  obtain ⟨_, _, m, m1, m2, m3, m4⟩ := ft_back h; unfold SmV; rw [if_pos (ft_vF h), Int.toNat_natCast, Int.toNat_natCast, semI_eq m3 m4 m2, m1]
theorem ftS_err (n : Int) : ((ftS n).2 = 7 ↔ n < -36 ∨ 82 < n) ∧ ((ftS n).2 ≠ 0 → (ftS n).1 = (0, 0)) ∧ ((ftS n).2 = 0 ∨ (ftS n).2 = 4 ∨ (ftS n).2 = 7) := by
  unfold ftS
  by_cases h : n < -36 ∨ 82 < n
  · rw [if_pos h]; exact ⟨⟨fun _ => h, fun _ => rfl⟩, fun _ => rfl, .inr (.inr rfl)⟩
  · rw [if_neg h]
    cases ftB ((n + 36).toNat % 12) with
    | none => exact ⟨⟨fun h2 => by have h3 : (4 : Int) = 7 := h2; omega, fun h2 => absurd h2 h⟩, fun _ => rfl, .inr (.inl rfl)⟩
    | some x => exact ⟨⟨fun h2 => by have h3 : (0 : Int) = 7 := h2; omega, fun h2 => absurd h2 h⟩, fun h2 => absurd rfl h2, .inl rfl⟩
end Go.Proofs.YtafadpaljanghaaGreatDoor
namespace Go.Proofs.YtafadpaljanghaaGreatDoor
set_option linter.unusedSimpArgs false
open Go.RowKit
set_option linter.unusedVariables false
set_option maxHeartbeats 3200000 in
set_option maxRecDepth 100000 in
theorem mixturesBack_any (n : Int) (hn : i64 n) (w : World) : Calls Tryz.prog 4 #[.int .i64 n] w fun e w' => e = .returned (.bool true) ∧ Below w.heap.size w w' := by
  have HF1 : Sl _ := ⟨fun W : World => mfeet_any n W hn⟩; unfold FtT at HF1; have HER := ftS_err n; have HBK : Sl ((ftS n).2 = 0 → SmV ((ftS n).1.1 : Int) ((ftS n).1.2 : Int) = (n, 0)) := ⟨fun h => SmV_back h⟩; obtain ⟨⟨⟨a, b⟩, er⟩, hf⟩ : ∃ x, ftS n = x := ⟨_, rfl⟩; rw [hf] at HF1 HER HBK; simp only [] at HF1 HER HBK; have HAW : Sl (∀ W : World, Below w.heap.size w W → Calls Tryz.prog 12 #[] W fun e w' => e = .returned (.bool true) ∧ Below w.heap.size w w') := ⟨fun W h => (awake11_any W).mono fun e w' g => ⟨g.1, h.trans (g.2.mono h.size)⟩⟩; obtain ⟨h7, hz, hcs⟩ := HER; clear hf hn
  by_cases h0 : er = 0
  · subst h0; have HB := HBK.out rfl; have HS1 : Sl _ := ⟨fun W : World => Semi_any (a : Int) (b : Int) W⟩; rw [HB] at HS1; simp only [] at HS1; clear HB HBK h7 hz hcs; go_enter Tryz.func4, Tryz.ntmps4; go_wp2_with fail; refine (HF1.out w).mono ?_; rintro e w3 ⟨rfl, hb⟩; have HU3 : Sl (Below w.heap.size w (w3.alloc (.cells #[.int .i64 (a : Int), .int .i64 (b : Int)] 23))) := ⟨hb.alloc hb.size _⟩; have X3 : Sl _ := ⟨Blk.new w3 23 #[.int .i64 (a : Int), .int .i64 (b : Int)]⟩; have x0 := X3.out.cell 0; have x1 := X3.out.cell 1; simp at x0 x1; clear hb X3 HF1; go_wp2_with fail; refine (HS1.out _).mono ?_; rintro e w5 ⟨rfl, hb⟩; have HU5 : Sl (Below w.heap.size w w5) := ⟨HU3.out.trans (hb.mono HU3.out.size)⟩; clear hb x0 x1 HU3; go_wp2_with fail; refine (HAW.out _ HU5.out).mono ?_; rintro e w9 ⟨rfl, hb⟩; have HB9 : Sl (Below w.heap.size w w9) := ⟨hb⟩; clear hb; go_wp2_with fail; go_ret; exact ⟨rfl, HB9.out⟩
  · have hab := hz h0; simp only [Prod.mk.injEq] at hab; obtain ⟨rfl, rfl⟩ := hab; have he0 : (er != 0) = true := (by simpa using h0)
    have HW : Sl (∃ q1 q2 : Bool, decide (n < -36) = q1 ∧ decide (82 < n) = q2 ∧ (er == 7) = (q1 || q2)) := ⟨_, _, rfl, rfl, by
      rw [Bool.eq_iff_iff, beq_iff_eq, h7, Bool.or_eq_true, decide_eq_true_iff, decide_eq_true_iff]⟩
    obtain ⟨q1, q2, hq1, hq2, h7e⟩ := HW.out; clear HBK h7 hz hcs HW h0; rcases q1 with _ | _
    · rcases q2 with _ | _
      · simp at h7e; have h7f : (er == 7) = false := (by simpa using h7e); clear h7e; go_enter Tryz.func4, Tryz.ntmps4; go_wp2_with fail; refine (HF1.out w).mono ?_; rintro e w3 ⟨rfl, hb⟩; have HU3 : Sl (Below w.heap.size w (w3.alloc (.cells #[.int .i64 0, .int .i64 0] 23))) := ⟨hb.alloc hb.size _⟩; clear hb HF1; go_wp2_with fail; refine (HAW.out _ HU3.out).mono ?_; rintro e w9 ⟨rfl, hb⟩; have HB9 : Sl (Below w.heap.size w w9) := ⟨hb⟩; clear hb; go_wp2_with fail; go_ret; exact ⟨rfl, HB9.out⟩
      · simp at h7e; subst h7e; go_enter Tryz.func4, Tryz.ntmps4; go_wp2_with fail; refine (HF1.out w).mono ?_; rintro e w3 ⟨rfl, hb⟩; have HU3 : Sl (Below w.heap.size w (w3.alloc (.cells #[.int .i64 0, .int .i64 0] 23))) := ⟨hb.alloc hb.size _⟩; clear hb HF1; go_wp2_with fail; refine (HAW.out _ HU3.out).mono ?_; rintro e w9 ⟨rfl, hb⟩; have HB9 : Sl (Below w.heap.size w w9) := ⟨hb⟩; clear hb; go_wp2_with fail; go_ret; exact ⟨rfl, HB9.out⟩
    · simp at h7e; subst h7e; clear hq2; go_enter Tryz.func4, Tryz.ntmps4; go_wp2_with fail; refine (HF1.out w).mono ?_; rintro e w3 ⟨rfl, hb⟩; have HU3 : Sl (Below w.heap.size w (w3.alloc (.cells #[.int .i64 0, .int .i64 0] 23))) := ⟨hb.alloc hb.size _⟩; clear hb HF1; go_wp2_with fail; refine (HAW.out _ HU3.out).mono ?_; rintro e w9 ⟨rfl, hb⟩; have HB9 : Sl (Below w.heap.size w w9) := ⟨hb⟩; clear hb; go_wp2_with fail; go_ret; exact ⟨rfl, HB9.out⟩
end Go.Proofs.YtafadpaljanghaaGreatDoor
