/- Plain law: the ratio in lowest terms with given exponents and denominator; products, quotients, powers. No program in sight. -/
import Derived.Test.YtafadpaljanghaaGreatDoorZmAb
import Derived.Deep.RegionHeld3
import Derived.ChangeKeysEq
import Derived.Test.YtafadpaljanghaaGreatDoorShelB
import Derived.Laws.Strings
import Derived.Test.YtafadpaljanghaaGreatDoorMixB
import Derived.Test.YtafadpaljanghaaGreatDoorMixE
import Derived.Test.YtafadpaljanghaaGreatDoorRgC
import Derived.Test.YtafadpaljanghaaGreatDoorMixQ
import Derived.Deep.RegionWith
import Derived.Test.YtafadpaljanghaaGreatDoorHld
import Derived.Test.YtafadpaljanghaaGreatDoorMyZ
namespace Go.Proofs.YtafadpaljanghaaGreatDoor
set_option linter.unusedSimpArgs false
set_option linter.unusedVariables false
end Go.Proofs.YtafadpaljanghaaGreatDoor
namespace Go.Proofs.YtafadpaljanghaaGreatDoor
set_option linter.unusedSimpArgs false
open Go.RowKit
set_option linter.unusedVariables false
end Go.Proofs.YtafadpaljanghaaGreatDoor
namespace Go.Proofs.YtafadpaljanghaaGreatDoor
set_option linter.unusedSimpArgs false
open Go.RowKit
set_option linter.unusedVariables false
end Go.Proofs.YtafadpaljanghaaGreatDoor
namespace Go.Proofs.YtafadpaljanghaaGreatDoor
set_option linter.unusedSimpArgs false
open Go.RowKit
set_option linter.unusedVariables false
end Go.Proofs.YtafadpaljanghaaGreatDoor
namespace Go.Proofs.YtafadpaljanghaaGreatDoor
set_option linter.unusedSimpArgs false
open Go.RowKit
set_option linter.unusedVariables false
end Go.Proofs.YtafadpaljanghaaGreatDoor
namespace Go.Proofs.YtafadpaljanghaaGreatDoor
set_option linter.unusedSimpArgs false
open Go.RowKit
set_option linter.unusedVariables false
end Go.Proofs.YtafadpaljanghaaGreatDoor
namespace Go.Proofs.YtafadpaljanghaaGreatDoor
set_option linter.unusedSimpArgs false
open Go.RowKit
set_option linter.unusedVariables false
end Go.Proofs.YtafadpaljanghaaGreatDoor
namespace Go.Proofs.YtafadpaljanghaaGreatDoor
set_option linter.unusedSimpArgs false
open Go.RowKit
set_option linter.unusedVariables false
theorem sgn_ge {l : List (Nat × Int)} : 0 ≤ sgn l ↔ down l ≤ up l := by
  unfold sgn
  split
  · exact ⟨fun _ => by omega, fun _ => by decide⟩
  · split
    · exact ⟨fun h => absurd h (by decide), fun h => by omega⟩
    · exact ⟨fun _ => by omega, fun _ => by decide⟩
theorem up_two (x : Int) : ∀ l : List (Nat × Int), up (l ++ [(2, x)]) = up l * 2 ^ x.toNat
  | [] => by
    rw [List.nil_append, up, up]
    split
    · rw [show x.toNat = x.natAbs by omega, Nat.mul_comm]; rfl
    · rw [show x.toNat = 0 by omega]; rfl
  | (n, k) :: l => by
    rw [List.cons_append, up, up_two x l, up]
    split
    · rw [Nat.mul_assoc]
    · rfl
theorem down_two (x : Int) : ∀ l : List (Nat × Int), down (l ++ [(2, x)]) = down l * 2 ^ (-x).toNat
  | [] => by
    rw [List.nil_append, down, down]
    split
    · rw [show (-x).toNat = 0 by omega]; rfl
    · rw [show (-x).toNat = x.natAbs by omega, Nat.mul_comm]; rfl
  | (n, k) :: l => by
    rw [List.cons_append, down, down_two x l, down]
    split
    · rfl
    · rw [Nat.mul_assoc]
theorem atM_anti {l : List (Nat × Int)} {s den m m' : Int} (hd : 1 ≤ den) (h : m ≤ m') (hs : 0 ≤ sgn (atM l s den m')) : 0 ≤ sgn (atM l s den m) := by
  rw [sgn_ge] at hs ⊢; unfold atM at hs ⊢; rw [up_two, down_two] at hs ⊢; have hmm : m * den ≤ m' * den := Int.mul_le_mul_of_nonneg_right h (by omega); rw [Int.neg_mul] at hs ⊢; rw [Int.neg_neg] at hs ⊢; generalize m * den = y at *
  generalize m' * den = y' at *
  calc down (scaled l s) * 2 ^ y.toNat ≤ down (scaled l s) * 2 ^ y'.toNat := Nat.mul_le_mul_left _ (Nat.pow_le_pow_right (by decide) (by omega))
    _ ≤ up (scaled l s) * 2 ^ (-y').toNat := hs
    _ ≤ up (scaled l s) * 2 ^ (-y).toNat := Nat.mul_le_mul_left _ (Nat.pow_le_pow_right (by decide) (by omega))
theorem FloorRes_det {l : List (Nat × Int)} {s den : Int} (hd : 1 ≤ den) {e e' : Ending} (h : FloorRes l s den (fun m => sgn (atM l s den m)) e) (h' : FloorRes l s den (fun m => sgn (atM l s den m)) e') : e = e' := by
  unfold FloorRes at h h'
  split at h
  · rename_i hc; rw [if_pos hc] at h'; rw [h, h']
  · rename_i hc; rw [if_neg hc] at h'; obtain ⟨m, _, _, h1, h2, rfl⟩ := h; obtain ⟨m', _, _, h3, h4, rfl⟩ := h'; have h2 : sgn (atM l s den (m + 1)) < 0 := h2; have h4 : sgn (atM l s den (m' + 1)) < 0 := h4; have hle : ¬ m + 1 ≤ m' := fun hlt => by have := atM_anti hd hlt h3; omega
    have hle' : ¬ m' + 1 ≤ m := fun hlt => by have := atM_anti hd hlt h1; omega
    obtain rfl : m = m' := (by omega); rfl
theorem FloorRes_shape {l : List (Nat × Int)} {s den : Int} {sg : Int → Int} {e : Ending} (h : FloorRes l s den sg e) : ∃ k b er, e = .returned (.tuple #[.int .i64 k, .bool b, .int .i64 er]) ∧ -1000000000000 ≤ k ∧ k ≤ 1000000000000 := by
  unfold FloorRes at h
  split at h
  · exact ⟨0, false, 7, h, by decide, by decide⟩
  · obtain ⟨m, h1, h2, _, _, h⟩ := h; exact ⟨m, _, 0, h, h1, by omega⟩
end Go.Proofs.YtafadpaljanghaaGreatDoor
namespace Go.Proofs.YtafadpaljanghaaGreatDoor
set_option linter.unusedSimpArgs false
open Go.RowKit
set_option linter.unusedVariables false
end Go.Proofs.YtafadpaljanghaaGreatDoor
namespace Go.Proofs.YtafadpaljanghaaGreatDoor
set_option linter.unusedSimpArgs false
open Go.RowKit
set_option linter.unusedVariables false
end Go.Proofs.YtafadpaljanghaaGreatDoor
namespace Go.Proofs.YtafadpaljanghaaGreatDoor
set_option linter.unusedSimpArgs false
set_option linter.unusedVariables false
def ftB (r : Nat) : Option (Nat × Nat) := if r = 0 then some (64, 1) else if r = 4 then some (256, 5) else if r = 7 then some (128, 3) else if r = 10 then some (256, 7) else none
def ftR (p d : Nat) : Nat × Nat := (p / Nat.gcd p d, d / Nat.gcd p d)
def ftS (n : Int) : (Nat × Nat) × Int :=
  if n < -36 ∨ 82 < n then ((0, 0), 7) else match ftB ((n + 36).toNat % 12) with
    | none => ((0, 0), 4)
    | some x => (ftR x.1 (x.2 * 2 ^ ((n + 36).toNat / 12)), 0)
end Go.Proofs.YtafadpaljanghaaGreatDoor
namespace Go.Proofs.YtafadpaljanghaaGreatDoor
set_option linter.unusedSimpArgs false
open Go.RowKit
set_option linter.unusedVariables false
def vF (num den : Int) : Prop := (1 ≤ den ∧ den ≤ 15) ∧ (1 ≤ num ∧ num ≤ 64 * den) ∧ Nat.gcd num.natAbs den.natAbs = 1
instance (a b : Int) : Decidable (vF a b) := inferInstanceAs (Decidable (_ ∧ _ ∧ _))
set_option maxHeartbeats 1600000 in
set_option maxRecDepth 100000 in
theorem wvalid_any (num den : Int) (w : World) : Calls Tryz.prog 54 #[.agg #[.int .i64 num, .int .i64 den]] w fun e w' => e = .returned (.bool (decide (vF num den))) ∧ Below w.heap.size w w' := by
  have hu : Below w.heap.size w (w.alloc (.cells #[.int .i64 num, .int .i64 den] 23)) := (Below.refl _ _).alloc (Nat.le_refl _) _; have HU : Sl _ := ⟨hu⟩; clear hu; obtain ⟨r, hr⟩ : ∃ r, decide (vF num den) = r := ⟨_, rfl⟩; rw [hr]; have HR : Sl _ := ⟨hr⟩; clear hr
  by_cases hok : (1 ≤ den ∧ den ≤ 15) ∧ (1 ≤ num ∧ num ≤ 64 * den)
  · obtain ⟨⟨h1, h2⟩, h3, h4⟩ := hok; obtain ⟨n, rfl⟩ := Int.eq_ofNat_of_zero_le (show 0 ≤ num by omega); obtain ⟨d, rfl⟩ := Int.eq_ofNat_of_zero_le (show 0 ≤ den by omega); have HG : Sl _ := ⟨fun W : World => wgcd_any n d W (by omega) (by omega)⟩
    have HV : Sl (r = (((Nat.gcd n d : Nat) : Int) == 1)) := ⟨by
      rw [← HR.out, Bool.eq_iff_iff, decide_eq_true_iff, beq_iff_eq]; unfold vF; simp only [Int.natAbs_natCast]
      omega⟩
    have hw : IntKind.i64.wrap (64 * (d : Int)) = 64 * (d : Int) := (by rw [IntKind.wrap_i64]; omega); have g1 : ¬ (d : Int) < 1 := (by omega); have g2 : ¬ 15 < (d : Int) := (by omega); have g3 : ¬ (n : Int) < 1 := (by omega); have g4 : ¬ 64 * (d : Int) < (n : Int) := (by omega); generalize Nat.gcd n d = g at *
    go_enter Tryz.func54, Tryz.ntmps54; go_wp2_with fail; refine (HG.out _).mono ?_; rintro e w1 ⟨rfl, m, rfl⟩; go_wp2_with fail; go_ret; exact ⟨by rw [HV.out]; rfl, below_drewN HU.out m⟩
  · have HV : Sl (r = false) := ⟨by
      rw [← HR.out, decide_eq_false_iff_not]; unfold vF; intro h
      exact hok ⟨h.1, h.2.1⟩⟩
    have hcase : den < 1 ∨ (¬ den < 1 ∧ 15 < den) ∨ (¬ den < 1 ∧ ¬ 15 < den ∧ num < 1) ∨ (¬ den < 1 ∧ ¬ 15 < den ∧ ¬ num < 1 ∧ 64 * den < num) := (by omega); clear hok HR; rcases hcase with h1 | ⟨h1, h2⟩ | ⟨h1, h2, h3⟩ | ⟨h1, h2, h3, h4⟩
    · have d1 : decide (1 ≤ den) = false := decide_eq_false (by omega); go_enter Tryz.func54, Tryz.ntmps54; go_wp2_with fail; go_ret; exact ⟨by rw [HV.out]; rfl, HU.out⟩
    · have d1 : decide (1 ≤ den) = true := decide_eq_true (by omega); have d2 : decide (den ≤ 15) = false := decide_eq_false (by omega); go_enter Tryz.func54, Tryz.ntmps54; go_wp2_with fail; go_ret; exact ⟨by rw [HV.out]; rfl, HU.out⟩
    · have d1 : decide (1 ≤ den) = true := decide_eq_true (by omega); have d2 : decide (den ≤ 15) = true := decide_eq_true (by omega); have d3 : decide (1 ≤ num) = false := decide_eq_false (by omega); go_enter Tryz.func54, Tryz.ntmps54; go_wp2_with fail; go_ret; exact ⟨by rw [HV.out]; rfl, HU.out⟩
    · have d1 : decide (1 ≤ den) = true := decide_eq_true (by omega); have d2 : decide (den ≤ 15) = true := decide_eq_true (by omega); have d3 : decide (1 ≤ num) = true := decide_eq_true (by omega); have hw : IntKind.i64.wrap (64 * den) = 64 * den := (by rw [IntKind.wrap_i64]; omega); have d4 : decide (num ≤ 64 * den) = false := decide_eq_false (by omega); go_enter Tryz.func54, Tryz.ntmps54; go_wp2_with fail; go_ret; exact ⟨by rw [HV.out]; rfl, HU.out⟩
end Go.Proofs.YtafadpaljanghaaGreatDoor
namespace Go.Proofs.YtafadpaljanghaaGreatDoor
set_option linter.unusedSimpArgs false
open Go.RowKit
set_option linter.unusedVariables false
def tx (u : Nat) : ByteArray := ⟨(Lib.decDigits u).toArray⟩
theorem tx_size {u : Nat} (h : u < 100) : (tx u).size ≤ 2 := by
  unfold tx; have e : (⟨(Lib.decDigits u).toArray⟩ : ByteArray).size = (Lib.decDigits u).length := (by simp [ByteArray.size]); rw [e, Lib.decDigits]
  split
  · simp
  · rw [Lib.decDigits, dif_pos (by omega)]; simp
theorem itoa_tx {u : Nat} (h : u < 100) (W : World) : Calls Tryz.prog 55 #[.int .i64 u] W fun e w' => e = .returned (.string (tx u)) ∧ w' = W := Tryz.strconv_Itoa_small u h W
set_option maxHeartbeats 3200000 in
set_option maxRecDepth 100000 in
theorem feet_any (num den : Int) (w : World) : Calls Tryz.prog 24 #[.agg #[.int .i64 num, .int .i64 den]] w fun e w' => (∃ s, e = .returned (.tuple #[.string s, .int .i64 (if vF num den then 0 else 2)])) ∧ Below w.heap.size w w' := by
  have hu : Below w.heap.size w (w.alloc (.cells #[.int .i64 num, .int .i64 den] 23)) := (Below.refl _ _).alloc (Nat.le_refl _) _; have X0 := Blk.new w 23 #[.int .i64 num, .int .i64 den]; have HV : Sl _ := ⟨fun W : World => wvalid_any num den W⟩
  by_cases hv : vF num den
  · rw [if_pos hv]; rw [decide_eq_true hv] at HV; obtain ⟨⟨h1, h2⟩, ⟨h3, h4⟩, _⟩ := hv; obtain ⟨n, rfl⟩ := Int.eq_ofNat_of_zero_le (show 0 ≤ num by omega); obtain ⟨d, rfl⟩ := Int.eq_ofNat_of_zero_le (show 0 ≤ den by omega); have hd0 : ¬ (d : Int) = 0 := (by omega); have hq : (n : Int).tdiv (d : Int) = ((n / d : Nat) : Int) := (by rw [Int.tdiv_eq_ediv_of_nonneg (by omega)]; rfl); have hr : (n : Int).tmod (d : Int) = ((n % d : Nat) : Int) := (by rw [Int.tmod_eq_emod_of_nonneg (by omega)]; rfl)
    have hq64 : n / d < 100 := by
      have : n / d ≤ 64 := (by rw [Nat.div_le_iff_le_mul_add_pred (by omega)]; omega); omega
    have hr15 : n % d < 100 := (by have := Nat.mod_lt n (show d > 0 by omega); omega); have hd15 : d < 100 := (by omega); obtain ⟨q, hqe⟩ : ∃ q, n / d = q := ⟨_, rfl⟩; obtain ⟨r, hre⟩ : ∃ r, n % d = r := ⟨_, rfl⟩; rw [hqe] at hq hq64; rw [hre] at hr hr15; have HIq : Sl _ := ⟨fun W : World => itoa_tx hq64 W⟩; have HIr : Sl _ := ⟨fun W : World => itoa_tx hr15 W⟩; have HId : Sl _ := ⟨fun W : World => itoa_tx hd15 W⟩; have sq := tx_size hq64; have sr := tx_size hr15; have sd := tx_size hd15; generalize tx q = tq at *
    generalize tx r = tr at *
    generalize tx d = td at *
    clear hqe hre h3 h4 h1 h2; go_enter Tryz.func24, Tryz.ntmps24; go_wp2_with fail; generalize w.alloc (.cells #[.int .i64 (n : Int), .int .i64 (d : Int)] 23) = w0 at *
    refine (HV.out w0).mono ?_; rintro e w1 ⟨rfl, hb⟩; have u1 := hu.trans (hb.mono hu.size); have X1 := X0.below hb X0.lt; have x0 := X1.cell 0; have x1 := X1.cell 1; simp at x0 x1; clear hu hb X0 HV; go_wp2_with fail
    go_quiet (fail)
    have u2 := below_drewN u1 nq; have X2 : Blk (w1.drewN nq) w.heap.size _ _ := X1.drewN nq; clear u1 X1 x0 x1; generalize w1.drewN nq = w2 at *
    have x0 := X2.cell 0; have x1 := X2.cell 1; simp at x0 x1; go_wp2_with fail; have hd2 : RowKit.Below w.heap.size w w2.drew := below_drewN u2 1; have xx1 : w2.drew.cell? ⟨w.heap.size, 1, none⟩ = some (.int .i64 d) := x1
    go_region_with (first
      | (go_at_call 55; (with_reducible refine (HIr.out _).mono ?_); rintro e w3 ⟨rfl, rfl⟩)
      | (go_at_call 55; (with_reducible refine (HId.out _).mono ?_); rintro e w4 ⟨rfl, rfl⟩)
      | fail)
    all_goals (
      clear x0 x1 X2 u2; generalize w2.drew = w5 at *
      by_cases hd1 : (d : Int) = 1
      · have hb1 : ((d : Int) == 1) = true := (by rw [hd1]; rfl); go_wp2_with fail; refine (HIq.out _).mono ?_; rintro e w6 ⟨rfl, rfl⟩; go_wp2_with fail; go_ret2; exact ⟨⟨_, rfl⟩, hd2⟩
      · have hb1 : ((d : Int) == 1) = false := (by rw [beq_eq_false_iff_ne]; exact hd1)
        by_cases hq0 : (q : Int) = 0
        · have hb2 : ((q : Int) == 0) = true := (by rw [hq0]; rfl); go_wp2_with fail; go_ret2; exact ⟨⟨_, rfl⟩, hd2⟩
        · have hb2 : ((q : Int) == 0) = false := (by rw [beq_eq_false_iff_ne]; exact hq0); go_wp2_with fail; refine (HIq.out _).mono ?_; rintro e w6 ⟨rfl, rfl⟩; go_wp2_with fail; go_ret2
          exact ⟨⟨_, rfl⟩, hd2⟩)
  · rw [if_neg hv]; rw [decide_eq_false hv] at HV; have HU : Sl _ := ⟨hu⟩; clear hv hu X0; go_enter Tryz.func24, Tryz.ntmps24; go_wp2_with fail; refine (HV.out _).mono ?_; rintro e w1 ⟨rfl, hb⟩; go_wp2_with fail; go_ret2; exact ⟨⟨_, rfl⟩, HU.out.trans (hb.mono HU.out.size)⟩
end Go.Proofs.YtafadpaljanghaaGreatDoor
namespace Go.Proofs.YtafadpaljanghaaGreatDoor
set_option linter.unusedSimpArgs false
open Go.RowKit
set_option linter.unusedVariables false
def ftSg (num den : Nat) (m : Int) : Int := sgn (atM (ftL num den) 24 1 m)
noncomputable def semI (num den : Nat) : Int :=
  (Classical.epsilon (fun k : Int => ∃ b er, FloorRes (ftL num den) 24 1 (ftSg num den) (.returned (.tuple #[.int .i64 k, .bool b, .int .i64 er]))) + 1) / 2
theorem semI_of {num den : Nat} {k er : Int} {b : Bool} (h : FloorRes (ftL num den) 24 1 (ftSg num den) (.returned (.tuple #[.int .i64 k, .bool b, .int .i64 er]))) : semI num den = (k + 1) / 2 := by
  have hx : ∃ k : Int, ∃ b er, FloorRes (ftL num den) 24 1 (ftSg num den) (.returned (.tuple #[.int .i64 k, .bool b, .int .i64 er])) := ⟨k, b, er, h⟩; obtain ⟨b', er', h'⟩ := Classical.epsilon_spec hx; have e := FloorRes_det (den := 1) (by decide) h h'; unfold semI; generalize Classical.epsilon (fun k : Int => ∃ b er, FloorRes (ftL num den) 24 1 (ftSg num den) (.returned (.tuple #[.int .i64 k, .bool b, .int .i64 er]))) = k' at *
  simp at e; rw [e.1]
theorem okF_of {num den : Int} (h : vF num den) : ∃ n d : Nat, num = (n : Int) ∧ den = (d : Int) ∧ okF n d := by
  obtain ⟨⟨h1, h2⟩, ⟨h3, h4⟩, _⟩ := h; obtain ⟨n, rfl⟩ := Int.eq_ofNat_of_zero_le (show 0 ≤ num by omega); obtain ⟨d, rfl⟩ := Int.eq_ofNat_of_zero_le (show 0 ≤ den by omega); exact ⟨n, d, rfl, rfl, ⟨by omega, by omega⟩, by omega, by omega⟩
theorem ft_floor (A : Option Addr) (c num den : Nat) (w : World) (h : okF num den) (hl : TR w A 2 (ftL num den)) :
    Calls Tryz.prog 56 #[.slice A 2 c, .int .i64 1, .int .i64 24] w fun e w' => FloorRes (ftL num den) 24 1 (ftSg num den) e ∧ Below w.heap.size w w' :=
  Floor_any A 2 c (ftL num den) 1 24 (ftSg num den) w hl (ftL_ok h) (by decide) (by decide) (by decide) (by decide) fun m h1 h2 => sign_of _ 256 (ft_sg h h1 h2)
theorem ftL_mem (W : World) (T : TypeId) (num den : Nat) : TR (W.alloc (.cells #[.int .i64 (8 * (den : Int)), .int .i64 1, .int .i64 (num : Int), .int .i64 (-1)] T)) (some ⟨W.heap.size, 0, none⟩) 2 (ftL num den) := by
  refine ⟨rfl, rfl, fun _ => ⟨_, rfl, by simp, fun j u hj => ?_⟩⟩; have hb := Blk.new W T #[.int .i64 (8 * (den : Int)), .int .i64 1, .int .i64 (num : Int), .int .i64 (-1)]
  have e : (⟨W.heap.size, 0, none⟩ : Addr).add j = ⟨W.heap.size, j, none⟩ := by
    unfold Addr.add
    by_cases h : j = 0
    · subst h; simp
    · simp [h]
  rw [e, hb.cell]; simpa [flat, ftL] using hj
theorem shr1 (k : Int) : k >>> 1 = k / 2 := by rw [Int.shiftRight_eq_div_pow]; rfl
set_option maxHeartbeats 1600000 in
set_option maxRecDepth 100000 in
theorem semi_any (num den : Nat) (h : okF num den) (w : World) : Calls Tryz.prog 25 #[.agg #[.int .i64 (num : Int), .int .i64 (den : Int)]] w fun e w' => e = .returned (.int .i64 (semI num den)) ∧ Below w.heap.size w w' := by
  have X0 := Blk.new w 23 #[.int .i64 (num : Int), .int .i64 (den : Int)]; have hu := (Below.refl w.heap.size w).alloc (Nat.le_refl _) (.cells #[.int .i64 (num : Int), .int .i64 (den : Int)] 23); have hT := ftL_mem (w.alloc (.cells #[.int .i64 (num : Int), .int .i64 (den : Int)] 23)) 69 num den; rw [show (w.alloc (.cells #[.int .i64 (num : Int), .int .i64 (den : Int)] 23)).heap.size = w.heap.size + 1 by simp] at hT; have HU : Sl _ := ⟨hu.alloc (by simp) (.cells #[.int .i64 (8 * (den : Int)), .int .i64 1, .int .i64 (num : Int), .int .i64 (-1)] 69)⟩; have HF : Sl _ := ⟨ft_floor _ 2 num den _ h hT⟩; have hb1 : (den : Int) ≤ 15 ∧ (num : Int) ≤ 960 := (by have := h.1; have := h.2; omega); have hw8 : IntKind.i64.wrap (8 * (den : Int)) = 8 * (den : Int) := (by rw [IntKind.wrap_i64]; omega); clear hu X0 hT h; go_enter Tryz.func25, Tryz.ntmps25; go_wp2_with fail; refine HF.out.mono ?_; rintro e w1 ⟨hr, hb⟩; obtain ⟨k, b, er, rfl, hk1, hk2⟩ := FloorRes_shape hr; have HS : Sl (semI num den = (k + 1) / 2) := ⟨semI_of hr⟩; have HB : Sl _ := ⟨hb⟩; have hkw : IntKind.i64.wrap (k + 1) = k + 1 := (by rw [IntKind.wrap_i64]; omega); clear hr hb HF; go_wp2_with fail; go_ret; refine ⟨?_, HU.out.trans (HB.out.mono HU.out.size)⟩; rw [HS.out, ← shr1]
  first | rfl | (congr 3; done) | (simp; done) | (rw [shr1]; simp; omega)
noncomputable def SmV (num den : Int) : Int × Int := if vF num den then (semI num.toNat den.toNat, 0) else (0, 2)
set_option maxHeartbeats 1600000 in
set_option maxRecDepth 100000 in
theorem Semi_any (num den : Int) (w : World) : Calls Tryz.prog 8 #[.agg #[.int .i64 num, .int .i64 den]] w fun e w' => e = .returned (.tuple #[.int .i64 (SmV num den).1, .int .i64 (SmV num den).2]) ∧ Below w.heap.size w w' := by
  have X0 := Blk.new w 23 #[.int .i64 num, .int .i64 den]; have hu := (Below.refl w.heap.size w).alloc (Nat.le_refl _) (.cells #[.int .i64 num, .int .i64 den] 23); have HF : Sl _ := ⟨fun W : World => feet_any num den W⟩; have HU : Sl _ := ⟨hu⟩; have HX : Sl _ := ⟨X0⟩; clear hu X0
  by_cases hv : vF num den
  · have HV : Sl (SmV num den = (semI num.toNat den.toNat, 0)) := ⟨by unfold SmV; rw [if_pos hv]⟩; rw [if_pos hv] at HF
    have HS : Sl (∀ W : World, Calls Tryz.prog 25 #[.agg #[.int .i64 num, .int .i64 den]] W fun e w' => e = .returned (.int .i64 (semI num.toNat den.toNat)) ∧ Below W.heap.size W w') := ⟨fun W => by
      obtain ⟨n, d, e1, e2, hk⟩ := okF_of hv; subst e1 e2
      simpa using semi_any n d hk W⟩
    clear hv; go_enter Tryz.func8, Tryz.ntmps8; go_wp2_with fail; generalize w.alloc (.cells #[.int .i64 num, .int .i64 den] 23) = w0 at *
    refine (HF.out w0).mono ?_; rintro e w1 ⟨⟨s, rfl⟩, hb⟩; have X1 := HX.out.below hb HX.out.lt; have x0 := X1.cell 0; have x1 := X1.cell 1; simp at x0 x1; have HB : Sl _ := ⟨hb⟩; clear hb X1; go_wp2_with fail; refine (HS.out w1).mono ?_; rintro e w2 ⟨rfl, hb2⟩; have HB2 : Sl _ := ⟨hb2⟩; clear hb2 x0 x1; go_wp2_with fail; go_ret2; have h1 := HU.out.trans (HB.out.mono HU.out.size); exact ⟨by rw [HV.out]; rfl, h1.trans (HB2.out.mono h1.size)⟩
  · have HV : Sl (SmV num den = (0, 2)) := ⟨by unfold SmV; rw [if_neg hv]⟩; rw [if_neg hv] at HF; clear hv; go_enter Tryz.func8, Tryz.ntmps8; go_wp2_with fail; generalize w.alloc (.cells #[.int .i64 num, .int .i64 den] 23) = w0 at *
    refine (HF.out w0).mono ?_; rintro e w1 ⟨⟨s, rfl⟩, hb⟩; have HB : Sl _ := ⟨hb⟩; clear hb; go_wp2_with fail; go_ret2; have h1 := HU.out.trans (HB.out.mono HU.out.size); exact ⟨by rw [HV.out]; rfl, h1⟩
end Go.Proofs.YtafadpaljanghaaGreatDoor
namespace Go.Proofs.YtafadpaljanghaaGreatDoor
set_option linter.unusedSimpArgs false
set_option linter.unusedVariables false
def nxe (o : List Nat) (i k g n : Nat) : Nat := if n = i ∨ n = k then o[n]?.getD 0 / g else o[n]?.getD 0
def nxt (o : List Nat) (i k g : Nat) : Nat → List Nat
  | 0 => []
  | n+1 => if 1 < nxe o i k g n then nxt o i k g n ++ [nxe o i k g n] else nxt o i k g n
structure Bz (N : List Nat) (o : List Nat) : Prop where
  two : ∀ p ∈ o, 2 ≤ p ∧ p < 2097152
  gen : ∀ x ∈ N, Gen o x
  mzb : mz o [] ≤ 1100
theorem mz_nil (o : List Nat) : mz o [] = (o.map fun n => 3 * n.log2).sum := by unfold mz; simp
theorem mz_snoc (o : List Nat) (x : Nat) : mz (o ++ [x]) [] = mz o [] + 3 * x.log2 := by rw [mz_nil, mz_nil, List.map_append, List.sum_append]; simp
theorem mz_length : ∀ (o : List Nat), (∀ p ∈ o, 2 ≤ p) → 3 * o.length ≤ mz o []
  | [], _ => by simp [mz]
  | p :: o, h => by
    have ih := mz_length o fun q hq => h q (List.mem_cons_of_mem _ hq)
    have := log2_pos (h p List.mem_cons_self); rw [mz_nil] at ih ⊢; rw [List.map_cons, List.sum_cons, List.length_cons]; omega
theorem Bz.len {N o : List Nat} (h : Bz N o) : o.length ≤ 366 := by
  have := mz_length o fun p hp => (h.two p hp).1
  have := h.mzb; omega
theorem nxe_pos {o : List Nat} {i k g : Nat} (h : ∀ p ∈ o, 2 ≤ p) (hi : ∀ x, o[i]? = some x → g ∣ x) (hk : ∀ x, o[k]? = some x → g ∣ x) (hg : 1 < g) {n : Nat} (hn : n < o.length) :
    ∃ x, o[n]? = some x ∧ 1 ≤ nxe o i k g n ∧ nxe o i k g n ≤ x ∧ (n = i ∨ n = k → nxe o i k g n * g = x) ∧ (¬ (n = i ∨ n = k) → nxe o i k g n = x) := by
  obtain ⟨x, hx⟩ : ∃ x, o[n]? = some x := ⟨_, List.getElem?_eq_getElem hn⟩; have h2 := h x (List.mem_of_getElem? hx); refine ⟨x, hx, ?_⟩; unfold nxe; rw [hx, Option.getD_some]
  by_cases hc : n = i ∨ n = k
  · have hd : g ∣ x := by
      rcases hc with rfl | rfl
      · exact hi x hx
      · exact hk x hx
    rw [if_pos hc]; obtain ⟨c, rfl⟩ := hd; rw [Nat.mul_div_cancel_left _ (by omega)]; have hc0 : c ≠ 0 := fun h0 => by subst h0; simp at h2
    have := Nat.le_mul_of_pos_left c (show 0 < g by omega); exact ⟨by omega, this, fun _ => Nat.mul_comm _ _, fun h => absurd hc h⟩
  · rw [if_neg hc]; exact ⟨by omega, Nat.le_refl _, fun h => absurd h hc, fun _ => rfl⟩
theorem nxt_mem {o : List Nat} {i k g : Nat} {p : Nat} : ∀ {n}, p ∈ nxt o i k g n ↔ ∃ j, j < n ∧ 1 < nxe o i k g j ∧ p = nxe o i k g j
  | 0 => by simp [nxt]
  | n+1 => by
    rw [nxt]; constructor
    · intro h
      split at h
      · rename_i h1; rcases List.mem_append.1 h with h | h
        · obtain ⟨j, a, b⟩ := nxt_mem.1 h; exact ⟨j, by omega, b⟩
        · exact ⟨n, by omega, h1, by simpa using h⟩
      · obtain ⟨j, a, b⟩ := nxt_mem.1 h; exact ⟨j, by omega, b⟩
    · rintro ⟨j, a, b, c⟩
      by_cases hj : j = n
      · subst hj; rw [if_pos b, c]; exact List.mem_append_right _ (by simp)
      · have := nxt_mem (n := n).2 ⟨j, by omega, b, c⟩
        split
        · exact List.mem_append_left _ this
        · exact this
theorem nxt_mz {o : List Nat} {i k g : Nat} (h : ∀ p ∈ o, 2 ≤ p) (hi : ∀ x, o[i]? = some x → g ∣ x) (hk : ∀ x, o[k]? = some x → g ∣ x) (hg : 1 < g) (hik : i ≠ k) : ∀ n, n ≤ o.length →
    mz (nxt o i k g n) [] + (if i < n then 3 * g.log2 else 0) + (if k < n then 3 * g.log2 else 0) ≤ mz (o.take n) []
  | 0, _ => by simp [nxt, mz]
  | n+1, hn => by
    have ih := nxt_mz h hi hk hg hik n (by omega); obtain ⟨x, hx, p1, p2, p3, p4⟩ := nxe_pos h hi hk hg (show n < o.length by omega)
    have e : mz (nxt o i k g (n + 1)) [] = mz (nxt o i k g n) [] + 3 * (nxe o i k g n).log2 := by
      rw [nxt]
      split
      · exact mz_snoc _ _
      · have : nxe o i k g n = 1 := (by omega); rw [this, show Nat.log2 1 = 0 by decide]; rfl
    rw [e, List.take_add_one, hx]; show _ ≤ mz (o.take n ++ [x]) []; rw [mz_snoc]
    by_cases hc : n = i ∨ n = k
    · have hl := log2_mul (a := nxe o i k g n) (b := g) (by omega) (by omega); rw [p3 hc] at hl; rcases hc with rfl | rfl
      · rw [if_neg (Nat.lt_irrefl _)] at ih; rw [if_pos (Nat.lt_succ_self _)]
        by_cases h2 : k < n
        · rw [if_pos h2] at ih; rw [if_pos (by omega)]; omega
        · rw [if_neg h2] at ih; rw [if_neg (by omega)]; omega
      · rw [if_neg (Nat.lt_irrefl n)] at ih; rw [if_pos (Nat.lt_succ_self n)]
        by_cases h2 : i < n
        · rw [if_pos h2] at ih; rw [if_pos (by omega)]; omega
        · rw [if_neg h2] at ih; rw [if_neg (by omega)]; omega
    · rw [p4 hc]
      have e1 : (if i < n + 1 then 3 * g.log2 else 0) = (if i < n then 3 * g.log2 else 0) := by
        by_cases g1 : i < n
        · rw [if_pos g1, if_pos (by omega)]
        · rw [if_neg g1, if_neg (by omega)]
      have e2 : (if k < n + 1 then 3 * g.log2 else 0) = (if k < n then 3 * g.log2 else 0) := by
        by_cases g1 : k < n
        · rw [if_pos g1, if_pos (by omega)]
        · rw [if_neg g1, if_neg (by omega)]
      rw [e1, e2]; omega
theorem Bz.next {N o : List Nat} {i k x y g : Nat} (h : Bz N o) (hki : k < i) (hx : o[i]? = some x) (hy : o[k]? = some y) (hg : Nat.gcd x y = g) (h1 : 1 < g) : Bz N (nxt o i k g o.length ++ [g]) ∧ mz (nxt o i k g o.length ++ [g]) [] + 3 ≤ mz o [] := by
  have h2 : ∀ p ∈ o, 2 ≤ p := fun p hp => (h.two p hp).1
  have hi : ∀ z, o[i]? = some z → g ∣ z := fun z hz => by rw [hx] at hz; injection hz with hz; rw [← hz, ← hg]; exact Nat.gcd_dvd_left _ _
  have hk : ∀ z, o[k]? = some z → g ∣ z := fun z hz => by rw [hy] at hz; injection hz with hz; rw [← hz, ← hg]; exact Nat.gcd_dvd_right _ _
  have hil : i < o.length := by
    rcases Nat.lt_or_ge i o.length with a | a
    · exact a
    · rw [List.getElem?_eq_none a] at hx; cases hx
  have hm := nxt_mz h2 hi hk h1 (by omega) o.length (Nat.le_refl _); rw [if_pos hil, if_pos (by omega), List.take_length] at hm; have hl := log2_pos h1; have hms : mz (nxt o i k g o.length ++ [g]) [] + 3 ≤ mz o [] := (by rw [mz_snoc]; omega)
  have hgx : g < 2097152 := by
    have hxb := h.two x (List.mem_of_getElem? hx); have := Nat.le_of_dvd (by omega) (hi x hx); omega
  refine ⟨⟨fun p hp => ?_, fun z hz => (h.gen z hz).subst fun s hs => ?_, by have := h.mzb; omega⟩, hms⟩
  · rcases List.mem_append.1 hp with hp | hp
    · obtain ⟨j, a, b, c⟩ := nxt_mem.1 hp; obtain ⟨w, hw, p1, p2, _⟩ := nxe_pos h2 hi hk h1 a; have := h.two w (List.mem_of_getElem? hw); rw [c]; omega
    · rw [List.mem_singleton] at hp; rw [hp]; omega
  · obtain ⟨j, hj⟩ := List.mem_iff_getElem?.1 hs
    have hjl : j < o.length := by
      rcases Nat.lt_or_ge j o.length with a | a
      · exact a
      · rw [List.getElem?_eq_none a] at hj; cases hj
    obtain ⟨w, hw, p1, p2, p3, p4⟩ := nxe_pos h2 hi hk h1 hjl; rw [hj] at hw; injection hw with hw
    subst hw
    have hG : Gen (nxt o i k g o.length ++ [g]) (nxe o i k g j) := by
      rcases Nat.lt_or_ge 1 (nxe o i k g j) with a | a
      · exact Gen.of (List.mem_append_left _ (nxt_mem.2 ⟨j, hjl, a, rfl⟩))
      · rw [show nxe o i k g j = 1 by omega]; exact Gen.one
    by_cases hc : j = i ∨ j = k
    · rw [← p3 hc]; exact hG.times (Gen.of (List.mem_append_right _ (by simp)))
    · rw [← p4 hc]; exact hG
def big (l : List Nat) : List Nat := l.filter fun n => decide (1 < n)
theorem big_snoc (l : List Nat) (n : Nat) : big (l ++ [n]) = if 1 < n then big l ++ [n] else big l := by
  unfold big; rw [List.filter_append]
  by_cases h : 1 < n
  · rw [if_pos h]; simp [h]
  · rw [if_neg h]; simp [h]
theorem big_mz : ∀ (l : List Nat), (∀ x ∈ l, x < 2097152) → mz (big l) [] ≤ l.length * 60
  | [], _ => by simp [big, mz]
  | n :: l, h => by
    have ih := big_mz l fun x hx => h x (List.mem_cons_of_mem _ hx)
    have hn := h n List.mem_cons_self
    have hl : n.log2 ≤ 20 := by
      rcases Nat.eq_zero_or_pos n with h0 | h0
      · subst h0; decide
      · have := (Nat.log2_lt (by omega)).2 (show n < 2 ^ 21 from hn); omega
    unfold big at ih ⊢; rw [List.filter_cons]
    split
    · rw [mz_nil] at ih ⊢; rw [List.map_cons, List.sum_cons, List.length_cons]; omega
    · rw [List.length_cons]; omega
theorem Bz.start {l : List Nat} (h : ∀ x ∈ l, 1 ≤ x ∧ x < 2097152) (hl : l.length ≤ 17) : Bz l (big l) := by
  refine ⟨fun p hp => ?_, fun x hx => ?_, ?_⟩
  · have := List.mem_filter.1 hp; have h1 := h p this.1; have h2 := of_decide_eq_true this.2; omega
  · rcases Nat.lt_or_ge 1 x with h1 | h1
    · exact Gen.of (List.mem_filter.2 ⟨hx, decide_eq_true h1⟩)
    · have := h x hx; rw [show x = 1 by omega]; exact Gen.one
  · have := big_mz l fun x hx => (h x hx).2
    omega
def Pc (o : List Nat) (i : Nat) : Prop := ∀ a b x y, a < b → b < i → o[a]? = some x → o[b]? = some y → Nat.gcd x y = 1
theorem Pc.cop {N o : List Nat} (h : Bz N o) (hp : Pc o o.length) : Cop o := by
  refine ⟨fun p hp => (h.two p hp).1, ?_⟩; rw [List.pairwise_iff_getElem]; intro i j hi hj hij; exact hp i j _ _ hij hj (List.getElem?_eq_getElem hi) (List.getElem?_eq_getElem hj)
end Go.Proofs.YtafadpaljanghaaGreatDoor
namespace Go.Proofs.YtafadpaljanghaaGreatDoor
set_option linter.unusedSimpArgs false
open Go.RowKit
set_option linter.unusedVariables false
theorem big_take {l : List Nat} {i x : Nat} (h : l[i]? = some x) : big (l.take (i + 1)) = if 1 < x then big (l.take i) ++ [x] else big (l.take i) := by
  rw [List.take_add_one, h]; exact big_snoc _ _
set_option maxHeartbeats 6400000 in
set_option maxRecDepth 100000 in
theorem r4baseG_any (A : Option Addr) (n c : Nat) (l : List (Nat × Int)) (w : World) (hl : TR w A n l) (hn : n ≤ 17) (h6 : ∀ x ∈ l, 1 ≤ x.1 ∧ x.1 < 2097152) :
    Calls Tryz.prog 134 #[.slice A n c] w fun e w' => (∃ B m d o, e = .returned (.slice B m d) ∧ V w' B m o ∧ Bz (l.map Prod.fst) o ∧ Pc o m) ∧ Below w.heap.size w w' := by
  obtain ⟨i0, hi0, hz0, hz1, hz2⟩ := info_parts infoI; have HI : Sl _ := ⟨And.intro hi0 (And.intro hz0 (And.intro hz1 hz2))⟩; clear hi0 hz0 hz1 hz2; have HL : Sl _ := ⟨And.intro hl h6⟩; clear hl h6; go_enter Tryz.func134, Tryz.ntmps134; go_wp2_with fail
  go_loopw [3, 4] (fun s3 s4 wr => ∃ i k : Nat, i ≤ n ∧ k ≤ i ∧ k = (big ((l.map Prod.fst).take i)).length ∧ s4 = .int .i64 i ∧ Sl (wr.ownsRow w.heap.size 2 1 s3 k ((big ((l.map Prod.fst).take i)).map cv) ∧ Below w.heap.size w wr)) (fun _ s4 _ => n - (RowKit.intOf s4).toNat)
  case atStart => exact ⟨0, 0, Nat.zero_le _, Nat.zero_le _, rfl, rfl, ⟨World.ownsRow_nil _ _ _ _, Below.refl _ _⟩⟩
  case round =>
    obtain ⟨i, k, hi, hki, hkl, rfl, HR⟩ := hrel
    by_cases hin : i < n
    · obtain ⟨⟨nn, kk⟩, hx⟩ : ∃ x, l[i]? = some x := ⟨_, List.getElem?_eq_getElem (by rw [HL.out.1.1]; exact hin)⟩; obtain ⟨ad, rfl, hab, e1, e2⟩ := (HL.out.1.below HR.out.2).cells hx; simp only [] at e1; clear e2; have hx1 : (l.map Prod.fst)[i]? = some nn := (by rw [List.getElem?_map, hx]; rfl); have hp := HL.out.2 _ (List.mem_of_getElem? hx); simp only [] at hp; have hbt := big_take hx1
      by_cases hg1 : 1 < nn
      · have hgt : 1 < (nn : Int) := (by omega); rw [if_pos hg1] at hbt; have HX : Sl _ := ⟨And.intro hbt hkl⟩; have HOA := HR.out.1.alloc (.cells #[.int .i64 (nn : Int)] 2); have hsz := HR.out.2.size; clear hx hp hx1 hbt hkl; go_wp2_with (at_builtin; go_loud (refine wpList_append_any _ rfl (.tmp 23) (.tmp 29) _ rfl w.heap.size 2 i0 _ 1 8 Tryz.underlying103 HI.out.1 HI.out.2.1 HI.out.2.2.1 HI.out.2.2.2 rfl (by decide) _ k _ rfl HOA _ (some ⟨wr.heap.size, 0, none⟩) 1 1 ([nn].map cv) rfl (V_one wr nn _) (one_cv nn) (by unfold maxLen; omega) (by omega) (Nat.le_trans hsz (by simp)) ?_; intro v1 w3 hown1 hg1 hat1)); have hBa := HR.out.2.alloc hsz (.cells #[.int .i64 (nn : Int)] 2); have hown := HR.out.1.lt; have hB3 := hBa.grown hg1 (Nat.le_trans hsz (by simp)) (fun k hk => (hown k hk).1); refine ⟨⟨i + 1, k + 1, hin, by omega, by rw [HX.out.1, List.length_append, ← HX.out.2]; rfl, by go_num, ⟨?_, hB3⟩⟩, by simp [RowKit.intOf]; try omega⟩; rw [HX.out.1, List.map_append]; exact hown1
      · have hgt : ¬ 1 < (nn : Int) := (by omega); have hgd : decide (1 < (nn : Int)) = false := decide_eq_false hgt; rw [if_neg hg1] at hbt; have HX : Sl _ := ⟨And.intro hbt hkl⟩; clear hx hp hx1 hbt hkl hg1; go_wp2_with fail; refine ⟨⟨i + 1, k, hin, by omega, by rw [HX.out.1]; exact HX.out.2, by go_num, ⟨?_, HR.out.2⟩⟩, by simp [RowKit.intOf]; try omega⟩; rw [HX.out.1]; exact HR.out.1
    · obtain rfl : n = i := (by omega); have h2 := HR.out; rw [List.take_of_length_le (by rw [List.length_map, HL.out.1.1]; exact Nat.le_refl _)] at h2 hkl; have H2 : Sl _ := ⟨And.intro h2 hkl⟩; clear h2 HR hin hi hkl; go_wp2_with fail
      go_loopg [3, 5] (mz (big (l.map Prod.fst)) [] * 2000 + k) (fun gq s3 s5 wr => ∃ (i L : Nat) (o : List Nat), i ≤ L ∧ L ≤ 366 ∧ gq = mz o [] * 2000 + (L - i) ∧ s5 = .int .i64 i ∧ Sl (wr.ownsRow w.heap.size 2 1 s3 L (o.map cv) ∧ Bz (l.map Prod.fst) o ∧ Pc o i ∧ Below w.heap.size w wr))
      case atStart =>
        have hbz := Bz.start (l := l.map Prod.fst) (fun x hx => by
          obtain ⟨y, hy, rfl⟩ := List.mem_map.1 hx
          exact HL.out.2 y hy) (by rw [List.length_map, HL.out.1.1]; exact hn)
        refine ⟨0, k, _, Nat.zero_le _, by omega, rfl, rfl, ⟨H2.out.1.1, hbz, fun a b x y _ hb => absurd hb (Nat.not_lt_zero _), H2.out.1.2⟩⟩
      case round =>
        clear H2; obtain ⟨i, L, o, hi, hL, hgk, rfl, HO⟩ := hrel; obtain ⟨wo, rfl⟩ : ∃ wo : World, wo = wr := ⟨_, rfl⟩; obtain ⟨A1, c1, rfl, hc1, hV⟩ := V_own HO.out.1; have hol : o.length = L := hV.len; have HG : Sl _ := ⟨hgk⟩; clear hgk
        by_cases hiL : i < L
        · obtain ⟨p, hp⟩ : ∃ p, o[i]? = some p := ⟨_, List.getElem?_eq_getElem (by omega)⟩; have hp6 := HO.out.2.1.two p (List.mem_of_getElem? hp); have HV1 : Sl _ := ⟨And.intro hV (And.intro hp hol)⟩; clear hV hp hol; go_wp2_with fail
          go_loopw [3, 5, 6] (fun s3 s5 s6 wq => ∃ k : Nat, k ≤ i ∧ s3 = .slice A1 L c1 ∧ s5 = .int .i64 i ∧ s6 = .int .i64 k ∧ Sl ((∀ a x, a < k → o[a]? = some x → Nat.gcd x p = 1) ∧ ∃ m, wq = wo.drewN m)) (fun _ _ s6 _ => i - (RowKit.intOf s6).toNat)
          case atStart => exact ⟨0, Nat.zero_le _, rfl, rfl, rfl, ⟨fun a x ha => absurd ha (Nat.not_lt_zero _), 0, rfl⟩⟩
          case round =>
            obtain ⟨k, hk, rfl, rfl, rfl, HK⟩ := hrel
            have HVW : Sl (V wr A1 L o ∧ RowKit.Below w.heap.size w wr ∧ wr.ownsRow w.heap.size 2 1 (.slice A1 L c1) L (o.map cv)) := ⟨by
              obtain ⟨m, hm⟩ := HK.out.2; rw [hm]
              exact ⟨HV1.out.1.drewN m, below_drewN HO.out.2.2.2 m, own_drewN HO.out.1 m⟩⟩
            by_cases hki : k < i
            · obtain ⟨q, hq⟩ : ∃ q, o[k]? = some q := ⟨_, List.getElem?_eq_getElem (by have := HV1.out.2.2; omega)⟩; have hq6 := HO.out.2.1.two q (List.mem_of_getElem? hq); obtain ⟨ad, rfl, hab, hci⟩ := HVW.out.1.cell (k := i) hiL; obtain ⟨ad', e, hab', hck⟩ := HVW.out.1.cell (k := k) (by omega); injection e with e
              subst e; rw [HV1.out.2.1] at hci; rw [hq] at hck; simp only [Option.getD_some] at hci hck; obtain ⟨bp1, bp2⟩ := hp6; obtain ⟨bq1, bq2⟩ := hq6; have hkL : (k : Int) < (L : Int) := (by omega); have hkL2 : k < L := (by omega); have HQ : Sl _ := ⟨hq⟩; obtain ⟨g, hg⟩ : ∃ g, Nat.gcd p q = g := ⟨_, rfl⟩; have hg0 : 0 < g := (by rw [← hg]; exact Nat.gcd_pos_of_pos_left _ (by omega)); have hgp : g ≤ p := (by rw [← hg]; exact Nat.gcd_le_left _ (by omega))
              have VA : Sl (∀ z, Calls Tryz.prog 149 #[.int .i64 p, .int .i64 q] (wr.drewN z) fun e w'' => e = .returned (.int .i64 g) ∧ ∃ y, w'' = wr.drewN y) := ⟨fun z => by
                have h := r4gcd_any p q (wr.drewN z) (by omega) (by omega); rw [hg] at h
                exact h.mono fun e w'' h => ⟨h.1, by obtain ⟨y, hy⟩ := h.2; exact ⟨z + y, by rw [hy, drew2]⟩⟩⟩
              have HGG : Sl _ := ⟨hg⟩; clear hq hab hab' hg
              by_cases hpq : g = 1
              · have hg1 : ((g : Int) == 1) = true := (by rw [hpq]; rfl); have HP1 : Sl _ := ⟨hpq⟩; clear hpq; go_wp2_with fail
                go_quiet ((go_at_call 149; (with_reducible exact VA.out _)))
                go_wp2_with fail; refine ⟨⟨k + 1, hki, rfl, rfl, by go_num, ⟨fun a x ha hx => ?_, by obtain ⟨m, hm⟩ := HK.out.2; exact ⟨m + nq, by rw [hm, drew2]⟩⟩⟩, by simp [RowKit.intOf]; omega⟩; rcases Nat.lt_or_ge a k with h | h
                · exact HK.out.1 a x h hx
                · obtain rfl : a = k := (by omega); rw [HQ.out] at hx; injection hx with hx
                  rw [← hx, Nat.gcd_comm, HGG.out]; exact HP1.out
              · have hg1 : ((g : Int) == 1) = false := (by rw [beq_eq_false_iff_ne]; omega); have hg2 : 1 < g := (by omega); have HNX : Sl _ := ⟨HO.out.2.1.next hki HV1.out.2.1 HQ.out HGG.out hg2⟩
                have HXE : Sl (∀ {z : Nat}, z < o.length → ∃ x, o[z]? = some x ∧ 1 ≤ nxe o i k g z ∧ nxe o i k g z ≤ x ∧ (z = i ∨ z = k → nxe o i k g z * g = x) ∧ (¬ (z = i ∨ z = k) → nxe o i k g z = x)) := ⟨fun {z} hz => nxe_pos (fun p hp => (HO.out.2.1.two p hp).1)
                  (fun z hz => by rw [HV1.out.2.1] at hz; injection hz with hz; rw [← hz, ← HGG.out]; exact Nat.gcd_dvd_left _ _)
                  (fun z hz => by rw [HQ.out] at hz; injection hz with hz; rw [← hz, ← HGG.out]; exact Nat.gcd_dvd_right _ _) hg2 hz⟩
                have HTW : Sl _ := ⟨HO.out.2.1.two⟩; clear hpq; go_wp2_with fail
                go_quiet ((go_at_call 149; (with_reducible exact VA.out _)))
                go_wp2_with fail; generalize hws : wr.drewN nq = ws at *
                have hB0 : RowKit.Below w.heap.size w ws := (by rw [← hws]; exact below_drewN HVW.out.2.1 nq); have hV0 : V ws (some ad) L o := (by rw [← hws]; exact HVW.out.1.drewN nq); have HWS : Sl _ := ⟨And.intro hB0 hV0⟩; clear hws hB0 hV0 HO HK hci hck HVW VA
                go_loopw [8, 9] (fun s8 s9 wq => ∃ (z : Nat) (y : List Nat), z ≤ L ∧ y.length ≤ z ∧ s9 = .int .i64 z ∧ Sl (wq.ownsRow ws.heap.size 2 1 s8 y.length (y.map cv) ∧ y = nxt o i k g z ∧ Below ws.heap.size ws wq)) (fun _ s9 _ => L - (RowKit.intOf s9).toNat)
                case atStart => exact ⟨0, [], Nat.zero_le _, Nat.zero_le _, rfl, ⟨World.ownsRow_nil _ _ _ _, rfl, Below.refl _ _⟩⟩
                case round =>
                  obtain ⟨z, y, hz, hyz, rfl, HY⟩ := hrel; rcases Nat.lt_or_ge z L with hzL | hzL
                  · obtain ⟨x, hx, x1, x2, x3, x4⟩ := HXE.out (z := z) (by have := HV1.out.2.2; omega); have hx6 := HTW.out x (List.mem_of_getElem? hx); obtain ⟨bx1, bx2⟩ := hx6; obtain ⟨ad', e, hab', hcz⟩ := (HWS.out.2.below HY.out.2.2).cell (k := z) hzL; injection e with e
                    subst e; rw [hx] at hcz; simp only [Option.getD_some] at hcz; have hns : nxt o i k g (z + 1) = if 1 < nxe o i k g z then nxt o i k g z ++ [nxe o i k g z] else nxt o i k g z := rfl
                    rw [← HY.out.2.1] at hns; obtain ⟨u, hu⟩ : ∃ u, nxe o i k g z = u := ⟨_, rfl⟩; rw [hu] at x1 x2 x3 x4 hns; have HNS : Sl _ := ⟨hns⟩; clear hx hab' hns hu; have hik : i ≠ k := (by omega)
                    have hdv : z = i ∨ z = k → (x : Int).tdiv (g : Int) = (u : Int) := fun h => by
                      rw [← x3 h, Int.tdiv_eq_ediv_of_nonneg (by omega)]; rw [Int.natCast_mul]; exact Int.mul_ediv_cancel _ (by omega)
                    have hgne : ¬ (g : Int) = 0 := (by omega); have hsz := HY.out.2.2.size; have hown := HY.out.1.lt; clear x3
                    by_cases hzi : z = i
                    · have hdz := hdv (.inl hzi); have hcz2 := hcz; rw [hzi] at hcz2; have hzL2 : (i : Int) < (L : Int) := (by omega); have hq1 : ((z : Int) == (i : Int)) = true := (by rw [hzi]; exact beq_self_eq_true _); clear hdv x4
                      by_cases hu1 : 1 < u
                      · have hgt : 1 < (u : Int) := (by omega); have HOA := HY.out.1.alloc (.cells #[.int .i64 (u : Int)] 2); go_wp2_with (at_builtin; go_loud (refine wpList_append_any _ rfl (.tmp 76) (.tmp 78) _ rfl ws.heap.size 2 i0 _ 1 8 Tryz.underlying103 HI.out.1 HI.out.2.1 HI.out.2.2.1 HI.out.2.2.2 rfl (by decide) _ y.length _ rfl HOA _ (some ⟨wr.heap.size, 0, none⟩) 1 1 ([u].map cv) rfl (V_one wr u _) (one_cv u) (by unfold maxLen; omega) (by omega) (Nat.le_trans hsz (by simp)) ?_; intro v1 w3 hown1 hg1 hat1)); have hBa := HY.out.2.2.alloc hsz (.cells #[.int .i64 (u : Int)] 2); have hB3 := hBa.grown hg1 (Nat.le_trans hsz (by simp)) (fun k hk => (hown k hk).1); have hn1 := HNS.out; rw [if_pos (by omega)] at hn1; refine ⟨⟨z + 1, y ++ [u], hzL, by rw [List.length_append]; simp; omega, by first | go_num | (congr 1; omega), ⟨?_, hn1.symm, hB3⟩⟩, by simp [RowKit.intOf]; try omega⟩; rw [List.map_append, List.length_append]; exact hown1
                      · have hgt : decide (1 < (u : Int)) = false := decide_eq_false (by omega); go_wp2_with fail; have hn1 := HNS.out; rw [if_neg (by omega)] at hn1; exact ⟨⟨z + 1, y, hzL, by omega, by first | go_num | (congr 1; omega), ⟨HY.out.1, HY.out.2.1.trans (HY.out.2.1.symm.trans hn1.symm), HY.out.2.2⟩⟩, by simp [RowKit.intOf]; omega⟩
                    by_cases hzk : z = k
                    · have hdz := hdv (.inr hzk); have hcz2 := hcz; rw [hzk] at hcz2; have hzL2 : (k : Int) < (L : Int) := (by omega); have hq1 : ((z : Int) == (i : Int)) = false := (by rw [beq_eq_false_iff_ne]; omega); have hq2 : ((z : Int) == (k : Int)) = true := (by rw [hzk]; exact beq_self_eq_true _); clear hdv x4
                      by_cases hu1 : 1 < u
                      · have hgt : 1 < (u : Int) := (by omega); have HOA := HY.out.1.alloc (.cells #[.int .i64 (u : Int)] 2); go_wp2_with (at_builtin; go_loud (refine wpList_append_any _ rfl (.tmp 76) (.tmp 78) _ rfl ws.heap.size 2 i0 _ 1 8 Tryz.underlying103 HI.out.1 HI.out.2.1 HI.out.2.2.1 HI.out.2.2.2 rfl (by decide) _ y.length _ rfl HOA _ (some ⟨wr.heap.size, 0, none⟩) 1 1 ([u].map cv) rfl (V_one wr u _) (one_cv u) (by unfold maxLen; omega) (by omega) (Nat.le_trans hsz (by simp)) ?_; intro v1 w3 hown1 hg1 hat1)); have hBa := HY.out.2.2.alloc hsz (.cells #[.int .i64 (u : Int)] 2); have hB3 := hBa.grown hg1 (Nat.le_trans hsz (by simp)) (fun k hk => (hown k hk).1); have hn1 := HNS.out; rw [if_pos (by omega)] at hn1; refine ⟨⟨z + 1, y ++ [u], hzL, by rw [List.length_append]; simp; omega, by first | go_num | (congr 1; omega), ⟨?_, hn1.symm, hB3⟩⟩, by simp [RowKit.intOf]; try omega⟩; rw [List.map_append, List.length_append]; exact hown1
                      · have hgt : decide (1 < (u : Int)) = false := decide_eq_false (by omega); go_wp2_with fail; have hn1 := HNS.out; rw [if_neg (by omega)] at hn1; exact ⟨⟨z + 1, y, hzL, by omega, by first | go_num | (congr 1; omega), ⟨HY.out.1, HY.out.2.1.trans (HY.out.2.1.symm.trans hn1.symm), HY.out.2.2⟩⟩, by simp [RowKit.intOf]; omega⟩
                    · obtain rfl := x4 (fun h => h.elim hzi hzk); have hq1 : ((z : Int) == (i : Int)) = false := (by rw [beq_eq_false_iff_ne]; omega); have hq2 : ((z : Int) == (k : Int)) = false := (by rw [beq_eq_false_iff_ne]; omega); clear hdv x4; have hgt : 1 < (u : Int) := (by omega); have HOA := HY.out.1.alloc (.cells #[.int .i64 (u : Int)] 2); go_wp2_with (at_builtin; go_loud (refine wpList_append_any _ rfl (.tmp 76) (.tmp 78) _ rfl ws.heap.size 2 i0 _ 1 8 Tryz.underlying103 HI.out.1 HI.out.2.1 HI.out.2.2.1 HI.out.2.2.2 rfl (by decide) _ y.length _ rfl HOA _ (some ⟨wr.heap.size, 0, none⟩) 1 1 ([u].map cv) rfl (V_one wr u _) (one_cv u) (by unfold maxLen; omega) (by omega) (Nat.le_trans hsz (by simp)) ?_; intro v1 w3 hown1 hg1 hat1)); have hBa := HY.out.2.2.alloc hsz (.cells #[.int .i64 (u : Int)] 2); have hB3 := hBa.grown hg1 (Nat.le_trans hsz (by simp)) (fun k hk => (hown k hk).1); have hn1 := HNS.out; rw [if_pos (by omega)] at hn1; refine ⟨⟨z + 1, y ++ [u], hzL, by rw [List.length_append]; simp; omega, by first | go_num | (congr 1; omega), ⟨?_, hn1.symm, hB3⟩⟩, by simp [RowKit.intOf]; try omega⟩; rw [List.map_append, List.length_append]; exact hown1
                  · obtain rfl : z = L := (by omega); have hyl : y.length ≤ 366 := (by omega); have hnd := HNX.out; rw [HV1.out.2.2, ← HY.out.2.1] at hnd; have HD : Sl _ := ⟨hnd⟩; have HOA := HY.out.1.alloc (.cells #[.int .i64 (g : Int)] 2); have hsz := HY.out.2.2.size; clear hnd; go_wp2_with (at_builtin; go_loud (refine wpList_append_any _ rfl (.tmp 80) (.tmp 82) _ rfl ws.heap.size 2 i0 _ 1 8 Tryz.underlying103 HI.out.1 HI.out.2.1 HI.out.2.2.1 HI.out.2.2.2 rfl (by decide) _ y.length _ rfl HOA _ (some ⟨wr.heap.size, 0, none⟩) 1 1 ([g].map cv) rfl (V_one wr g _) (one_cv g) (by unfold maxLen; omega) (by omega) (Nat.le_trans hsz (by simp)) ?_; intro v1 w3 hown1 hg1 hat1)); have hBa := HY.out.2.2.alloc hsz (.cells #[.int .i64 (g : Int)] 2); have hown := HY.out.1.lt; have hB3 := hBa.grown hg1 (Nat.le_trans hsz (by simp)) (fun k hk => (hown k hk).1); have hlen := HD.out.1.len; rw [List.length_append, List.length_singleton] at hlen
                    go_roundg (mz (y ++ [g]) [] * 2000 + (y.length + 1 - 0))
                    case measure => have h1 := HG.out; have h2 := HD.out.2; omega
                    case rel => exact ⟨0, y.length + 1, y ++ [g], Nat.zero_le _, hlen, rfl, rfl, ⟨own_base (B := ws.heap.size) (by rw [List.map_append]; exact hown1) HWS.out.1.size, HD.out.1, fun a b x y' _ hb => absurd hb (Nat.not_lt_zero _), HWS.out.1.trans (hB3.mono HWS.out.1.size)⟩⟩
            · obtain rfl : k = i := (by omega); go_wp2_with fail
              go_roundg (mz o [] * 2000 + (L - (k + 1)))
              case measure => have h1 := HG.out; omega
              case rel =>
                refine ⟨k + 1, L, o, hiL, hL, rfl, by go_num, ⟨HVW.out.2.2, HO.out.2.1, fun a b x y hab hb hx hy => ?_, HVW.out.2.1⟩⟩; rcases Nat.lt_or_ge b k with h | h
                · exact HO.out.2.2.1 a b x y hab h hx hy
                · obtain rfl : b = k := (by omega); rw [HV1.out.2.1] at hy; injection hy with hy
                  rw [← hy]; exact HK.out.1 a x hab hx
        · obtain rfl : i = L := (by omega); go_wp2_with fail; go_ret; exact ⟨⟨_, _, _, o, rfl, hV, HO.out.2.1, HO.out.2.2.1⟩, HO.out.2.2.2⟩
set_option maxHeartbeats 6400000 in
set_option maxRecDepth 100000 in
theorem r4oneG_any (A : Option Addr) (n c : Nat) (l : List (Nat × Int)) (w : World) (hl : TR w A n l) (hn : n ≤ 17) (h6 : ∀ x ∈ l, (1 ≤ x.1 ∧ x.1 < 2097152) ∧ x.2.natAbs ≤ 10000000000000000) :
    Calls Tryz.prog 109 #[.slice A n c] w fun e w' => e = .returned (.bool (decide (up l = down l))) ∧ Below w.heap.size w w' := by
  have HB : Sl _ := ⟨r4baseG_any A n c l w hl hn (fun x hx => (h6 x hx).1)⟩; have HL : Sl _ := ⟨And.intro hl h6⟩; have HE : Sl (∀ x ∈ l, 0 < x.1 ∧ x.1 ≤ 1000000000000 ∧ x.2.natAbs ≤ 10000000000000000) := ⟨fun x hx => by have := h6 x hx; omega⟩; clear hl h6; obtain ⟨r, hr⟩ : ∃ r, decide (up l = down l) = r := ⟨_, rfl⟩; rw [hr]; have HR : Sl _ := ⟨hr⟩; clear hr; go_enter Tryz.func109, Tryz.ntmps109; go_wp2_with fail; refine HB.out.mono ?_; rintro e w1 ⟨⟨B, m, d, o, rfl, hV, hBz, hPc⟩, hb⟩; have hiff : (∀ b ∈ o, expo b l = 0) ↔ up l = down l := (Pc.cop hBz (by rw [hV.len]; exact hPc)).one_iff fun x hx => hBz.gen x.1 (List.mem_map.2 ⟨x, hx, rfl⟩)
  have hol := hV.len; have hm366 : m ≤ 366 := (by have := hBz.len; omega); have HW : Sl _ := ⟨And.intro hV (And.intro hBz (And.intro hb (And.intro (HL.out.1.below hb) (And.intro hiff hol))))⟩; clear hV hBz hPc hb HB hiff hol; go_wp2_with fail
  go_loop [4] (fun s4 => ∃ i : Nat, i ≤ m ∧ s4 = .int .i64 i ∧ Sl (∀ a p, a < i → o[a]? = some p → expo p l = 0)) (fun s4 => m - (RowKit.intOf s4).toNat)
  case atStart => exact ⟨0, Nat.zero_le _, rfl, ⟨fun a p ha => absurd ha (Nat.not_lt_zero _)⟩⟩
  case round =>
    obtain ⟨i, hi, rfl, HI⟩ := hrel; rcases Nat.lt_or_ge i m with him | him
    · obtain ⟨p, hp⟩ : ∃ p, o[i]? = some p := ⟨_, List.getElem?_eq_getElem (by have := HW.out.2.2.2.2.2; omega)⟩; obtain ⟨bd, rfl, hbd, hcb⟩ := HW.out.1.cell (k := i) him; rw [hp] at hcb; simp only [Option.getD_some] at hcb; obtain ⟨bp1, bp2⟩ := HW.out.2.1.two p (List.mem_of_getElem? hp); have hpz : ¬ (p : Int) = 0 := (by omega); have HP : Sl _ := ⟨hp⟩; clear hp; go_wp2_with fail
      go_loop [5, 6] (fun s5 s6 => ∃ (k : Nat) (z : Int), k ≤ n ∧ s6 = .int .i64 k ∧ s5 = .int .i64 z ∧ Sl (expo p (l.take k) = z)) (fun _ s6 => n - (RowKit.intOf s6).toNat)
      case atStart => exact ⟨0, 0, Nat.zero_le _, rfl, rfl, ⟨by simp [expo]⟩⟩
      case round =>
        obtain ⟨k, z, hk, rfl, rfl, HZ⟩ := hrel; rcases Nat.lt_or_ge k n with hkn | hkn
        · obtain ⟨⟨nn, kk⟩, hx⟩ : ∃ x, l[k]? = some x := ⟨_, List.getElem?_eq_getElem (by rw [HL.out.1.1]; exact hkn)⟩; obtain ⟨ad, rfl, hab, e1, e2⟩ := HW.out.2.2.2.1.cells hx
          have e3 : (ad.add (k * 2)).add 1 = ⟨(ad.add (k * 2)).block, (ad.add (k * 2)).off + 1, none⟩ := by
            generalize ad.add (k * 2) = a1; simp [Addr.add]
          rw [← add_of_add, e3] at e2; have hnn := HL.out.2 _ (List.mem_of_getElem? hx); simp only [] at hnn e1 e2; have hvb := vb_le bp1 (by omega : 0 < nn) (by omega); have hzl := expo_le bp1 (l.take k) (fun x hx => HE.out x (List.mem_of_mem_take hx)); rw [HZ.out, List.length_take] at hzl; have hz2 : z.natAbs ≤ 16 * 400000000000000000 := Nat.le_trans hzl (Nat.mul_le_mul_right _ (by omega)); have HZ2 : Sl _ := ⟨hz2⟩; have HX : Sl _ := ⟨And.intro hx (And.intro hnn hvb)⟩; clear hx hnn hvb hzl hz2 e3; go_wp2_with fail
          go_loop [5, 7] (fun s5 s7 => ∃ (q t : Nat), 0 < q ∧ q ≤ 2097152 ∧ s7 = .int .i64 q ∧ s5 = .int .i64 (z + kk * t) ∧ Sl (t + vb p q = vb p nn)) (fun _ s7 => (RowKit.intOf s7).toNat)
          case atStart => exact ⟨nn, 0, by have := HX.out.2.1; omega, by have := HX.out.2.1; omega, rfl, by simp, ⟨by omega⟩⟩
          case round =>
            obtain ⟨q, t, hq0, hq1, rfl, rfl, HV⟩ := hrel; have hmod : (q : Int).tmod (p : Int) = ((q % p : Nat) : Int) := (by rw [Int.tmod_eq_emod_of_nonneg (by omega)]; omega); have hd := vb_div bp1 hq0
            by_cases hmb : q % p = 0
            · rw [if_pos hmb] at hd; rw [hmb] at hmod; have hdiv : (q : Int).tdiv (p : Int) = ((q / p : Nat) : Int) := (by rw [Int.tdiv_eq_ediv_of_nonneg (by omega)]; rfl); have hp0 : 0 < q / p := Nat.div_pos (Nat.le_of_dvd hq0 (Nat.dvd_of_mod_eq_zero hmb)) (by omega); have hp1 : q / p < q := Nat.div_lt_self hq0 (by omega); have hV := HV.out; have ht : t + 1 ≤ 40 := (by have := HX.out.2.2; omega); have hnew : Sl (t + 1 + vb p (q / p) = vb p nn) := ⟨by omega⟩
              have hkt : (kk * ((t : Int) + 1)).natAbs ≤ 10000000000000000 * 40 := by
                rw [Int.natAbs_mul]; exact Nat.mul_le_mul HX.out.2.1.2 (by omega)
              have hadd : z + kk * (t : Int) + kk = z + kk * ((t : Int) + 1) := (by rw [Int.mul_add, Int.mul_one]; omega)
              have hwr : IntKind.i64.wrap (z + kk * (t : Int) + kk) = z + kk * ((t : Int) + 1) := by
                rw [hadd]; have := HZ2.out; generalize kk * ((t : Int) + 1) = y at *
                rw [IntKind.wrap_i64]; omega
              obtain ⟨zn, hzn⟩ : ∃ zn, z + kk * ((t : Int) + 1) = zn := ⟨_, rfl⟩; rw [hzn] at hwr; have HZN : Sl _ := ⟨hzn⟩; clear hd hV hkt hadd hmb hzn; generalize q / p = u at *
              generalize z + kk * (t : Int) = zc at *
              go_wp2_with fail; refine ⟨⟨u, t + 1, hp0, by omega, by first | rfl | trivial, ?_, hnew⟩, by simp [RowKit.intOf]; omega⟩; rw [← HZN.out]; rfl
            · rw [if_neg hmb] at hd; have hne : ((q % p : Nat) : Int) ≠ 0 := (by omega); have hbq : (((q % p : Nat) : Int) == 0) = false := (by rw [beq_eq_false_iff_ne]; exact hne)
              have hfin : Sl (expo p (l.take (k + 1)) = z + kk * (t : Int)) := ⟨by
                have hV := HV.out; rw [hd, Nat.add_zero] at hV; rw [List.take_add_one, HX.out.1]; show expo p (l.take k ++ [(nn, kk)]) = _
                rw [expo_snoc, HZ.out, hV]⟩
              clear hd hmb; generalize q % p = u at *
              generalize z + kk * (t : Int) = zc at *
              go_wp2_with fail; exact ⟨⟨k + 1, zc, hkn, by go_num, rfl, hfin⟩, by simp [RowKit.intOf]; omega⟩
        · obtain rfl : n = k := (by omega)
          have hz : expo p l = z := by
            have h := HZ.out; rw [List.take_of_length_le (by rw [HL.out.1.1]; exact Nat.le_refl _)] at h; exact h
          by_cases h0 : z = 0
          · have HS0 : Sl _ := ⟨hz.trans h0⟩; subst h0; clear hz; go_wp2_with fail; refine ⟨⟨i + 1, him, by go_num, ⟨fun a q ha hq => ?_⟩⟩, by simp [RowKit.intOf]; omega⟩; rcases Nat.lt_or_ge a i with h | h
            · exact HI.out a q h hq
            · obtain rfl : a = i := (by omega); rw [HP.out] at hq; injection hq with hq
              rw [← hq]; exact HS0.out
          · have hnz : (z != 0) = true := (by rw [bne_iff_ne]; exact h0)
            have HF : Sl (r = false) := ⟨by
              rw [← HR.out, decide_eq_false_iff_not, ← HW.out.2.2.2.2.1]; intro h; rw [h p (List.mem_of_getElem? HP.out)] at hz
              exact h0 hz.symm⟩
            clear hz h0; go_wp2_with fail; go_ret; exact ⟨by rw [HF.out]; rfl, HW.out.2.2.1⟩
    · obtain rfl : m = i := (by omega)
      have HT : Sl (r = true) := ⟨by
        rw [← HR.out, decide_eq_true_iff, ← HW.out.2.2.2.2.1]; intro p hp; obtain ⟨a, ha⟩ := List.mem_iff_getElem?.1 hp
        have hal : a < m := by
          rcases Nat.lt_or_ge a m with h | h
          · exact h
          · rw [List.getElem?_eq_none (by have := HW.out.2.2.2.2.2; omega)] at ha; cases ha
        exact HI.out a p hal ha⟩
      go_wp2_with fail; go_ret; exact ⟨by rw [HT.out]; rfl, HW.out.2.2.1⟩
end Go.Proofs.YtafadpaljanghaaGreatDoor
namespace Go.Proofs.YtafadpaljanghaaGreatDoor
set_option linter.unusedSimpArgs false
open Go.RowKit
set_option linter.unusedVariables false
theorem lgr_two1 (P : Nat) : lgr 2 P = (1 * 2 ^ P, 1 * 2 ^ P) := by
  have e : Go.Lib.bitLen 2 = 2 := (by decide +kernel); unfold lgr; rw [e, if_pos (by decide)]
theorem le_pow_up {x a b : Nat} (h : x ≤ 2 ^ a) (hab : a ≤ b) : x ≤ 2 ^ b := Nat.le_trans h (Nat.pow_le_pow_right (by decide) hab)
theorem lgr_two_le (P : Nat) : (lgr 2 P).2 ≤ (lgr 2 P).1 + e2 2 := by
  rw [lgr_two1]; exact Nat.le_refl _
theorem nearr_e2 {n : Nat} (h1 : 1 ≤ n) (h2 : n ≤ 960) : (lgr n 480).2 ≤ (lgr n 480).1 + e2 n := by
  by_cases h : n = 2
  · rw [h]; exact lgr_two_le 480
  · unfold e2; rw [if_neg h]; have := near480 n h1 h2; unfold nearr at this
    rwa [Nat.ble_eq] at this
theorem lgr_bds {n P : Nat} (h : r4N n) (hP : 30 ≤ P) : Bd n P (lgr n P) := by
  obtain ⟨k, _, _, h3, h4⟩ := h.len; exact lgr_bd h.1 (Nat.lt_trans h.2 (by decide)) (by omega)
theorem ft_num {num den : Nat} (h : okF num den) {m : Int} (h1 : -1000000000000 ≤ m) (h2 : m ≤ 1000000000001) : ∀ x ∈ [(8 * den, (24 : Int)), (num, -24), (2, -m)], (1 ≤ x.1 ∧ x.1 ≤ 960) ∧ x.2.natAbs ≤ 10000000000000000 := by
  obtain ⟨⟨k1, k2⟩, k3, k4⟩ := h; intro x hx; simp only [List.mem_cons, List.not_mem_nil, or_false] at hx; rcases hx with rfl | rfl | rfl
  · exact ⟨⟨by show 1 ≤ 8 * den; omega, by show 8 * den ≤ _; omega⟩, show 24 ≤ 10000000000000000 by decide⟩
  · exact ⟨⟨k3, k4⟩, show 24 ≤ 10000000000000000 by decide⟩
  · exact ⟨⟨show 1 ≤ 2 by decide, show 2 ≤ 960 by decide⟩, by show (-m).natAbs ≤ _; omega⟩
theorem ft_rg_end {num den P : Nat} (h : okF num den) {m : Int} (h1 : -1000000000000 ≤ m) (h2 : m ≤ 1000000000001) (hP : 256 ≤ P) (hne : ∀ n : Nat, 1 ≤ n → n ≤ 960 → (lgr n P).2 ≤ (lgr n P).1 + e2 n) (hg : guessG (sumB (fun n => lgr n P) [(8 * den, 24), (num, -24), (2, -m)]) = none) : up [(8 * den, 24), (num, -24), (2, -m)] = down [(8 * den, 24), (num, -24), (2, -m)] := by
  have hn := ft_num h h1 h2; have hr : ∀ x ∈ [(8 * den, (24 : Int)), (num, -24), (2, -m)], r4N x.1 := fun x hx => by have := hn x hx; unfold r4N; omega
  refine decidedE (B := fun n => lgr n P) (P := P) (e := e2) (T := 48) (fun x hx => lgr_bds (hr x hx) (by omega)) (fun x hx => hne x.1 (hn x hx).1.1 (hn x hx).1.2) (ft_tot m) (up_pos fun x hx => by have := hn x hx; omega) ?_ hg; rcases ft_up h m with h3 | h3
  · exact .inl (le_pow_up h3 hP)
  · exact .inr (le_pow_up h3 hP)
theorem ft_rg {num den : Nat} (h : okF num den) {m : Int} (h1 : -1000000000000 ≤ m) (h2 : m ≤ 1000000000001) : RgOK (atM (ftL num den) 24 1 m) := by
  rw [ftL_at]; have hn := ft_num h h1 h2; have hr : ∀ x ∈ [(8 * den, (24 : Int)), (num, -24), (2, -m)], r4N x.1 := fun x hx => by have := hn x hx; unfold r4N; omega
  refine ⟨show 3 ≤ 17 by decide, fun x hx => ⟨hr x hx, (hn x hx).2⟩, fun A n c W hT => r4oneG_any A n c _ W hT (by rw [← hT.1]; exact (show 3 ≤ 17 by decide)) (fun x hx => ⟨by have := hn x hx; omega, (hn x hx).2⟩), fun P s hP hs => guessG_sound (fun x hx => lgr_bds (hr x hx) hP) hs, fun hg => ?_⟩; exact ft_rg_end h h1 h2 (by decide) (fun n g1 g2 => nearr_e2 g1 g2) hg
end Go.Proofs.YtafadpaljanghaaGreatDoor
namespace Go.Proofs.YtafadpaljanghaaGreatDoor
set_option linter.unusedSimpArgs false
open Go.RowKit
set_option linter.unusedVariables false
set_option maxHeartbeats 800000 in
set_option maxRecDepth 100000 in
theorem r1common_any (a b : Nat) (w : World) (ha : a < 100000) (hb : b < 100000) (hb1 : 1 ≤ b) : Calls Tryz.prog 57 #[.int .i64 a, .int .i64 b] w fun e w' => e = .returned (.bool (!decide (Nat.gcd a b = 1))) ∧ w' = w := by
  obtain ⟨r, hr⟩ : ∃ r, (!decide (Nat.gcd a b = 1)) = r := ⟨_, rfl⟩; rw [hr]; have HR : Sl _ := ⟨hr⟩; clear hr; go_enter Tryz.func57, Tryz.ntmps57; go_wp2_with fail
  go_loop [5] (fun s5 => ∃ k : Nat, 2 ≤ k ∧ k ≤ b + 2 ∧ s5 = .int .i64 k ∧ Sl (∀ j, 2 ≤ j → j < k → ¬ (j ∣ a ∧ j ∣ b))) (fun s5 => b + 2 - (RowKit.intOf s5).toNat)
  case atStart => exact ⟨2, by decide, by omega, rfl, ⟨fun j h1 h2 => by omega⟩⟩
  case round =>
    obtain ⟨k, hk2, hkb, rfl, HK⟩ := hrel; have hk0 : ¬ (k : Int) = 0 := (by omega); have ma : (a : Int).tmod (k : Int) = ((a % k : Nat) : Int) := (by rw [Int.tmod_eq_emod_of_nonneg (by omega)]; rfl); have mb : (b : Int).tmod (k : Int) = ((b % k : Nat) : Int) := (by rw [Int.tmod_eq_emod_of_nonneg (by omega)]; rfl)
    by_cases hle : k ≤ b
    · have hl : (k : Int) ≤ (b : Int) := (by omega); have HD : Sl ((a % k = 0 ↔ k ∣ a) ∧ (b % k = 0 ↔ k ∣ b)) := ⟨⟨Nat.dvd_of_mod_eq_zero, Nat.mod_eq_zero_of_dvd⟩, ⟨Nat.dvd_of_mod_eq_zero, Nat.mod_eq_zero_of_dvd⟩⟩; obtain ⟨x, hx⟩ : ∃ x, a % k = x := ⟨_, rfl⟩; obtain ⟨y, hy⟩ : ∃ y, b % k = y := ⟨_, rfl⟩; rw [hx] at ma HD; rw [hy] at mb HD; clear hx hy
      have hnext : ¬ (x = 0 ∧ y = 0) → Sl (∀ j, 2 ≤ j → j < k + 1 → ¬ (j ∣ a ∧ j ∣ b)) := fun h => ⟨fun j h1 h2 hc => by
        rcases Nat.lt_or_ge j k with h3 | h3
        · exact HK.out j h1 h3 hc
        · rw [show j = k by omega] at hc
          exact h ⟨HD.out.1.2 hc.1, HD.out.2.2 hc.2⟩⟩
      by_cases hx0 : x = 0
      · by_cases hy0 : y = 0
        · have HV : Sl (r = true) := ⟨by
            rw [← HR.out]; have h1 : k ∣ Nat.gcd a b := Nat.dvd_gcd (HD.out.1.1 hx0) (HD.out.2.1 hy0)
            have h2 : Nat.gcd a b ≠ 1 := fun h => by
              rw [h] at h1; have := Nat.le_of_dvd (by decide) h1; omega
            rw [decide_eq_false h2]; rfl⟩
          have q1 : ((x : Int) == 0) = true := (by rw [hx0]; rfl); have q2 : ((y : Int) == 0) = true := (by rw [hy0]; rfl); clear hnext hx0 hy0; go_wp2_with fail; go_ret; exact ⟨by rw [HV.out]; rfl, rfl⟩
        · have HN := hnext (fun h => hy0 h.2); have q1 : ((x : Int) == 0) = true := (by rw [hx0]; rfl); have q2 : ((y : Int) == 0) = false := (by rw [beq_eq_false_iff_ne]; omega); clear hnext hx0 hy0; go_wp2_with fail; exact ⟨⟨k + 1, by omega, by omega, by go_num, HN⟩, by simp [RowKit.intOf]; omega⟩
      · have HN := hnext (fun h => hx0 h.1); have q1 : ((x : Int) == 0) = false := (by rw [beq_eq_false_iff_ne]; omega); clear hnext hx0; go_wp2_with fail; exact ⟨⟨k + 1, by omega, by omega, by go_num, HN⟩, by simp [RowKit.intOf]; omega⟩
    · have hl : decide ((k : Int) ≤ (b : Int)) = false := decide_eq_false (by omega)
      have HV : Sl (r = false) := ⟨by
        rw [← HR.out]
        have h2 : Nat.gcd a b = 1 := by
          have hp : 0 < Nat.gcd a b := Nat.gcd_pos_of_pos_right _ hb1; have hle2 : Nat.gcd a b ≤ b := Nat.gcd_le_right _ hb1; rcases Nat.lt_or_ge (Nat.gcd a b) 2 with h | h
          · omega
          · exact absurd ⟨Nat.gcd_dvd_left a b, Nat.gcd_dvd_right a b⟩ (HK.out _ h (by omega))
        rw [decide_eq_true h2]; rfl⟩
      clear ma mb; go_wp2_with fail; go_ret; exact ⟨by rw [HV.out]; rfl, rfl⟩
set_option maxHeartbeats 1600000 in
set_option maxRecDepth 100000 in
theorem rvalid_any (num den : Int) (w : World) : Calls Tryz.prog 26 #[.agg #[.int .i64 num, .int .i64 den]] w fun e w' => e = .returned (.bool (decide (vF num den))) ∧ Below w.heap.size w w' := by
  have hu : Below w.heap.size w (w.alloc (.cells #[.int .i64 num, .int .i64 den] 23)) := (Below.refl _ _).alloc (Nat.le_refl _) _; have HU : Sl _ := ⟨hu⟩; clear hu; obtain ⟨r, hr⟩ : ∃ r, decide (vF num den) = r := ⟨_, rfl⟩; rw [hr]; have HR : Sl _ := ⟨hr⟩; clear hr
  by_cases hok : (1 ≤ den ∧ den ≤ 15) ∧ (1 ≤ num ∧ num ≤ 64 * den)
  · obtain ⟨⟨h1, h2⟩, h3, h4⟩ := hok; obtain ⟨n, rfl⟩ := Int.eq_ofNat_of_zero_le (show 0 ≤ num by omega); obtain ⟨d, rfl⟩ := Int.eq_ofNat_of_zero_le (show 0 ≤ den by omega); have HG : Sl _ := ⟨fun W : World => r1common_any n d W (by omega) (by omega) (by omega)⟩
    have HV : Sl (r = decide (Nat.gcd n d = 1)) := ⟨by
      rw [← HR.out, Bool.eq_iff_iff, decide_eq_true_iff, decide_eq_true_iff]; unfold vF; simp only [Int.natAbs_natCast]
      omega⟩
    have hw : IntKind.i64.wrap (64 * (d : Int)) = 64 * (d : Int) := (by rw [IntKind.wrap_i64]; omega); have g1 : ¬ (d : Int) < 1 := (by omega); have g2 : ¬ 15 < (d : Int) := (by omega); have g3 : ¬ (n : Int) < 1 := (by omega); have g4 : ¬ 64 * (d : Int) < (n : Int) := (by omega); obtain ⟨g, hg⟩ : ∃ g, decide (Nat.gcd n d = 1) = g := ⟨_, rfl⟩; rw [hg] at HG HV; clear hg; go_enter Tryz.func26, Tryz.ntmps26; go_wp2_with fail; refine (HG.out _).mono ?_; rintro e w1 ⟨rfl, rfl⟩
    cases g <;> (go_wp2_with fail; go_ret; exact ⟨by rw [HV.out]; rfl, HU.out⟩)
  · have HV : Sl (r = false) := ⟨by
      rw [← HR.out, decide_eq_false_iff_not]; unfold vF; intro h
      exact hok ⟨h.1, h.2.1⟩⟩
    have hcase : den < 1 ∨ (¬ den < 1 ∧ 15 < den) ∨ (¬ den < 1 ∧ ¬ 15 < den ∧ num < 1) ∨ (¬ den < 1 ∧ ¬ 15 < den ∧ ¬ num < 1 ∧ 64 * den < num) := (by omega); clear hok HR; rcases hcase with h1 | ⟨h1, h2⟩ | ⟨h1, h2, h3⟩ | ⟨h1, h2, h3, h4⟩
    · have d1 : decide (1 ≤ den) = false := decide_eq_false (by omega); go_enter Tryz.func26, Tryz.ntmps26; go_wp2_with fail; go_ret; exact ⟨by rw [HV.out]; rfl, HU.out⟩
    · have d1 : decide (1 ≤ den) = true := decide_eq_true (by omega); have d2 : decide (den ≤ 15) = false := decide_eq_false (by omega); go_enter Tryz.func26, Tryz.ntmps26; go_wp2_with fail; go_ret; exact ⟨by rw [HV.out]; rfl, HU.out⟩
    · have d1 : decide (1 ≤ den) = true := decide_eq_true (by omega); have d2 : decide (den ≤ 15) = true := decide_eq_true (by omega); have d3 : decide (1 ≤ num) = false := decide_eq_false (by omega); go_enter Tryz.func26, Tryz.ntmps26; go_wp2_with fail; go_ret; exact ⟨by rw [HV.out]; rfl, HU.out⟩
    · have d1 : decide (1 ≤ den) = true := decide_eq_true (by omega); have d2 : decide (den ≤ 15) = true := decide_eq_true (by omega); have d3 : decide (1 ≤ num) = true := decide_eq_true (by omega); have hw : IntKind.i64.wrap (64 * den) = 64 * den := (by rw [IntKind.wrap_i64]; omega); have d4 : decide (num ≤ 64 * den) = false := decide_eq_false (by omega); go_enter Tryz.func26, Tryz.ntmps26; go_wp2_with fail; go_ret; exact ⟨by rw [HV.out]; rfl, HU.out⟩
end Go.Proofs.YtafadpaljanghaaGreatDoor
namespace Go.Proofs.YtafadpaljanghaaGreatDoor
set_option linter.unusedSimpArgs false
open Go.RowKit
set_option linter.unusedVariables false
theorem rft_floor (A : Option Addr) (c num den : Nat) (w : World) (h : okF num den) (hl : TR w A 2 (ftL num den)) :
    Calls Tryz.prog 27 #[.slice A 2 c, .int .i64 1, .int .i64 24] w fun e w' => FloorRes (ftL num den) 24 1 (ftSg num den) e ∧ Below w.heap.size w w' :=
  r4Floor_of A 2 c (ftL num den) 1 24 w hl (ftL_ok h) (by decide) (by decide) (by decide) (by decide) fun m h1 h2 => ft_rg h h1 h2
set_option maxHeartbeats 1600000 in
set_option maxRecDepth 100000 in
theorem rhalf_any (n : Int) (w : World) (h : -2000000000000 ≤ n ∧ n ≤ 2000000000000) : Calls Tryz.prog 28 #[.int .i64 n] w fun e w' => e = .returned (.int .i64 (n / 2)) ∧ w' = w := by
  obtain ⟨h1, h2⟩ := h; have HQ : Sl (n < 0 → -((1 - n) / 2) = n / 2) := ⟨fun _ => by omega⟩
  by_cases hn : n < 0
  · have hnd : decide (n < 0) = true := decide_eq_true hn; have hw1 : IntKind.i64.wrap (1 - n) = 1 - n := (by rw [IntKind.wrap_i64]; omega); have hq : (1 - n).tdiv 2 = (1 - n) / 2 := Int.tdiv_eq_ediv_of_nonneg (by omega); obtain ⟨q, hqq⟩ : ∃ q, (1 - n) / 2 = q := ⟨_, rfl⟩; have hqb : 0 ≤ q ∧ q ≤ 2000000000000 := (by omega); have HE : Sl (-q = n / 2) := ⟨by omega⟩; rw [hqq] at hq; have hw2 : IntKind.i64.wrap q = q := (by rw [IntKind.wrap_i64]; omega); have hw3 : IntKind.i64.wrap (-q) = -q := (by rw [IntKind.wrap_i64]; omega); clear hqq; go_enter Tryz.func28, Tryz.ntmps28; go_wp2_with fail; go_ret; exact ⟨by rw [HE.out]; rfl, rfl⟩
  · have hnd : decide (n < 0) = false := decide_eq_false hn; have hq : n.tdiv 2 = n / 2 := Int.tdiv_eq_ediv_of_nonneg (by omega); obtain ⟨q, hqq⟩ : ∃ q, n / 2 = q := ⟨_, rfl⟩; have hqb : 0 ≤ q ∧ q ≤ 2000000000000 := (by omega); rw [hqq] at hq ⊢; have hw2 : IntKind.i64.wrap q = q := (by rw [IntKind.wrap_i64]; omega); clear hqq; go_enter Tryz.func28, Tryz.ntmps28; go_wp2_with fail; go_ret; exact ⟨rfl, rfl⟩
set_option maxHeartbeats 3200000 in
set_option maxRecDepth 100000 in
theorem rSemi_any (num den : Int) (w : World) : Calls Tryz.prog 9 #[.agg #[.int .i64 num, .int .i64 den]] w fun e w' => e = .returned (.tuple #[.int .i64 (SmV num den).1, .int .i64 (SmV num den).2]) ∧ Below w.heap.size w w' := by
  have X0 := Blk.new w 23 #[.int .i64 num, .int .i64 den]; have hu := (Below.refl w.heap.size w).alloc (Nat.le_refl _) (.cells #[.int .i64 num, .int .i64 den] 23); have HF : Sl _ := ⟨fun W : World => rvalid_any num den W⟩; have HU : Sl _ := ⟨hu⟩; have HX : Sl _ := ⟨X0⟩; clear hu X0
  by_cases hv : vF num den
  · obtain ⟨n, d, e1, e2, hk⟩ := okF_of hv; subst e1 e2; have HV : Sl (SmV (n : Int) (d : Int) = (semI n d, 0)) := ⟨by unfold SmV; rw [if_pos hv]; simp⟩; rw [decide_eq_true hv] at HF; have HK : Sl _ := ⟨hk⟩; have hb1 : (d : Int) ≤ 15 ∧ (n : Int) ≤ 960 := (by have := hk.1; have := hk.2; omega); have hw8 : IntKind.i64.wrap (8 * (d : Int)) = 8 * (d : Int) := (by rw [IntKind.wrap_i64]; omega); clear hv hk; go_enter Tryz.func9, Tryz.ntmps9; go_wp2_with fail; generalize w.alloc (.cells #[.int .i64 (n : Int), .int .i64 (d : Int)] 23) = w0 at *
    refine (HF.out w0).mono ?_; rintro e w1 ⟨rfl, hb⟩; have X1 := HX.out.below hb HX.out.lt; have x0 := X1.cell 0; have x1 := X1.cell 1; simp at x0 x1; have HT : Sl _ := ⟨rft_floor _ 2 n d _ HK.out (ftL_mem w1 69 n d)⟩; have HB : Sl (Below w.heap.size w (w1.alloc (.cells #[.int .i64 (8 * (d : Int)), .int .i64 1, .int .i64 (n : Int), .int .i64 (-1)] 69))) := ⟨(HU.out.trans (hb.mono HU.out.size)).alloc (Nat.le_trans HU.out.size hb.size) _⟩; clear hb X1 HF HX; go_wp2_with fail; refine HT.out.mono ?_; rintro e w2 ⟨hr, hb2⟩; obtain ⟨k, b, er, rfl, hk1, hk2⟩ := FloorRes_shape hr; have HS : Sl (semI n d = (k + 1) / 2) := ⟨semI_of hr⟩; have HB2 : Sl (Below w.heap.size w w2) := ⟨HB.out.trans (hb2.mono HB.out.size)⟩; have HH : Sl _ := ⟨fun W : World => rhalf_any (k + 1) W (by omega)⟩; have hkw : IntKind.i64.wrap (k + 1) = k + 1 := (by rw [IntKind.wrap_i64]; omega); clear hr hb2 HT x0 x1 HB; go_wp2_with fail; refine (HH.out w2).mono ?_; rintro e w3 ⟨rfl, rfl⟩; go_wp2_with fail; go_ret2; exact ⟨by rw [HV.out, HS.out]; rfl, HB2.out⟩
  · have HV : Sl (SmV num den = (0, 2)) := ⟨by unfold SmV; rw [if_neg hv]⟩; rw [decide_eq_false hv] at HF; clear hv; go_enter Tryz.func9, Tryz.ntmps9; go_wp2_with fail; generalize w.alloc (.cells #[.int .i64 num, .int .i64 den] 23) = w0 at *
    refine (HF.out w0).mono ?_; rintro e w1 ⟨rfl, hb⟩; have HB : Sl _ := ⟨hb⟩; clear hb; go_wp2_with fail; go_ret2; have h1 := HU.out.trans (HB.out.mono HU.out.size); exact ⟨by rw [HV.out]; rfl, h1⟩
end Go.Proofs.YtafadpaljanghaaGreatDoor
namespace Go.Proofs.YtafadpaljanghaaGreatDoor
set_option linter.unusedSimpArgs false
open Go.RowKit
set_option linter.unusedVariables false
set_option maxHeartbeats 800000 in
theorem m11gcd_any (a b : Nat) (w : World) (ha : a < 4000000000000000000) (hb : b < 4000000000000000000) :
    Calls Tryz.prog 29 #[.int .i64 a, .int .i64 b] w fun e w' => e = .returned (.int .i64 (Nat.gcd a b)) ∧ ∃ m, w' = w.drewN m := by
  go_enter Tryz.func29, Tryz.ntmps29; go_wp2_with fail
  go_loopw [0, 1] (fun s0 s1 wr => ∃ (x y : Nat), s0 = .int .i64 x ∧ s1 = .int .i64 y ∧ x < 4000000000000000000 ∧ y < 4000000000000000000 ∧ Sl (Nat.gcd x y = Nat.gcd a b ∧ ∃ m, wr = w.drewN m)) (fun _ s1 _ => (RowKit.intOf s1).toNat)
  case atStart => exact ⟨a, b, rfl, rfl, ha, hb, ⟨rfl, 0, rfl⟩⟩
  case round =>
    clear ha hb; obtain ⟨x, y, rfl, rfl, hx, hy, HG⟩ := hrel; rcases Nat.eq_zero_or_pos y with h0 | h0
    · subst h0; go_wp2_with fail; go_ret; obtain ⟨h1, m, h2⟩ := HG.out; rw [Nat.gcd_zero_right] at h1; exact ⟨by rw [← h1]; rfl, m, h2⟩
    · have hne : ((y : Int) == 0) = false := (by rw [beq_eq_false_iff_ne]; omega); have hmod : (x : Int).tmod (y : Int) = ((x % y : Nat) : Int) := (by rw [Int.tmod_eq_emod_of_nonneg (by omega)]; omega); have hlt : x % y < y := Nat.mod_lt _ h0; have HGN : Sl (Nat.gcd y (x % y) = Nat.gcd a b) := ⟨by rw [← HG.out.1, Nat.gcd_comm y, ← Nat.gcd_rec, Nat.gcd_comm]⟩; generalize x % y = r at *
      go_wp2_with fail
      go_quiet (fail)
      go_wp2_with fail; obtain ⟨m, hm⟩ := HG.out.2; refine ⟨⟨y, r, rfl, rfl, hy, by omega, ⟨HGN.out, m + nq, by rw [hm]; simp⟩⟩, by simp [RowKit.intOf]; omega⟩
set_option maxHeartbeats 800000 in
theorem r11gcd_any (a b : Nat) (w : World) (ha : a < 4000000000000000000) (hb : b < 4000000000000000000) :
    Calls Tryz.prog 30 #[.int .i64 a, .int .i64 b] w fun e w' => e = .returned (.int .i64 (Nat.gcd a b)) ∧ ∃ m, w' = w.drewN m := by
  go_enter Tryz.func30, Tryz.ntmps30; go_wp2_with fail
  go_loopw [0, 1] (fun s0 s1 wr => ∃ (x y : Nat), s0 = .int .i64 x ∧ s1 = .int .i64 y ∧ x < 4000000000000000000 ∧ y < 4000000000000000000 ∧ Sl (Nat.gcd x y = Nat.gcd a b ∧ ∃ m, wr = w.drewN m)) (fun _ s1 _ => (RowKit.intOf s1).toNat)
  case atStart => exact ⟨a, b, rfl, rfl, ha, hb, ⟨rfl, 0, rfl⟩⟩
  case round =>
    clear ha hb; obtain ⟨x, y, rfl, rfl, hx, hy, HG⟩ := hrel; rcases Nat.eq_zero_or_pos y with h0 | h0
    · subst h0; go_wp2_with fail; go_ret; obtain ⟨h1, m, h2⟩ := HG.out; rw [Nat.gcd_zero_right] at h1; exact ⟨by rw [← h1]; rfl, m, h2⟩
    · have hne : ((y : Int) == 0) = false := (by rw [beq_eq_false_iff_ne]; omega); have hmod : (x : Int).tmod (y : Int) = ((x % y : Nat) : Int) := (by rw [Int.tmod_eq_emod_of_nonneg (by omega)]; omega); have hlt : x % y < y := Nat.mod_lt _ h0; have HGN : Sl (Nat.gcd y (x % y) = Nat.gcd a b) := ⟨by rw [← HG.out.1, Nat.gcd_comm y, ← Nat.gcd_rec, Nat.gcd_comm]⟩; generalize x % y = r at *
      go_wp2_with fail
      go_quiet (fail)
      go_wp2_with fail; obtain ⟨m, hm⟩ := HG.out.2; refine ⟨⟨y, r, rfl, rfl, hy, by omega, ⟨HGN.out, m + nq, by rw [hm]; simp⟩⟩, by simp [RowKit.intOf]; omega⟩
end Go.Proofs.YtafadpaljanghaaGreatDoor
namespace Go.Proofs.YtafadpaljanghaaGreatDoor
set_option linter.unusedSimpArgs false
open Go.RowKit
set_option linter.unusedVariables false
def FtT (n : Int) (e : Ending) : Prop := e = .returned (.tuple #[.agg #[.int .i64 ((ftS n).1.1 : Int), .int .i64 ((ftS n).1.2 : Int)], .int .i64 (ftS n).2])
theorem ftS_none {n : Int} {k r : Nat} (hc : ¬ (n < -36 ∨ 82 < n)) (hk : n + 36 = (k : Int)) (hr : k % 12 = r) (h : ftB r = none) : ftS n = ((0, 0), 4) := by
  unfold ftS; rw [if_neg hc, show (n + 36).toNat = k by omega, hr, h]
theorem ftS_some {n : Int} {k r q p d : Nat} (hc : ¬ (n < -36 ∨ 82 < n)) (hk : n + 36 = (k : Int)) (hr : k % 12 = r) (hq : k / 12 = q) (h : ftB r = some (p, d)) : ftS n = (ftR p (d * 2 ^ q), 0) := by
  unfold ftS; rw [if_neg hc, show (n + 36).toNat = k by omega, hr, hq, h]
theorem pow_9 {q : Nat} (h : q ≤ 9) : 1 ≤ 2 ^ q ∧ 2 ^ q ≤ 512 := ⟨Nat.one_le_two_pow, by have := Nat.pow_le_pow_right (show 0 < 2 by decide) h; simpa using this⟩
set_option maxHeartbeats 6400000 in
set_option maxRecDepth 100000 in
theorem mfeet_any (n : Int) (w : World) (hn : i64 n) : Calls Tryz.prog 10 #[.int .i64 n] w fun e w' => FtT n e ∧ Below w.heap.size w w' := by
  have X0 : Sl (Blk (w.alloc (.cells #[.int .i64 0, .int .i64 0] 23)) w.heap.size 23 #[.int .i64 0, .int .i64 0]) := ⟨Blk.new _ _ _⟩; have HU : Sl (Below w.heap.size w (w.alloc (.cells #[.int .i64 0, .int .i64 0] 23))) := ⟨(Below.refl _ _).alloc (Nat.le_refl _) _⟩
  by_cases hc : n < -36 ∨ 82 < n
  · have HFT : Sl (ftS n = ((0, 0), 7)) := ⟨by unfold ftS; rw [if_pos hc]⟩
    by_cases h1 : n < -36
    · have hd1 : decide (n < -36) = true := decide_eq_true h1; clear hc; go_enter Tryz.func10, Tryz.ntmps10; go_wp2_with fail; refine bodyPost_ret (results_row2m rfl _ _ w.heap.size _ _ _ rfl X0.out Tryz.underlying23 rfl (by kernel_rfl)) rfl ?_; exact ⟨by unfold FtT; rw [HFT.out]; rfl, HU.out⟩
    · have hd1 : decide (n < -36) = false := decide_eq_false h1; have h2 : 82 < n := (by omega); have hd2 : decide (82 < n) = true := decide_eq_true h2; clear hc; go_enter Tryz.func10, Tryz.ntmps10; go_wp2_with fail; refine bodyPost_ret (results_row2m rfl _ _ w.heap.size _ _ _ rfl X0.out Tryz.underlying23 rfl (by kernel_rfl)) rfl ?_; exact ⟨by unfold FtT; rw [HFT.out]; rfl, HU.out⟩
  · have h1 : ¬ n < -36 := fun h => hc (.inl h)
    have h2 : ¬ 82 < n := fun h => hc (.inr h)
    have hd1 : decide (n < -36) = false := decide_eq_false h1; have hd2 : decide (82 < n) = false := decide_eq_false h2; obtain ⟨k, hk⟩ : ∃ k : Nat, n + 36 = (k : Int) := ⟨(n + 36).toNat, by omega⟩; have hw : IntKind.i64.wrap (k : Int) = (k : Int) := (by rw [IntKind.wrap_i64]; omega); have hq : (k : Int).tdiv 12 = ((k / 12 : Nat) : Int) := (by rw [Int.tdiv_eq_ediv_of_nonneg (by omega)]; omega); have hr : (k : Int).tmod 12 = ((k % 12 : Nat) : Int) := (by rw [Int.tmod_eq_emod_of_nonneg (by omega)]; omega); obtain ⟨q, hqq⟩ : ∃ q, k / 12 = q := ⟨_, rfl⟩; obtain ⟨r, hrr⟩ : ∃ r, k % 12 = r := ⟨_, rfl⟩; have HK : Sl (n + 36 = (k : Int) ∧ k / 12 = q ∧ k % 12 = r ∧ ¬ (n < -36 ∨ 82 < n)) := ⟨hk, hqq, hrr, hc⟩; have hq9 : q ≤ 9 := (by omega); have hr12 : r < 12 := (by omega); rw [hqq] at hq; rw [hrr] at hr; obtain ⟨z, hz⟩ : ∃ z, 2 ^ q = z := ⟨_, rfl⟩; have hzb : 1 ≤ z ∧ z ≤ 512 := (by rw [← hz]; exact pow_9 hq9); have hzI : (2 : Int) ^ q = (z : Int) := (by rw [← hz]; simp); have HZ : Sl (2 ^ q = z) := ⟨hz⟩; clear hqq hrr hz hc
    by_cases r0 : r = 0
    · subst r0; have HFT : Sl (ftS n = (ftR 64 (1 * z), 0)) := ⟨by rw [← HZ.out]; exact ftS_some HK.out.2.2.2 HK.out.1 HK.out.2.2.1 HK.out.2.1 rfl⟩; obtain ⟨D, hD⟩ : ∃ D, 1 * z = D := ⟨_, rfl⟩; have HD : Sl (1 * z = D) := ⟨hD⟩; have hDb : 1 ≤ D ∧ D ≤ 3584 := (by omega); have hDI : (z : Int) = (D : Int) := (by omega); have hDw : IntKind.i64.wrap (D : Int) = (D : Int) := (by rw [IntKind.wrap_i64]; omega); rw [hD] at HFT; obtain ⟨g, hg⟩ : ∃ g, Nat.gcd 64 D = g := ⟨_, rfl⟩; have HG : Sl (Nat.gcd 64 D = g) := ⟨hg⟩
      have hg0 : 1 ≤ g ∧ g ≤ 3584 := by
        have h3 : 0 < g := (by rw [← hg]; exact Nat.gcd_pos_of_pos_left _ (by decide)); have h4 : g ≤ D := (by rw [← hg]; exact Nat.gcd_le_right _ (by omega)); omega
      have HFR : Sl (ftS n = ((64 / g, D / g), 0)) := ⟨by rw [HFT.out]; unfold ftR; rw [HG.out]⟩
      have HGC : Sl (∀ W : World, Calls Tryz.prog 29 #[.int .i64 64, .int .i64 (D : Int)] W fun e w' => e = .returned (.int .i64 (g : Int)) ∧ ∃ m, w' = W.drewN m) := ⟨fun W => by
        have := m11gcd_any 64 D W (by decide) (by omega); rw [HG.out] at this
        exact this⟩
      have hgne : ¬ (g : Int) = 0 := (by omega); have hgn1 : ¬ (g : Int) = -1 := (by omega); obtain ⟨x, hx⟩ : ∃ x, 64 / g = x := ⟨_, rfl⟩; obtain ⟨y, hy⟩ : ∃ y, D / g = y := ⟨_, rfl⟩; have hx1 : (64 : Int).tdiv (g : Int) = (x : Int) := (by rw [Int.tdiv_eq_ediv_of_nonneg (by decide), ← hx]; rfl); have hy1 : (D : Int).tdiv (g : Int) = (y : Int) := (by rw [Int.tdiv_eq_ediv_of_nonneg (by omega), ← hy]; rfl); have hxb : x ≤ 256 := (by rw [← hx]; exact Nat.le_trans (Nat.div_le_self _ _) (by decide)); have hyb : y ≤ 3584 := (by rw [← hy]; exact Nat.le_trans (Nat.div_le_self _ _) (by omega)); have hxw : IntKind.i64.wrap (x : Int) = (x : Int) := (by rw [IntKind.wrap_i64]; omega); have hyw : IntKind.i64.wrap (y : Int) = (y : Int) := (by rw [IntKind.wrap_i64]; omega); rw [hx, hy] at HFR; clear hD hg hx hy HFT h1 h2
      have X5 : Sl (Blk ((w.alloc (.cells #[.int .i64 0, .int .i64 0] 23)).alloc (.cells #[.int .i64 64, .int .i64 (D : Int)] 23)) (w.heap.size + 1) 23 #[.int .i64 64, .int .i64 (D : Int)]) := ⟨by
        have := Blk.new (w.alloc (.cells #[.int .i64 0, .int .i64 0] 23)) 23 #[.int .i64 64, .int .i64 (D : Int)]
        rwa [show (w.alloc (.cells #[.int .i64 0, .int .i64 0] 23)).heap.size = w.heap.size + 1 by simp] at this⟩
      have X1 : Sl (Blk ((w.alloc (.cells #[.int .i64 0, .int .i64 0] 23)).alloc (.cells #[.int .i64 64, .int .i64 (D : Int)] 23)) w.heap.size 23 #[.int .i64 0, .int .i64 0]) := ⟨X0.out.alloc _⟩; have HU1 : Sl (Below w.heap.size w ((w.alloc (.cells #[.int .i64 0, .int .i64 0] 23)).alloc (.cells #[.int .i64 64, .int .i64 (D : Int)] 23))) := ⟨HU.out.alloc (by simp) _⟩; clear X0 HU; go_enter Tryz.func10, Tryz.ntmps10; go_wp2_with fail; generalize (w.alloc (.cells #[.int .i64 0, .int .i64 0] 23)).alloc (.cells #[.int .i64 64, .int .i64 (D : Int)] 23) = w1 at *
      refine (HGC.out w1).mono ?_; rintro e w2 ⟨rfl, m, rfl⟩; have X2 : Sl (Blk (w1.drewN m) w.heap.size 23 #[.int .i64 0, .int .i64 0]) := ⟨X1.out.drewN m⟩; have HU2 : Sl (Below w.heap.size w (w1.drewN m)) := ⟨below_drewN HU1.out m⟩; have X6 : Sl (Blk (w1.drewN m) (w.heap.size + 1) 23 #[.int .i64 64, .int .i64 (D : Int)]) := ⟨X5.out.drewN m⟩; generalize w1.drewN m = w3 at *
      have c0 := X6.out.cell 0; have c1 := X6.out.cell 1; simp at c0 c1; have e0 := X2.out.cell 0; have e1 := X2.out.cell 1; have f0 := X2.out.frozen 0; have f1 := X2.out.frozen 1; simp at e0 e1; go_wp2_with fail
      go_region
      go_wp2_with fail; have XZ := (((X2.out.drewN 1).set_ 0 (.int .i64 (x : Int))).set_ 1 (.int .i64 (y : Int))); refine bodyPost_ret (results_row2m rfl _ _ w.heap.size _ _ _ rfl XZ Tryz.underlying23 rfl (by kernel_rfl)) rfl ?_; exact ⟨by unfold FtT; rw [HFR.out]; rfl, ((below_drewN HU2.out 1).setCell (p := ⟨w.heap.size, 0, none⟩) (Nat.le_refl _) _).setCell (p := ⟨w.heap.size, 1, none⟩) (Nat.le_refl _) _⟩
    by_cases r4 : r = 4
    · subst r4; have HFT : Sl (ftS n = (ftR 256 (5 * z), 0)) := ⟨by rw [← HZ.out]; exact ftS_some HK.out.2.2.2 HK.out.1 HK.out.2.2.1 HK.out.2.1 rfl⟩; obtain ⟨D, hD⟩ : ∃ D, 5 * z = D := ⟨_, rfl⟩; have HD : Sl (5 * z = D) := ⟨hD⟩; have hDb : 1 ≤ D ∧ D ≤ 3584 := (by omega); have hDI : 5 * (z : Int) = (D : Int) := (by omega); have hDw : IntKind.i64.wrap (D : Int) = (D : Int) := (by rw [IntKind.wrap_i64]; omega); rw [hD] at HFT; obtain ⟨g, hg⟩ : ∃ g, Nat.gcd 256 D = g := ⟨_, rfl⟩; have HG : Sl (Nat.gcd 256 D = g) := ⟨hg⟩
      have hg0 : 1 ≤ g ∧ g ≤ 3584 := by
        have h3 : 0 < g := (by rw [← hg]; exact Nat.gcd_pos_of_pos_left _ (by decide)); have h4 : g ≤ D := (by rw [← hg]; exact Nat.gcd_le_right _ (by omega)); omega
      have HFR : Sl (ftS n = ((256 / g, D / g), 0)) := ⟨by rw [HFT.out]; unfold ftR; rw [HG.out]⟩
      have HGC : Sl (∀ W : World, Calls Tryz.prog 29 #[.int .i64 256, .int .i64 (D : Int)] W fun e w' => e = .returned (.int .i64 (g : Int)) ∧ ∃ m, w' = W.drewN m) := ⟨fun W => by
        have := m11gcd_any 256 D W (by decide) (by omega); rw [HG.out] at this
        exact this⟩
      have hgne : ¬ (g : Int) = 0 := (by omega); have hgn1 : ¬ (g : Int) = -1 := (by omega); obtain ⟨x, hx⟩ : ∃ x, 256 / g = x := ⟨_, rfl⟩; obtain ⟨y, hy⟩ : ∃ y, D / g = y := ⟨_, rfl⟩; have hx1 : (256 : Int).tdiv (g : Int) = (x : Int) := (by rw [Int.tdiv_eq_ediv_of_nonneg (by decide), ← hx]; rfl); have hy1 : (D : Int).tdiv (g : Int) = (y : Int) := (by rw [Int.tdiv_eq_ediv_of_nonneg (by omega), ← hy]; rfl); have hxb : x ≤ 256 := (by rw [← hx]; exact Nat.le_trans (Nat.div_le_self _ _) (by decide)); have hyb : y ≤ 3584 := (by rw [← hy]; exact Nat.le_trans (Nat.div_le_self _ _) (by omega)); have hxw : IntKind.i64.wrap (x : Int) = (x : Int) := (by rw [IntKind.wrap_i64]; omega); have hyw : IntKind.i64.wrap (y : Int) = (y : Int) := (by rw [IntKind.wrap_i64]; omega); rw [hx, hy] at HFR; clear hD hg hx hy HFT h1 h2
      have X5 : Sl (Blk ((w.alloc (.cells #[.int .i64 0, .int .i64 0] 23)).alloc (.cells #[.int .i64 256, .int .i64 (D : Int)] 23)) (w.heap.size + 1) 23 #[.int .i64 256, .int .i64 (D : Int)]) := ⟨by
        have := Blk.new (w.alloc (.cells #[.int .i64 0, .int .i64 0] 23)) 23 #[.int .i64 256, .int .i64 (D : Int)]
        rwa [show (w.alloc (.cells #[.int .i64 0, .int .i64 0] 23)).heap.size = w.heap.size + 1 by simp] at this⟩
      have X1 : Sl (Blk ((w.alloc (.cells #[.int .i64 0, .int .i64 0] 23)).alloc (.cells #[.int .i64 256, .int .i64 (D : Int)] 23)) w.heap.size 23 #[.int .i64 0, .int .i64 0]) := ⟨X0.out.alloc _⟩; have HU1 : Sl (Below w.heap.size w ((w.alloc (.cells #[.int .i64 0, .int .i64 0] 23)).alloc (.cells #[.int .i64 256, .int .i64 (D : Int)] 23))) := ⟨HU.out.alloc (by simp) _⟩; clear X0 HU; go_enter Tryz.func10, Tryz.ntmps10; go_wp2_with fail; generalize (w.alloc (.cells #[.int .i64 0, .int .i64 0] 23)).alloc (.cells #[.int .i64 256, .int .i64 (D : Int)] 23) = w1 at *
      refine (HGC.out w1).mono ?_; rintro e w2 ⟨rfl, m, rfl⟩; have X2 : Sl (Blk (w1.drewN m) w.heap.size 23 #[.int .i64 0, .int .i64 0]) := ⟨X1.out.drewN m⟩; have HU2 : Sl (Below w.heap.size w (w1.drewN m)) := ⟨below_drewN HU1.out m⟩; have X6 : Sl (Blk (w1.drewN m) (w.heap.size + 1) 23 #[.int .i64 256, .int .i64 (D : Int)]) := ⟨X5.out.drewN m⟩; generalize w1.drewN m = w3 at *
      have c0 := X6.out.cell 0; have c1 := X6.out.cell 1; simp at c0 c1; have e0 := X2.out.cell 0; have e1 := X2.out.cell 1; have f0 := X2.out.frozen 0; have f1 := X2.out.frozen 1; simp at e0 e1; go_wp2_with fail
      go_region
      go_wp2_with fail; have XZ := (((X2.out.drewN 1).set_ 0 (.int .i64 (x : Int))).set_ 1 (.int .i64 (y : Int))); refine bodyPost_ret (results_row2m rfl _ _ w.heap.size _ _ _ rfl XZ Tryz.underlying23 rfl (by kernel_rfl)) rfl ?_; exact ⟨by unfold FtT; rw [HFR.out]; rfl, ((below_drewN HU2.out 1).setCell (p := ⟨w.heap.size, 0, none⟩) (Nat.le_refl _) _).setCell (p := ⟨w.heap.size, 1, none⟩) (Nat.le_refl _) _⟩
    by_cases r7 : r = 7
    · subst r7; have HFT : Sl (ftS n = (ftR 128 (3 * z), 0)) := ⟨by rw [← HZ.out]; exact ftS_some HK.out.2.2.2 HK.out.1 HK.out.2.2.1 HK.out.2.1 rfl⟩; obtain ⟨D, hD⟩ : ∃ D, 3 * z = D := ⟨_, rfl⟩; have HD : Sl (3 * z = D) := ⟨hD⟩; have hDb : 1 ≤ D ∧ D ≤ 3584 := (by omega); have hDI : 3 * (z : Int) = (D : Int) := (by omega); have hDw : IntKind.i64.wrap (D : Int) = (D : Int) := (by rw [IntKind.wrap_i64]; omega); rw [hD] at HFT; obtain ⟨g, hg⟩ : ∃ g, Nat.gcd 128 D = g := ⟨_, rfl⟩; have HG : Sl (Nat.gcd 128 D = g) := ⟨hg⟩
      have hg0 : 1 ≤ g ∧ g ≤ 3584 := by
        have h3 : 0 < g := (by rw [← hg]; exact Nat.gcd_pos_of_pos_left _ (by decide)); have h4 : g ≤ D := (by rw [← hg]; exact Nat.gcd_le_right _ (by omega)); omega
      have HFR : Sl (ftS n = ((128 / g, D / g), 0)) := ⟨by rw [HFT.out]; unfold ftR; rw [HG.out]⟩
      have HGC : Sl (∀ W : World, Calls Tryz.prog 29 #[.int .i64 128, .int .i64 (D : Int)] W fun e w' => e = .returned (.int .i64 (g : Int)) ∧ ∃ m, w' = W.drewN m) := ⟨fun W => by
        have := m11gcd_any 128 D W (by decide) (by omega); rw [HG.out] at this
        exact this⟩
      have hgne : ¬ (g : Int) = 0 := (by omega); have hgn1 : ¬ (g : Int) = -1 := (by omega); obtain ⟨x, hx⟩ : ∃ x, 128 / g = x := ⟨_, rfl⟩; obtain ⟨y, hy⟩ : ∃ y, D / g = y := ⟨_, rfl⟩; have hx1 : (128 : Int).tdiv (g : Int) = (x : Int) := (by rw [Int.tdiv_eq_ediv_of_nonneg (by decide), ← hx]; rfl); have hy1 : (D : Int).tdiv (g : Int) = (y : Int) := (by rw [Int.tdiv_eq_ediv_of_nonneg (by omega), ← hy]; rfl); have hxb : x ≤ 256 := (by rw [← hx]; exact Nat.le_trans (Nat.div_le_self _ _) (by decide)); have hyb : y ≤ 3584 := (by rw [← hy]; exact Nat.le_trans (Nat.div_le_self _ _) (by omega)); have hxw : IntKind.i64.wrap (x : Int) = (x : Int) := (by rw [IntKind.wrap_i64]; omega); have hyw : IntKind.i64.wrap (y : Int) = (y : Int) := (by rw [IntKind.wrap_i64]; omega); rw [hx, hy] at HFR; clear hD hg hx hy HFT h1 h2
      have X5 : Sl (Blk ((w.alloc (.cells #[.int .i64 0, .int .i64 0] 23)).alloc (.cells #[.int .i64 128, .int .i64 (D : Int)] 23)) (w.heap.size + 1) 23 #[.int .i64 128, .int .i64 (D : Int)]) := ⟨by
        have := Blk.new (w.alloc (.cells #[.int .i64 0, .int .i64 0] 23)) 23 #[.int .i64 128, .int .i64 (D : Int)]
        rwa [show (w.alloc (.cells #[.int .i64 0, .int .i64 0] 23)).heap.size = w.heap.size + 1 by simp] at this⟩
      have X1 : Sl (Blk ((w.alloc (.cells #[.int .i64 0, .int .i64 0] 23)).alloc (.cells #[.int .i64 128, .int .i64 (D : Int)] 23)) w.heap.size 23 #[.int .i64 0, .int .i64 0]) := ⟨X0.out.alloc _⟩; have HU1 : Sl (Below w.heap.size w ((w.alloc (.cells #[.int .i64 0, .int .i64 0] 23)).alloc (.cells #[.int .i64 128, .int .i64 (D : Int)] 23))) := ⟨HU.out.alloc (by simp) _⟩; clear X0 HU; go_enter Tryz.func10, Tryz.ntmps10; go_wp2_with fail; generalize (w.alloc (.cells #[.int .i64 0, .int .i64 0] 23)).alloc (.cells #[.int .i64 128, .int .i64 (D : Int)] 23) = w1 at *
      refine (HGC.out w1).mono ?_; rintro e w2 ⟨rfl, m, rfl⟩; have X2 : Sl (Blk (w1.drewN m) w.heap.size 23 #[.int .i64 0, .int .i64 0]) := ⟨X1.out.drewN m⟩; have HU2 : Sl (Below w.heap.size w (w1.drewN m)) := ⟨below_drewN HU1.out m⟩; have X6 : Sl (Blk (w1.drewN m) (w.heap.size + 1) 23 #[.int .i64 128, .int .i64 (D : Int)]) := ⟨X5.out.drewN m⟩; generalize w1.drewN m = w3 at *
      have c0 := X6.out.cell 0; have c1 := X6.out.cell 1; simp at c0 c1; have e0 := X2.out.cell 0; have e1 := X2.out.cell 1; have f0 := X2.out.frozen 0; have f1 := X2.out.frozen 1; simp at e0 e1; go_wp2_with fail
      go_region
      go_wp2_with fail; have XZ := (((X2.out.drewN 1).set_ 0 (.int .i64 (x : Int))).set_ 1 (.int .i64 (y : Int))); refine bodyPost_ret (results_row2m rfl _ _ w.heap.size _ _ _ rfl XZ Tryz.underlying23 rfl (by kernel_rfl)) rfl ?_; exact ⟨by unfold FtT; rw [HFR.out]; rfl, ((below_drewN HU2.out 1).setCell (p := ⟨w.heap.size, 0, none⟩) (Nat.le_refl _) _).setCell (p := ⟨w.heap.size, 1, none⟩) (Nat.le_refl _) _⟩
    by_cases r10 : r = 10
    · subst r10; have HFT : Sl (ftS n = (ftR 256 (7 * z), 0)) := ⟨by rw [← HZ.out]; exact ftS_some HK.out.2.2.2 HK.out.1 HK.out.2.2.1 HK.out.2.1 rfl⟩; obtain ⟨D, hD⟩ : ∃ D, 7 * z = D := ⟨_, rfl⟩; have HD : Sl (7 * z = D) := ⟨hD⟩; have hDb : 1 ≤ D ∧ D ≤ 3584 := (by omega); have hDI : 7 * (z : Int) = (D : Int) := (by omega); have hDw : IntKind.i64.wrap (D : Int) = (D : Int) := (by rw [IntKind.wrap_i64]; omega); rw [hD] at HFT; obtain ⟨g, hg⟩ : ∃ g, Nat.gcd 256 D = g := ⟨_, rfl⟩; have HG : Sl (Nat.gcd 256 D = g) := ⟨hg⟩
      have hg0 : 1 ≤ g ∧ g ≤ 3584 := by
        have h3 : 0 < g := (by rw [← hg]; exact Nat.gcd_pos_of_pos_left _ (by decide)); have h4 : g ≤ D := (by rw [← hg]; exact Nat.gcd_le_right _ (by omega)); omega
      have HFR : Sl (ftS n = ((256 / g, D / g), 0)) := ⟨by rw [HFT.out]; unfold ftR; rw [HG.out]⟩
      have HGC : Sl (∀ W : World, Calls Tryz.prog 29 #[.int .i64 256, .int .i64 (D : Int)] W fun e w' => e = .returned (.int .i64 (g : Int)) ∧ ∃ m, w' = W.drewN m) := ⟨fun W => by
        have := m11gcd_any 256 D W (by decide) (by omega); rw [HG.out] at this
        exact this⟩
      have hgne : ¬ (g : Int) = 0 := (by omega); have hgn1 : ¬ (g : Int) = -1 := (by omega); obtain ⟨x, hx⟩ : ∃ x, 256 / g = x := ⟨_, rfl⟩; obtain ⟨y, hy⟩ : ∃ y, D / g = y := ⟨_, rfl⟩; have hx1 : (256 : Int).tdiv (g : Int) = (x : Int) := (by rw [Int.tdiv_eq_ediv_of_nonneg (by decide), ← hx]; rfl); have hy1 : (D : Int).tdiv (g : Int) = (y : Int) := (by rw [Int.tdiv_eq_ediv_of_nonneg (by omega), ← hy]; rfl); have hxb : x ≤ 256 := (by rw [← hx]; exact Nat.le_trans (Nat.div_le_self _ _) (by decide)); have hyb : y ≤ 3584 := (by rw [← hy]; exact Nat.le_trans (Nat.div_le_self _ _) (by omega)); have hxw : IntKind.i64.wrap (x : Int) = (x : Int) := (by rw [IntKind.wrap_i64]; omega); have hyw : IntKind.i64.wrap (y : Int) = (y : Int) := (by rw [IntKind.wrap_i64]; omega); rw [hx, hy] at HFR; clear hD hg hx hy HFT h1 h2
      have X5 : Sl (Blk ((w.alloc (.cells #[.int .i64 0, .int .i64 0] 23)).alloc (.cells #[.int .i64 256, .int .i64 (D : Int)] 23)) (w.heap.size + 1) 23 #[.int .i64 256, .int .i64 (D : Int)]) := ⟨by
        have := Blk.new (w.alloc (.cells #[.int .i64 0, .int .i64 0] 23)) 23 #[.int .i64 256, .int .i64 (D : Int)]
        rwa [show (w.alloc (.cells #[.int .i64 0, .int .i64 0] 23)).heap.size = w.heap.size + 1 by simp] at this⟩
      have X1 : Sl (Blk ((w.alloc (.cells #[.int .i64 0, .int .i64 0] 23)).alloc (.cells #[.int .i64 256, .int .i64 (D : Int)] 23)) w.heap.size 23 #[.int .i64 0, .int .i64 0]) := ⟨X0.out.alloc _⟩; have HU1 : Sl (Below w.heap.size w ((w.alloc (.cells #[.int .i64 0, .int .i64 0] 23)).alloc (.cells #[.int .i64 256, .int .i64 (D : Int)] 23))) := ⟨HU.out.alloc (by simp) _⟩; clear X0 HU; go_enter Tryz.func10, Tryz.ntmps10; go_wp2_with fail; generalize (w.alloc (.cells #[.int .i64 0, .int .i64 0] 23)).alloc (.cells #[.int .i64 256, .int .i64 (D : Int)] 23) = w1 at *
      refine (HGC.out w1).mono ?_; rintro e w2 ⟨rfl, m, rfl⟩; have X2 : Sl (Blk (w1.drewN m) w.heap.size 23 #[.int .i64 0, .int .i64 0]) := ⟨X1.out.drewN m⟩; have HU2 : Sl (Below w.heap.size w (w1.drewN m)) := ⟨below_drewN HU1.out m⟩; have X6 : Sl (Blk (w1.drewN m) (w.heap.size + 1) 23 #[.int .i64 256, .int .i64 (D : Int)]) := ⟨X5.out.drewN m⟩; generalize w1.drewN m = w3 at *
      have c0 := X6.out.cell 0; have c1 := X6.out.cell 1; simp at c0 c1; have e0 := X2.out.cell 0; have e1 := X2.out.cell 1; have f0 := X2.out.frozen 0; have f1 := X2.out.frozen 1; simp at e0 e1; go_wp2_with fail
      go_region
      go_wp2_with fail; have XZ := (((X2.out.drewN 1).set_ 0 (.int .i64 (x : Int))).set_ 1 (.int .i64 (y : Int))); refine bodyPost_ret (results_row2m rfl _ _ w.heap.size _ _ _ rfl XZ Tryz.underlying23 rfl (by kernel_rfl)) rfl ?_; exact ⟨by unfold FtT; rw [HFR.out]; rfl, ((below_drewN HU2.out 1).setCell (p := ⟨w.heap.size, 0, none⟩) (Nat.le_refl _) _).setCell (p := ⟨w.heap.size, 1, none⟩) (Nat.le_refl _) _⟩
    have HFT : Sl (ftS n = ((0, 0), 4)) := ⟨ftS_none HK.out.2.2.2 HK.out.1 HK.out.2.2.1 (by unfold ftB; rw [if_neg r0, if_neg r4, if_neg r7, if_neg r10])⟩; have b0 : ((r : Int) == 0) = false := (by simp; omega); have b4 : ((r : Int) == 4) = false := (by simp; omega); have b7 : ((r : Int) == 7) = false := (by simp; omega); have b10 : ((r : Int) == 10) = false := (by simp; omega); clear r0 r4 r7 r10; have HU1 : Sl (Below w.heap.size w ((w.alloc (.cells #[.int .i64 0, .int .i64 0] 23)).alloc (.cells #[.int .i64 0, .int .i64 0] 23))) := ⟨HU.out.alloc (by simp) _⟩; have X1 : Sl (Blk ((w.alloc (.cells #[.int .i64 0, .int .i64 0] 23)).alloc (.cells #[.int .i64 0, .int .i64 0] 23)) w.heap.size 23 #[.int .i64 0, .int .i64 0]) := ⟨X0.out.alloc _⟩; go_enter Tryz.func10, Tryz.ntmps10; go_wp2_with fail; refine bodyPost_ret (results_row2m rfl _ _ w.heap.size _ _ _ rfl X1.out Tryz.underlying23 rfl (by kernel_rfl)) rfl ?_; exact ⟨by unfold FtT; rw [HFT.out]; rfl, HU1.out⟩
set_option maxHeartbeats 6400000 in
set_option maxRecDepth 100000 in
theorem rfeet_any (n : Int) (w : World) (hn : i64 n) : Calls Tryz.prog 11 #[.int .i64 n] w fun e w' => FtT n e ∧ Below w.heap.size w w' := by
  have X0 : Sl (Blk (w.alloc (.cells #[.int .i64 0, .int .i64 0] 23)) w.heap.size 23 #[.int .i64 0, .int .i64 0]) := ⟨Blk.new _ _ _⟩; have HU : Sl (Below w.heap.size w (w.alloc (.cells #[.int .i64 0, .int .i64 0] 23))) := ⟨(Below.refl _ _).alloc (Nat.le_refl _) _⟩
  by_cases hc : n < -36 ∨ 82 < n
  · have HFT : Sl (ftS n = ((0, 0), 7)) := ⟨by unfold ftS; rw [if_pos hc]⟩
    by_cases h1 : n < -36
    · have hd1 : decide (n < -36) = true := decide_eq_true h1; clear hc; go_enter Tryz.func11, Tryz.ntmps11; go_wp2_with fail; refine bodyPost_ret (results_row2m rfl _ _ w.heap.size _ _ _ rfl X0.out Tryz.underlying23 rfl (by kernel_rfl)) rfl ?_; exact ⟨by unfold FtT; rw [HFT.out]; rfl, HU.out⟩
    · have hd1 : decide (n < -36) = false := decide_eq_false h1; have h2 : 82 < n := (by omega); have hd2 : decide (82 < n) = true := decide_eq_true h2; clear hc; go_enter Tryz.func11, Tryz.ntmps11; go_wp2_with fail; refine bodyPost_ret (results_row2m rfl _ _ w.heap.size _ _ _ rfl X0.out Tryz.underlying23 rfl (by kernel_rfl)) rfl ?_; exact ⟨by unfold FtT; rw [HFT.out]; rfl, HU.out⟩
  · have h1 : ¬ n < -36 := fun h => hc (.inl h)
    have h2 : ¬ 82 < n := fun h => hc (.inr h)
    have hd1 : decide (n < -36) = false := decide_eq_false h1; have hd2 : decide (82 < n) = false := decide_eq_false h2; obtain ⟨k, hk⟩ : ∃ k : Nat, n + 36 = (k : Int) := ⟨(n + 36).toNat, by omega⟩; have hw : IntKind.i64.wrap (k : Int) = (k : Int) := (by rw [IntKind.wrap_i64]; omega); have hq : (k : Int).tdiv 12 = ((k / 12 : Nat) : Int) := (by rw [Int.tdiv_eq_ediv_of_nonneg (by omega)]; omega); have hr : (k : Int).tmod 12 = ((k % 12 : Nat) : Int) := (by rw [Int.tmod_eq_emod_of_nonneg (by omega)]; omega); obtain ⟨q, hqq⟩ : ∃ q, k / 12 = q := ⟨_, rfl⟩; obtain ⟨r, hrr⟩ : ∃ r, k % 12 = r := ⟨_, rfl⟩; have HK : Sl (n + 36 = (k : Int) ∧ k / 12 = q ∧ k % 12 = r ∧ ¬ (n < -36 ∨ 82 < n)) := ⟨hk, hqq, hrr, hc⟩; have hq9 : q ≤ 9 := (by omega); have hr12 : r < 12 := (by omega); rw [hqq] at hq; rw [hrr] at hr; obtain ⟨z, hz⟩ : ∃ z, 2 ^ q = z := ⟨_, rfl⟩; have hzb : 1 ≤ z ∧ z ≤ 512 := (by rw [← hz]; exact pow_9 hq9); have hzI : (2 : Int) ^ q = (z : Int) := (by rw [← hz]; simp); have HZ : Sl (2 ^ q = z) := ⟨hz⟩; clear hqq hrr hz hc
    by_cases r0 : r = 0
    · subst r0; have HFT : Sl (ftS n = (ftR 64 (1 * z), 0)) := ⟨by rw [← HZ.out]; exact ftS_some HK.out.2.2.2 HK.out.1 HK.out.2.2.1 HK.out.2.1 rfl⟩; obtain ⟨D, hD⟩ : ∃ D, 1 * z = D := ⟨_, rfl⟩; have HD : Sl (1 * z = D) := ⟨hD⟩; have hDb : 1 ≤ D ∧ D ≤ 3584 := (by omega); have hDI : (z : Int) = (D : Int) := (by omega); have hDw : IntKind.i64.wrap (D : Int) = (D : Int) := (by rw [IntKind.wrap_i64]; omega); rw [hD] at HFT; obtain ⟨g, hg⟩ : ∃ g, Nat.gcd 64 D = g := ⟨_, rfl⟩; have HG : Sl (Nat.gcd 64 D = g) := ⟨hg⟩
      have hg0 : 1 ≤ g ∧ g ≤ 3584 := by
        have h3 : 0 < g := (by rw [← hg]; exact Nat.gcd_pos_of_pos_left _ (by decide)); have h4 : g ≤ D := (by rw [← hg]; exact Nat.gcd_le_right _ (by omega)); omega
      have HFR : Sl (ftS n = ((64 / g, D / g), 0)) := ⟨by rw [HFT.out]; unfold ftR; rw [HG.out]⟩
      have HGC : Sl (∀ W : World, Calls Tryz.prog 30 #[.int .i64 64, .int .i64 (D : Int)] W fun e w' => e = .returned (.int .i64 (g : Int)) ∧ ∃ m, w' = W.drewN m) := ⟨fun W => by
        have := r11gcd_any 64 D W (by decide) (by omega); rw [HG.out] at this
        exact this⟩
      have hgne : ¬ (g : Int) = 0 := (by omega); have hgn1 : ¬ (g : Int) = -1 := (by omega); obtain ⟨x, hx⟩ : ∃ x, 64 / g = x := ⟨_, rfl⟩; obtain ⟨y, hy⟩ : ∃ y, D / g = y := ⟨_, rfl⟩; have hx1 : (64 : Int).tdiv (g : Int) = (x : Int) := (by rw [Int.tdiv_eq_ediv_of_nonneg (by decide), ← hx]; rfl); have hy1 : (D : Int).tdiv (g : Int) = (y : Int) := (by rw [Int.tdiv_eq_ediv_of_nonneg (by omega), ← hy]; rfl); have hxb : x ≤ 256 := (by rw [← hx]; exact Nat.le_trans (Nat.div_le_self _ _) (by decide)); have hyb : y ≤ 3584 := (by rw [← hy]; exact Nat.le_trans (Nat.div_le_self _ _) (by omega)); have hxw : IntKind.i64.wrap (x : Int) = (x : Int) := (by rw [IntKind.wrap_i64]; omega); have hyw : IntKind.i64.wrap (y : Int) = (y : Int) := (by rw [IntKind.wrap_i64]; omega); rw [hx, hy] at HFR; clear hD hg hx hy HFT h1 h2; have X1 := X0; have HU1 := HU; clear X0 HU; go_enter Tryz.func11, Tryz.ntmps11; go_wp2_with fail; generalize w.alloc (.cells #[.int .i64 0, .int .i64 0] 23) = w1 at *
      go_loopw [5, 6] (fun s5 s6 wr => ∃ (i : Nat), i ≤ q ∧ s6 = .int .i64 i ∧ s5 = .int .i64 ((1 * 2 ^ i : Nat) : Int) ∧ Sl (w1 = wr)) (fun _ s6 _ => q - (RowKit.intOf s6).toNat)
      case atStart => exact ⟨0, Nat.zero_le _, rfl, rfl, ⟨rfl⟩⟩
      case round =>
        obtain ⟨i, hi, rfl, rfl, HWQ⟩ := hrel; have hww := HWQ.out; subst hww
        by_cases hiq : i < q
        · have hiI : (i : Int) < (q : Int) := (by omega); have hid : decide ((i : Int) < (q : Int)) = true := decide_eq_true hiI; obtain ⟨E, hE⟩ : ∃ E, 1 * 2 ^ i = E := ⟨_, rfl⟩; have hEb : E ≤ 3584 := (by rw [← hE]; exact Nat.mul_le_mul (show 1 ≤ 7 by decide) (pow_9 (show i ≤ 9 by omega)).2); have HE : Sl (1 * 2 ^ (i + 1) = 2 * E) := ⟨by rw [Nat.pow_succ, ← hE]; omega⟩; rw [hE]; have hEw : IntKind.i64.wrap (2 * (E : Int)) = 2 * (E : Int) := (by rw [IntKind.wrap_i64]; omega); clear hE; go_wp2_with fail; exact ⟨⟨i + 1, hiq, by go_num, by rw [HE.out]; congr 1, ⟨by first | rfl | trivial⟩⟩, by simp [RowKit.intOf]; omega⟩
        · obtain rfl : i = q := (by omega); have hid : decide ((i : Int) < (i : Int)) = false := decide_eq_false (by omega); rw [HZ.out, HD.out]; go_wp2_with fail; refine (HGC.out w1).mono ?_; rintro e w2 ⟨rfl, m, rfl⟩; have X2 : Sl (Blk (w1.drewN m) w.heap.size 23 #[.int .i64 0, .int .i64 0]) := ⟨X1.out.drewN m⟩; have HU2 : Sl (Below w.heap.size w (w1.drewN m)) := ⟨below_drewN HU1.out m⟩; generalize w1.drewN m = w3 at *
          have e0 := X2.out.cell 0; have e1 := X2.out.cell 1; have f0 := X2.out.frozen 0; have f1 := X2.out.frozen 1; simp at e0 e1; go_wp2_with fail
          go_region
          go_wp2_with fail; have XZ := (((X2.out.drewN 1).set_ 0 (.int .i64 (x : Int))).set_ 1 (.int .i64 (y : Int))); refine bodyPost_ret (results_row2m rfl _ _ w.heap.size _ _ _ rfl XZ Tryz.underlying23 rfl (by kernel_rfl)) rfl ?_; exact ⟨by unfold FtT; rw [HFR.out]; rfl, ((below_drewN HU2.out 1).setCell (p := ⟨w.heap.size, 0, none⟩) (Nat.le_refl _) _).setCell (p := ⟨w.heap.size, 1, none⟩) (Nat.le_refl _) _⟩
    by_cases r4 : r = 4
    · subst r4; have HFT : Sl (ftS n = (ftR 256 (5 * z), 0)) := ⟨by rw [← HZ.out]; exact ftS_some HK.out.2.2.2 HK.out.1 HK.out.2.2.1 HK.out.2.1 rfl⟩; obtain ⟨D, hD⟩ : ∃ D, 5 * z = D := ⟨_, rfl⟩; have HD : Sl (5 * z = D) := ⟨hD⟩; have hDb : 1 ≤ D ∧ D ≤ 3584 := (by omega); have hDI : 5 * (z : Int) = (D : Int) := (by omega); have hDw : IntKind.i64.wrap (D : Int) = (D : Int) := (by rw [IntKind.wrap_i64]; omega); rw [hD] at HFT; obtain ⟨g, hg⟩ : ∃ g, Nat.gcd 256 D = g := ⟨_, rfl⟩; have HG : Sl (Nat.gcd 256 D = g) := ⟨hg⟩
      have hg0 : 1 ≤ g ∧ g ≤ 3584 := by
        have h3 : 0 < g := (by rw [← hg]; exact Nat.gcd_pos_of_pos_left _ (by decide)); have h4 : g ≤ D := (by rw [← hg]; exact Nat.gcd_le_right _ (by omega)); omega
      have HFR : Sl (ftS n = ((256 / g, D / g), 0)) := ⟨by rw [HFT.out]; unfold ftR; rw [HG.out]⟩
      have HGC : Sl (∀ W : World, Calls Tryz.prog 30 #[.int .i64 256, .int .i64 (D : Int)] W fun e w' => e = .returned (.int .i64 (g : Int)) ∧ ∃ m, w' = W.drewN m) := ⟨fun W => by
        have := r11gcd_any 256 D W (by decide) (by omega); rw [HG.out] at this
        exact this⟩
      have hgne : ¬ (g : Int) = 0 := (by omega); have hgn1 : ¬ (g : Int) = -1 := (by omega); obtain ⟨x, hx⟩ : ∃ x, 256 / g = x := ⟨_, rfl⟩; obtain ⟨y, hy⟩ : ∃ y, D / g = y := ⟨_, rfl⟩; have hx1 : (256 : Int).tdiv (g : Int) = (x : Int) := (by rw [Int.tdiv_eq_ediv_of_nonneg (by decide), ← hx]; rfl); have hy1 : (D : Int).tdiv (g : Int) = (y : Int) := (by rw [Int.tdiv_eq_ediv_of_nonneg (by omega), ← hy]; rfl); have hxb : x ≤ 256 := (by rw [← hx]; exact Nat.le_trans (Nat.div_le_self _ _) (by decide)); have hyb : y ≤ 3584 := (by rw [← hy]; exact Nat.le_trans (Nat.div_le_self _ _) (by omega)); have hxw : IntKind.i64.wrap (x : Int) = (x : Int) := (by rw [IntKind.wrap_i64]; omega); have hyw : IntKind.i64.wrap (y : Int) = (y : Int) := (by rw [IntKind.wrap_i64]; omega); rw [hx, hy] at HFR; clear hD hg hx hy HFT h1 h2; have X1 := X0; have HU1 := HU; clear X0 HU; go_enter Tryz.func11, Tryz.ntmps11; go_wp2_with fail; generalize w.alloc (.cells #[.int .i64 0, .int .i64 0] 23) = w1 at *
      go_loopw [5, 6] (fun s5 s6 wr => ∃ (i : Nat), i ≤ q ∧ s6 = .int .i64 i ∧ s5 = .int .i64 ((5 * 2 ^ i : Nat) : Int) ∧ Sl (w1 = wr)) (fun _ s6 _ => q - (RowKit.intOf s6).toNat)
      case atStart => exact ⟨0, Nat.zero_le _, rfl, rfl, ⟨rfl⟩⟩
      case round =>
        obtain ⟨i, hi, rfl, rfl, HWQ⟩ := hrel; have hww := HWQ.out; subst hww
        by_cases hiq : i < q
        · have hiI : (i : Int) < (q : Int) := (by omega); have hid : decide ((i : Int) < (q : Int)) = true := decide_eq_true hiI; obtain ⟨E, hE⟩ : ∃ E, 5 * 2 ^ i = E := ⟨_, rfl⟩; have hEb : E ≤ 3584 := (by rw [← hE]; exact Nat.mul_le_mul (show 5 ≤ 7 by decide) (pow_9 (show i ≤ 9 by omega)).2); have HE : Sl (5 * 2 ^ (i + 1) = 2 * E) := ⟨by rw [Nat.pow_succ, ← hE]; omega⟩; rw [hE]; have hEw : IntKind.i64.wrap (2 * (E : Int)) = 2 * (E : Int) := (by rw [IntKind.wrap_i64]; omega); clear hE; go_wp2_with fail; exact ⟨⟨i + 1, hiq, by go_num, by rw [HE.out]; congr 1, ⟨by first | rfl | trivial⟩⟩, by simp [RowKit.intOf]; omega⟩
        · obtain rfl : i = q := (by omega); have hid : decide ((i : Int) < (i : Int)) = false := decide_eq_false (by omega); rw [HZ.out, HD.out]; go_wp2_with fail; refine (HGC.out w1).mono ?_; rintro e w2 ⟨rfl, m, rfl⟩; have X2 : Sl (Blk (w1.drewN m) w.heap.size 23 #[.int .i64 0, .int .i64 0]) := ⟨X1.out.drewN m⟩; have HU2 : Sl (Below w.heap.size w (w1.drewN m)) := ⟨below_drewN HU1.out m⟩; generalize w1.drewN m = w3 at *
          have e0 := X2.out.cell 0; have e1 := X2.out.cell 1; have f0 := X2.out.frozen 0; have f1 := X2.out.frozen 1; simp at e0 e1; go_wp2_with fail
          go_region
          go_wp2_with fail; have XZ := (((X2.out.drewN 1).set_ 0 (.int .i64 (x : Int))).set_ 1 (.int .i64 (y : Int))); refine bodyPost_ret (results_row2m rfl _ _ w.heap.size _ _ _ rfl XZ Tryz.underlying23 rfl (by kernel_rfl)) rfl ?_; exact ⟨by unfold FtT; rw [HFR.out]; rfl, ((below_drewN HU2.out 1).setCell (p := ⟨w.heap.size, 0, none⟩) (Nat.le_refl _) _).setCell (p := ⟨w.heap.size, 1, none⟩) (Nat.le_refl _) _⟩
    by_cases r7 : r = 7
    · subst r7; have HFT : Sl (ftS n = (ftR 128 (3 * z), 0)) := ⟨by rw [← HZ.out]; exact ftS_some HK.out.2.2.2 HK.out.1 HK.out.2.2.1 HK.out.2.1 rfl⟩; obtain ⟨D, hD⟩ : ∃ D, 3 * z = D := ⟨_, rfl⟩; have HD : Sl (3 * z = D) := ⟨hD⟩; have hDb : 1 ≤ D ∧ D ≤ 3584 := (by omega); have hDI : 3 * (z : Int) = (D : Int) := (by omega); have hDw : IntKind.i64.wrap (D : Int) = (D : Int) := (by rw [IntKind.wrap_i64]; omega); rw [hD] at HFT; obtain ⟨g, hg⟩ : ∃ g, Nat.gcd 128 D = g := ⟨_, rfl⟩; have HG : Sl (Nat.gcd 128 D = g) := ⟨hg⟩
      have hg0 : 1 ≤ g ∧ g ≤ 3584 := by
        have h3 : 0 < g := (by rw [← hg]; exact Nat.gcd_pos_of_pos_left _ (by decide)); have h4 : g ≤ D := (by rw [← hg]; exact Nat.gcd_le_right _ (by omega)); omega
      have HFR : Sl (ftS n = ((128 / g, D / g), 0)) := ⟨by rw [HFT.out]; unfold ftR; rw [HG.out]⟩
      have HGC : Sl (∀ W : World, Calls Tryz.prog 30 #[.int .i64 128, .int .i64 (D : Int)] W fun e w' => e = .returned (.int .i64 (g : Int)) ∧ ∃ m, w' = W.drewN m) := ⟨fun W => by
        have := r11gcd_any 128 D W (by decide) (by omega); rw [HG.out] at this
        exact this⟩
      have hgne : ¬ (g : Int) = 0 := (by omega); have hgn1 : ¬ (g : Int) = -1 := (by omega); obtain ⟨x, hx⟩ : ∃ x, 128 / g = x := ⟨_, rfl⟩; obtain ⟨y, hy⟩ : ∃ y, D / g = y := ⟨_, rfl⟩; have hx1 : (128 : Int).tdiv (g : Int) = (x : Int) := (by rw [Int.tdiv_eq_ediv_of_nonneg (by decide), ← hx]; rfl); have hy1 : (D : Int).tdiv (g : Int) = (y : Int) := (by rw [Int.tdiv_eq_ediv_of_nonneg (by omega), ← hy]; rfl); have hxb : x ≤ 256 := (by rw [← hx]; exact Nat.le_trans (Nat.div_le_self _ _) (by decide)); have hyb : y ≤ 3584 := (by rw [← hy]; exact Nat.le_trans (Nat.div_le_self _ _) (by omega)); have hxw : IntKind.i64.wrap (x : Int) = (x : Int) := (by rw [IntKind.wrap_i64]; omega); have hyw : IntKind.i64.wrap (y : Int) = (y : Int) := (by rw [IntKind.wrap_i64]; omega); rw [hx, hy] at HFR; clear hD hg hx hy HFT h1 h2; have X1 := X0; have HU1 := HU; clear X0 HU; go_enter Tryz.func11, Tryz.ntmps11; go_wp2_with fail; generalize w.alloc (.cells #[.int .i64 0, .int .i64 0] 23) = w1 at *
      go_loopw [5, 6] (fun s5 s6 wr => ∃ (i : Nat), i ≤ q ∧ s6 = .int .i64 i ∧ s5 = .int .i64 ((3 * 2 ^ i : Nat) : Int) ∧ Sl (w1 = wr)) (fun _ s6 _ => q - (RowKit.intOf s6).toNat)
      case atStart => exact ⟨0, Nat.zero_le _, rfl, rfl, ⟨rfl⟩⟩
      case round =>
        obtain ⟨i, hi, rfl, rfl, HWQ⟩ := hrel; have hww := HWQ.out; subst hww
        by_cases hiq : i < q
        · have hiI : (i : Int) < (q : Int) := (by omega); have hid : decide ((i : Int) < (q : Int)) = true := decide_eq_true hiI; obtain ⟨E, hE⟩ : ∃ E, 3 * 2 ^ i = E := ⟨_, rfl⟩; have hEb : E ≤ 3584 := (by rw [← hE]; exact Nat.mul_le_mul (show 3 ≤ 7 by decide) (pow_9 (show i ≤ 9 by omega)).2); have HE : Sl (3 * 2 ^ (i + 1) = 2 * E) := ⟨by rw [Nat.pow_succ, ← hE]; omega⟩; rw [hE]; have hEw : IntKind.i64.wrap (2 * (E : Int)) = 2 * (E : Int) := (by rw [IntKind.wrap_i64]; omega); clear hE; go_wp2_with fail; exact ⟨⟨i + 1, hiq, by go_num, by rw [HE.out]; congr 1, ⟨by first | rfl | trivial⟩⟩, by simp [RowKit.intOf]; omega⟩
        · obtain rfl : i = q := (by omega); have hid : decide ((i : Int) < (i : Int)) = false := decide_eq_false (by omega); rw [HZ.out, HD.out]; go_wp2_with fail; refine (HGC.out w1).mono ?_; rintro e w2 ⟨rfl, m, rfl⟩; have X2 : Sl (Blk (w1.drewN m) w.heap.size 23 #[.int .i64 0, .int .i64 0]) := ⟨X1.out.drewN m⟩; have HU2 : Sl (Below w.heap.size w (w1.drewN m)) := ⟨below_drewN HU1.out m⟩; generalize w1.drewN m = w3 at *
          have e0 := X2.out.cell 0; have e1 := X2.out.cell 1; have f0 := X2.out.frozen 0; have f1 := X2.out.frozen 1; simp at e0 e1; go_wp2_with fail
          go_region
          go_wp2_with fail; have XZ := (((X2.out.drewN 1).set_ 0 (.int .i64 (x : Int))).set_ 1 (.int .i64 (y : Int))); refine bodyPost_ret (results_row2m rfl _ _ w.heap.size _ _ _ rfl XZ Tryz.underlying23 rfl (by kernel_rfl)) rfl ?_; exact ⟨by unfold FtT; rw [HFR.out]; rfl, ((below_drewN HU2.out 1).setCell (p := ⟨w.heap.size, 0, none⟩) (Nat.le_refl _) _).setCell (p := ⟨w.heap.size, 1, none⟩) (Nat.le_refl _) _⟩
    by_cases r10 : r = 10
    · subst r10; have HFT : Sl (ftS n = (ftR 256 (7 * z), 0)) := ⟨by rw [← HZ.out]; exact ftS_some HK.out.2.2.2 HK.out.1 HK.out.2.2.1 HK.out.2.1 rfl⟩; obtain ⟨D, hD⟩ : ∃ D, 7 * z = D := ⟨_, rfl⟩; have HD : Sl (7 * z = D) := ⟨hD⟩; have hDb : 1 ≤ D ∧ D ≤ 3584 := (by omega); have hDI : 7 * (z : Int) = (D : Int) := (by omega); have hDw : IntKind.i64.wrap (D : Int) = (D : Int) := (by rw [IntKind.wrap_i64]; omega); rw [hD] at HFT; obtain ⟨g, hg⟩ : ∃ g, Nat.gcd 256 D = g := ⟨_, rfl⟩; have HG : Sl (Nat.gcd 256 D = g) := ⟨hg⟩
      have hg0 : 1 ≤ g ∧ g ≤ 3584 := by
        have h3 : 0 < g := (by rw [← hg]; exact Nat.gcd_pos_of_pos_left _ (by decide)); have h4 : g ≤ D := (by rw [← hg]; exact Nat.gcd_le_right _ (by omega)); omega
      have HFR : Sl (ftS n = ((256 / g, D / g), 0)) := ⟨by rw [HFT.out]; unfold ftR; rw [HG.out]⟩
      have HGC : Sl (∀ W : World, Calls Tryz.prog 30 #[.int .i64 256, .int .i64 (D : Int)] W fun e w' => e = .returned (.int .i64 (g : Int)) ∧ ∃ m, w' = W.drewN m) := ⟨fun W => by
        have := r11gcd_any 256 D W (by decide) (by omega); rw [HG.out] at this
        exact this⟩
      have hgne : ¬ (g : Int) = 0 := (by omega); have hgn1 : ¬ (g : Int) = -1 := (by omega); obtain ⟨x, hx⟩ : ∃ x, 256 / g = x := ⟨_, rfl⟩; obtain ⟨y, hy⟩ : ∃ y, D / g = y := ⟨_, rfl⟩; have hx1 : (256 : Int).tdiv (g : Int) = (x : Int) := (by rw [Int.tdiv_eq_ediv_of_nonneg (by decide), ← hx]; rfl); have hy1 : (D : Int).tdiv (g : Int) = (y : Int) := (by rw [Int.tdiv_eq_ediv_of_nonneg (by omega), ← hy]; rfl); have hxb : x ≤ 256 := (by rw [← hx]; exact Nat.le_trans (Nat.div_le_self _ _) (by decide)); have hyb : y ≤ 3584 := (by rw [← hy]; exact Nat.le_trans (Nat.div_le_self _ _) (by omega)); have hxw : IntKind.i64.wrap (x : Int) = (x : Int) := (by rw [IntKind.wrap_i64]; omega); have hyw : IntKind.i64.wrap (y : Int) = (y : Int) := (by rw [IntKind.wrap_i64]; omega); rw [hx, hy] at HFR; clear hD hg hx hy HFT h1 h2; have X1 := X0; have HU1 := HU; clear X0 HU; go_enter Tryz.func11, Tryz.ntmps11; go_wp2_with fail; generalize w.alloc (.cells #[.int .i64 0, .int .i64 0] 23) = w1 at *
      go_loopw [5, 6] (fun s5 s6 wr => ∃ (i : Nat), i ≤ q ∧ s6 = .int .i64 i ∧ s5 = .int .i64 ((7 * 2 ^ i : Nat) : Int) ∧ Sl (w1 = wr)) (fun _ s6 _ => q - (RowKit.intOf s6).toNat)
      case atStart => exact ⟨0, Nat.zero_le _, rfl, rfl, ⟨rfl⟩⟩
      case round =>
        obtain ⟨i, hi, rfl, rfl, HWQ⟩ := hrel; have hww := HWQ.out; subst hww
        by_cases hiq : i < q
        · have hiI : (i : Int) < (q : Int) := (by omega); have hid : decide ((i : Int) < (q : Int)) = true := decide_eq_true hiI; obtain ⟨E, hE⟩ : ∃ E, 7 * 2 ^ i = E := ⟨_, rfl⟩; have hEb : E ≤ 3584 := (by rw [← hE]; exact Nat.mul_le_mul (show 7 ≤ 7 by decide) (pow_9 (show i ≤ 9 by omega)).2); have HE : Sl (7 * 2 ^ (i + 1) = 2 * E) := ⟨by rw [Nat.pow_succ, ← hE]; omega⟩; rw [hE]; have hEw : IntKind.i64.wrap (2 * (E : Int)) = 2 * (E : Int) := (by rw [IntKind.wrap_i64]; omega); clear hE; go_wp2_with fail; exact ⟨⟨i + 1, hiq, by go_num, by rw [HE.out]; congr 1, ⟨by first | rfl | trivial⟩⟩, by simp [RowKit.intOf]; omega⟩
        · obtain rfl : i = q := (by omega); have hid : decide ((i : Int) < (i : Int)) = false := decide_eq_false (by omega); rw [HZ.out, HD.out]; go_wp2_with fail; refine (HGC.out w1).mono ?_; rintro e w2 ⟨rfl, m, rfl⟩; have X2 : Sl (Blk (w1.drewN m) w.heap.size 23 #[.int .i64 0, .int .i64 0]) := ⟨X1.out.drewN m⟩; have HU2 : Sl (Below w.heap.size w (w1.drewN m)) := ⟨below_drewN HU1.out m⟩; generalize w1.drewN m = w3 at *
          have e0 := X2.out.cell 0; have e1 := X2.out.cell 1; have f0 := X2.out.frozen 0; have f1 := X2.out.frozen 1; simp at e0 e1; go_wp2_with fail
          go_region
          go_wp2_with fail; have XZ := (((X2.out.drewN 1).set_ 0 (.int .i64 (x : Int))).set_ 1 (.int .i64 (y : Int))); refine bodyPost_ret (results_row2m rfl _ _ w.heap.size _ _ _ rfl XZ Tryz.underlying23 rfl (by kernel_rfl)) rfl ?_; exact ⟨by unfold FtT; rw [HFR.out]; rfl, ((below_drewN HU2.out 1).setCell (p := ⟨w.heap.size, 0, none⟩) (Nat.le_refl _) _).setCell (p := ⟨w.heap.size, 1, none⟩) (Nat.le_refl _) _⟩
    have HFT : Sl (ftS n = ((0, 0), 4)) := ⟨ftS_none HK.out.2.2.2 HK.out.1 HK.out.2.2.1 (by unfold ftB; rw [if_neg r0, if_neg r4, if_neg r7, if_neg r10])⟩; have b0 : ((r : Int) == 0) = false := (by simp; omega); have b4 : ((r : Int) == 4) = false := (by simp; omega); have b7 : ((r : Int) == 7) = false := (by simp; omega); have b10 : ((r : Int) == 10) = false := (by simp; omega); clear r0 r4 r7 r10; have HU1 := HU; have X1 := X0; go_enter Tryz.func11, Tryz.ntmps11; go_wp2_with fail; refine bodyPost_ret (results_row2m rfl _ _ w.heap.size _ _ _ rfl X1.out Tryz.underlying23 rfl (by kernel_rfl)) rfl ?_; exact ⟨by unfold FtT; rw [HFT.out]; rfl, HU1.out⟩
end Go.Proofs.YtafadpaljanghaaGreatDoor
namespace Go.Proofs.YtafadpaljanghaaGreatDoor
set_option linter.unusedSimpArgs false
set_option linter.unusedVariables false
end Go.Proofs.YtafadpaljanghaaGreatDoor
namespace Go.Proofs.YtafadpaljanghaaGreatDoor
set_option linter.unusedSimpArgs false
open Go.RowKit
set_option linter.unusedVariables false
set_option maxHeartbeats 3200000 in
set_option maxRecDepth 100000 in
theorem mixturesFeet_any (num den : Int) (n : Int) (hn : i64 n) (w : World) : Calls Tryz.prog 3 #[.agg #[.int .i64 num, .int .i64 den], .int .i64 n] w fun e w' => e = .returned (.bool true) ∧ Below w.heap.size w w' := by
  have HU : Sl (Below w.heap.size w (w.alloc (.cells #[.int .i64 num, .int .i64 den] 23))) := ⟨(Below.refl _ _).alloc (Nat.le_refl _) _⟩; have HX : Sl _ := ⟨Blk.new w 23 #[.int .i64 num, .int .i64 den]⟩; have HS1 : Sl _ := ⟨fun W : World => Semi_any num den W⟩; have HS2 : Sl _ := ⟨fun W : World => rSemi_any num den W⟩; obtain ⟨⟨p1, p2⟩, hp⟩ : ∃ p, SmV num den = p := ⟨_, rfl⟩; rw [hp] at HS1 HS2; have HF1 : Sl _ := ⟨fun W : World => mfeet_any n W hn⟩; have HF2 : Sl _ := ⟨fun W : World => rfeet_any n W hn⟩; unfold FtT at HF1 HF2; obtain ⟨⟨⟨a, b⟩, er⟩, hf⟩ : ∃ x, ftS n = x := ⟨_, rfl⟩; rw [hf] at HF1 HF2; simp only [] at HS1 HS2 HF1 HF2; clear hp hf hn; go_enter Tryz.func3, Tryz.ntmps3; go_wp2_with fail; generalize w.alloc (.cells #[.int .i64 num, .int .i64 den] 23) = w0 at *
  refine (HS1.out w0).mono ?_; rintro e w1 ⟨rfl, hb⟩; have HU1 : Sl (Below w.heap.size w w1) := ⟨HU.out.trans (hb.mono HU.out.size)⟩; have X1 := HX.out.below hb HX.out.lt; have x0 := X1.cell 0; have x1 := X1.cell 1; simp at x0 x1; clear hb X1 HU HX; go_wp2_with fail; refine (HS2.out w1).mono ?_; rintro e w2 ⟨rfl, hb⟩; have HU2 : Sl (Below w.heap.size w w2) := ⟨HU1.out.trans (hb.mono HU1.out.size)⟩; clear hb x0 x1 HU1; go_wp2_with fail; refine (HF1.out w2).mono ?_; rintro e w3 ⟨rfl, hb⟩; have HU3 : Sl (Below w.heap.size w (w3.alloc (.cells #[.int .i64 (a : Int), .int .i64 (b : Int)] 23))) := ⟨(HU2.out.trans (hb.mono HU2.out.size)).alloc (Nat.le_trans HU2.out.size hb.size) _⟩; have X3 : Sl _ := ⟨Blk.new w3 23 #[.int .i64 (a : Int), .int .i64 (b : Int)]⟩; obtain ⟨g3, hg3⟩ : ∃ g, w3.heap.size = g := ⟨_, rfl⟩; rw [hg3] at X3; clear hb HU2; go_wp2_with fail
  (try rw [hg3])
  clear hg3; generalize w3.alloc (.cells #[.int .i64 (a : Int), .int .i64 (b : Int)] 23) = w4 at *
  refine (HF2.out w4).mono ?_; rintro e w5 ⟨rfl, hb⟩; have HU5 : Sl (Below w.heap.size w (w5.alloc (.cells #[.int .i64 (a : Int), .int .i64 (b : Int)] 23))) := ⟨(HU3.out.trans (hb.mono HU3.out.size)).alloc (Nat.le_trans HU3.out.size hb.size) _⟩; have X5 : Sl _ := ⟨Blk.new w5 23 #[.int .i64 (a : Int), .int .i64 (b : Int)]⟩; have X4 : Sl (Blk (w5.alloc (.cells #[.int .i64 (a : Int), .int .i64 (b : Int)] 23)) g3 23 #[.int .i64 (a : Int), .int .i64 (b : Int)]) := ⟨(X3.out.below hb X3.out.lt).alloc _⟩; have x0 := X5.out.cell 0; have x1 := X5.out.cell 1; have y0 := X4.out.cell 0; have y1 := X4.out.cell 1; simp at x0 x1 y0 y1; have HAW : Sl (∀ W : World, Below w.heap.size w W → Calls Tryz.prog 12 #[] W fun e w' => e = .returned (.bool true) ∧ Below w.heap.size w w') := ⟨fun W h => (awake11_any W).mono fun e w' g => ⟨g.1, h.trans (g.2.mono h.size)⟩⟩; clear hb HU3 X3; go_wp2_with fail; refine (HAW.out _ HU5.out).mono ?_; rintro e w9 ⟨rfl, hb⟩; have HB9 : Sl (Below w.heap.size w w9) := ⟨hb⟩; clear hb; go_wp2_with fail; go_ret; exact ⟨rfl, HB9.out⟩
end Go.Proofs.YtafadpaljanghaaGreatDoor
