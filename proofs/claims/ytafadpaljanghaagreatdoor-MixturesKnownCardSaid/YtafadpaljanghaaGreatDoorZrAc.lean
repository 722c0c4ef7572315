/- Plain law: the ratio in lowest terms with given exponents and denominator; products, quotients, powers. No program in sight. -/
import Derived.Test.YtafadpaljanghaaGreatDoorZrAb
import Derived.Deep.RegionHeld3
import Derived.ChangeKeysEq
import Derived.Test.YtafadpaljanghaaGreatDoorMyQ
import Derived.Test.YtafadpaljanghaaGreatDoorMixB
import Derived.Test.YtafadpaljanghaaGreatDoorMixE
import Derived.Test.YtafadpaljanghaaGreatDoorRgC
import Derived.Test.YtafadpaljanghaaGreatDoorMyV
import Derived.Test.YtafadpaljanghaaGreatDoorMyG
import Derived.Test.YtafadpaljanghaaGreatDoorBase
import Derived.Test.YtafadpaljanghaaGreatDoorHld
import Derived.BigRegion
import Derived.Test.YtafadpaljanghaaGreatDoorMyZ
import Derived.Test.YtafadpaljanghaaGreatDoorMyY
namespace Go.Proofs.YtafadpaljanghaaGreatDoor
set_option linter.unusedSimpArgs false
set_option linter.unusedVariables false
end Go.Proofs.YtafadpaljanghaaGreatDoor
namespace Go.Proofs.YtafadpaljanghaaGreatDoor
set_option linter.unusedSimpArgs false
open Go.RowKit
set_option linter.unusedVariables false
end Go.Proofs.YtafadpaljanghaaGreatDoor
namespace Go.Proofs.YtafadpaljanghaaGreatDoor
set_option linter.unusedSimpArgs false
open Go.RowKit
set_option linter.unusedVariables false
end Go.Proofs.YtafadpaljanghaaGreatDoor
namespace Go.Proofs.YtafadpaljanghaaGreatDoor
set_option linter.unusedSimpArgs false
open Go.RowKit
set_option linter.unusedVariables false
end Go.Proofs.YtafadpaljanghaaGreatDoor
namespace Go.Proofs.YtafadpaljanghaaGreatDoor
set_option linter.unusedSimpArgs false
open Go.RowKit
set_option linter.unusedVariables false
end Go.Proofs.YtafadpaljanghaaGreatDoor
namespace Go.Proofs.YtafadpaljanghaaGreatDoor
set_option linter.unusedSimpArgs false
open Go.RowKit
set_option linter.unusedVariables false
end Go.Proofs.YtafadpaljanghaaGreatDoor
namespace Go.Proofs.YtafadpaljanghaaGreatDoor
set_option linter.unusedSimpArgs false
open Go.RowKit
set_option linter.unusedVariables false
end Go.Proofs.YtafadpaljanghaaGreatDoor
namespace Go.Proofs.YtafadpaljanghaaGreatDoor
set_option linter.unusedSimpArgs false
open Go.RowKit
set_option linter.unusedVariables false
theorem sgn_ge {l : List (Nat × Int)} : 0 ≤ sgn l ↔ down l ≤ up l := by
  unfold sgn
  split
  · exact ⟨fun _ => by omega, fun _ => by decide⟩
  · split
    · exact ⟨fun h => absurd h (by decide), fun h => by omega⟩
    · exact ⟨fun _ => by omega, fun _ => by decide⟩
theorem up_two (x : Int) : ∀ l : List (Nat × Int), up (l ++ [(2, x)]) = up l * 2 ^ x.toNat
  | [] => by
    rw [List.nil_append, up, up]
    split
    · rw [show x.toNat = x.natAbs by omega, Nat.mul_comm]; rfl
    · rw [show x.toNat = 0 by omega]; rfl
  | (n, k) :: l => by
    rw [List.cons_append, up, up_two x l, up]
    split
    · rw [Nat.mul_assoc]
    · rfl
theorem down_two (x : Int) : ∀ l : List (Nat × Int), down (l ++ [(2, x)]) = down l * 2 ^ (-x).toNat
  | [] => by
    rw [List.nil_append, down, down]
    split
    · rw [show (-x).toNat = 0 by omega]; rfl
    · rw [show (-x).toNat = x.natAbs by omega, Nat.mul_comm]; rfl
  | (n, k) :: l => by
    rw [List.cons_append, down, down_two x l, down]
    split
    · rfl
    · rw [Nat.mul_assoc]
theorem atM_anti {l : List (Nat × Int)} {s den m m' : Int} (hd : 1 ≤ den) (h : m ≤ m') (hs : 0 ≤ sgn (atM l s den m')) : 0 ≤ sgn (atM l s den m) := by
  rw [sgn_ge] at hs ⊢; unfold atM at hs ⊢; rw [up_two, down_two] at hs ⊢; have hmm : m * den ≤ m' * den := Int.mul_le_mul_of_nonneg_right h (by omega); rw [Int.neg_mul] at hs ⊢; rw [Int.neg_neg] at hs ⊢; generalize m * den = y at *
  generalize m' * den = y' at *
  calc down (scaled l s) * 2 ^ y.toNat ≤ down (scaled l s) * 2 ^ y'.toNat := Nat.mul_le_mul_left _ (Nat.pow_le_pow_right (by decide) (by omega))
    _ ≤ up (scaled l s) * 2 ^ (-y').toNat := hs
    _ ≤ up (scaled l s) * 2 ^ (-y).toNat := Nat.mul_le_mul_left _ (Nat.pow_le_pow_right (by decide) (by omega))
theorem FloorRes_det {l : List (Nat × Int)} {s den : Int} (hd : 1 ≤ den) {e e' : Ending} (h : FloorRes l s den (fun m => sgn (atM l s den m)) e) (h' : FloorRes l s den (fun m => sgn (atM l s den m)) e') : e = e' := by
  unfold FloorRes at h h'
  split at h
  · rename_i hc; rw [if_pos hc] at h'; rw [h, h']
  · rename_i hc; rw [if_neg hc] at h'; obtain ⟨m, _, _, h1, h2, rfl⟩ := h; obtain ⟨m', _, _, h3, h4, rfl⟩ := h'; have h2 : sgn (atM l s den (m + 1)) < 0 := h2; have h4 : sgn (atM l s den (m' + 1)) < 0 := h4; have hle : ¬ m + 1 ≤ m' := fun hlt => by have := atM_anti hd hlt h3; omega
    have hle' : ¬ m' + 1 ≤ m := fun hlt => by have := atM_anti hd hlt h1; omega
    obtain rfl : m = m' := (by omega); rfl
theorem FloorRes_shape {l : List (Nat × Int)} {s den : Int} {sg : Int → Int} {e : Ending} (h : FloorRes l s den sg e) : ∃ k b er, e = .returned (.tuple #[.int .i64 k, .bool b, .int .i64 er]) ∧ -1000000000000 ≤ k ∧ k ≤ 1000000000000 := by
  unfold FloorRes at h
  split at h
  · exact ⟨0, false, 7, h, by decide, by decide⟩
  · obtain ⟨m, h1, h2, _, _, h⟩ := h; exact ⟨m, _, 0, h, h1, by omega⟩
end Go.Proofs.YtafadpaljanghaaGreatDoor
namespace Go.Proofs.YtafadpaljanghaaGreatDoor
set_option linter.unusedSimpArgs false
open Go.RowKit
set_option linter.unusedVariables false
end Go.Proofs.YtafadpaljanghaaGreatDoor
namespace Go.Proofs.YtafadpaljanghaaGreatDoor
set_option linter.unusedSimpArgs false
open Go.RowKit
set_option linter.unusedVariables false
end Go.Proofs.YtafadpaljanghaaGreatDoor
namespace Go.Proofs.YtafadpaljanghaaGreatDoor
set_option linter.unusedSimpArgs false
set_option linter.unusedVariables false
def ftB (r : Nat) : Option (Nat × Nat) := if r = 0 then some (64, 1) else if r = 4 then some (256, 5) else if r = 7 then some (128, 3) else if r = 10 then some (256, 7) else none
def ftR (p d : Nat) : Nat × Nat := (p / Nat.gcd p d, d / Nat.gcd p d)
def ftS (n : Int) : (Nat × Nat) × Int :=
  if n < -36 ∨ 82 < n then ((0, 0), 7) else match ftB ((n + 36).toNat % 12) with
    | none => ((0, 0), 4)
    | some x => (ftR x.1 (x.2 * 2 ^ ((n + 36).toNat / 12)), 0)
def ftLe (f : Nat × Nat) (m : Int) : Bool := Nat.ble (f.1 ^ 24 * 2 ^ m.toNat) ((8 * f.2) ^ 24 * 2 ^ (-m).toNat)
def ftOk (f : Nat × Nat) : Bool := Nat.ble 1 f.2 && Nat.ble f.2 15 && Nat.ble 1 f.1 && Nat.ble f.1 (64 * f.2) && Nat.beq (Nat.gcd f.1 f.2) 1
def ftMid (f : Nat × Nat) (m : Int) : Bool := ftLe f m && !ftLe f (m + 1)
def backT (k : Nat) : Bool := match ftB (k % 12) with
  | none => true
  | some x => ftOk (ftR x.1 (x.2 * 2 ^ (k / 12))) && (ftMid (ftR x.1 (x.2 * 2 ^ (k / 12))) (2 * ((k : Int) - 36)) || ftMid (ftR x.1 (x.2 * 2 ^ (k / 12))) (2 * ((k : Int) - 36) - 1))
theorem back_all : (List.range 119).all backT = true := by decide +kernel
theorem ftOk_okF {f : Nat × Nat} (h : ftOk f = true) : okF f.1 f.2 ∧ f.1 ≤ 64 * f.2 ∧ Nat.gcd f.1 f.2 = 1 := by
  unfold ftOk at h; simp only [Bool.and_eq_true, Nat.ble_eq] at h; obtain ⟨⟨⟨⟨h1, h2⟩, h3⟩, h4⟩, h5⟩ := h; exact ⟨⟨⟨h1, h2⟩, h3, by omega⟩, h4, Nat.eq_of_beq_eq_true h5⟩
theorem ft_sgn (f : Nat × Nat) (m : Int) : 0 ≤ sgn (atM (ftL f.1 f.2) 24 1 m) ↔ ftLe f m = true := by
  rw [sgn_ge]; unfold atM ftLe; rw [up_two, down_two, Nat.ble_eq]
  have e1 : up (scaled (ftL f.1 f.2) 24) = (8 * f.2) ^ 24 := by
    unfold scaled ftL; simp [up]
  have e2 : down (scaled (ftL f.1 f.2) 24) = f.1 ^ 24 := by
    unfold scaled ftL; simp [down]
  rw [e1, e2]; simp
theorem ft_back {n : Int} (h : (ftS n).2 = 0) : okF (ftS n).1.1 (ftS n).1.2 ∧ ((ftS n).1.1 ≤ 64 * (ftS n).1.2 ∧ Nat.gcd (ftS n).1.1 (ftS n).1.2 = 1) ∧ ∃ m : Int, (m + 1) / 2 = n ∧ (-1000 ≤ m ∧ m ≤ 1000) ∧ 0 ≤ sgn (atM (ftL (ftS n).1.1 (ftS n).1.2) 24 1 m) ∧ sgn (atM (ftL (ftS n).1.1 (ftS n).1.2) 24 1 (m + 1)) < 0 := by
  unfold ftS at h ⊢
  by_cases hc : n < -36 ∨ 82 < n
  · rw [if_pos hc] at h; cases h
  · rw [if_neg hc] at h ⊢; have hk := List.all_eq_true.1 back_all (n + 36).toNat (List.mem_range.2 (by omega)); unfold backT at hk
    cases hb : ftB ((n + 36).toNat % 12) with
    | none => rw [hb] at h; cases h
    | some x =>
      rw [hb] at hk; simp only [Bool.and_eq_true, Bool.or_eq_true] at hk ⊢; rw [show (((n + 36).toNat : Nat) : Int) - 36 = n by omega] at hk; generalize ftR x.1 (x.2 * 2 ^ ((n + 36).toNat / 12)) = f at *
      obtain ⟨k1, k2⟩ := hk; obtain ⟨o1, o2, o3⟩ := ftOk_okF k1
      have key : ∀ m, ftMid f m = true → 0 ≤ sgn (atM (ftL f.1 f.2) 24 1 m) ∧ sgn (atM (ftL f.1 f.2) 24 1 (m + 1)) < 0 := fun m hm => by
        unfold ftMid at hm; rw [Bool.and_eq_true] at hm; refine ⟨(ft_sgn f m).2 hm.1, ?_⟩; rcases Int.lt_or_le (sgn (atM (ftL f.1 f.2) 24 1 (m + 1))) 0 with h1 | h1
        · exact h1
        · have h2 := hm.2; rw [(ft_sgn f (m + 1)).1 h1] at h2
          cases h2
      refine ⟨o1, ⟨o2, o3⟩, ?_⟩; rcases k2 with k2 | k2
      · exact ⟨_, by omega, by omega, key _ k2⟩
      · exact ⟨_, by omega, by omega, key _ k2⟩
end Go.Proofs.YtafadpaljanghaaGreatDoor
namespace Go.Proofs.YtafadpaljanghaaGreatDoor
set_option linter.unusedSimpArgs false
open Go.RowKit
set_option linter.unusedVariables false
def ftSg (num den : Nat) (m : Int) : Int := sgn (atM (ftL num den) 24 1 m)
noncomputable def semI (num den : Nat) : Int :=
  (Classical.epsilon (fun k : Int => ∃ b er, FloorRes (ftL num den) 24 1 (ftSg num den) (.returned (.tuple #[.int .i64 k, .bool b, .int .i64 er]))) + 1) / 2
theorem semI_of {num den : Nat} {k er : Int} {b : Bool} (h : FloorRes (ftL num den) 24 1 (ftSg num den) (.returned (.tuple #[.int .i64 k, .bool b, .int .i64 er]))) : semI num den = (k + 1) / 2 := by
  have hx : ∃ k : Int, ∃ b er, FloorRes (ftL num den) 24 1 (ftSg num den) (.returned (.tuple #[.int .i64 k, .bool b, .int .i64 er])) := ⟨k, b, er, h⟩; obtain ⟨b', er', h'⟩ := Classical.epsilon_spec hx; have e := FloorRes_det (den := 1) (by decide) h h'; unfold semI; generalize Classical.epsilon (fun k : Int => ∃ b er, FloorRes (ftL num den) 24 1 (ftSg num den) (.returned (.tuple #[.int .i64 k, .bool b, .int .i64 er]))) = k' at *
  simp at e; rw [e.1]
theorem okF_of {num den : Int} (h : vF num den) : ∃ n d : Nat, num = (n : Int) ∧ den = (d : Int) ∧ okF n d := by
  obtain ⟨⟨h1, h2⟩, ⟨h3, h4⟩, _⟩ := h; obtain ⟨n, rfl⟩ := Int.eq_ofNat_of_zero_le (show 0 ≤ num by omega); obtain ⟨d, rfl⟩ := Int.eq_ofNat_of_zero_le (show 0 ≤ den by omega); exact ⟨n, d, rfl, rfl, ⟨by omega, by omega⟩, by omega, by omega⟩
theorem ft_floor (A : Option Addr) (c num den : Nat) (w : World) (h : okF num den) (hl : TR w A 2 (ftL num den)) :
    Calls Tryz.prog 56 #[.slice A 2 c, .int .i64 1, .int .i64 24] w fun e w' => FloorRes (ftL num den) 24 1 (ftSg num den) e ∧ Below w.heap.size w w' :=
  Floor_any A 2 c (ftL num den) 1 24 (ftSg num den) w hl (ftL_ok h) (by decide) (by decide) (by decide) (by decide) fun m h1 h2 => sign_of _ 256 (ft_sg h h1 h2)
theorem ftL_mem (W : World) (T : TypeId) (num den : Nat) : TR (W.alloc (.cells #[.int .i64 (8 * (den : Int)), .int .i64 1, .int .i64 (num : Int), .int .i64 (-1)] T)) (some ⟨W.heap.size, 0, none⟩) 2 (ftL num den) := by
  refine ⟨rfl, rfl, fun _ => ⟨_, rfl, by simp, fun j u hj => ?_⟩⟩; have hb := Blk.new W T #[.int .i64 (8 * (den : Int)), .int .i64 1, .int .i64 (num : Int), .int .i64 (-1)]
  have e : (⟨W.heap.size, 0, none⟩ : Addr).add j = ⟨W.heap.size, j, none⟩ := by
    unfold Addr.add
    by_cases h : j = 0
    · subst h; simp
    · simp [h]
  rw [e, hb.cell]; simpa [flat, ftL] using hj
theorem shr1 (k : Int) : k >>> 1 = k / 2 := by rw [Int.shiftRight_eq_div_pow]; rfl
set_option maxHeartbeats 1600000 in
set_option maxRecDepth 100000 in
theorem semi_any (num den : Nat) (h : okF num den) (w : World) : Calls Tryz.prog 25 #[.agg #[.int .i64 (num : Int), .int .i64 (den : Int)]] w fun e w' => e = .returned (.int .i64 (semI num den)) ∧ Below w.heap.size w w' := by
  have X0 := Blk.new w 23 #[.int .i64 (num : Int), .int .i64 (den : Int)]; have hu := (Below.refl w.heap.size w).alloc (Nat.le_refl _) (.cells #[.int .i64 (num : Int), .int .i64 (den : Int)] 23); have hT := ftL_mem (w.alloc (.cells #[.int .i64 (num : Int), .int .i64 (den : Int)] 23)) 69 num den; rw [show (w.alloc (.cells #[.int .i64 (num : Int), .int .i64 (den : Int)] 23)).heap.size = w.heap.size + 1 by simp] at hT; have HU : Sl _ := ⟨hu.alloc (by simp) (.cells #[.int .i64 (8 * (den : Int)), .int .i64 1, .int .i64 (num : Int), .int .i64 (-1)] 69)⟩; have HF : Sl _ := ⟨ft_floor _ 2 num den _ h hT⟩; have hb1 : (den : Int) ≤ 15 ∧ (num : Int) ≤ 960 := (by have := h.1; have := h.2; omega); have hw8 : IntKind.i64.wrap (8 * (den : Int)) = 8 * (den : Int) := (by rw [IntKind.wrap_i64]; omega); clear hu X0 hT h; go_enter Tryz.func25, Tryz.ntmps25; go_wp2_with fail; refine HF.out.mono ?_; rintro e w1 ⟨hr, hb⟩; obtain ⟨k, b, er, rfl, hk1, hk2⟩ := FloorRes_shape hr; have HS : Sl (semI num den = (k + 1) / 2) := ⟨semI_of hr⟩; have HB : Sl _ := ⟨hb⟩; have hkw : IntKind.i64.wrap (k + 1) = k + 1 := (by rw [IntKind.wrap_i64]; omega); clear hr hb HF; go_wp2_with fail; go_ret; refine ⟨?_, HU.out.trans (HB.out.mono HU.out.size)⟩; rw [HS.out, ← shr1]
  first | rfl | (congr 3; done) | (simp; done) | (rw [shr1]; simp; omega)
noncomputable def SmV (num den : Int) : Int × Int := if vF num den then (semI num.toNat den.toNat, 0) else (0, 2)
set_option maxHeartbeats 1600000 in
set_option maxRecDepth 100000 in
theorem Semi_any (num den : Int) (w : World) : Calls Tryz.prog 8 #[.agg #[.int .i64 num, .int .i64 den]] w fun e w' => e = .returned (.tuple #[.int .i64 (SmV num den).1, .int .i64 (SmV num den).2]) ∧ Below w.heap.size w w' := by
  have X0 := Blk.new w 23 #[.int .i64 num, .int .i64 den]; have hu := (Below.refl w.heap.size w).alloc (Nat.le_refl _) (.cells #[.int .i64 num, .int .i64 den] 23); have HF : Sl _ := ⟨fun W : World => feet_any num den W⟩; have HU : Sl _ := ⟨hu⟩; have HX : Sl _ := ⟨X0⟩; clear hu X0
  by_cases hv : vF num den
  · have HV : Sl (SmV num den = (semI num.toNat den.toNat, 0)) := ⟨by unfold SmV; rw [if_pos hv]⟩; rw [if_pos hv] at HF
    have HS : Sl (∀ W : World, Calls Tryz.prog 25 #[.agg #[.int .i64 num, .int .i64 den]] W fun e w' => e = .returned (.int .i64 (semI num.toNat den.toNat)) ∧ Below W.heap.size W w') := ⟨fun W => by
      obtain ⟨n, d, e1, e2, hk⟩ := okF_of hv; subst e1 e2
      simpa using semi_any n d hk W⟩
    clear hv; go_enter Tryz.func8, Tryz.ntmps8; go_wp2_with fail; generalize w.alloc (.cells #[.int .i64 num, .int .i64 den] 23) = w0 at *
    refine (HF.out w0).mono ?_; rintro e w1 ⟨⟨s, rfl⟩, hb⟩; have X1 := HX.out.below hb HX.out.lt; have x0 := X1.cell 0; have x1 := X1.cell 1; simp at x0 x1; have HB : Sl _ := ⟨hb⟩; clear hb X1; go_wp2_with fail; refine (HS.out w1).mono ?_; rintro e w2 ⟨rfl, hb2⟩; have HB2 : Sl _ := ⟨hb2⟩; clear hb2 x0 x1; go_wp2_with fail; go_ret2; have h1 := HU.out.trans (HB.out.mono HU.out.size); exact ⟨by rw [HV.out]; rfl, h1.trans (HB2.out.mono h1.size)⟩
  · have HV : Sl (SmV num den = (0, 2)) := ⟨by unfold SmV; rw [if_neg hv]⟩; rw [if_neg hv] at HF; clear hv; go_enter Tryz.func8, Tryz.ntmps8; go_wp2_with fail; generalize w.alloc (.cells #[.int .i64 num, .int .i64 den] 23) = w0 at *
    refine (HF.out w0).mono ?_; rintro e w1 ⟨⟨s, rfl⟩, hb⟩; have HB : Sl _ := ⟨hb⟩; clear hb; go_wp2_with fail; go_ret2; have h1 := HU.out.trans (HB.out.mono HU.out.size); exact ⟨by rw [HV.out]; rfl, h1⟩
end Go.Proofs.YtafadpaljanghaaGreatDoor
namespace Go.Proofs.YtafadpaljanghaaGreatDoor
set_option linter.unusedSimpArgs false
open Go.RowKit
set_option linter.unusedVariables false
def rkP (R : List RkV) (us : List Int) (p : Nat) : RkV := R[(gt us p).toNat]?.getD rk0
noncomputable def ruP (x : Mx) (R : List RkV) (us : List Int) (p : Nat) : List Rn := x.runs p (semI (rkP R us p).num.toNat (rkP R us p).den.toNat) x.n
noncomputable def partE (x : Mx) (R : List RkV) (us : List Int) : Int :=
  if x.chk ≠ 0 then x.chk else if us.length ≠ x.lng x.n then 2 else if anyI (smBad R) us us.length = true then 2
  else if anyI (fun k => !inI R.length k) us us.length = true then 4
  else if ptsE (rkP R us) (ruP x R us) us.length ≠ 0 then ptsE (rkP R us) (ruP x R us) us.length
  else if 12 < (pts us (ruP x R us) us.length).length then 3 else 0
inductive PartR (x : Mx) (R : List RkV) (us : List Int) (B : Nat) (e : Ending) (w : World) : Prop
  | bad {E : Int} (h : partE x R us = E) (h0 : E ≠ 0) (he : e = .returned (.tuple #[.slice none 0 0, .int .i64 E]))
  | ok {v : Value} (h : partE x R us = 0) (he : e = .returned (.tuple #[v, .int .i64 0])) (ho : w.ownsRow B tPt 4 v (pts us (ruP x R us) us.length).length ((pts us (ruP x R us) us.length).flatMap ptC))
set_option maxHeartbeats 3200000 in
set_option maxRecDepth 100000 in
theorem semi2_any (num den : Nat) (h : okF num den) (w : World) : Calls Tryz.prog 25 #[.agg #[.int .i64 (num : Int), .int .i64 (den : Int)]] w fun e w' => e = .returned (.int .i64 (semI num den)) ∧ Below w.heap.size w w' ∧ (-1000000000000 ≤ semI num den ∧ semI num den ≤ 1000000000000) := by
  have X0 := Blk.new w 23 #[.int .i64 (num : Int), .int .i64 (den : Int)]; have hu := (Below.refl w.heap.size w).alloc (Nat.le_refl _) (.cells #[.int .i64 (num : Int), .int .i64 (den : Int)] 23); have hT := ftL_mem (w.alloc (.cells #[.int .i64 (num : Int), .int .i64 (den : Int)] 23)) 69 num den; rw [show (w.alloc (.cells #[.int .i64 (num : Int), .int .i64 (den : Int)] 23)).heap.size = w.heap.size + 1 by simp] at hT; have HU : Sl _ := ⟨hu.alloc (by simp) (.cells #[.int .i64 (8 * (den : Int)), .int .i64 1, .int .i64 (num : Int), .int .i64 (-1)] 69)⟩; have HF : Sl _ := ⟨ft_floor _ 2 num den _ h hT⟩; have hb1 : (den : Int) ≤ 15 ∧ (num : Int) ≤ 960 := (by have := h.1; have := h.2; omega); have hw8 : IntKind.i64.wrap (8 * (den : Int)) = 8 * (den : Int) := (by rw [IntKind.wrap_i64]; omega); clear hu X0 hT h; go_enter Tryz.func25, Tryz.ntmps25; go_wp2_with fail; refine HF.out.mono ?_; rintro e w1 ⟨hr, hb⟩; obtain ⟨k, b, er, rfl, hk1, hk2⟩ := FloorRes_shape hr; have HS : Sl (semI num den = (k + 1) / 2) := ⟨semI_of hr⟩; have HB : Sl _ := ⟨hb⟩; have hkw : IntKind.i64.wrap (k + 1) = k + 1 := (by rw [IntKind.wrap_i64]; omega); clear hr hb HF; go_wp2_with fail; go_ret; refine ⟨?_, HU.out.trans (HB.out.mono HU.out.size), by rw [HS.out]; omega⟩; rw [HS.out, ← shr1]
  first | rfl | (congr 3; done) | (simp; done) | (rw [shr1]; simp; omega)
theorem anyI_false {P : Int → Bool} {l : List Int} {n : Nat} (h : anyI P l n = false) : ∀ j, j < n → P (gt l j) = false := fun j hj => by
  unfold anyI at h; rw [List.any_eq_false] at h; have := h j (List.mem_range.2 hj); simpa using this
theorem place_ok {R : List RkV} {us : List Int} {q m : Nat} (h1 : anyI (smBad R) us q = false) (h2 : anyI (fun k => !inI m k) us q = false) (hl : R.length = m) : ∀ p, p < q → (0 ≤ gt us p ∧ gt us p < (m : Int)) ∧ vF (rkP R us p).num (rkP R us p).den := fun p hp => by
  have a1 := anyI_false h1 p hp; have a2 := anyI_false h2 p hp; have a3 : inI m (gt us p) = true := (by simpa using a2); refine ⟨inI_true a3, ?_⟩; unfold smBad at a1; rw [hl, a3, Bool.true_and] at a1
  by_cases h : vF (rkP R us p).num (rkP R us p).den
  · exact h
  · exfalso; have e : ftE (rkP R us p).num (rkP R us p).den = 2 := if_neg h; unfold rkP at e; rw [e] at a1
    cases a1
def RnB (r : Rn) : Prop := 0 ≤ r.1 ∧ r.1 ≤ r.2.1 ∧ r.2.1 ≤ 127
theorem rst_bd {out : List Rn} {f t s : Int} (h : ∀ r ∈ out, RnB r) (h0 : 0 ≤ f) (h1 : f ≤ t) (h2 : t ≤ 127) : ∀ r ∈ rst out f t s, RnB r := by
  rcases List.eq_nil_or_concat out with rfl | ⟨o, ⟨f', t', s'⟩, rfl⟩
  · rw [rst_nil]; intro r hr; simp at hr; subst hr; exact ⟨h0, h1, h2⟩
  · rw [List.concat_eq_append] at h ⊢; have hl := h (f', t', s') (by simp); unfold RnB at hl; simp only [] at hl; rw [rst_snoc]; intro r hr
    split at hr
    · rename_i hc; rcases List.mem_append.1 hr with hr | hr
      · exact h r (List.mem_append_left _ hr)
      · simp at hr; subst hr; exact ⟨hl.1, by show f' ≤ t; omega, h2⟩
    · rcases List.mem_append.1 hr with hr | hr
      · exact h r hr
      · simp at hr; subst hr; exact ⟨h0, h1, h2⟩
theorem Mx.Fine.runs_bd {x : Mx} (h : x.Fine) (p : Nat) (own : Int) : ∀ i, i ≤ x.n → ∀ r ∈ x.runs p own i, RnB r
  | 0, _, r, hr => by cases hr
  | i+1, hi, r, hr => by
    have ih := h.runs_bd p own i (by omega); have hf := h.fr_bd (i := i) (by omega); have hl := h.last_bd (i := i) (by omega); have hg := h.ord.last_ge (i := i) (by omega); rw [Mx.runs] at hr
    split at hr
    · exact rst_bd ih hf.1 hg hl.2 r hr
    · exact ih r hr
theorem ptOf_at {ru : List Rn} {k : Int} {t : Nat} {y : PtV} (h : (ru.map (ptOf k))[t]? = some y) : ∃ f t' s, ru[t]? = some (f, t', s) ∧ y = (k, s, f, t') := by
  rw [List.getElem?_map] at h; rcases hr : ru[t]? with _ | ⟨f, t', s⟩
  · rw [hr] at h; cases h
  · rw [hr] at h; injection h with h
    exact ⟨f, t', s, rfl, h.symm⟩
theorem ptC_one (l : List PtV) : ∀ u ∈ l.flatMap ptC, u.oneCell' = true := fun u hu => by
  obtain ⟨y, _, hu⟩ := List.mem_flatMap.1 hu; simp only [ptC, List.mem_cons, List.not_mem_nil, or_false] at hu; rcases hu with rfl | rfl | rfl | rfl <;> rfl
theorem addrP_z (ad : Addr) : ad.add 0 = ad := by simp [Addr.add]
theorem addrP_k (ad : Addr) (k : Nat) : ad.add (k + 1) = ⟨ad.block, ad.off + (k + 1), none⟩ := by simp [Addr.add]
theorem pts_few {x : Mx} (hF : x.Fine) {R : List RkV} {us : List Int} : ∀ p, (pts us (ruP x R us) p).length ≤ 12 * p
  | 0 => Nat.le_refl _
  | p+1 => by
    rw [pts, List.length_append, List.length_map]; have h1 := pts_few hF (R := R) (us := us) p; have h2 : (ruP x R us p).length ≤ x.n := x.runs_len p _ x.n; have h3 := hF.n1; omega
set_option maxHeartbeats 6400000 in
set_option maxRecDepth 100000 in
theorem partsP_any (a b : Int) (A : Option Addr) (n c : Nat) (L : List Bk) (B : Option Addr) (m d : Nat) (R : List RkV) (C : Option Addr) (q f : Nat) (us : List Int) (w : World) (hM : MXA w A n c L) (ha : i64 a) (hb : i64 b) (hR : RKS w B m R) (hm : m ≤ 9223372036854775807) (hU : II w C q us) (hq : q ≤ 9223372036854775807) :
    Calls Tryz.prog 13 #[.agg #[.int .i64 a, .int .i64 b, .slice A n c], .slice B m d, .slice C q f] w fun e w' => PartR (mxO a b L) R us w.heap.size e w' ∧ Below w.heap.size w w' := by
  have hmf : ∀ (fn : Fn) (first cap : Array Value) (w : World), (Instr.makeFunc fn first cap).run Tryz.prog w = .ok (.func fn first cap) w := fun _ _ _ _ => rfl
  have HU : Sl (Below w.heap.size w ((w.alloc (.cells #[.int .i64 a, .int .i64 b, .slice A n c] 34)).alloc (.cells #[.slice B m d] 35))) := ⟨((Below.refl _ _).alloc (Nat.le_refl _) _).alloc (by simp) _⟩; have HBK : Sl _ := ⟨Blk.alloc (Blk.new w 34 #[.int .i64 a, .int .i64 b, .slice A n c]) (.cells #[.slice B m d] 35)⟩; have HBR : Sl (Blk ((w.alloc (.cells #[.int .i64 a, .int .i64 b, .slice A n c] 34)).alloc (.cells #[.slice B m d] 35)) (w.heap.size + 1) 35 #[.slice B m d]) := ⟨by have h := Blk.new (w.alloc (.cells #[.int .i64 a, .int .i64 b, .slice A n c] 34)) 35 #[.slice B m d]; simpa using h⟩; have HM : Sl _ := ⟨hM.below HU.out⟩; have HRK : Sl _ := ⟨hR.below HU.out⟩; have HUS : Sl _ := ⟨II.below hU HU.out⟩; have HCK : Sl _ := ⟨Check_any a b A n c L _ HM.out ha hb⟩; have HL : Sl (L.length = n) := ⟨hM.mx.len⟩; have HUL : Sl (us.length = q) := ⟨hU.1⟩; clear hM ha hb hR hU; obtain ⟨i2, z2, hi0, hz0, hz1, hz2, hz3⟩ := infoPae; have HI : Sl _ := ⟨And.intro hi0 (And.intro hz0 (And.intro hz1 (And.intro hz2 hz3)))⟩; clear hi0 hz0 hz1 hz2 hz3; obtain ⟨r, hr⟩ : ∃ r, (mxO a b L).chk = r := ⟨_, rfl⟩; rw [hr] at HCK; obtain ⟨x, hx⟩ : ∃ x, mxO a b L = x := ⟨_, rfl⟩; rw [hx] at hr ⊢; have HR : Sl _ := ⟨hr⟩; have HX : Sl _ := ⟨hx⟩; clear hx hr; go_enter Tryz.func13, Tryz.ntmps13; go_wp2_with fail; generalize (w.alloc (.cells #[.int .i64 a, .int .i64 b, .slice A n c] 34)).alloc (.cells #[.slice B m d] 35) = w0 at *
  refine HCK.out.mono ?_; rintro e w1 ⟨rfl, hb⟩; replace HU : Sl (Below w.heap.size w w1) := ⟨HU.out.trans (hb.mono HU.out.size)⟩; replace HBK : Sl (Blk w1 w.heap.size _ _) := ⟨HBK.out.below hb HBK.out.lt⟩; replace HBR : Sl (Blk w1 (w.heap.size + 1) _ _) := ⟨HBR.out.below hb HBR.out.lt⟩; replace HM : Sl (MXA w1 A n c L) := ⟨HM.out.below hb⟩; replace HRK : Sl (RKS w1 B m R) := ⟨HRK.out.below hb⟩; replace HUS : Sl (II w1 C q us) := ⟨II.below HUS.out hb⟩; clear hb HCK
  by_cases h0 : r = 0
  · have h0b : (r != 0) = false := (by rw [h0]; rfl); have HCH : Sl (x.chk = 0) := ⟨by rw [HR.out, h0]⟩; have HF : Sl x.Fine := ⟨Mx.fine (Mx.chk_ok HCH.out).1⟩; have HXN : Sl (x.n = n) := ⟨by rw [← HX.out]; exact HL.out⟩; have hn12 : n ≤ 12 := (by rw [← HXN.out]; exact HF.out.n1); have c0 := HBK.out.cell 0; have c1 := HBK.out.cell 1; have c2 := HBK.out.cell 2; simp at c0 c1 c2; clear HR; go_wp2_with fail
    go_loopw [9, 11, 27] (fun s9 s11 s27 wr => ∃ (i : Nat) (v11 : Value), i ≤ n ∧ s27 = .int .i64 i ∧ s9 = .int .i64 (x.lng i : Nat) ∧ s11 = v11 ∧ Sl (Below w1.heap.size w1 wr)) (fun _ _ s27 _ => n - (RowKit.intOf s27).toNat)
    case atStart => exact ⟨0, _, Nat.zero_le _, rfl, rfl, rfl, ⟨Below.refl _ _⟩⟩
    case round =>
      clear c0 c1 c2; obtain ⟨i, v11, hi, rfl, rfl, rfl, HQ⟩ := hrel
      by_cases hin : i < n
      · have hiI : (i : Int) < (n : Int) := (by omega); have hid : decide ((i : Int) < (n : Int)) = true := decide_eq_true hiI; obtain ⟨bk, hbk⟩ : ∃ bk, L[i]? = some bk := ⟨_, List.getElem?_eq_getElem (by rw [HL.out]; exact hin)⟩; have hmw := HM.out.below HQ.out; obtain ⟨ad, rfl, _, p1, p2⟩ := hmw.mx.cells2 hbk; have hat := mxO_at (a := a) (b := b) hbk; rw [HX.out] at hat; have hii := hmw.mx.rk bk (List.mem_of_getElem? hbk); obtain ⟨fr, BA, bn, bc, bl⟩ := bk; simp only [] at p1 p2 hat hii; have HLN : Sl (x.lng (i + 1) = max (x.lng i) bn) := ⟨by rw [Mx.lng, hat.2, hii.1]⟩; have hlb : x.lng i ≤ 8 := Mx.lng_le fun j hj => HF.out.k1 j (by rw [HXN.out]; omega)
        obtain ⟨mx, hmx⟩ : ∃ z, x.lng i = z := ⟨_, rfl⟩; rw [hmx] at hlb HLN ⊢; have hmxI : max (mx : Int) (bn : Int) = ((max mx bn : Nat) : Int) := (by omega); clear hii hmw hbk hat hmx; go_wp2_with fail; exact ⟨⟨i + 1, _, hin, by go_num, by rw [HLN.out], rfl, ⟨HQ.out.alloc HQ.out.size _⟩⟩, by simp [RowKit.intOf]; omega⟩
      · obtain rfl : i = n := (by omega); have hid : decide ((i : Int) < (i : Int)) = false := decide_eq_false (by omega); have hiI : ¬ (i : Int) < (i : Int) := (by omega); obtain ⟨mx, hmx⟩ : ∃ z, x.lng i = z := ⟨_, rfl⟩; have HMX : Sl (x.lng x.n = mx) := ⟨by rw [HXN.out]; exact hmx⟩; rw [hmx]; clear hmx
        by_cases hq0 : q = mx
        · subst hq0; have hqb : ((q : Int) != (q : Int)) = false := (by simp); have HE1 : Sl (us.length = x.lng x.n) := ⟨by rw [HUL.out, HMX.out]⟩
          have HE2 : Sl (partE x R us = if anyI (smBad R) us q = true then 2 else if anyI (fun k => !inI m k) us q = true then 4 else if ptsE (rkP R us) (ruP x R us) q ≠ 0 then ptsE (rkP R us) (ruP x R us) q else if 12 < (pts us (ruP x R us) q).length then 3 else 0) := ⟨by
            unfold partE; rw [if_neg (by rw [HCH.out]; decide), if_neg (by rw [HE1.out]; simp), HUL.out, HRK.out.len]⟩
          go_wp2_with fail; have HW2 : Sl (Below w1.heap.size w1 (wr.alloc (.cells #[.func (.func 32) #[] #[.pointer (some ⟨w.heap.size + 1, 0, none⟩)]] 31))) := ⟨HQ.out.alloc HQ.out.size _⟩; have HPF : Sl (Blk (wr.alloc (.cells #[.func (.func 32) #[] #[.pointer (some ⟨w.heap.size + 1, 0, none⟩)]] 31)) wr.heap.size 31 #[.func (.func 32) #[] #[.pointer (some ⟨w.heap.size + 1, 0, none⟩)]]) := ⟨Blk.new _ _ _⟩; obtain ⟨gf, hgf⟩ : ∃ g, wr.heap.size = g := ⟨_, rfl⟩; rw [hgf] at HPF ⊢; have HGF : Sl (w1.heap.size ≤ gf) := ⟨by rw [← hgf]; exact HQ.out.size⟩; clear hgf; generalize wr.alloc (.cells #[.func (.func 32) #[] #[.pointer (some ⟨w.heap.size + 1, 0, none⟩)]] 31) = w2 at *
          have HB2 : Sl (Blk w2 (w.heap.size + 1) 35 #[.slice B m d]) := ⟨HBR.out.below HW2.out HBR.out.lt⟩; have HS1 : Sl _ := ⟨hasSmRk_any C q f us ⟨gf, 0, none⟩ ⟨w.heap.size + 1, 0, none⟩ B m d R w2 HPF.out.lt HB2.out.lt (by rw [HPF.out.cell]; rfl) (by rw [HB2.out.cell]; rfl) hm (HRK.out.below HW2.out) (II.below HUS.out HW2.out) hq⟩; obtain ⟨s1, hs1⟩ : ∃ b, anyI (smBad R) us q = b := ⟨_, rfl⟩; rw [hs1] at HS1 HE2; have HSMB : Sl _ := ⟨hs1⟩; clear hs1; refine HS1.out.mono ?_; rintro e w3 ⟨rfl, hb3⟩; have HPF3 : Sl _ := ⟨HPF.out.below hb3 HPF.out.lt⟩; have HB3 : Sl _ := ⟨HB2.out.below hb3 HB2.out.lt⟩; have HW3 : Sl (Below w1.heap.size w1 w3) := ⟨HW2.out.trans (hb3.mono HW2.out.size)⟩; clear hb3 HPF HB2 HS1 HW2
          cases s1
          · have HS3 : Sl _ := ⟨hasOutRk_any C q f us ⟨gf, 0, none⟩ ⟨w.heap.size + 1, 0, none⟩ B m d w3 (by rw [HPF3.out.cell]; rfl) (by rw [HB3.out.cell]; rfl) hm (II.below HUS.out HW3.out) hq⟩; obtain ⟨s3, hs3⟩ : ∃ b, anyI (fun k => !inI m k) us q = b := ⟨_, rfl⟩; rw [hs3] at HS3 HE2; have HALL : Sl _ := ⟨hs3⟩; clear hs3; go_wp2_with fail; refine HS3.out.mono ?_; rintro e w4 ⟨rfl, rfl⟩
            cases s3
            · have HPL : Sl _ := ⟨place_ok HSMB.out HALL.out HRK.out.len⟩; go_wp2_with fail
              go_loopw [13, 14, 15, 16, 18, 50, 66] (fun s13 s14 s15 s16 s18 s50 s66 wr => ∃ (p : Nat) (v v14 v15 v16 v18 v66 : Value), p ≤ q ∧ s50 = .int .i64 p ∧ v = s13 ∧ s14 = v14 ∧ s15 = v15 ∧ s16 = v16 ∧ s18 = v18 ∧ s66 = v66 ∧ Sl (ptsE (rkP R us) (ruP x R us) p = 0 ∧ wr.ownsRow w4.heap.size tPt 4 v (pts us (ruP x R us) p).length ((pts us (ruP x R us) p).flatMap ptC) ∧ Below w4.heap.size w4 wr)) (fun _ _ _ _ _ s50 _ _ => q - (RowKit.intOf s50).toNat)
              case atStart => exact ⟨0, _, _, _, _, _, _, Nat.zero_le _, rfl, rfl, rfl, rfl, rfl, rfl, rfl, ⟨rfl, World.ownsRow_nil _ _ _ _, Below.refl _ _⟩⟩
              case round =>
                obtain ⟨p, v, v14, v15, v16, v18, v66, hp, rfl, rfl, rfl, rfl, rfl, rfl, rfl, HP⟩ := hrel
                by_cases hpq : p < q
                · have hpI : (p : Int) < (q : Int) := (by omega); have hpd : decide ((p : Int) < (q : Int)) = true := decide_eq_true hpI
                  have hq8 : q ≤ 8 := by
                    have h1 := HE1.out; rw [HUL.out] at h1; have h2 : x.lng x.n ≤ 8 := Mx.lng_le fun j hj => HF.out.k1 j hj
                    omega
                  obtain ⟨hkb, hvf⟩ := HPL.out p hpq; have HWr : Sl (Below w1.heap.size w1 wr) := ⟨HW3.out.trans (HP.out.2.2.mono HW3.out.size)⟩; obtain ⟨au, hau, _, cu⟩ := (II.below HUS.out HWr.out).cell (j := p) hpq; subst hau; obtain ⟨kn, hkn⟩ := Int.eq_ofNat_of_zero_le hkb.1; rw [hkn] at hkb cu; have hkm : kn < m := (by omega); have hkmI : (kn : Int) < (m : Int) := hkb.2; obtain ⟨ar, rr, hB, hri, _, _, c2, c3, c4, c5⟩ := (HRK.out.below HWr.out).cells hkm; subst hB; have HRP : Sl (rkP R us p = rr) := ⟨by unfold rkP; rw [hkn, Int.toNat_natCast, hri]; rfl⟩; rw [HRP.out] at hvf; obtain ⟨nu, de, hnu, hde, hok⟩ := okF_of hvf; have HRU : Sl (ruP x R us p = x.runs p (semI nu de) x.n) := ⟨by unfold ruP; rw [HRP.out, hnu, hde, Int.toNat_natCast, Int.toNat_natCast]⟩; rw [hnu] at c2; rw [hde] at c3; have d2 : wr.cell? ⟨(ar.add (kn * 6)).block, (ar.add (kn * 6)).off + 2, none⟩ = some (.int .i64 (nu : Int)) := c2; have d3 : wr.cell? ⟨(ar.add (kn * 6)).block, (ar.add (kn * 6)).off + 2 + 1, none⟩ = some (.int .i64 (de : Int)) := c3; have HSM : Sl _ := ⟨fun W : World => semi2_any nu de hok W⟩
                  have HBX : Sl (∀ W : World, Below w1.heap.size w1 W → W.cell? ⟨w.heap.size + 1, 0, none⟩ = some (.slice (some ar) m d) ∧ W.cell? ⟨(ar.add (kn * 6)).block, (ar.add (kn * 6)).off + 4, none⟩ = some (.int .i64 rr.low) ∧ W.cell? ⟨(ar.add (kn * 6)).block, (ar.add (kn * 6)).off + 5, none⟩ = some (.int .i64 rr.cnt)) := ⟨fun W h => by
                    have e := HBR.out.below h HBR.out.lt; obtain ⟨ar', rr', e1, hr', _, _, _, _, k4, k5⟩ := (HRK.out.below h).cells hkm; injection e1 with e1
                    subst e1; have e2 : rr' = rr := (by rw [hri] at hr'; injection hr' with hr'; exact hr'.symm); subst e2
                    exact ⟨by rw [e.cell]; rfl, k4, k5⟩⟩
                  obtain ⟨e0, _, _⟩ := HBX.out wr HWr.out; have HK0 : Sl (gt us p = (kn : Int)) := ⟨hkn⟩; obtain ⟨own, hown⟩ : ∃ o, semI nu de = o := ⟨_, rfl⟩; rw [hown] at HSM HRU; clear hkn hkb c2 c3 c4 c5 hri hvf hnu hde hok hown; go_wp2_with fail; refine (HSM.out _).mono ?_; rintro e w5 ⟨rfl, hb5, hob⟩; have HW5 : Sl (Below w1.heap.size w1 w5) := ⟨HWr.out.trans (hb5.mono HWr.out.size)⟩; have HO5 : Sl (w5.ownsRow w4.heap.size tPt 4 v (pts us (ruP x R us) p).length ((pts us (ruP x R us) p).flatMap ptC)) := ⟨own_mv HP.out.2.1 (Mv.of_below hb5) (fun z hz => by have := (HP.out.2.1.lt z hz).2; omega)⟩; have HX5 : Sl (Below w4.heap.size w4 w5) := ⟨HP.out.2.2.trans (hb5.mono HP.out.2.2.size)⟩; have HPE : Sl (ptsE (rkP R us) (ruP x R us) p = 0) := ⟨HP.out.1⟩; have HRN : Sl _ := ⟨mruns_any w.heap.size a b A i c L x HX.out p (kn : Int) own w5 (HBK.out.below HW5.out HBK.out.lt) (HM.out.below HW5.out) HF.out (by omega) hob⟩; clear hb5 hob HSM HP e0 cu d2 d3; go_wp2_with fail; refine HRN.out.mono ?_; rintro e w6 ⟨⟨v16', rfl, hown6⟩, hb6⟩; have HW6 : Sl (Below w1.heap.size w1 w6) := ⟨HW5.out.trans (hb6.mono HW5.out.size)⟩; have HO6 : Sl (w6.ownsRow w4.heap.size tPt 4 v (pts us (ruP x R us) p).length ((pts us (ruP x R us) p).flatMap ptC)) := ⟨own_mv HO5.out (Mv.of_below hb6) (fun z hz => by have := (HO5.out.lt z hz).2; omega)⟩; have HX6 : Sl (Below w4.heap.size w4 w6) := ⟨HX5.out.trans (hb6.mono HX5.out.size)⟩; obtain ⟨A6, c6, e6, hrd⟩ := own_slice2 hown6; subst e6; have HBD : Sl (∀ y ∈ x.runs p own x.n, RnB y) := ⟨HF.out.runs_bd p own x.n (Nat.le_refl _)⟩; have HNL : Sl ((x.runs p own x.n).length ≤ 12) := ⟨by have := x.runs_len p own x.n; rw [HXN.out] at this ⊢; omega⟩; obtain ⟨ru, hru⟩ : ∃ l, x.runs p own x.n = l := ⟨_, rfl⟩; rw [hru] at HBD HNL hrd HRU ⊢; obtain ⟨nl, hnl⟩ : ∃ z, ru.length = z := ⟨_, rfl⟩; rw [hnl] at HNL hrd ⊢; have HNL2 : Sl _ := ⟨hnl⟩; have hnl12 := HNL.out; have HRD : Sl _ := ⟨hrd⟩; clear hrd hown6 hb6 hru hnl HRN HO5 HX5 HNL; go_wp2_with fail
                  go_loopw [18, 66] (fun s18 s66 wq => ∃ (t : Nat) (v18 : Value), t ≤ nl ∧ s66 = .int .i64 t ∧ s18 = v18 ∧ Sl ((∀ j y, j < t → ru[j]? = some y → rnE rr y = 0) ∧ Below w6.heap.size w6 wq)) (fun _ s66 _ => nl - (RowKit.intOf s66).toNat)
                  case atStart => exact ⟨0, _, Nat.zero_le _, rfl, rfl, ⟨fun j y hj => absurd hj (Nat.not_lt_zero _), Below.refl _ _⟩⟩
                  case round =>
                    obtain ⟨t, v18, ht, rfl, rfl, HT⟩ := hrel; have HWq : Sl (Below w1.heap.size w1 wr) := ⟨HW6.out.trans (HT.out.2.mono HW6.out.size)⟩
                    by_cases htn : t < nl
                    · have htI : (t : Int) < (nl : Int) := (by omega); have htd : decide ((t : Int) < (nl : Int)) = true := decide_eq_true htI; obtain ⟨al, y, hA6, hy, hc⟩ := flatS_cells ((HRD.out.below HT.out.2)) (fun _ => rfl) (by rw [List.length_map]; exact HNL2.out) htn; subst hA6; obtain ⟨f, t', s, hrt, hye⟩ := ptOf_at hy; subst hye; have y0 := hc 0 _ rfl; have y1 := hc 1 _ rfl; have y2 := hc 2 _ rfl; have y3 := hc 3 _ rfl; rw [addrP_z] at y0; rw [addrP_k] at y1 y2 y3; have hbd := HBD.out _ (List.mem_of_getElem? hrt); unfold RnB at hbd; simp only [] at hbd; have HRT : Sl _ := ⟨hrt⟩; clear hc hy hrt
                      have HER : Sl (∀ E : Int, rnE rr (f, t', s) = E → E ≠ 0 → partE x R us = E) := ⟨fun E h1 h2 => by
                        have a1 : rnsE (rkP R us p) (ruP x R us p) = E := (by rw [HRP.out, HRU.out, rnsE_hit HT.out.1 HRT.out (by rw [h1]; exact h2), h1]); have a2 := ptsE_hit HPE.out (by rw [a1]; exact h2) hpq; rw [a1] at a2; rw [HE2.out, a2]
                        simp [h2]⟩
                      have HHP : Sl (rr.hasP (f + s) (t' + s) = (rr.has (f + s) && rr.has (t' + s))) := ⟨RkV.hasP_has (by omega)⟩; have HRE : Sl (rnE rr (f, t', s) = if s < -96 ∨ 96 < s then 7 else if (rr.has (f + s) && rr.has (t' + s)) = true then 0 else 4) := ⟨rfl⟩; have HWZ : Sl (Below w6.heap.size w6 (wr.alloc (.cells #[.int .i64 (kn : Int), .int .i64 s, .int .i64 f, .int .i64 t'] tPt))) := ⟨HT.out.2.alloc HT.out.2.size _⟩; have XN : Sl (Blk (wr.alloc (.cells #[.int .i64 (kn : Int), .int .i64 s, .int .i64 f, .int .i64 t'] tPt)) wr.heap.size tPt #[.int .i64 (kn : Int), .int .i64 s, .int .i64 f, .int .i64 t']) := ⟨Blk.new _ _ _⟩
                      by_cases hs1 : s < -96
                      · have hs1d : decide (s < -96) = true := decide_eq_true hs1; have HE3 : Sl (partE x R us = 7) := ⟨HER.out 7 (by rw [HRE.out, if_pos (.inl hs1)]) (by decide)⟩; go_wp2_with fail; go_ret2; exact ⟨PartR.bad HE3.out (by decide) rfl, HU.out.trans ((HW6.out.trans (HWZ.out.mono HW6.out.size)).mono HU.out.size)⟩
                      · have hs1d : decide (s < -96) = false := decide_eq_false hs1
                        by_cases hs2 : 96 < s
                        · have hs2d : decide (96 < s) = true := decide_eq_true hs2; have HE3 : Sl (partE x R us = 7) := ⟨HER.out 7 (by rw [HRE.out, if_pos (.inr hs2)]) (by decide)⟩; go_wp2_with fail; go_ret2; exact ⟨PartR.bad HE3.out (by decide) rfl, HU.out.trans ((HW6.out.trans (HWZ.out.mono HW6.out.size)).mono HU.out.size)⟩
                        · have hs2d : decide (96 < s) = false := decide_eq_false hs2; rw [if_neg (by omega)] at HRE; have hw1 : IntKind.i64.wrap (f + s) = f + s := (by rw [IntKind.wrap_i64]; omega); have hw2 : IntKind.i64.wrap (t' + s) = t' + s := (by rw [IntKind.wrap_i64]; omega); have hif : i64 (f + s) := (by unfold i64; omega); have hit : i64 (t' + s) := (by unfold i64; omega); go_wp2_with fail; obtain ⟨g18, hg18⟩ : ∃ g, wr.heap.size = g := ⟨_, rfl⟩; rw [hg18] at XN
                          (try rw [hg18])
                          clear hg18 y0 y1 y2 y3; generalize wr.alloc (.cells #[.int .i64 (kn : Int), .int .i64 s, .int .i64 f, .int .i64 t'] tPt) = wz at *
                          have HWY : Sl (Below w1.heap.size w1 wz) := ⟨HW6.out.trans (HWZ.out.mono HW6.out.size)⟩; obtain ⟨e0, q4, q5⟩ := HBX.out wz HWY.out; have x1 := XN.out.cell 1; have x2 := XN.out.cell 2; have x3 := XN.out.cell 3; simp at x1 x2 x3; obtain ⟨hh, hhe⟩ : ∃ z, rr.hasP (f + s) (t' + s) = z := ⟨_, rfl⟩; have VA : Sl (∀ z, Calls Tryz.prog 37 #[.pointer (some (ar.add (kn * 6))), .int .i64 (f + s), .int .i64 (t' + s)] (wz.drewN z) fun e w'' => e = .returned (.bool hh) ∧ ∃ k, w'' = wz.drewN k) := ⟨fun z => (mhas_any (ar.add (kn * 6)) rr (f + s) (t' + s) (wz.drewN z) q4 q5 hif hit).mono fun e w'' h => ⟨by rw [h.1, hhe], by obtain ⟨k, hk⟩ := h.2; exact ⟨z + k, by rw [hk, drew2]⟩⟩⟩; have HHH : Sl (hh = (rr.has (f + s) && rr.has (t' + s))) := ⟨by rw [← hhe]; exact HHP.out⟩; clear hhe q4 q5 hif hit
                          go_quiet ((go_at_call 37; (with_reducible exact VA.out _)))
                          rw [← HHH.out] at HRE
                          cases hh
                          · have HE3 : Sl (partE x R us = 4) := ⟨HER.out 4 (by rw [HRE.out]; rfl) (by decide)⟩; go_wp2_with fail; go_ret2; exact ⟨PartR.bad HE3.out (by decide) rfl, HU.out.trans ((below_drewN HWY.out _).mono HU.out.size)⟩
                          · go_wp2_with fail; refine ⟨⟨t + 1, _, htn, by go_num, rfl, ⟨fun j y hj hy => ?_, below_drewN HWZ.out _⟩⟩, by simp [RowKit.intOf]; omega⟩; rcases Nat.lt_or_ge j t with h | h
                            · exact HT.out.1 j y h hy
                            · obtain rfl : j = t := (by omega); rw [HRT.out] at hy; injection hy with hy
                              subst hy; rw [HRE.out]; rfl
                    · obtain rfl : t = nl := (by omega); have htd : decide ((t : Int) < (t : Int)) = false := decide_eq_false (by omega); have htI : ¬ (t : Int) < (t : Int) := (by omega)
                      have HRZ : Sl (rnsE (rkP R us p) (ruP x R us p) = 0) := ⟨by
                        rw [HRP.out, HRU.out, rnsE_zero]; intro y hy; obtain ⟨j, hj, e⟩ := List.getElem_of_mem hy
                        exact HT.out.1 j y (by rw [← HNL2.out]; exact hj) (by rw [List.getElem?_eq_getElem hj, e])⟩
                      have HOq : Sl (wr.ownsRow w4.heap.size tPt 4 v (pts us (ruP x R us) p).length ((pts us (ruP x R us) p).flatMap ptC)) := ⟨own_mv HO6.out (Mv.of_below HT.out.2) (fun z hz => by have := (HO6.out.lt z hz).2; omega)⟩; have HXq : Sl (Below w4.heap.size w4 wr) := ⟨HX6.out.trans (HT.out.2.mono HX6.out.size)⟩; have HRq : Sl (Reads wr w6.heap.size 4 A6 t ((ru.map (ptOf (kn : Int))).flatMap ptC)) := ⟨HRD.out.below HT.out.2⟩; have HPT : Sl (pts us (ruP x R us) (p + 1) = pts us (ruP x R us) p ++ ru.map (ptOf (kn : Int))) := ⟨by rw [pts, HRU.out, HK0.out]⟩; have HPL2 : Sl ((pts us (ruP x R us) p).length ≤ 12 * p) := ⟨pts_few HF.out p⟩; obtain ⟨np, hnp⟩ : ∃ z, (pts us (ruP x R us) p).length = z := ⟨_, rfl⟩; rw [hnp] at HOq HPL2; have HNP : Sl _ := ⟨hnp⟩; have hnp96 : np ≤ 100 := (by have := HPL2.out; omega); clear hnp; go_wp2_with (at_builtin; go_loud (refine wpList_append_any _ rfl (.tmp 94) (.tmp 95) _ rfl w4.heap.size tPt i2 z2 4 32 Tryz.underlying37 HI.out.1 HI.out.2.1 HI.out.2.2.1 HI.out.2.2.2.1 HI.out.2.2.2.2 (by decide) v np _ rfl HOq.out _ A6 t c6 _ rfl HRq.out (ptC_one _) (by unfold maxLen; omega) (by omega) HXq.out.size ?_; rintro v6 w8 hown hg hat; have XS : Sl _ := ⟨And.intro hown hg⟩; clear hown hg hat))
                      have XQ : Sl (w8.ownsRow w4.heap.size tPt 4 v6 (pts us (ruP x R us) (p + 1)).length ((pts us (ruP x R us) (p + 1)).flatMap ptC)) := ⟨by
                        rw [HPT.out, List.flatMap_append, List.length_append, List.length_map, HNP.out, HNL2.out]
                        exact XS.out.1⟩
                      have XB : Sl (Below w4.heap.size w4 w8) := ⟨HXq.out.grown XS.out.2 HXq.out.size (fun z hz => (HOq.out.lt z hz).1)⟩; exact ⟨⟨p + 1, v6, _, _, _, _, _, hpq, by go_num, rfl, rfl, rfl, rfl, rfl, rfl, ⟨by rw [ptsE, HPE.out, if_neg (by decide)]; exact HRZ.out, XQ.out, XB.out⟩⟩, by simp [RowKit.intOf]; omega⟩
                · obtain rfl : p = q := (by omega); have hid : decide ((p : Int) < (p : Int)) = false := decide_eq_false (by omega); have hiI : ¬ (p : Int) < (p : Int) := (by omega); have HW5 : Sl (Below w.heap.size w wr) := ⟨HU.out.trans ((HW3.out.trans (HP.out.2.2.mono HW3.out.size)).mono HU.out.size)⟩; have HOW : Sl (wr.ownsRow w.heap.size tPt 4 v (pts us (ruP x R us) p).length ((pts us (ruP x R us) p).flatMap ptC)) := ⟨xown_base HP.out.2.1 (by have h1 := HU.out.size; have h2 := HW3.out.size; omega)⟩; obtain ⟨A7, c7, e7, _⟩ := own_slice2 HOW.out; subst e7; obtain ⟨ln, hln⟩ : ∃ z, (pts us (ruP x R us) p).length = z := ⟨_, rfl⟩; rw [HP.out.1] at HE2; rw [hln] at HE2 HOW ⊢; have HLN : Sl _ := ⟨hln⟩; clear hln
                  by_cases hl : 12 < ln
                  · have hlI : (12 : Int) < (ln : Int) := (by omega); have hld : decide ((12 : Int) < (ln : Int)) = true := decide_eq_true hlI; go_wp2_with fail; go_ret2; exact ⟨PartR.bad (by rw [HE2.out]; simp [hl]) (by decide) rfl, HW5.out⟩
                  · have hlI : ¬ (12 : Int) < (ln : Int) := (by omega); have hld : decide ((12 : Int) < (ln : Int)) = false := decide_eq_false hlI; go_wp2_with fail; go_ret2; exact ⟨PartR.ok (by rw [HE2.out]; simp [hl]) rfl (by rw [HUL.out, HLN.out]; exact HOW.out), HW5.out⟩
            · go_wp2_with fail; go_ret2; exact ⟨PartR.bad (by rw [HE2.out]; simp) (by decide) rfl, HU.out.trans (HW3.out.mono HU.out.size)⟩
          · go_wp2_with fail; go_ret2; exact ⟨PartR.bad (by rw [HE2.out]; simp) (by decide) rfl, HU.out.trans (HW3.out.mono HU.out.size)⟩
        · have hqb : ((q : Int) != (mx : Int)) = true := (by rw [bne_iff_ne]; omega); have HE : Sl (partE x R us = 2) := ⟨by unfold partE; rw [if_neg (by rw [HCH.out]; decide), if_pos (by rw [HUL.out, HMX.out]; exact hq0)]⟩; go_wp2_with fail; go_ret2; exact ⟨PartR.bad HE.out (by decide) rfl, HU.out.trans (HQ.out.mono HU.out.size)⟩
  · have h0b : (r != 0) = true := (by rw [bne_iff_ne]; exact h0); have HE : Sl (partE x R us = r) := ⟨by unfold partE; rw [HR.out, if_pos h0]⟩; go_wp2_with fail; go_ret2; exact ⟨PartR.bad HE.out h0 rfl, HU.out⟩
end Go.Proofs.YtafadpaljanghaaGreatDoor
namespace Go.Proofs.YtafadpaljanghaaGreatDoor
set_option linter.unusedSimpArgs false
set_option linter.unusedVariables false
def nxe (o : List Nat) (i k g n : Nat) : Nat := if n = i ∨ n = k then o[n]?.getD 0 / g else o[n]?.getD 0
def nxt (o : List Nat) (i k g : Nat) : Nat → List Nat
  | 0 => []
  | n+1 => if 1 < nxe o i k g n then nxt o i k g n ++ [nxe o i k g n] else nxt o i k g n
structure Bz (N : List Nat) (o : List Nat) : Prop where
  two : ∀ p ∈ o, 2 ≤ p ∧ p < 2097152
  gen : ∀ x ∈ N, Gen o x
  mzb : mz o [] ≤ 1100
theorem mz_nil (o : List Nat) : mz o [] = (o.map fun n => 3 * n.log2).sum := by unfold mz; simp
theorem mz_snoc (o : List Nat) (x : Nat) : mz (o ++ [x]) [] = mz o [] + 3 * x.log2 := by rw [mz_nil, mz_nil, List.map_append, List.sum_append]; simp
theorem mz_length : ∀ (o : List Nat), (∀ p ∈ o, 2 ≤ p) → 3 * o.length ≤ mz o []
  | [], _ => by simp [mz]
  | p :: o, h => by
    have ih := mz_length o fun q hq => h q (List.mem_cons_of_mem _ hq)
    have := log2_pos (h p List.mem_cons_self); rw [mz_nil] at ih ⊢; rw [List.map_cons, List.sum_cons, List.length_cons]; omega
theorem Bz.len {N o : List Nat} (h : Bz N o) : o.length ≤ 366 := by
  have := mz_length o fun p hp => (h.two p hp).1
  have := h.mzb; omega
theorem nxe_pos {o : List Nat} {i k g : Nat} (h : ∀ p ∈ o, 2 ≤ p) (hi : ∀ x, o[i]? = some x → g ∣ x) (hk : ∀ x, o[k]? = some x → g ∣ x) (hg : 1 < g) {n : Nat} (hn : n < o.length) :
    ∃ x, o[n]? = some x ∧ 1 ≤ nxe o i k g n ∧ nxe o i k g n ≤ x ∧ (n = i ∨ n = k → nxe o i k g n * g = x) ∧ (¬ (n = i ∨ n = k) → nxe o i k g n = x) := by
  obtain ⟨x, hx⟩ : ∃ x, o[n]? = some x := ⟨_, List.getElem?_eq_getElem hn⟩; have h2 := h x (List.mem_of_getElem? hx); refine ⟨x, hx, ?_⟩; unfold nxe; rw [hx, Option.getD_some]
  by_cases hc : n = i ∨ n = k
  · have hd : g ∣ x := by
      rcases hc with rfl | rfl
      · exact hi x hx
      · exact hk x hx
    rw [if_pos hc]; obtain ⟨c, rfl⟩ := hd; rw [Nat.mul_div_cancel_left _ (by omega)]; have hc0 : c ≠ 0 := fun h0 => by subst h0; simp at h2
    have := Nat.le_mul_of_pos_left c (show 0 < g by omega); exact ⟨by omega, this, fun _ => Nat.mul_comm _ _, fun h => absurd hc h⟩
  · rw [if_neg hc]; exact ⟨by omega, Nat.le_refl _, fun h => absurd h hc, fun _ => rfl⟩
theorem nxt_mem {o : List Nat} {i k g : Nat} {p : Nat} : ∀ {n}, p ∈ nxt o i k g n ↔ ∃ j, j < n ∧ 1 < nxe o i k g j ∧ p = nxe o i k g j
  | 0 => by simp [nxt]
  | n+1 => by
    rw [nxt]; constructor
    · intro h
      split at h
      · rename_i h1; rcases List.mem_append.1 h with h | h
        · obtain ⟨j, a, b⟩ := nxt_mem.1 h; exact ⟨j, by omega, b⟩
        · exact ⟨n, by omega, h1, by simpa using h⟩
      · obtain ⟨j, a, b⟩ := nxt_mem.1 h; exact ⟨j, by omega, b⟩
    · rintro ⟨j, a, b, c⟩
      by_cases hj : j = n
      · subst hj; rw [if_pos b, c]; exact List.mem_append_right _ (by simp)
      · have := nxt_mem (n := n).2 ⟨j, by omega, b, c⟩
        split
        · exact List.mem_append_left _ this
        · exact this
theorem nxt_mz {o : List Nat} {i k g : Nat} (h : ∀ p ∈ o, 2 ≤ p) (hi : ∀ x, o[i]? = some x → g ∣ x) (hk : ∀ x, o[k]? = some x → g ∣ x) (hg : 1 < g) (hik : i ≠ k) : ∀ n, n ≤ o.length →
    mz (nxt o i k g n) [] + (if i < n then 3 * g.log2 else 0) + (if k < n then 3 * g.log2 else 0) ≤ mz (o.take n) []
  | 0, _ => by simp [nxt, mz]
  | n+1, hn => by
    have ih := nxt_mz h hi hk hg hik n (by omega); obtain ⟨x, hx, p1, p2, p3, p4⟩ := nxe_pos h hi hk hg (show n < o.length by omega)
    have e : mz (nxt o i k g (n + 1)) [] = mz (nxt o i k g n) [] + 3 * (nxe o i k g n).log2 := by
      rw [nxt]
      split
      · exact mz_snoc _ _
      · have : nxe o i k g n = 1 := (by omega); rw [this, show Nat.log2 1 = 0 by decide]; rfl
    rw [e, List.take_add_one, hx]; show _ ≤ mz (o.take n ++ [x]) []; rw [mz_snoc]
    by_cases hc : n = i ∨ n = k
    · have hl := log2_mul (a := nxe o i k g n) (b := g) (by omega) (by omega); rw [p3 hc] at hl; rcases hc with rfl | rfl
      · rw [if_neg (Nat.lt_irrefl _)] at ih; rw [if_pos (Nat.lt_succ_self _)]
        by_cases h2 : k < n
        · rw [if_pos h2] at ih; rw [if_pos (by omega)]; omega
        · rw [if_neg h2] at ih; rw [if_neg (by omega)]; omega
      · rw [if_neg (Nat.lt_irrefl n)] at ih; rw [if_pos (Nat.lt_succ_self n)]
        by_cases h2 : i < n
        · rw [if_pos h2] at ih; rw [if_pos (by omega)]; omega
        · rw [if_neg h2] at ih; rw [if_neg (by omega)]; omega
    · rw [p4 hc]
      have e1 : (if i < n + 1 then 3 * g.log2 else 0) = (if i < n then 3 * g.log2 else 0) := by
        by_cases g1 : i < n
        · rw [if_pos g1, if_pos (by omega)]
        · rw [if_neg g1, if_neg (by omega)]
      have e2 : (if k < n + 1 then 3 * g.log2 else 0) = (if k < n then 3 * g.log2 else 0) := by
        by_cases g1 : k < n
        · rw [if_pos g1, if_pos (by omega)]
        · rw [if_neg g1, if_neg (by omega)]
      rw [e1, e2]; omega
theorem Bz.next {N o : List Nat} {i k x y g : Nat} (h : Bz N o) (hki : k < i) (hx : o[i]? = some x) (hy : o[k]? = some y) (hg : Nat.gcd x y = g) (h1 : 1 < g) : Bz N (nxt o i k g o.length ++ [g]) ∧ mz (nxt o i k g o.length ++ [g]) [] + 3 ≤ mz o [] := by
  have h2 : ∀ p ∈ o, 2 ≤ p := fun p hp => (h.two p hp).1
  have hi : ∀ z, o[i]? = some z → g ∣ z := fun z hz => by rw [hx] at hz; injection hz with hz; rw [← hz, ← hg]; exact Nat.gcd_dvd_left _ _
  have hk : ∀ z, o[k]? = some z → g ∣ z := fun z hz => by rw [hy] at hz; injection hz with hz; rw [← hz, ← hg]; exact Nat.gcd_dvd_right _ _
  have hil : i < o.length := by
    rcases Nat.lt_or_ge i o.length with a | a
    · exact a
    · rw [List.getElem?_eq_none a] at hx; cases hx
  have hm := nxt_mz h2 hi hk h1 (by omega) o.length (Nat.le_refl _); rw [if_pos hil, if_pos (by omega), List.take_length] at hm; have hl := log2_pos h1; have hms : mz (nxt o i k g o.length ++ [g]) [] + 3 ≤ mz o [] := (by rw [mz_snoc]; omega)
  have hgx : g < 2097152 := by
    have hxb := h.two x (List.mem_of_getElem? hx); have := Nat.le_of_dvd (by omega) (hi x hx); omega
  refine ⟨⟨fun p hp => ?_, fun z hz => (h.gen z hz).subst fun s hs => ?_, by have := h.mzb; omega⟩, hms⟩
  · rcases List.mem_append.1 hp with hp | hp
    · obtain ⟨j, a, b, c⟩ := nxt_mem.1 hp; obtain ⟨w, hw, p1, p2, _⟩ := nxe_pos h2 hi hk h1 a; have := h.two w (List.mem_of_getElem? hw); rw [c]; omega
    · rw [List.mem_singleton] at hp; rw [hp]; omega
  · obtain ⟨j, hj⟩ := List.mem_iff_getElem?.1 hs
    have hjl : j < o.length := by
      rcases Nat.lt_or_ge j o.length with a | a
      · exact a
      · rw [List.getElem?_eq_none a] at hj; cases hj
    obtain ⟨w, hw, p1, p2, p3, p4⟩ := nxe_pos h2 hi hk h1 hjl; rw [hj] at hw; injection hw with hw
    subst hw
    have hG : Gen (nxt o i k g o.length ++ [g]) (nxe o i k g j) := by
      rcases Nat.lt_or_ge 1 (nxe o i k g j) with a | a
      · exact Gen.of (List.mem_append_left _ (nxt_mem.2 ⟨j, hjl, a, rfl⟩))
      · rw [show nxe o i k g j = 1 by omega]; exact Gen.one
    by_cases hc : j = i ∨ j = k
    · rw [← p3 hc]; exact hG.times (Gen.of (List.mem_append_right _ (by simp)))
    · rw [← p4 hc]; exact hG
def big (l : List Nat) : List Nat := l.filter fun n => decide (1 < n)
theorem big_mz : ∀ (l : List Nat), (∀ x ∈ l, x < 2097152) → mz (big l) [] ≤ l.length * 60
  | [], _ => by simp [big, mz]
  | n :: l, h => by
    have ih := big_mz l fun x hx => h x (List.mem_cons_of_mem _ hx)
    have hn := h n List.mem_cons_self
    have hl : n.log2 ≤ 20 := by
      rcases Nat.eq_zero_or_pos n with h0 | h0
      · subst h0; decide
      · have := (Nat.log2_lt (by omega)).2 (show n < 2 ^ 21 from hn); omega
    unfold big at ih ⊢; rw [List.filter_cons]
    split
    · rw [mz_nil] at ih ⊢; rw [List.map_cons, List.sum_cons, List.length_cons]; omega
    · rw [List.length_cons]; omega
theorem Bz.start {l : List Nat} (h : ∀ x ∈ l, 1 ≤ x ∧ x < 2097152) (hl : l.length ≤ 17) : Bz l (big l) := by
  refine ⟨fun p hp => ?_, fun x hx => ?_, ?_⟩
  · have := List.mem_filter.1 hp; have h1 := h p this.1; have h2 := of_decide_eq_true this.2; omega
  · rcases Nat.lt_or_ge 1 x with h1 | h1
    · exact Gen.of (List.mem_filter.2 ⟨hx, decide_eq_true h1⟩)
    · have := h x hx; rw [show x = 1 by omega]; exact Gen.one
  · have := big_mz l fun x hx => (h x hx).2
    omega
def Pc (o : List Nat) (i : Nat) : Prop := ∀ a b x y, a < b → b < i → o[a]? = some x → o[b]? = some y → Nat.gcd x y = 1
theorem Pc.cop {N o : List Nat} (h : Bz N o) (hp : Pc o o.length) : Cop o := by
  refine ⟨fun p hp => (h.two p hp).1, ?_⟩; rw [List.pairwise_iff_getElem]; intro i j hi hj hij; exact hp i j _ _ hij hj (List.getElem?_eq_getElem hi) (List.getElem?_eq_getElem hj)
end Go.Proofs.YtafadpaljanghaaGreatDoor
namespace Go.Proofs.YtafadpaljanghaaGreatDoor
set_option linter.unusedSimpArgs false
open Go.RowKit
set_option linter.unusedVariables false
end Go.Proofs.YtafadpaljanghaaGreatDoor
namespace Go.Proofs.YtafadpaljanghaaGreatDoor
set_option linter.unusedSimpArgs false
open Go.RowKit
set_option linter.unusedVariables false
end Go.Proofs.YtafadpaljanghaaGreatDoor
namespace Go.Proofs.YtafadpaljanghaaGreatDoor
set_option linter.unusedSimpArgs false
open Go.RowKit
set_option linter.unusedVariables false
end Go.Proofs.YtafadpaljanghaaGreatDoor
namespace Go.Proofs.YtafadpaljanghaaGreatDoor
set_option linter.unusedSimpArgs false
open Go.RowKit
set_option linter.unusedVariables false
end Go.Proofs.YtafadpaljanghaaGreatDoor
namespace Go.Proofs.YtafadpaljanghaaGreatDoor
set_option linter.unusedSimpArgs false
open Go.RowKit
set_option linter.unusedVariables false
end Go.Proofs.YtafadpaljanghaaGreatDoor
namespace Go.Proofs.YtafadpaljanghaaGreatDoor
set_option linter.unusedSimpArgs false
open Go.RowKit
set_option linter.unusedVariables false
noncomputable def partL (x : Mx) (R : List RkV) (us : List Int) : List PtV := if partE x R us = 0 then pts us (ruP x R us) us.length else []
theorem PartR.form {x : Mx} {R : List RkV} {us : List Int} {B : Nat} {e : Ending} {w : World} (h : PartR x R us B e w) : ∃ A c, e = .returned (.tuple #[.slice A (partL x R us).length c, .int .i64 (partE x R us)]) ∧ Reads w w.heap.size 4 A (partL x R us).length ((partL x R us).flatMap ptC) := by
  cases h with
  | bad h h0 he =>
    have e1 : partL x R us = [] := (by unfold partL; rw [if_neg (by rw [h]; exact h0)]); exact ⟨none, 0, by rw [e1, h]; exact he, by rw [e1]; exact Reads.none_⟩
  | ok h he ho =>
    have e1 : partL x R us = pts us (ruP x R us) us.length := (by unfold partL; rw [if_pos h]); obtain ⟨A, c, ev, hr⟩ := own_slice2 ho; exact ⟨A, c, by rw [e1, h, he, ev], by rw [e1]; exact hr⟩
end Go.Proofs.YtafadpaljanghaaGreatDoor
namespace Go.Proofs.YtafadpaljanghaaGreatDoor
set_option linter.unusedSimpArgs false
set_option linter.unusedVariables false
noncomputable def ownR (r : RkV) : Int := semI r.num.toNat r.den.toNat
noncomputable def sndP (R : List RkV) (key : Int) (p : PtV) : List Int := if p.2.2.1 ≤ key ∧ key ≤ p.2.2.2 then [key + p.2.1 + ownR (R[p.1.toNat]?.getD rk0)] else []
noncomputable def sndL (R : List RkV) (key : Int) (l : List PtV) : List Int := l.flatMap (sndP R key)
theorem sndL_pt (R : List RkV) (key k : Int) : ∀ l : List Rn, sndL R key (l.map (ptOf k)) = (cov key l).map fun s => key + s + ownR (R[k.toNat]?.getD rk0)
  | [] => rfl
  | r :: l => by
    have ih := sndL_pt R key k l; unfold sndL at ih ⊢; rw [List.map_cons, List.flatMap_cons, ih, cov]; unfold sndP ptOf; simp only []
    split <;> rfl
theorem sndL_append (R : List RkV) (key : Int) (l m : List PtV) : sndL R key (l ++ m) = sndL R key l ++ sndL R key m := by unfold sndL; rw [List.flatMap_append]
theorem sndL_pts (x : Mx) (R : List RkV) (us : List Int) (j : Nat) : ∀ m, sndL R (x.key j) (pts us (ruP x R us) m) = x.snds (fun p => ownR (rkP R us p)) j m
  | 0 => rfl
  | m+1 => by
    rw [pts, sndL_append, sndL_pts x R us j m, sndL_pt, Mx.snds]; rfl
theorem pts_mem {us : List Int} {ru : Nat → List Rn} {p : PtV} : ∀ {m : Nat}, p ∈ pts us ru m → ∃ k r, k < m ∧ r ∈ ru k ∧ p = ptOf (gt us k) r
  | 0, h => by cases h
  | m+1, h => by
    rw [pts] at h; rcases List.mem_append.1 h with h | h
    · obtain ⟨k, r, h1, h2, h3⟩ := pts_mem h; exact ⟨k, r, by omega, h2, h3⟩
    · obtain ⟨r, h1, h2⟩ := List.mem_map.1 h; exact ⟨m, r, Nat.lt_succ_self m, h1, h2.symm⟩
theorem RkV.has_true {r : RkV} {n : Int} (h : r.has n = true) : r.low ≤ n ∧ n < r.low + r.cnt ∧ 0 ≤ r.low ∧ r.low ≤ 127 ∧ r.low + r.cnt ≤ 128 ∧ 1 ≤ r.cnt := by
  unfold RkV.has at h; rw [Bool.and_eq_true, Bool.and_eq_true] at h; obtain ⟨h1, h2, h3⟩ := h; have a2 := of_decide_eq_true h2; have a3 := of_decide_eq_true h3; rcases r.bad_ways with ⟨_, hb⟩ | ⟨_, _, hb⟩ | ⟨_, _, _, hb⟩ | ⟨_, _, _, _, hb⟩ | ⟨_, _, _, _, _, hb⟩ | ⟨b1, b2, b3, b4, b5, hb⟩
  · rw [hb] at h1; cases h1
  · rw [hb] at h1; cases h1
  · rw [hb] at h1; cases h1
  · rw [hb] at h1; cases h1
  · rw [hb] at h1; cases h1
  · omega
structure PartK (x : Mx) (R : List RkV) (us : List Int) : Prop where
  chk : x.chk = 0
  len : us.length = x.lng x.n
  pl : ∀ p, p < us.length → (0 ≤ gt us p ∧ gt us p < (R.length : Int)) ∧ vF (rkP R us p).num (rkP R us p).den
  rn : ∀ p, p < us.length → ∀ r ∈ ruP x R us p, (-96 ≤ r.2.2 ∧ r.2.2 ≤ 96) ∧ (rkP R us p).has (r.1 + r.2.2) = true ∧ (rkP R us p).has (r.2.1 + r.2.2) = true
  few : (pts us (ruP x R us) us.length).length ≤ 12
theorem PartK.part {x : Mx} {R : List RkV} {us : List Int} (h : PartK x R us) {p : PtV} (hp : p ∈ pts us (ruP x R us) us.length) :
    (0 ≤ p.1 ∧ p.1 < (R.length : Int)) ∧ vF (R[p.1.toNat]?.getD rk0).num (R[p.1.toNat]?.getD rk0).den ∧ (-96 ≤ p.2.1 ∧ p.2.1 ≤ 96) ∧
      (∀ key, p.2.2.1 ≤ key → key ≤ p.2.2.2 → (R[p.1.toNat]?.getD rk0).low ≤ key + p.2.1 ∧ key + p.2.1 < (R[p.1.toNat]?.getD rk0).low + (R[p.1.toNat]?.getD rk0).cnt) ∧
      (0 ≤ (R[p.1.toNat]?.getD rk0).low ∧ (R[p.1.toNat]?.getD rk0).low + (R[p.1.toNat]?.getD rk0).cnt ≤ 128) := by
  obtain ⟨k, r, hk, hr, rfl⟩ := pts_mem hp; obtain ⟨h1, h2⟩ := h.pl k hk; obtain ⟨h3, h4, h5⟩ := h.rn k hk r hr; have a4 := RkV.has_true h4; have a5 := RkV.has_true h5; show (0 ≤ gt us k ∧ gt us k < (R.length : Int)) ∧ vF (rkP R us k).num (rkP R us k).den ∧ (-96 ≤ r.2.2 ∧ r.2.2 ≤ 96) ∧ (∀ key, r.1 ≤ key → key ≤ r.2.1 → (rkP R us k).low ≤ key + r.2.2 ∧ key + r.2.2 < (rkP R us k).low + (rkP R us k).cnt) ∧ (0 ≤ (rkP R us k).low ∧ (rkP R us k).low + (rkP R us k).cnt ≤ 128); refine ⟨h1, h2, h3, fun key k1 k2 => ?_, by omega⟩; omega
theorem PartK.sound {x : Mx} {R : List RkV} {us : List Int} (h : PartK x R us) {j : Nat} (hj : j < x.keys) : sndL R (x.key j) (pts us (ruP x R us) us.length) = x.row (x.key j) := by
  have hf := Mx.fine (Mx.chk_ok h.chk).1; rw [sndL_pts]; have hat := (hf.ord.at_in (key := x.key j) (by unfold Mx.key; omega) (by unfold Mx.key; unfold Mx.keys at hj; omega)).1; exact hf.ord.snds_all _ hj (by rw [h.len]; exact Mx.le_lng hat)
end Go.Proofs.YtafadpaljanghaaGreatDoor
namespace Go.Proofs.YtafadpaljanghaaGreatDoor
set_option linter.unusedSimpArgs false
open Go.RowKit
set_option linter.unusedVariables false
end Go.Proofs.YtafadpaljanghaaGreatDoor
namespace Go.Proofs.YtafadpaljanghaaGreatDoor
set_option linter.unusedSimpArgs false
open Go.RowKit
set_option linter.unusedVariables false
def lC (p : Lw) : List Value := [.int .i64 (p.1 : Int), .int .i64 p.2]
def lwP (i : Nat) (c : Int) (t : Nat) : List Lw := (List.range t).map fun (t : Nat) => (i, c + 12 * (t : Int))
theorem lwP_all (i : Nat) (c tp : Int) : lwP i c (lwN c tp) = lwI i c tp := rfl
theorem lwP_succ (i : Nat) (c : Int) (t : Nat) : lwP i c (t + 1) = lwP i c t ++ [(i, c + 12 * (t : Int))] := by
  unfold lwP; rw [List.range_succ, List.map_append]; rfl
theorem lwP_len (i : Nat) (c : Int) (t : Nat) : (lwP i c t).length = t := by unfold lwP; simp
theorem lwN_lt (c tp : Int) (t : Nat) : t < lwN c tp ↔ c + 12 * (t : Int) ≤ tp := by
  unfold lwN; split <;> omega
theorem lwN_17 {c tp : Int} (hc : -71 ≤ c) (ht : tp ≤ 127) : lwN c tp ≤ 17 := by
  unfold lwN; split <;> omega
theorem lwA_len {l : List Int} {most tp : Int} (h0 : 0 ≤ most) (ht : tp ≤ 127) : ∀ k, (∀ j, j < k → -24 ≤ gt l j ∧ gt l j ≤ 72) → (lwA l most tp k).length ≤ 17 * k
  | 0, _ => Nat.le_refl _
  | k+1, h => by
    have h1 := lwA_len (l := l) h0 ht k (fun j hj => h j (by omega)); have h2 := h k (by omega); rw [lwA, List.length_append, ← lwP_all, lwP_len]; have := lwN_17 (c := most - gt l k + 1) (tp := tp) (by omega) ht; omega
end Go.Proofs.YtafadpaljanghaaGreatDoor
namespace Go.Proofs.YtafadpaljanghaaGreatDoor
set_option linter.unusedSimpArgs false
set_option linter.unusedVariables false
section
variable {α : Type}
def swp (d : Nat → α) (i j : Nat) (k : Nat) : α := if k = i then d j else if k = j then d i else d k
inductive Pm (a b : Nat) (d : Nat → α) : (Nat → α) → Prop
  | refl : Pm a b d d
  | step {e : Nat → α} (i j : Nat) : Pm a b d e → a ≤ i → i < b → a ≤ j → j < b → Pm a b d (swp e i j)
theorem Pm.trans {a b : Nat} {d e f : Nat → α} (h : Pm a b d e) (g : Pm a b e f) : Pm a b d f := by
  induction g with
  | refl => exact h
  | step i j _ h1 h2 h3 h4 ih => exact .step i j ih h1 h2 h3 h4
theorem Pm.mono {a b a' b' : Nat} {d e : Nat → α} (h : Pm a b d e) (ha : a' ≤ a) (hb : b ≤ b') : Pm a' b' d e := by
  induction h with
  | refl => exact .refl
  | step i j _ h1 h2 h3 h4 ih => exact .step i j ih (by omega) (by omega) (by omega) (by omega)
theorem Pm.far {a b : Nat} {d e : Nat → α} (h : Pm a b d e) {k : Nat} (hk : k < a ∨ b ≤ k) : e k = d k := by
  induction h with
  | refl => rfl
  | step i j _ h1 h2 h3 h4 ih => unfold swp; rw [if_neg (by omega), if_neg (by omega), ih]
theorem Pm.all {a b : Nat} {d e : Nat → α} (h : Pm a b d e) {P : α → Prop} (hp : ∀ k, a ≤ k → k < b → P (d k)) : ∀ k, a ≤ k → k < b → P (e k) := by
  induction h with
  | refl => exact hp
  | step i j _ h1 h2 h3 h4 ih =>
    intro k k1 k2; unfold swp
    split
    · exact ih j h3 h4
    · split
      · exact ih i h1 h2
      · exact ih k k1 k2
def Srt (κ : α → Int) (d : Nat → α) (a b : Nat) : Prop := ∀ i j, a ≤ i → i ≤ j → j < b → κ (d i) ≤ κ (d j)
theorem Srt.sub {κ : α → Int} {d : Nat → α} {a b a' b' : Nat} (h : Srt κ d a b) (ha : a ≤ a') (hb : b' ≤ b) : Srt κ d a' b' := fun i j h1 h2 h3 => h i j (by omega) h2 (by omega)
theorem Srt.congr {κ : α → Int} {d e : Nat → α} {a b : Nat} (h : Srt κ d a b) (he : ∀ k, a ≤ k → k < b → e k = d k) : Srt κ e a b := fun i j h1 h2 h3 => by
  rw [he i h1 (by omega), he j (by omega) h3]; exact h i j h1 h2 h3
theorem Srt.one {κ : α → Int} {d : Nat → α} {a b : Nat} (h : b ≤ a + 1) : Srt κ d a b := fun i j h1 h2 h3 => by rw [show j = i by omega]; exact Int.le_refl _
theorem Srt.join {κ : α → Int} {d : Nat → α} {a m b : Nat} (h1 : Srt κ d a m) (h2 : Srt κ d m b) (h : ∀ i j, a ≤ i → i < m → m ≤ j → j < b → κ (d i) ≤ κ (d j)) : Srt κ d a b := fun i j i1 ij j1 => by
  rcases Nat.lt_or_ge j m with hj | hj
  · exact h1 i j i1 ij hj
  · rcases Nat.lt_or_ge i m with hi | hi
    · exact h i j i1 hi hj j1
    · exact h2 i j hi ij j1
structure Hole (κ : α → Int) (d : Nat → α) (a i j : Nat) : Prop where
  rest : ∀ p q, a ≤ p → p ≤ q → q ≤ i → p ≠ j → q ≠ j → κ (d p) ≤ κ (d q)
  low : ∀ q, j < q → q ≤ i → κ (d j) ≤ κ (d q)
theorem Hole.start {κ : α → Int} {d : Nat → α} {a i : Nat} (h : Srt κ d a i) : Hole κ d a i i := ⟨fun p q h1 h2 h3 h4 h5 => h p q h1 h2 (by omega), fun q h1 h2 => by omega⟩
theorem Hole.move {κ : α → Int} {d : Nat → α} {a i j : Nat} (h : Hole κ d a i (j + 1)) (hj : a ≤ j) (hi : j + 1 ≤ i) (hl : κ (d (j + 1)) < κ (d j)) : Hole κ (swp d (j + 1) j) a i j := by
  have e : ∀ k, swp d (j + 1) j k = if k = j + 1 then d j else if k = j then d (j + 1) else d k := fun k => rfl
  constructor
  · intro p q h1 h2 h3 h4 h5; rw [e, e]
    by_cases hp : p = j + 1
    · rw [if_pos hp]
      by_cases hq : q = j + 1
      · rw [if_pos hq]; exact Int.le_refl _
      · rw [if_neg hq, if_neg h5]; exact h.rest j q hj (by omega) h3 (by omega) hq
    · rw [if_neg hp, if_neg h4]
      by_cases hq : q = j + 1
      · rw [if_pos hq]; exact h.rest p j h1 (by omega) (by omega) hp (by omega)
      · rw [if_neg hq, if_neg h5]; exact h.rest p q h1 h2 h3 hp hq
  · intro q h1 h2; rw [e, e, if_neg (by omega), if_pos rfl]
    by_cases hq : q = j + 1
    · rw [if_pos hq]; omega
    · rw [if_neg hq, if_neg (by omega)]; exact h.low q (by omega) h2
theorem Hole.done {κ : α → Int} {d : Nat → α} {a i j : Nat} (h : Hole κ d a i j) (hj : j = a ∨ (∃ k, j = k + 1 ∧ a ≤ k ∧ ¬ κ (d j) < κ (d k))) : Srt κ d a (i + 1) := by
  intro p q h1 h2 h3
  by_cases hp : p = j
  · subst hp
    by_cases hq : q = p
    · rw [hq]; exact Int.le_refl _
    · exact h.low q (by omega) (by omega)
  · by_cases hq : q = j
    · subst hq; rcases hj with hj | ⟨k, hk, hak, hl⟩
      · omega
      · have := h.rest p k h1 (by omega) (by omega) hp (by omega); omega
    · exact h.rest p q h1 h2 (by omega) hp hq
def swr (d : Nat → α) (a b : Nat) : Nat → Nat → α
  | 0 => d
  | n+1 => swp (swr d a b n) (a + n) (b + n)
theorem swr_pm {lo hi : Nat} (d : Nat → α) (a b : Nat) : ∀ n, lo ≤ a → a + n ≤ hi → lo ≤ b → b + n ≤ hi → Pm lo hi d (swr d a b n)
  | 0, _, _, _, _ => .refl
  | n+1, h1, h2, h3, h4 => .step _ _ (swr_pm d a b n h1 (by omega) h3 (by omega)) (by omega) (by omega) (by omega) (by omega)
theorem swr_at (d : Nat → α) (a b : Nat) : ∀ n, a + n ≤ b → ∀ k, swr d a b n k = if a ≤ k ∧ k < a + n then d (k - a + b) else if b ≤ k ∧ k < b + n then d (k - b + a) else d k
  | 0, _, k => by rw [swr, if_neg (by omega), if_neg (by omega)]
  | n+1, h, k => by
    have ih := swr_at d a b n (by omega); unfold swr swp
    by_cases h1 : k = a + n
    · rw [if_pos h1, ih, if_neg (by omega), if_neg (by omega), if_pos (by omega)]; congr 1; omega
    · rw [if_neg h1]
      by_cases h2 : k = b + n
      · rw [if_pos h2, ih, if_neg (by omega), if_neg (by omega), if_neg (by omega), if_pos (by omega)]; congr 1; omega
      · rw [if_neg h2, ih]
        by_cases h3 : a ≤ k ∧ k < a + n
        · rw [if_pos h3, if_pos (by omega)]
        · rw [if_neg h3, if_neg (show ¬ (a ≤ k ∧ k < a + (n + 1)) by omega)]
          by_cases h4 : b ≤ k ∧ k < b + n
          · rw [if_pos h4, if_pos (by omega)]
          · rw [if_neg h4, if_neg (by omega)]
def rot (d : Nat → α) (a m b : Nat) (k : Nat) : α := if a ≤ k ∧ k < a + (b - m) then d (k - a + m) else if a + (b - m) ≤ k ∧ k < b then d (k - (b - m)) else d k
theorem rot_end (d : Nat → α) {m i : Nat} (h : i ≤ m) : swr d (m - i) m i = rot d (m - i) m (m + i) := by
  funext k; rw [swr_at d _ _ i (by omega)]; unfold rot
  by_cases h1 : m - i ≤ k ∧ k < m - i + i
  · rw [if_pos h1, if_pos (by omega)]
  · rw [if_neg h1, if_neg (show ¬ (m - i ≤ k ∧ k < m - i + (m + i - m)) by omega)]
    by_cases h2 : m ≤ k ∧ k < m + i
    · rw [if_pos h2, if_pos (by omega)]; congr 1; omega
    · rw [if_neg h2, if_neg (by omega)]
theorem rot_left (d : Nat → α) {m i j : Nat} (h : i ≤ m) (hj : j < i) : rot (swr d (m - i) m j) (m - (i - j)) m (m + j) = rot d (m - i) m (m + j) := by
  funext k; have e := swr_at d (m - i) m j (by omega); unfold rot; simp only [e]
  by_cases h0 : m - i ≤ k ∧ k < m - i + j
  · rw [if_neg (by omega), if_neg (by omega), if_pos h0, if_pos (by omega)]
  · rw [if_neg h0]; rw [if_neg (show ¬ (m - i ≤ k ∧ k < m - i + (m + j - m)) by omega)]
    by_cases h1 : m - (i - j) ≤ k ∧ k < m - (i - j) + (m + j - m)
    · rw [if_pos h1, if_pos (show m - i + (m + j - m) ≤ k ∧ k < m + j by omega), if_neg (by omega), if_pos (by omega)]; congr 1; omega
    · rw [if_neg h1]
      by_cases h2 : m - (i - j) + (m + j - m) ≤ k ∧ k < m + j
      · rw [if_pos h2, if_pos (show m - i + (m + j - m) ≤ k ∧ k < m + j by omega)]
        by_cases h3 : m - i ≤ k - (m + j - m) ∧ k - (m + j - m) < m - i + j
        · omega
        · rw [if_neg h3, if_neg (by omega)]
      · rw [if_neg h2, if_neg (show ¬ (m - i + (m + j - m) ≤ k ∧ k < m + j) by omega), if_neg (by omega)]
theorem rot_right (d : Nat → α) {m i j : Nat} (h : i ≤ m) (hi : i < j) : rot (swr d (m - i) (m + j - i) i) (m - i) m (m + (j - i)) = rot d (m - i) m (m + j) := by
  funext k; have e := swr_at d (m - i) (m + j - i) i (by omega); unfold rot; simp only [e]
  by_cases h0 : m + j - i ≤ k ∧ k < m + j
  · rw [if_neg (by omega), if_neg (by omega), if_neg (by omega), if_pos (by omega), if_neg (by omega), if_pos (by omega)]; congr 1; omega
  · by_cases h1 : m - i ≤ k ∧ k < m - i + (m + (j - i) - m)
    · rw [if_pos h1, if_neg (by omega), if_neg (by omega), if_pos (by omega)]
    · rw [if_neg h1]
      by_cases h2 : m - i + (m + (j - i) - m) ≤ k ∧ k < m + (j - i)
      · rw [if_pos h2, if_pos (by omega), if_pos (by omega)]; congr 1; omega
      · rw [if_neg h2, if_neg (by omega), if_neg (by omega), if_neg (by omega), if_neg (by omega)]
theorem sym_parts {κ : α → Int} {d : Nat → α} {a m b mid st : Nat} (ha : a < m) (hb : m < b) (hm : mid = (a + b) / 2) (h1 : Srt κ d a m) (h2 : Srt κ d m b)
    (s0 : a ≤ st) (s1 : st ≤ m) (s2 : st ≤ mid) (s3 : m ≤ mid + m - st) (s4 : mid + m - st ≤ b)
    (hlo : ∀ c, a ≤ c → c < st → mid + m - b ≤ c → κ (d c) ≤ κ (d (mid + m - 1 - c)))
    (hhi : ∀ c, st ≤ c → c < m → c < mid → κ (d (mid + m - 1 - c)) < κ (d c)) :
    let d' := rot d st m (mid + m - st)
    Srt κ d' a st ∧ Srt κ d' st mid ∧ Srt κ d' mid (mid + m - st) ∧ Srt κ d' (mid + m - st) b ∧ ∀ i j, a ≤ i → i < mid → mid ≤ j → j < b → κ (d' i) ≤ κ (d' j) := by
  intro d'; obtain ⟨en, hen⟩ : ∃ en, mid + m - st = en := ⟨_, rfl⟩; rw [hen] at s3 s4
  have e : ∀ k, d' k = if st ≤ k ∧ k < mid then d (k - st + m) else if mid ≤ k ∧ k < en then d (k - (en - m)) else d k := fun k => by
    show rot d st m (mid + m - st) k = _; rw [hen]; unfold rot; rw [show st + (en - m) = mid by omega]
  rw [hen]; have e1 : ∀ k, k < st → d' k = d k := fun k hk => by rw [e, if_neg (by omega), if_neg (by omega)]
  have e2 : ∀ k, st ≤ k → k < mid → d' k = d (k - st + m) := fun k hk hk2 => by rw [e, if_pos ⟨hk, hk2⟩]
  have e3 : ∀ k, mid ≤ k → k < en → d' k = d (k - (en - m)) := fun k hk hk2 => by rw [e, if_neg (by omega), if_pos ⟨hk, hk2⟩]
  have e4 : ∀ k, en ≤ k → d' k = d k := fun k hk => by rw [e, if_neg (by omega), if_neg (by omega)]
  refine ⟨fun i j i1 ij j1 => ?_, fun i j i1 ij j1 => ?_, fun i j i1 ij j1 => ?_, fun i j i1 ij j1 => ?_, fun i j i1 i2 j1 j2 => ?_⟩
  · rw [e1 i (by omega), e1 j (by omega)]; exact h1 i j i1 ij (by omega)
  · rw [e2 i (by omega) (by omega), e2 j (by omega) (by omega)]; exact h2 _ _ (by omega) (by omega) (by omega)
  · rw [e3 i (by omega) (by omega), e3 j (by omega) (by omega)]; exact h1 _ _ (by omega) (by omega) (by omega)
  · rw [e4 i (by omega), e4 j (by omega)]; exact h2 i j (by omega) ij j1
  · rcases Nat.lt_or_ge i st with hi | hi
    · rw [e1 i hi]; rcases Nat.lt_or_ge j en with hj | hj
      · rw [e3 j j1 hj]; exact h1 _ _ i1 (by omega) (by omega)
      · rw [e4 j hj]; have k1 := h1 i (st - 1) i1 (by omega) (by omega); have k2 := hlo (st - 1) (by omega) (by omega) (by omega); rw [show mid + m - 1 - (st - 1) = en by omega] at k2; have k3 := h2 en j (by omega) hj j2; omega
    · rw [e2 i hi i2]; rcases Nat.lt_or_ge j en with hj | hj
      · rw [e3 j j1 hj]; have k1 := h2 (i - st + m) (en - 1) (by omega) (by omega) (by omega); have k2 := hhi st (Nat.le_refl _) (by omega) (by omega); rw [show mid + m - 1 - st = en - 1 by omega] at k2; have k3 := h1 st (j - (en - m)) s0 (by omega) (by omega); omega
      · rw [e4 j hj]; exact h2 _ _ (by omega) (by omega) j2
def upTo (d : Nat → α) (a : Nat) : Nat → Nat → α
  | 0 => d
  | n+1 => swp (upTo d a n) (a + n) (a + n + 1)
theorem upTo_pm {lo hi : Nat} (d : Nat → α) (a : Nat) : ∀ n, lo ≤ a → a + n < hi → Pm lo hi d (upTo d a n)
  | 0, _, _ => .refl
  | n+1, h1, h2 => .step _ _ (upTo_pm d a n h1 (by omega)) (by omega) (by omega) (by omega) (by omega)
theorem upTo_at (d : Nat → α) (a : Nat) : ∀ n k, upTo d a n k = if a ≤ k ∧ k < a + n then d (k + 1) else if k = a + n then d a else d k
  | 0, k => by
    rw [upTo, if_neg (by omega)]
    split
    · congr 1
    · rfl
  | n+1, k => by
    have ih := upTo_at d a n; unfold upTo swp
    by_cases h1 : k = a + n
    · rw [if_pos h1, ih, if_neg (by omega), if_neg (by omega), if_pos (by omega)]; congr 1; omega
    · rw [if_neg h1]
      by_cases h2 : k = a + n + 1
      · rw [if_pos h2, ih, if_neg (by omega), if_pos rfl, if_neg (by omega), if_pos (by omega)]
      · rw [if_neg h2, ih]
        by_cases h3 : a ≤ k ∧ k < a + n
        · rw [if_pos h3, if_pos (by omega)]
        · rw [if_neg h3, if_neg h1, if_neg (by omega), if_neg (by omega)]
theorem upTo_srt {κ : α → Int} {d : Nat → α} {a b n : Nat} (h : Srt κ d (a + 1) b) (hn : a + n < b) (hlo : ∀ c, a < c → c ≤ a + n → κ (d c) < κ (d a)) (hhi : ∀ c, a + n < c → c < b → κ (d a) ≤ κ (d c)) : Srt κ (upTo d a n) a b := by
  intro i j i1 ij j1; rw [upTo_at, upTo_at]
  by_cases hi : a ≤ i ∧ i < a + n
  · rw [if_pos hi]
    by_cases hj : a ≤ j ∧ j < a + n
    · rw [if_pos hj]; exact h _ _ (by omega) (by omega) (by omega)
    · rw [if_neg hj]
      by_cases hj2 : j = a + n
      · rw [if_pos hj2]; have := hlo (i + 1) (by omega) (by omega); omega
      · rw [if_neg hj2]; exact h _ _ (by omega) (by omega) (by omega)
  · rw [if_neg hi, if_neg (show ¬ (a ≤ j ∧ j < a + n) by omega)]
    by_cases hi2 : i = a + n
    · rw [if_pos hi2]
      by_cases hj2 : j = a + n
      · rw [if_pos hj2]; exact Int.le_refl _
      · rw [if_neg hj2]; exact hhi j (by omega) j1
    · rw [if_neg hi2, if_neg (by omega)]; exact h _ _ (by omega) ij j1
def dnTo (d : Nat → α) (m : Nat) : Nat → Nat → α
  | 0 => d
  | n+1 => swp (dnTo d m n) (m - n) (m - n - 1)
theorem dnTo_pm {lo hi : Nat} (d : Nat → α) (m : Nat) : ∀ n, lo + n ≤ m → m < hi → Pm lo hi d (dnTo d m n)
  | 0, _, _ => .refl
  | n+1, h1, h2 => .step _ _ (dnTo_pm d m n (by omega) h2) (by omega) (by omega) (by omega) (by omega)
theorem dnTo_at (d : Nat → α) (m : Nat) : ∀ n, n ≤ m → ∀ k, dnTo d m n k = if m - n < k ∧ k ≤ m then d (k - 1) else if k = m - n then d m else d k
  | 0, _, k => by
    rw [dnTo, if_neg (by omega)]
    split
    · congr 1
    · rfl
  | n+1, hn, k => by
    have ih := dnTo_at d m n (by omega); unfold dnTo swp
    by_cases h1 : k = m - n
    · rw [if_pos h1, ih, if_neg (by omega), if_neg (by omega), if_pos (by omega)]; congr 1; omega
    · rw [if_neg h1]
      by_cases h2 : k = m - n - 1
      · rw [if_pos h2, ih, if_neg (by omega), if_pos rfl, if_neg (by omega), if_pos (by omega)]
      · rw [if_neg h2, ih]
        by_cases h3 : m - n < k ∧ k ≤ m
        · rw [if_pos h3, if_pos (by omega)]
        · rw [if_neg h3, if_neg h1, if_neg (by omega), if_neg (by omega)]
theorem dnTo_srt {κ : α → Int} {d : Nat → α} {a m n : Nat} (h : Srt κ d a m) (hn : a + n ≤ m) (hlo : ∀ c, a ≤ c → c < m - n → κ (d c) ≤ κ (d m)) (hhi : ∀ c, m - n ≤ c → c < m → κ (d m) < κ (d c)) : Srt κ (dnTo d m n) a (m + 1) := by
  intro i j i1 ij j1; rw [dnTo_at d m n (by omega), dnTo_at d m n (by omega)]
  by_cases hi : m - n < i ∧ i ≤ m
  · rw [if_pos hi, if_pos (by omega)]; exact h _ _ (by omega) (by omega) (by omega)
  · rw [if_neg hi]
    by_cases hi2 : i = m - n
    · rw [if_pos hi2]
      by_cases hj : m - n < j ∧ j ≤ m
      · rw [if_pos hj]; have := hhi (j - 1) (by omega) (by omega); omega
      · rw [if_neg hj, if_pos (by omega)]; exact Int.le_refl _
    · rw [if_neg hi2]
      by_cases hj : m - n < j ∧ j ≤ m
      · rw [if_pos hj]; exact h _ _ i1 (by omega) (by omega)
      · rw [if_neg hj]
        by_cases hj2 : j = m - n
        · rw [if_pos hj2]; exact hlo i i1 (by omega)
        · rw [if_neg hj2]; exact h _ _ i1 ij (by omega)
def Bks (κ : α → Int) (d : Nat → α) (n s lo : Nat) : Prop := ∀ v, lo + v * s < n → Srt κ d (lo + v * s) (min (lo + v * s + s) n)
theorem Bks.next {κ : α → Int} {d : Nat → α} {n s lo : Nat} (h : Bks κ d n s lo) : Bks κ d n s (lo + s) := fun v hv => by
  have := h (v + 1) (by rw [Nat.succ_mul]; omega); rw [Nat.succ_mul] at this; rw [show lo + s + v * s = lo + (v * s + s) by omega]; exact this
theorem Bks.at0 {κ : α → Int} {d : Nat → α} {n s lo : Nat} (h : Bks κ d n s lo) (hl : lo < n) : Srt κ d lo (min (lo + s) n) := by
  have := h 0 (by omega); simpa using this
theorem Bks.congr {κ : α → Int} {d e : Nat → α} {n s lo : Nat} (h : Bks κ d n s lo) (he : ∀ k, lo ≤ k → k < n → e k = d k) : Bks κ e n s lo := fun v hv => (h v hv).congr fun k k1 k2 => he k (by omega) (by omega)
theorem swp_perm (d : Nat → α) {n i j : Nat} (hi : i < n) (hj : j < n) : ((List.range n).map (swp d i j)).Perm ((List.range n).map d) := by
  rcases Nat.lt_trichotomy i j with h | h | h
  · exact key d h hj
  · subst h
    have : swp d i i = d := by
      funext k; unfold swp
      split
      · next h => rw [h]
      · rfl
    rw [this]
  · have : swp d i j = swp d j i := by
      funext k; unfold swp
      by_cases h1 : k = i
      · rw [if_pos h1]
        by_cases h2 : k = j
        · omega
        · rw [if_neg h2, if_pos h1]
      · rw [if_neg h1, if_neg h1]
    rw [this]; exact key d h hi
where
  key (d : Nat → α) {n i j : Nat} (h : i < j) (hj : j < n) : ((List.range n).map (swp d i j)).Perm ((List.range n).map d) := by
    have hr : List.range n = List.range' 0 i ++ (i :: (List.range' (i + 1) (j - i - 1) ++ (j :: List.range' (j + 1) (n - j - 1)))) := by
      rw [← List.range'_succ, show n - j - 1 + 1 = n - j by omega, show List.range' j (n - j) = List.range' (i + 1 + (j - i - 1)) (n - j) by rw [show i + 1 + (j - i - 1) = j by omega], List.range'_append_1, ← List.range'_succ,
        show List.range' i (j - i - 1 + (n - j) + 1) = List.range' (0 + i) (j - i - 1 + (n - j) + 1) by rw [Nat.zero_add], List.range'_append_1, show i + (j - i - 1 + (n - j) + 1) = n by omega, List.range_eq_range']
    rw [hr]; simp only [List.map_append, List.map_cons]; have far : ∀ k, k ≠ i → k ≠ j → swp d i j k = d k := fun k h1 h2 => by unfold swp; rw [if_neg h1, if_neg h2]
    have m1 : (List.range' 0 i).map (swp d i j) = (List.range' 0 i).map d := List.map_congr_left fun k hk => far k (by have := (List.mem_range'_1.1 hk).2; omega) (by have := (List.mem_range'_1.1 hk).2; omega)
    have m2 : (List.range' (i + 1) (j - i - 1)).map (swp d i j) = (List.range' (i + 1) (j - i - 1)).map d := List.map_congr_left fun k hk => far k (by have := (List.mem_range'_1.1 hk).1; omega) (by have := (List.mem_range'_1.1 hk).2; omega)
    have m3 : (List.range' (j + 1) (n - j - 1)).map (swp d i j) = (List.range' (j + 1) (n - j - 1)).map d := List.map_congr_left fun k hk => far k (by have := (List.mem_range'_1.1 hk).1; omega) (by have := (List.mem_range'_1.1 hk).1; omega)
    rw [m1, m2, m3, show swp d i j i = d j by unfold swp; rw [if_pos rfl], show swp d i j j = d i by unfold swp; rw [if_neg (by omega), if_pos rfl]]; refine List.Perm.append_left _ ?_; exact (List.perm_middle.cons _).trans ((List.Perm.swap _ _ _).trans (List.perm_middle.symm.cons _))
theorem Pm.perm {a n : Nat} {d e : Nat → α} (h : Pm a n d e) : ((List.range n).map e).Perm ((List.range n).map d) := by
  induction h with
  | refl => exact List.Perm.refl _
  | step i j _ h1 h2 h3 h4 ih => exact (swp_perm _ h2 h4).trans ih
end
end Go.Proofs.YtafadpaljanghaaGreatDoor
namespace Go.Proofs.YtafadpaljanghaaGreatDoor
set_option linter.unusedSimpArgs false
open Go.RowKit
set_option linter.unusedVariables false
abbrev PI := Int × Int
def PB (w : World) (g n : Nat) (d : Nat → PI) : Prop := ∃ (t : TypeId) (cs : Array Value), Blk w g t cs ∧ n * 2 ≤ cs.size ∧ ∀ j, j < n → cs[j * 2]? = some (.int .i64 (d j).1) ∧ cs[j * 2 + 1]? = some (.int .i64 (d j).2)
theorem PB.lt {w : World} {g n : Nat} {d : Nat → PI} (h : PB w g n d) : g < w.heap.size := by
  obtain ⟨t, cs, hB, _⟩ := h; exact hB.lt
theorem PB.cell {w : World} {g n : Nat} {d : Nat → PI} (h : PB w g n d) {j : Nat} (hj : j < n) : w.cell? ⟨g, j * 2, none⟩ = some (.int .i64 (d j).1) ∧ w.cell? ⟨g, j * 2 + 1, none⟩ = some (.int .i64 (d j).2) := by
  obtain ⟨t, cs, hB, _, hc⟩ := h; exact ⟨by rw [hB.cell, (hc j hj).1], by rw [hB.cell, (hc j hj).2]⟩
theorem PB.range {w : World} {g n : Nat} {d : Nat → PI} (h : PB w g n d) {j : Nat} (hj : j < n) : w.rangeAt g (j * 2) (#[.int .i64 (d j).1, .int .i64 (d j).2] : Array Value).toList := by
  obtain ⟨h1, h2⟩ := h.cell hj; intro i x hx; rcases i with _ | _ | i
  · simp at hx; subst hx; exact h1
  · simp at hx; subst hx; exact h2
  · simp at hx
theorem PB.mv {w w' : World} {b g n : Nat} {d : Nat → PI} (h : PB w b n d) (hm : Mv g w w') (hne : b ≠ g) : PB w' b n d := by
  obtain ⟨t, cs, hB, h1, h2⟩ := h; exact ⟨t, cs, hB.mv hm hne, h1, h2⟩
theorem PB.below {w w' : World} {B g n : Nat} {d : Nat → PI} (h : PB w g n d) (hb : Below B w w') (hg : g < B) : PB w' g n d := by
  obtain ⟨t, cs, hB, h1, h2⟩ := h; exact ⟨t, cs, hB.below hb hg, h1, h2⟩
theorem PB.congr {w : World} {g n : Nat} {d e : Nat → PI} (h : PB w g n d) (he : ∀ j, j < n → d j = e j) : PB w g n e := by
  obtain ⟨t, cs, hB, h1, h2⟩ := h; exact ⟨t, cs, hB, h1, fun j hj => by rw [← he j hj]; exact h2 j hj⟩
theorem PB.frozen {w : World} {g n : Nat} {d : Nat → PI} (h : PB w g n d) (j : Nat) : w.frozen? ⟨g, j, none⟩ = false := by
  obtain ⟨t, cs, hB, _⟩ := h; exact hB.frozen j
theorem PB.drewN {w : World} {g n : Nat} {d : Nat → PI} (h : PB w g n d) (k : Nat) : PB (w.drewN k) g n d := h
def upd2 (d : Nat → PI) (i : Nat) (p : PI) (k : Nat) : PI := if k = i then p else d k
theorem PB.set {w : World} {g n : Nat} {d : Nat → PI} (h : PB w g n d) {i : Nat} (hi : i < n) (x y : Int) : PB ((w.setCell ⟨g, i * 2, none⟩ (.int .i64 x)).setCell ⟨g, i * 2 + 1, none⟩ (.int .i64 y)) g n (upd2 d i (x, y)) := by
  obtain ⟨t, cs, hB, h1, h2⟩ := h; refine ⟨t, _, (hB.set_ (i * 2) _).set_ (i * 2 + 1) _, by simpa using h1, fun j hj => ?_⟩; unfold upd2
  by_cases hji : j = i
  · subst hji; rw [if_pos rfl]; refine ⟨?_, ?_⟩
    · rw [Array.getElem?_setIfInBounds_ne (by omega), Array.getElem?_setIfInBounds_self_of_lt (by omega)]
    · rw [Array.getElem?_setIfInBounds_self_of_lt (by simp; omega)]
  · rw [if_neg hji]; refine ⟨?_, ?_⟩
    · rw [Array.getElem?_setIfInBounds_ne (by omega), Array.getElem?_setIfInBounds_ne (by omega)]; exact (h2 j hj).1
    · rw [Array.getElem?_setIfInBounds_ne (by omega), Array.getElem?_setIfInBounds_ne (by omega)]; exact (h2 j hj).2
theorem PB.swap {w : World} {g n : Nat} {d : Nat → PI} (h : PB w g n d) {i j : Nat} (hi : i < n) (hj : j < n) {x y u v : Int} (hx : d i = (x, y)) (hu : d j = (u, v)) :
    PB ((((w.setCell ⟨g, i * 2, none⟩ (.int .i64 u)).setCell ⟨g, i * 2 + 1, none⟩ (.int .i64 v)).setCell ⟨g, j * 2, none⟩ (.int .i64 x)).setCell ⟨g, j * 2 + 1, none⟩ (.int .i64 y)) g n (swp d i j) := by
  refine ((h.set hi u v).set hj x y).congr fun k hk => ?_
  unfold upd2 swp
  by_cases h1 : k = j
  · rw [if_pos h1]
    by_cases h2 : k = i
    · rw [if_pos h2, ← hx, ← h2, h1]
    · rw [if_neg h2, if_pos h1, hx]
  · rw [if_neg h1, if_neg h1, hu]
theorem Mv.set4 (w : World) (g : Nat) (a b c e : Nat) (p q r s : Value) : Mv g w ((((w.setCell ⟨g, a, none⟩ p).setCell ⟨g, b, none⟩ q).setCell ⟨g, c, none⟩ r).setCell ⟨g, e, none⟩ s) :=
  Mv.trans (Mv.trans (Mv.trans (Mv.setCells w g a [p]) (Mv.setCells _ g b [q])) (Mv.setCells _ g c [r])) (Mv.setCells _ g e [s])
set_option maxHeartbeats 6400000 in
set_option maxRecDepth 100000 in
theorem swapR_any (g N cap a b n : Nat) (d : Nat → PI) (cmp : Value) (w : World) (h : PB w g N d) (hb : b + n ≤ N) (ha : a + n ≤ b) (hN : N ≤ 1000000) :
    Calls Tryz.prog 150 #[.slice (some ⟨g, 0, none⟩) N cap, .int .i64 a, .int .i64 b, .int .i64 n, cmp] w fun e w' => e = .returned (.tuple #[]) ∧ Mv g w w' ∧ PB w' g N (swr d a b n) := by
  have HP : Sl _ := ⟨h⟩; have HAB : Sl (b + n ≤ N ∧ a + n ≤ b ∧ N ≤ 1000000) := ⟨hb, ha, hN⟩; clear h hb ha hN; go_enter Tryz.func150, Tryz.ntmps150; go_wp2_with fail
  go_loopw [10] (fun s10 wr => ∃ (k : Nat), k ≤ n ∧ s10 = .int .i64 k ∧ Sl (Mv g w wr ∧ PB wr g N (swr d a b k))) (fun s10 _ => n - (RowKit.intOf s10).toNat)
  case atStart => exact ⟨0, Nat.zero_le _, rfl, ⟨Mv.refl _ _, HP.out⟩⟩
  case round =>
    obtain ⟨k, hk, rfl, HK⟩ := hrel; obtain ⟨hb, ha, hN⟩ := HAB.out
    by_cases hkn : k < n
    · have hkI : (k : Int) < (n : Int) := (by omega); obtain ⟨p, hp⟩ : ∃ p, a + k = p := ⟨_, rfl⟩; obtain ⟨q, hq⟩ : ∃ q, b + k = q := ⟨_, rfl⟩; have HPQ : Sl (a + k = p ∧ b + k = q) := ⟨hp, hq⟩; have hpI : (a : Int) + (k : Int) = (p : Int) := (by omega); have hqI : (b : Int) + (k : Int) = (q : Int) := (by omega); have hpN : p < N := (by omega); have hqN : q < N := (by omega); have hpN2 : (p : Int) < (N : Int) := (by omega); have hqN2 : (q : Int) < (N : Int) := (by omega); have hpw : IntKind.i64.wrap (p : Int) = (p : Int) := (by rw [IntKind.wrap_i64]; omega); have hqw : IntKind.i64.wrap (q : Int) = (q : Int) := (by rw [IntKind.wrap_i64]; omega); obtain ⟨cp1, cp2⟩ := HK.out.2.cell hpN; obtain ⟨cq1, cq2⟩ := HK.out.2.cell hqN; obtain ⟨P, hP⟩ : ∃ P, swr d a b k p = P := ⟨_, rfl⟩; obtain ⟨R, hR⟩ : ∃ R, swr d a b k q = R := ⟨_, rfl⟩; rw [hP] at cp1 cp2; rw [hR] at cq1 cq2; obtain ⟨x, y⟩ := P; obtain ⟨u, v⟩ := R; have HPR : Sl _ := ⟨And.intro hP hR⟩; have HNN : Sl (p < N ∧ q < N) := ⟨hpN, hqN⟩; have hne : p ≠ q := (by omega); have hk6 : k ≤ 1000000 := (by omega); have fp1 := HK.out.2.frozen (p * 2); have fp2 := HK.out.2.frozen (p * 2 + 1); have fq1 := HK.out.2.frozen (q * 2); have fq2 := HK.out.2.frozen (q * 2 + 1); simp only [] at cp1 cp2 cq1 cq2; clear hP hR hp hq hb ha hN; go_wp2_with fail
      go_region
      go_wp2_with fail; have hpb := HK.out.2.swap HNN.out.1 HNN.out.2 HPR.out.1 HPR.out.2; exact ⟨⟨k + 1, hkn, by go_num, ⟨Mv.trans HK.out.1 (Mv.trans (Mv.set4 _ _ _ _ _ _ _ _ _ _) (Mv.drew _ _)), by rw [swr, HPQ.out.1, HPQ.out.2]; exact hpb⟩⟩, by simp [RowKit.intOf]; omega⟩
    · obtain rfl : k = n := (by omega); go_wp2_with fail; go_end0; exact ⟨rfl, HK.out.1, HK.out.2⟩
end Go.Proofs.YtafadpaljanghaaGreatDoor
namespace Go.Proofs.YtafadpaljanghaaGreatDoor
set_option linter.unusedSimpArgs false
open Go.RowKit
set_option linter.unusedVariables false
def cnt1 (M : List Lw) (i : Nat) : Nat := M.countP fun x => decide (x.1 = i)
def lowF (l : List Int) (M : List Lw) (i : Nat) : Int := gt l i - 12 * (cnt1 M i : Int)
def fl1 (f : Nat → Int) (n : Nat) : List Int := (List.range n).map f
theorem fl1_frL (f : Nat → Int) (n : Nat) : (fl1 f n).map iv = frL n f := by unfold fl1 frL; rw [List.map_map]; rfl
end Go.Proofs.YtafadpaljanghaaGreatDoor
namespace Go.Proofs.YtafadpaljanghaaGreatDoor
set_option linter.unusedSimpArgs false
open Go.RowKit
set_option linter.unusedVariables false
theorem rot_pm {α : Type} {m : Nat} : ∀ (s i j : Nat) (d : Nat → α), i + j ≤ s → 0 < i → 0 < j → i ≤ m → Pm (m - i) (m + j) d (rot d (m - i) m (m + j))
  | 0, i, j, d, h, hi, hj, him => by omega
  | s+1, i, j, d, h, hi, hj, him => by
    rcases Nat.lt_trichotomy i j with hl | hl | hl
    · rw [← rot_right d him hl]; exact (swr_pm d _ _ i (Nat.le_refl _) (by omega) (by omega) (by omega)).trans ((rot_pm s i (j - i) _ (by omega) hi (by omega) him).mono (Nat.le_refl _) (by omega))
    · subst hl; rw [← rot_end d him]; exact swr_pm d _ _ i (Nat.le_refl _) (by omega) (by omega) (by omega)
    · rw [← rot_left d him hl]; exact (swr_pm d _ _ j (Nat.le_refl _) (by omega) (by omega) (by omega)).trans ((rot_pm s (i - j) j _ (by omega) (by omega) hj (by omega)).mono (by omega) (Nat.le_refl _))
set_option maxHeartbeats 6400000 in
set_option maxRecDepth 100000 in
theorem rotate_any (g N cap a m b : Nat) (d : Nat → PI) (cmp : Value) (w : World) (h : PB w g N d) (ha : a < m) (hm : m < b) (hb : b ≤ N) (hN : N ≤ 1000000) :
    Calls Tryz.prog 135 #[.slice (some ⟨g, 0, none⟩) N cap, .int .i64 a, .int .i64 m, .int .i64 b, cmp] w fun e w' => e = .returned (.tuple #[]) ∧ Mv g w w' ∧ PB w' g N (rot d a m b) := by
  have HP : Sl _ := ⟨h⟩; have HAB : Sl (a < m ∧ m < b ∧ b ≤ N ∧ N ≤ 1000000) := ⟨ha, hm, hb, hN⟩; have h1 : (m : Int) ≤ 1000000 := (by omega); have h2 : (b : Int) ≤ 1000000 := (by omega); have h3 : (a : Int) ≤ (m : Int) := (by omega); have h4 : (m : Int) ≤ (b : Int) := (by omega); obtain ⟨i0, hi0⟩ : ∃ i0, m - a = i0 := ⟨_, rfl⟩; obtain ⟨j0, hj0⟩ : ∃ j0, b - m = j0 := ⟨_, rfl⟩; have HIJ : Sl (m - a = i0 ∧ b - m = j0) := ⟨hi0, hj0⟩; have hi1 : (m : Int) - (a : Int) = (i0 : Int) := (by omega); have hj1 : (b : Int) - (m : Int) = (j0 : Int) := (by omega); have hi2 : IntKind.i64.wrap (i0 : Int) = (i0 : Int) := (by rw [IntKind.wrap_i64]; omega); have hj2 : IntKind.i64.wrap (j0 : Int) = (j0 : Int) := (by rw [IntKind.wrap_i64]; omega); clear h ha hm hb hN hi0 hj0; go_enter Tryz.func135, Tryz.ntmps135; go_wp2_with fail; clear hi1 hj1 hi2 hj2
  go_loopw [10, 11] (fun s10 s11 wr => ∃ (i j : Nat) (e : Nat → PI), 0 < i ∧ 0 < j ∧ i ≤ i0 ∧ j ≤ j0 ∧ s10 = .int .i64 i ∧ s11 = .int .i64 j ∧ Sl (Mv g w wr ∧ PB wr g N e ∧ rot e (m - i) m (m + j) = rot d a m b)) (fun s10 s11 _ => (RowKit.intOf s10).toNat + (RowKit.intOf s11).toNat)
  case atStart =>
    obtain ⟨ha, hm, hb, hN⟩ := HAB.out; have hij := HIJ.out; exact ⟨i0, j0, d, by omega, by omega, Nat.le_refl _, Nat.le_refl _, rfl, rfl, ⟨Mv.refl _ _, HP.out, by rw [show m - i0 = a by omega, show m + j0 = b by omega]⟩⟩
  case round =>
    obtain ⟨i, j, e, hi, hj, hii, hjj, rfl, rfl, HK⟩ := hrel; obtain ⟨ha, hm, hb, hN⟩ := HAB.out; have hij := HIJ.out; clear HP; obtain ⟨p, hp⟩ : ∃ p, m - i = p := ⟨_, rfl⟩; have HPP : Sl _ := ⟨hp⟩; have hpI : (m : Int) - (i : Int) = (p : Int) := (by omega); have hpw : IntKind.i64.wrap (p : Int) = (p : Int) := (by rw [IntKind.wrap_i64]; omega); have him : i ≤ m := (by omega); have hmj : m + j ≤ b := (by omega); rcases Nat.lt_trichotomy i j with hl | hl | hl
    · have hne : ((i : Int) != (j : Int)) = true := (by simp; omega); have hgt : decide ((j : Int) < (i : Int)) = false := decide_eq_false (by omega); obtain ⟨q, hq⟩ : ∃ q, m + j - i = q := ⟨_, rfl⟩; have hq0 : (m : Int) + (j : Int) ≤ 2000000 := (by omega); have hqI : (m : Int) + (j : Int) - (i : Int) = (q : Int) := (by omega); have hqw : IntKind.i64.wrap (q : Int) = (q : Int) := (by rw [IntKind.wrap_i64]; omega); obtain ⟨r, hr⟩ : ∃ r, j - i = r := ⟨_, rfl⟩; have hrI : (j : Int) - (i : Int) = (r : Int) := (by omega); have hrw : IntKind.i64.wrap (r : Int) = (r : Int) := (by rw [IntKind.wrap_i64]; omega); have HSW : Sl _ := ⟨swapR_any g N cap p q i e cmp wr HK.out.2.1 (by omega) (by omega) hN⟩; have HRT : Sl _ := ⟨rot_right e him hl⟩; have HBN : Sl (0 < r ∧ r ≤ j0 ∧ r < j) := ⟨by omega⟩; rw [hp, hq, hr] at HRT; have hkr := HK.out.2.2; rw [hp] at hkr; have HKR : Sl _ := ⟨hkr⟩; clear hkr hp hq hr ha hm hb hN hij him hmj; go_wp2_with fail; refine HSW.out.mono ?_; rintro ee w2 ⟨rfl, hm2, hp2⟩; have HW : Sl _ := ⟨And.intro hm2 hp2⟩; clear hm2 hp2 HSW; go_wp2_with fail; exact ⟨⟨i, r, _, hi, HBN.out.1, hii, HBN.out.2.1, rfl, rfl, ⟨Mv.trans HK.out.1 HW.out.1, HW.out.2, by rw [HPP.out, HRT.out]; exact HKR.out⟩⟩, by have := HBN.out.2.2; simp [RowKit.intOf]; omega⟩
    · subst hl; have hne : ((i : Int) != (i : Int)) = false := (by simp); have HSW : Sl _ := ⟨swapR_any g N cap p m i e cmp wr HK.out.2.1 (by omega) (by omega) hN⟩; have HRT : Sl _ := ⟨rot_end e him⟩; have hkr := HK.out.2.2; rw [hp] at HRT hkr; have HKR : Sl _ := ⟨hkr⟩; clear hkr hp ha hm hb hN hij him hmj; go_wp2_with fail; refine HSW.out.mono ?_; rintro ee w2 ⟨rfl, hm2, hp2⟩; have HW : Sl _ := ⟨And.intro hm2 hp2⟩; clear hm2 hp2 HSW; go_wp2_with fail; go_end0; exact ⟨rfl, Mv.trans HK.out.1 HW.out.1, by rw [← HKR.out, ← HRT.out]; exact HW.out.2⟩
    · have hne : ((i : Int) != (j : Int)) = true := (by simp; omega); have hgt : decide ((j : Int) < (i : Int)) = true := decide_eq_true (by omega); obtain ⟨r, hr⟩ : ∃ r, i - j = r := ⟨_, rfl⟩; have hrI : (i : Int) - (j : Int) = (r : Int) := (by omega); have hrw : IntKind.i64.wrap (r : Int) = (r : Int) := (by rw [IntKind.wrap_i64]; omega); have HSW : Sl _ := ⟨swapR_any g N cap p m j e cmp wr HK.out.2.1 (by omega) (by omega) hN⟩; have HRT : Sl _ := ⟨rot_left e him hl⟩; have HBN : Sl (0 < r ∧ r ≤ i0 ∧ r < i) := ⟨by omega⟩; rw [hr, hp] at HRT; have hkr := HK.out.2.2; rw [hp] at hkr; have HKR : Sl _ := ⟨hkr⟩; clear hkr hp hr ha hm hb hN hij him hmj; go_wp2_with fail; refine HSW.out.mono ?_; rintro ee w2 ⟨rfl, hm2, hp2⟩; have HW : Sl _ := ⟨And.intro hm2 hp2⟩; clear hm2 hp2 HSW; go_wp2_with fail; exact ⟨⟨r, j, _, HBN.out.1, hj, HBN.out.2.1, hjj, rfl, rfl, ⟨Mv.trans HK.out.1 HW.out.1, HW.out.2, by rw [HRT.out]; exact HKR.out⟩⟩, by have := HBN.out.2.2; simp [RowKit.intOf]; omega⟩
end Go.Proofs.YtafadpaljanghaaGreatDoor
namespace Go.Proofs.YtafadpaljanghaaGreatDoor
set_option linter.unusedSimpArgs false
open Go.RowKit
set_option linter.unusedVariables false
def due (p : PI) : Int := p.2
def KeyAt (w : World) (gf : Nat) : Prop := Blk w gf 95 #[.func (.func 49) #[] #[]]
set_option maxHeartbeats 12800000 in
set_option maxRecDepth 100000 in
theorem insSort_any (g gf N cap a b : Nat) (d : Nat → PI) (w : World) (h : PB w g N d) (hf : KeyAt w gf) (hne : gf ≠ g) (hab : a ≤ b) (hb : b ≤ N) (hN : N ≤ 1000000) :
    Calls Tryz.prog 114 #[.slice (some ⟨g, 0, none⟩) N cap, .int .i64 a, .int .i64 b, .func (.func 73) #[] #[.pointer (some ⟨gf, 0, none⟩)]] w fun e w' => e = .returned (.tuple #[]) ∧ Mv g w w' ∧ ∃ d', PB w' g N d' ∧ Pm a b d d' ∧ Srt due d' a b := by
  have hrun : ∀ (args : Array Value) (w : World), (callFunc 73 args).run Tryz.prog w = .ok (.enter 73 args) w := fun a w => by go_simp
  have HP : Sl _ := ⟨h⟩; have HF : Sl _ := ⟨hf⟩; have HAB : Sl (a ≤ b ∧ b ≤ N ∧ N ≤ 1000000 ∧ gf ≠ g) := ⟨hab, hb, hN, hne⟩; have hw0 : IntKind.i64.wrap 0 = 0 := (by decide); have h1 : (b : Int) ≤ 1000000 := (by omega); have h2 : (a : Int) ≤ (b : Int) := (by omega); clear h hf hab hb hN hne; go_enter Tryz.func114, Tryz.ntmps114; go_wp2_with fail
  go_loopw [8] (fun s8 wr => ∃ (m : Nat) (e : Nat → PI), a + 1 ≤ m ∧ (m ≤ b ∨ m = a + 1) ∧ s8 = .int .i64 m ∧ Sl (Mv g w wr ∧ PB wr g N e ∧ Pm a b d e ∧ Srt due e a m)) (fun s8 _ => b - (RowKit.intOf s8).toNat)
  case atStart => exact ⟨a + 1, d, Nat.le_refl _, .inr rfl, by go_num, ⟨Mv.refl _ _, HP.out, .refl, .one (Nat.le_refl _)⟩⟩
  case round =>
    clear HP; obtain ⟨m, e, ham, hmb, rfl, HK⟩ := hrel
    by_cases hm : m < b
    · have hmI : (m : Int) < (b : Int) := (by omega); go_wp2_with fail
      go_loopw [9] (fun s9 wq => ∃ (j : Nat) (f : Nat → PI), a ≤ j ∧ j ≤ m ∧ s9 = .int .i64 j ∧ Sl (Mv g w wq ∧ PB wq g N f ∧ Pm a b d f ∧ Hole due f a m j)) (fun s9 _ => (RowKit.intOf s9).toNat)
      case atStart => exact ⟨m, e, by omega, Nat.le_refl _, rfl, ⟨HK.out.1, HK.out.2.1, HK.out.2.2.1, .start HK.out.2.2.2⟩⟩
      case round =>
        clear HK; obtain ⟨j, f, haj, hjm, rfl, HK⟩ := hrel; obtain ⟨hab, hbN, hN, hne⟩ := HAB.out
        by_cases hja : j = a
        · subst hja; have hgt : decide ((j : Int) < (j : Int)) = false := decide_eq_false (by omega); have HDN : Sl (Srt due f j (m + 1)) := ⟨HK.out.2.2.2.done (.inl rfl)⟩; have HQ : Sl (Mv g w wr.drew ∧ PB wr.drew g N f ∧ Pm j b d f) := ⟨Mv.trans HK.out.1 (Mv.drew _ _), HK.out.2.1.drewN 1, HK.out.2.2.1⟩; have hmN : (m : Int) ≤ 1000000 := (by omega); clear HK; go_wp2_with fail; have hm : Mv wr.heap.size wr wr.drew := Mv.drew _ _; have HSW : Sl (RowKit.Below wr.heap.size wr wr.drew) := ⟨below_drewN (Below.refl _ _) 1⟩; refine wp_region_held_drew (S := fun w' => Mv wr.heap.size wr w') (by kernel_rfl) hm (fun hHeld => ?_); clear hm; refine wpAnyH_pure 0 (v := .int .i64 (j : Int)) rfl (by kernel_rfl) (by kernel_rfl) (by kernel_rfl) (fun _ _ _ h => h) rfl (fun _ => rfl) (by assumption) ?_; simp only [Act.put, sS0, sS1, sS2]; refine wpAnyH_pure 1 (v := .int .i64 (j : Int)) rfl (by kernel_rfl) (by kernel_rfl) (by kernel_rfl) (fun _ _ _ h => h) rfl (fun _ => rfl) (by assumption) ?_; simp only [Act.put, sS0, sS1, sS2]; refine wpAnyH_pure 2 (v := .bool false) rfl (by kernel_rfl) (by kernel_rfl) (by kernel_rfl) (fun _ _ _ h => h) rfl (fun _ => by go_simp) (by assumption) ?_; simp only [Act.put, sS0, sS1, sS2]; refine wpAnyH_pure 3 (v := .bool false) rfl (by kernel_rfl) (by kernel_rfl) (by kernel_rfl) (fun _ _ _ h => h) rfl (fun _ => rfl) (by assumption) ?_; simp only [Act.put, sS0, sS1, sS2]; refine wpAnyH_no 4 rfl (by kernel_rfl) (by kernel_rfl) (by kernel_rfl) (fun _ _ _ h => h) (by rfl) (by assumption) ?_; simp only [Act.put, sS0, sS1, sS2]; refine wpAnyH_no 5 rfl (by kernel_rfl) (by kernel_rfl) (by kernel_rfl) (fun _ _ _ h => h) (by rfl) (by assumption) ?_; simp only [Act.put, sS0, sS1, sS2]; refine wpAnyH_no 6 rfl (by kernel_rfl) (by kernel_rfl) (by kernel_rfl) (fun _ _ _ h => h) (by rfl) (by assumption) ?_; simp only [Act.put, sS0, sS1, sS2]; refine wpAnyH_no 7 rfl (by kernel_rfl) (by kernel_rfl) (by kernel_rfl) (fun _ _ _ h => h) (by rfl) (by assumption) ?_; simp only [Act.put, sS0, sS1, sS2]; refine wpAnyH_no 8 rfl (by kernel_rfl) (by kernel_rfl) (by kernel_rfl) (fun _ _ _ h => h) (by rfl) (by assumption) ?_; simp only [Act.put, sS0, sS1, sS2]; refine wpAnyH_no 9 rfl (by kernel_rfl) (by kernel_rfl) (by kernel_rfl) (fun _ _ _ h => h) (by rfl) (by assumption) ?_; simp only [Act.put, sS0, sS1, sS2]; refine wpAnyH_no 10 rfl (by kernel_rfl) (by kernel_rfl) (by kernel_rfl) (fun _ _ _ h => h) (by rfl) (by assumption) ?_; simp only [Act.put, sS0, sS1, sS2]; refine wpAnyH_no 11 rfl (by kernel_rfl) (by kernel_rfl) (by kernel_rfl) (fun _ _ _ h => h) (by rfl) (by assumption) ?_; simp only [Act.put, sS0, sS1, sS2]; refine wpAnyH_no 12 rfl (by kernel_rfl) (by kernel_rfl) (by kernel_rfl) (fun _ _ _ h => h) (by rfl) (by assumption) ?_; simp only [Act.put, sS0, sS1, sS2]; refine wpAnyH_no 13 rfl (by kernel_rfl) (by kernel_rfl) (by kernel_rfl) (fun _ _ _ h => h) (by rfl) (by assumption) ?_; simp only [Act.put, sS0, sS1, sS2]
          refine wpAnyH_no 14 rfl (by kernel_rfl) (by kernel_rfl) (by kernel_rfl) (fun _ _ _ h => h) (by rfl) (by assumption) ?_; simp only [Act.put, sS0, sS1, sS2]; refine wpAnyH_no 15 rfl (by kernel_rfl) (by kernel_rfl) (by kernel_rfl) (fun _ _ _ h => h) (by rfl) (by assumption) ?_; simp only [Act.put, sS0, sS1, sS2]; refine wpAnyH_pure 16 (v := .bool false) rfl (by kernel_rfl) (by kernel_rfl) (by kernel_rfl) (fun _ _ _ h => h) rfl (fun _ => by go_simp) (by assumption) ?_; simp only [Act.put, sS0, sS1, sS2]; refine wpAnyH_done (by kernel_rfl) ?_ _; clear hHeld; go_wp2_with fail; exact ⟨⟨m + 1, f, by omega, .inl hm, by go_num, ⟨HQ.out.1, HQ.out.2.1, HQ.out.2.2, HDN.out⟩⟩, by simp [RowKit.intOf]; omega⟩
        · obtain ⟨i, hi⟩ : ∃ i, j = i + 1 := ⟨j - 1, by omega⟩; have hij : (j : Int) - 1 = (i : Int) := (by omega); have hjN : j < N := (by omega); have hiN : i < N := (by omega); have hjI : (j : Int) < (N : Int) := (by omega); have hiI : (i : Int) < (N : Int) := (by omega); have haI : (a : Int) < (j : Int) := (by omega); have hjb : (j : Int) ≤ 1000000 := (by omega); have hiw : IntKind.i64.wrap (i : Int) = (i : Int) := (by rw [IntKind.wrap_i64]; omega); have hgt : decide ((a : Int) < (j : Int)) = true := decide_eq_true haI; obtain ⟨p, hp⟩ : ∃ p, f j = p := ⟨_, rfl⟩; obtain ⟨q, hq⟩ : ∃ q, f i = q := ⟨_, rfl⟩; obtain ⟨x, y⟩ := p; obtain ⟨u, v⟩ := q; have HPQ : Sl (f j = (x, y) ∧ f i = (u, v)) := ⟨hp, hq⟩; have HIJ : Sl (j = i + 1 ∧ a ≤ i ∧ j < N ∧ i < N) := ⟨hi, by omega, hjN, hiN⟩
          have HRA : Sl ((∀ w' : World, Mv wr.heap.size wr w' → w'.rangeAt g (j * 2) (#[.int .i64 x, .int .i64 y] : Array Value).toList) ∧ (∀ w' : World, Mv wr.heap.size wr w' → w'.rangeAt g (i * 2) (#[.int .i64 u, .int .i64 v] : Array Value).toList)) := ⟨by
            refine ⟨fun w' hm' => ?_, fun w' hm' => ?_⟩
            · have := (HK.out.2.1.mv hm' (by have := HK.out.2.1.lt; omega)).range hjN; rw [hp] at this; exact this
            · have := (HK.out.2.1.mv hm' (by have := HK.out.2.1.lt; omega)).range hiN
              rw [hq] at this; exact this⟩
          obtain ⟨c, hc⟩ : ∃ c, Lib.compareInt y v = c := ⟨_, rfl⟩; have HCC : Sl (c < 0 ↔ y < v) := ⟨by rw [← hc]; exact cmpi_lt y v⟩
          have HCM : Sl (∀ (W : World), RowKit.Below wr.heap.size wr W → Calls Tryz.prog 73 #[.agg #[.int .i64 x, .int .i64 y], .agg #[.int .i64 u, .int .i64 v], .pointer (some ⟨gf, 0, none⟩)] W fun e w' => e = .returned (.int .i64 c) ∧ RowKit.Below wr.heap.size wr w') := ⟨fun W hW => by
            have hk1 : Blk wr gf _ _ := HF.out.mv HK.out.1 hne; have := by1_any gf x y u v W (hk1.below hW hk1.lt); rw [hc] at this
            exact this.mono fun e w' g => ⟨g.1, hW.trans (g.2.mono hW.size)⟩⟩
          clear hc hp hq hja hi hab hbN hN hne
          by_cases hlt : y < v
          · have hcd : decide (c < 0) = true := decide_eq_true (HCC.out.2 hlt); have HLT : Sl _ := ⟨hlt⟩; clear hlt; go_wp2_with fail; have hm : Mv wr.heap.size wr wr.drew := Mv.drew _ _; have HSW : Sl (RowKit.Below wr.heap.size wr wr.drew) := ⟨below_drewN (Below.refl _ _) 1⟩; refine wp_region_held_drew (S := fun w' => Mv wr.heap.size wr w') (by kernel_rfl) hm (fun hHeld => ?_); clear hm; refine wpAnyH_pure 0 (v := .int .i64 (j : Int)) rfl (by kernel_rfl) (by kernel_rfl) (by kernel_rfl) (fun _ _ _ h => h) rfl (fun _ => rfl) (by assumption) ?_; simp only [Act.put, sS0, sS1, sS2]; refine wpAnyH_pure 1 (v := .int .i64 (a : Int)) rfl (by kernel_rfl) (by kernel_rfl) (by kernel_rfl) (fun _ _ _ h => h) rfl (fun _ => rfl) (by assumption) ?_; simp only [Act.put, sS0, sS1, sS2]; refine wpAnyH_pure 2 (v := .bool true) rfl (by kernel_rfl) (by kernel_rfl) (by kernel_rfl) (fun _ _ _ h => h) rfl (fun _ => by go_simp) (by assumption) ?_; simp only [Act.put, sS0, sS1, sS2]; refine wpAnyH_pure 3 (v := .bool true) rfl (by kernel_rfl) (by kernel_rfl) (by kernel_rfl) (fun _ _ _ h => h) rfl (fun _ => rfl) (by assumption) ?_; simp only [Act.put, sS0, sS1, sS2]; refine wpAnyH_pureg 4 (v := .func (.func 73) #[] #[.pointer (some ⟨gf, 0, none⟩)]) rfl (by kernel_rfl) (by kernel_rfl) (by kernel_rfl) (fun _ _ _ h => h) (by rfl) (fun _ => rfl) (by assumption) ?_; simp only [Act.put, sS0, sS1, sS2]; refine wpAnyH_pureg 5 (v := .slice (some ⟨g, 0, none⟩) N cap) rfl (by kernel_rfl) (by kernel_rfl) (by kernel_rfl) (fun _ _ _ h => h) (by rfl) (fun _ => rfl) (by assumption) ?_; simp only [Act.put, sS0, sS1, sS2]; refine wpAnyH_pureg 6 (v := .int .i64 (j : Int)) rfl (by kernel_rfl) (by kernel_rfl) (by kernel_rfl) (fun _ _ _ h => h) (by rfl) (fun _ => rfl) (by assumption) ?_; simp only [Act.put, sS0, sS1, sS2]; refine wpAnyH_pureg 7 (v := .pointer (some ⟨g, j * 2, none⟩)) rfl (by kernel_rfl) (by kernel_rfl) (by kernel_rfl) (fun _ _ _ h => h) (by rfl) (fun _ => by go_simp) (by assumption) ?_; simp only [Act.put, sS0, sS1, sS2]; refine wpAnyH_loadg 8 93 (.tmp 25) rfl rfl (by rfl) g (j * 2) rfl (#[.int .i64 x, .int .i64 y]) _ (fun w' h => HRA.out.1 w' h) Tryz.underlying93 rfl size_low (by kernel_rfl) (by kernel_rfl) (by kernel_rfl) (fun _ _ _ h => h) (by assumption) ?_; simp only [Act.put, sS0, sS1, sS2]; refine wpAnyH_pureg 9 (v := .slice (some ⟨g, 0, none⟩) N cap) rfl (by kernel_rfl) (by kernel_rfl) (by kernel_rfl) (fun _ _ _ h => h) (by rfl) (fun _ => rfl) (by assumption) ?_; simp only [Act.put, sS0, sS1, sS2]; refine wpAnyH_pureg 10 (v := .int .i64 (j : Int)) rfl (by kernel_rfl) (by kernel_rfl) (by kernel_rfl) (fun _ _ _ h => h) (by rfl) (fun _ => rfl) (by assumption) ?_; simp only [Act.put, sS0, sS1, sS2]; refine wpAnyH_pureg 11 (v := .int .i64 (i : Int)) rfl (by kernel_rfl) (by kernel_rfl) (by kernel_rfl) (fun _ _ _ h => h) (by rfl) (fun _ => by go_simp) (by assumption) ?_; simp only [Act.put, sS0, sS1, sS2]
            refine wpAnyH_pureg 12 (v := .pointer (some ⟨g, i * 2, none⟩)) rfl (by kernel_rfl) (by kernel_rfl) (by kernel_rfl) (fun _ _ _ h => h) (by rfl) (fun _ => by go_simp) (by assumption) ?_; simp only [Act.put, sS0, sS1, sS2]; refine wpAnyH_loadg 13 93 (.tmp 30) rfl rfl (by rfl) g (i * 2) rfl (#[.int .i64 u, .int .i64 v]) _ (fun w' h => HRA.out.2 w' h) Tryz.underlying93 rfl size_low (by kernel_rfl) (by kernel_rfl) (by kernel_rfl) (fun _ _ _ h => h) (by assumption) ?_; simp only [Act.put, sS0, sS1, sS2]; refine wpAnyH_onew 14 rfl (by kernel_rfl) (by rfl) (fun K hK => ?_); go_simp; go_at_call 73
            (with_reducible refine (HCM.out _ HSW.out).mono ?_)
            rintro ee w2 ⟨rfl, hb⟩; replace HSW : Sl (RowKit.Below wr.heap.size wr w2) := ⟨hb⟩; refine hK.out _ _ (Mv.below HSW.out) (fun hHeld => ?_); clear hK K hb
            (try simp only [Act.put, sS0, sS1, sS2])
            refine wpAnyH_pureg 15 (v := .bool true) rfl (by kernel_rfl) (by kernel_rfl) (by kernel_rfl) (fun _ _ _ h => h) (by rfl) (fun _ => by go_simp) (by assumption) ?_; simp only [Act.put, sS0, sS1, sS2]; refine wpAnyH_pure 16 (v := .bool true) rfl (by kernel_rfl) (by kernel_rfl) (by kernel_rfl) (fun _ _ _ h => h) rfl (fun _ => by go_simp) (by assumption) ?_; simp only [Act.put, sS0, sS1, sS2]; refine wpAnyH_done (by kernel_rfl) ?_ _; clear hHeld; have HP2 : Sl (PB w2 g N f) := ⟨HK.out.2.1.below HSW.out HK.out.2.1.lt⟩; have HM2 : Sl (Mv g w w2) := ⟨Mv.trans HK.out.1 (Mv.below HSW.out)⟩
            have HHO : Sl (Hole due (swp f j i) a m i) := ⟨by
              have h := HK.out.2.2.2; obtain ⟨e1, e2, _, _⟩ := HIJ.out; subst e1
              exact h.move e2 hjm (by rw [HPQ.out.1, HPQ.out.2]; exact HLT.out)⟩
            have HPM : Sl (Pm a b d (swp f j i)) := ⟨by
              obtain ⟨e1, e2, _, _⟩ := HIJ.out
              exact .step j i HK.out.2.2.1 haj (by omega) e2 (by omega)⟩
            clear HK HRA HCM HSW; obtain ⟨cj1, cj2⟩ := HP2.out.cell hjN; obtain ⟨ci1, ci2⟩ := HP2.out.cell hiN; rw [HPQ.out.1] at cj1 cj2; rw [HPQ.out.2] at ci1 ci2; have fj1 := HP2.out.frozen (j * 2); have fj2 := HP2.out.frozen (j * 2 + 1); have fi1 := HP2.out.frozen (i * 2); have fi2 := HP2.out.frozen (i * 2 + 1); have hne2 : j ≠ i := (by have := HIJ.out; omega); simp only [] at cj1 cj2 ci1 ci2; clear hcd; go_wp2_with fail
            go_region
            go_wp2_with fail; have hpb := HP2.out.swap HIJ.out.2.2.1 HIJ.out.2.2.2 HPQ.out.1 HPQ.out.2; exact ⟨⟨i, _, HIJ.out.2.1, by omega, rfl, ⟨Mv.trans HM2.out (Mv.trans (Mv.set4 _ _ _ _ _ _ _ _ _ _) (Mv.drew _ _)), hpb, HPM.out, HHO.out⟩⟩, by simp [RowKit.intOf]; omega⟩
          · have hcd : decide (c < 0) = false := decide_eq_false (fun h => hlt (HCC.out.1 h)); have HDN : Sl (Srt due f a (m + 1)) := ⟨HK.out.2.2.2.done (.inr ⟨i, HIJ.out.1, HIJ.out.2.1, by rw [HPQ.out.1, HPQ.out.2]; exact hlt⟩)⟩; have hmN : (m : Int) ≤ 1000000 := (by omega); clear hlt; go_wp2_with fail; have hm : Mv wr.heap.size wr wr.drew := Mv.drew _ _; have HSW : Sl (RowKit.Below wr.heap.size wr wr.drew) := ⟨below_drewN (Below.refl _ _) 1⟩; refine wp_region_held_drew (S := fun w' => Mv wr.heap.size wr w') (by kernel_rfl) hm (fun hHeld => ?_); clear hm; refine wpAnyH_pure 0 (v := .int .i64 (j : Int)) rfl (by kernel_rfl) (by kernel_rfl) (by kernel_rfl) (fun _ _ _ h => h) rfl (fun _ => rfl) (by assumption) ?_; simp only [Act.put, sS0, sS1, sS2]; refine wpAnyH_pure 1 (v := .int .i64 (a : Int)) rfl (by kernel_rfl) (by kernel_rfl) (by kernel_rfl) (fun _ _ _ h => h) rfl (fun _ => rfl) (by assumption) ?_; simp only [Act.put, sS0, sS1, sS2]; refine wpAnyH_pure 2 (v := .bool true) rfl (by kernel_rfl) (by kernel_rfl) (by kernel_rfl) (fun _ _ _ h => h) rfl (fun _ => by go_simp) (by assumption) ?_; simp only [Act.put, sS0, sS1, sS2]; refine wpAnyH_pure 3 (v := .bool true) rfl (by kernel_rfl) (by kernel_rfl) (by kernel_rfl) (fun _ _ _ h => h) rfl (fun _ => rfl) (by assumption) ?_; simp only [Act.put, sS0, sS1, sS2]; refine wpAnyH_pureg 4 (v := .func (.func 73) #[] #[.pointer (some ⟨gf, 0, none⟩)]) rfl (by kernel_rfl) (by kernel_rfl) (by kernel_rfl) (fun _ _ _ h => h) (by rfl) (fun _ => rfl) (by assumption) ?_; simp only [Act.put, sS0, sS1, sS2]; refine wpAnyH_pureg 5 (v := .slice (some ⟨g, 0, none⟩) N cap) rfl (by kernel_rfl) (by kernel_rfl) (by kernel_rfl) (fun _ _ _ h => h) (by rfl) (fun _ => rfl) (by assumption) ?_; simp only [Act.put, sS0, sS1, sS2]; refine wpAnyH_pureg 6 (v := .int .i64 (j : Int)) rfl (by kernel_rfl) (by kernel_rfl) (by kernel_rfl) (fun _ _ _ h => h) (by rfl) (fun _ => rfl) (by assumption) ?_; simp only [Act.put, sS0, sS1, sS2]; refine wpAnyH_pureg 7 (v := .pointer (some ⟨g, j * 2, none⟩)) rfl (by kernel_rfl) (by kernel_rfl) (by kernel_rfl) (fun _ _ _ h => h) (by rfl) (fun _ => by go_simp) (by assumption) ?_; simp only [Act.put, sS0, sS1, sS2]; refine wpAnyH_loadg 8 93 (.tmp 25) rfl rfl (by rfl) g (j * 2) rfl (#[.int .i64 x, .int .i64 y]) _ (fun w' h => HRA.out.1 w' h) Tryz.underlying93 rfl size_low (by kernel_rfl) (by kernel_rfl) (by kernel_rfl) (fun _ _ _ h => h) (by assumption) ?_; simp only [Act.put, sS0, sS1, sS2]; refine wpAnyH_pureg 9 (v := .slice (some ⟨g, 0, none⟩) N cap) rfl (by kernel_rfl) (by kernel_rfl) (by kernel_rfl) (fun _ _ _ h => h) (by rfl) (fun _ => rfl) (by assumption) ?_; simp only [Act.put, sS0, sS1, sS2]; refine wpAnyH_pureg 10 (v := .int .i64 (j : Int)) rfl (by kernel_rfl) (by kernel_rfl) (by kernel_rfl) (fun _ _ _ h => h) (by rfl) (fun _ => rfl) (by assumption) ?_; simp only [Act.put, sS0, sS1, sS2]
            refine wpAnyH_pureg 11 (v := .int .i64 (i : Int)) rfl (by kernel_rfl) (by kernel_rfl) (by kernel_rfl) (fun _ _ _ h => h) (by rfl) (fun _ => by go_simp) (by assumption) ?_; simp only [Act.put, sS0, sS1, sS2]; refine wpAnyH_pureg 12 (v := .pointer (some ⟨g, i * 2, none⟩)) rfl (by kernel_rfl) (by kernel_rfl) (by kernel_rfl) (fun _ _ _ h => h) (by rfl) (fun _ => by go_simp) (by assumption) ?_; simp only [Act.put, sS0, sS1, sS2]; refine wpAnyH_loadg 13 93 (.tmp 30) rfl rfl (by rfl) g (i * 2) rfl (#[.int .i64 u, .int .i64 v]) _ (fun w' h => HRA.out.2 w' h) Tryz.underlying93 rfl size_low (by kernel_rfl) (by kernel_rfl) (by kernel_rfl) (fun _ _ _ h => h) (by assumption) ?_; simp only [Act.put, sS0, sS1, sS2]; refine wpAnyH_onew 14 rfl (by kernel_rfl) (by rfl) (fun K hK => ?_); go_simp; go_at_call 73
            (with_reducible refine (HCM.out _ HSW.out).mono ?_)
            rintro ee w2 ⟨rfl, hb⟩; replace HSW : Sl (RowKit.Below wr.heap.size wr w2) := ⟨hb⟩; refine hK.out _ _ (Mv.below HSW.out) (fun hHeld => ?_); clear hK K hb
            (try simp only [Act.put, sS0, sS1, sS2])
            refine wpAnyH_pureg 15 (v := .bool false) rfl (by kernel_rfl) (by kernel_rfl) (by kernel_rfl) (fun _ _ _ h => h) (by rfl) (fun _ => by go_simp) (by assumption) ?_; simp only [Act.put, sS0, sS1, sS2]; refine wpAnyH_pure 16 (v := .bool false) rfl (by kernel_rfl) (by kernel_rfl) (by kernel_rfl) (fun _ _ _ h => h) rfl (fun _ => by go_simp) (by assumption) ?_; simp only [Act.put, sS0, sS1, sS2]; refine wpAnyH_done (by kernel_rfl) ?_ _; clear hHeld; have HQ : Sl (Mv g w w2 ∧ PB w2 g N f ∧ Pm a b d f) := ⟨Mv.trans HK.out.1 (Mv.below HSW.out), HK.out.2.1.below HSW.out HK.out.2.1.lt, HK.out.2.2.1⟩; clear HK HRA HCM HSW hcd; go_wp2_with fail; exact ⟨⟨m + 1, f, by omega, .inl hm, by go_num, ⟨HQ.out.1, HQ.out.2.1, HQ.out.2.2, HDN.out⟩⟩, by simp [RowKit.intOf]; omega⟩
    · have HE : Sl (Srt due e a b) := ⟨HK.out.2.2.2.sub (Nat.le_refl _) (by omega)⟩; have hmI : ¬ (m : Int) < (b : Int) := (by omega); have hmd : decide ((m : Int) < (b : Int)) = false := decide_eq_false hmI; go_wp2_with fail; go_end0; exact ⟨rfl, HK.out.1, e, HK.out.2.1, HK.out.2.2.1, HE.out⟩
end Go.Proofs.YtafadpaljanghaaGreatDoor
namespace Go.Proofs.YtafadpaljanghaaGreatDoor
set_option linter.unusedSimpArgs false
open Go.RowKit
set_option linter.unusedVariables false
set_option maxHeartbeats 12800000 in
set_option maxRecDepth 100000 in
theorem smLeft_any (g gf N cap a m b : Nat) (d : Nat → PI) (w : World) (h : PB w g N d) (hf : KeyAt w gf) (hne : gf ≠ g) (ham : a < m) (hmb : m < b) (hb : b ≤ N) (hN : N ≤ 1000000) (hs1 : Srt due d a m) (hs2 : Srt due d m b) (h1 : m = a + 1) :
    Calls Tryz.prog 115 #[.slice (some ⟨g, 0, none⟩) N cap, .int .i64 a, .int .i64 m, .int .i64 b, .func (.func 73) #[] #[.pointer (some ⟨gf, 0, none⟩)]] w fun e w' => e = .returned (.tuple #[]) ∧ Mv g w w' ∧ ∃ d', PB w' g N d' ∧ Pm a b d d' ∧ Srt due d' a b := by
  have hrun : ∀ (args : Array Value) (w : World), (callFunc 73 args).run Tryz.prog w = .ok (.enter 73 args) w := fun a w => by go_simp
  have HP : Sl _ := ⟨h⟩; have HF : Sl _ := ⟨hf⟩; have HAB : Sl (a < m ∧ m < b ∧ b ≤ N ∧ N ≤ 1000000 ∧ gf ≠ g) := ⟨ham, hmb, hb, hN, hne⟩; have HS : Sl _ := ⟨And.intro hs1 hs2⟩; have hb6 : (b : Int) ≤ 1000000 := (by omega); have hbN : (b : Int) ≤ (N : Int) := (by omega); have hab0 : (a : Int) < (m : Int) := (by omega); have hmb0 : (m : Int) < (b : Int) := (by omega); have hma : (m : Int) - (a : Int) = 1 := (by omega); have H1 : Sl (m = a + 1) := ⟨h1⟩; clear h1; clear h hf hne ham hmb hb hN hs1 hs2; go_enter Tryz.func115, Tryz.ntmps115; go_wp2_with fail; clear hma
  go_loopw [10, 11, 12] (fun s10 s11 s12 wr => ∃ (i j : Nat) (v12 : Value), s10 = .int .i64 i ∧ s11 = .int .i64 j ∧ s12 = v12 ∧ m ≤ i ∧ i ≤ j ∧ j ≤ b ∧ Sl (Mv g w wr ∧ PB wr g N d) ∧ Sl ((∀ c, m ≤ c → c < i → due (d c) < due (d a)) ∧ (∀ c, j ≤ c → c < b → due (d a) ≤ due (d c)))) (fun s10 s11 _ _ => (RowKit.intOf s11 - RowKit.intOf s10).toNat)
  case atStart => exact ⟨m, b, _, rfl, rfl, rfl, Nat.le_refl _, Nat.le_of_lt HAB.out.2.1, Nat.le_refl _, ⟨Mv.refl _ _, HP.out⟩, ⟨fun c h1 h2 => by omega, fun c h1 h2 => by omega⟩⟩
  case round =>
    clear HP; obtain ⟨i, j, v12, rfl, rfl, rfl, hmi, hij, hjb, HW, HC⟩ := hrel; obtain ⟨ham, hmb, hbN', hN, hne⟩ := HAB.out
    by_cases hlt : i < j
    · obtain ⟨h, hh⟩ : ∃ h, (i + j) / 2 = h := ⟨_, rfl⟩; have hhi : i ≤ h ∧ h < j := (by omega); have hhI : ((i : Int) + (j : Int)) / 2 = (h : Int) := (by omega); have hltI : (i : Int) < (j : Int) := (by omega); have hj6 : (j : Int) ≤ 1000000 := (by omega); have hhN : (h : Int) < (N : Int) := (by omega); have haN : (a : Int) < (N : Int) := (by omega); have hhN' : h < N := (by omega); have haN' : a < N := (by omega); have hh6 : (h : Int) ≤ 1000000 := (by omega); obtain ⟨p1, hp⟩ : ∃ p, d h = p := ⟨_, rfl⟩; obtain ⟨q1, hq⟩ : ∃ q, d a = q := ⟨_, rfl⟩; obtain ⟨x, y⟩ := p1; obtain ⟨u, v⟩ := q1; have HPQ : Sl (d h = (x, y) ∧ d a = (u, v)) := ⟨hp, hq⟩
      have HRA : Sl ((∀ w' : World, Mv wr.heap.size wr w' → w'.rangeAt g (h * 2) (#[.int .i64 x, .int .i64 y] : Array Value).toList) ∧ (∀ w' : World, Mv wr.heap.size wr w' → w'.rangeAt g (a * 2) (#[.int .i64 u, .int .i64 v] : Array Value).toList)) := ⟨by
        refine ⟨fun w' hm' => ?_, fun w' hm' => ?_⟩
        · have := (HW.out.2.mv hm' (by have := HW.out.2.lt; omega)).range (j := h) (by omega); rw [hp] at this; exact this
        · have := (HW.out.2.mv hm' (by have := HW.out.2.lt; omega)).range (j := a) (by omega)
          rw [hq] at this; exact this⟩
      obtain ⟨c, hc⟩ : ∃ c, Lib.compareInt y v = c := ⟨_, rfl⟩; have HCC : Sl (c < 0 ↔ due (d h) < due (d a)) := ⟨by rw [← hc, hp, hq]; exact cmpi_lt y v⟩
      have HCM : Sl (∀ (W : World), RowKit.Below wr.heap.size wr W → Calls Tryz.prog 73 #[.agg #[.int .i64 x, .int .i64 y], .agg #[.int .i64 u, .int .i64 v], .pointer (some ⟨gf, 0, none⟩)] W fun e w' => e = .returned (.int .i64 c) ∧ RowKit.Below wr.heap.size wr w') := ⟨fun W hW => by
        have hk1 : Blk wr gf _ _ := HF.out.mv HW.out.1 HAB.out.2.2.2.2; have := by1_any gf x y u v W (hk1.below hW hk1.lt); rw [hc] at this
        exact this.mono fun e w' g => ⟨g.1, hW.trans (g.2.mono hW.size)⟩⟩
      clear hc hp hq; clear hh hne ham hmb hbN' hN
      by_cases hyv : due (d h) < due (d a)
      · have hcd : decide (c < 0) = true := decide_eq_true (HCC.out.2 hyv); have HLT : Sl _ := ⟨hyv⟩; clear hyv; go_wp2_with fail; have hm : Mv wr.heap.size wr wr.drew := Mv.drew _ _; have HSW : Sl (RowKit.Below wr.heap.size wr wr.drew) := ⟨below_drewN (Below.refl _ _) 1⟩; refine wp_region_held_drew (S := fun w' => Mv wr.heap.size wr w') (by kernel_rfl) hm (fun hHeld => ?_); clear hm; refine wpAnyH_pure 0 (v := .func (.func 73) #[] #[.pointer (some ⟨gf, 0, none⟩)]) rfl (by kernel_rfl) (by kernel_rfl) (by kernel_rfl) (fun _ _ _ h => h) rfl (fun _ => rfl) (by assumption) ?_; simp only [Act.put, sS0, sS1, sS2]; refine wpAnyH_pure 1 (v := .slice (some ⟨g, 0, none⟩) N cap) rfl (by kernel_rfl) (by kernel_rfl) (by kernel_rfl) (fun _ _ _ h => h) rfl (fun _ => rfl) (by assumption) ?_; simp only [Act.put, sS0, sS1, sS2]; refine wpAnyH_pure 2 (v := .int .i64 (h : Int)) rfl (by kernel_rfl) (by kernel_rfl) (by kernel_rfl) (fun _ _ _ h => h) rfl (fun _ => rfl) (by assumption) ?_; simp only [Act.put, sS0, sS1, sS2]; refine wpAnyH_pure 3 (v := .pointer (some ⟨g, h * 2, none⟩)) rfl (by kernel_rfl) (by kernel_rfl) (by kernel_rfl) (fun _ _ _ h => h) rfl (fun _ => by go_simp) (by assumption) ?_; simp only [Act.put, sS0, sS1, sS2]; refine wpAnyH_load 4 93 (.tmp 43) rfl rfl rfl g (h * 2) rfl (#[.int .i64 x, .int .i64 y]) _ (fun w' h => HRA.out.1 w' h) Tryz.underlying93 rfl size_low (by kernel_rfl) (by kernel_rfl) (by kernel_rfl) (fun _ _ _ h => h) (by assumption) ?_; simp only [Act.put, sS0, sS1, sS2]; refine wpAnyH_pure 5 (v := .slice (some ⟨g, 0, none⟩) N cap) rfl (by kernel_rfl) (by kernel_rfl) (by kernel_rfl) (fun _ _ _ h => h) rfl (fun _ => rfl) (by assumption) ?_; simp only [Act.put, sS0, sS1, sS2]; refine wpAnyH_pure 6 (v := .int .i64 (a : Int)) rfl (by kernel_rfl) (by kernel_rfl) (by kernel_rfl) (fun _ _ _ h => h) rfl (fun _ => rfl) (by assumption) ?_; simp only [Act.put, sS0, sS1, sS2]; refine wpAnyH_pure 7 (v := .pointer (some ⟨g, a * 2, none⟩)) rfl (by kernel_rfl) (by kernel_rfl) (by kernel_rfl) (fun _ _ _ h => h) rfl (fun _ => by go_simp) (by assumption) ?_; simp only [Act.put, sS0, sS1, sS2]; refine wpAnyH_load 8 93 (.tmp 47) rfl rfl rfl g (a * 2) rfl (#[.int .i64 u, .int .i64 v]) _ (fun w' h => HRA.out.2 w' h) Tryz.underlying93 rfl size_low (by kernel_rfl) (by kernel_rfl) (by kernel_rfl) (fun _ _ _ h => h) (by assumption) ?_; simp only [Act.put, sS0, sS1, sS2]; refine wpAnyH_one 9 rfl (by kernel_rfl) rfl (fun K hK => ?_); go_simp; go_at_call 73
        (with_reducible refine (HCM.out _ HSW.out).mono ?_)
        rintro ee w2 ⟨rfl, hb⟩; replace HSW : Sl (RowKit.Below wr.heap.size wr w2) := ⟨hb⟩; refine hK.out _ _ (Mv.below HSW.out) (fun hHeld => ?_); clear hK K hb
        (try simp only [Act.put, sS0, sS1, sS2])
        refine wpAnyH_pure 10 (v := .bool true) rfl (by kernel_rfl) (by kernel_rfl) (by kernel_rfl) (fun _ _ _ h => h) rfl (fun _ => by go_simp) (by assumption) ?_; simp only [Act.put, sS0, sS1, sS2]; refine wpAnyH_done (by kernel_rfl) ?_ _; clear hHeld; have HW2 : Sl (Mv g w w2 ∧ PB w2 g N d) := ⟨Mv.trans HW.out.1 (Mv.below HSW.out), HW.out.2.below HSW.out HW.out.2.lt⟩; clear HRA HCM HSW HW; go_wp2_with fail; refine ⟨⟨h + 1, j, _, by go_num, rfl, rfl, by omega, by omega, hjb, HW2, ⟨fun c' h1 h2 => ?_, HC.out.2⟩⟩, by simp [RowKit.intOf]; omega⟩; exact Int.lt_of_le_of_lt (HS.out.2 c' h h1 (by omega) (by omega)) HLT.out
      · have hcd : decide (c < 0) = false := decide_eq_false (fun h => hyv (HCC.out.1 h)); have HLT : Sl (due (d a) ≤ due (d h)) := ⟨by omega⟩; clear hyv; go_wp2_with fail; have hm : Mv wr.heap.size wr wr.drew := Mv.drew _ _; have HSW : Sl (RowKit.Below wr.heap.size wr wr.drew) := ⟨below_drewN (Below.refl _ _) 1⟩; refine wp_region_held_drew (S := fun w' => Mv wr.heap.size wr w') (by kernel_rfl) hm (fun hHeld => ?_); clear hm; refine wpAnyH_pure 0 (v := .func (.func 73) #[] #[.pointer (some ⟨gf, 0, none⟩)]) rfl (by kernel_rfl) (by kernel_rfl) (by kernel_rfl) (fun _ _ _ h => h) rfl (fun _ => rfl) (by assumption) ?_; simp only [Act.put, sS0, sS1, sS2]; refine wpAnyH_pure 1 (v := .slice (some ⟨g, 0, none⟩) N cap) rfl (by kernel_rfl) (by kernel_rfl) (by kernel_rfl) (fun _ _ _ h => h) rfl (fun _ => rfl) (by assumption) ?_; simp only [Act.put, sS0, sS1, sS2]; refine wpAnyH_pure 2 (v := .int .i64 (h : Int)) rfl (by kernel_rfl) (by kernel_rfl) (by kernel_rfl) (fun _ _ _ h => h) rfl (fun _ => rfl) (by assumption) ?_; simp only [Act.put, sS0, sS1, sS2]; refine wpAnyH_pure 3 (v := .pointer (some ⟨g, h * 2, none⟩)) rfl (by kernel_rfl) (by kernel_rfl) (by kernel_rfl) (fun _ _ _ h => h) rfl (fun _ => by go_simp) (by assumption) ?_; simp only [Act.put, sS0, sS1, sS2]; refine wpAnyH_load 4 93 (.tmp 43) rfl rfl rfl g (h * 2) rfl (#[.int .i64 x, .int .i64 y]) _ (fun w' h => HRA.out.1 w' h) Tryz.underlying93 rfl size_low (by kernel_rfl) (by kernel_rfl) (by kernel_rfl) (fun _ _ _ h => h) (by assumption) ?_; simp only [Act.put, sS0, sS1, sS2]; refine wpAnyH_pure 5 (v := .slice (some ⟨g, 0, none⟩) N cap) rfl (by kernel_rfl) (by kernel_rfl) (by kernel_rfl) (fun _ _ _ h => h) rfl (fun _ => rfl) (by assumption) ?_; simp only [Act.put, sS0, sS1, sS2]; refine wpAnyH_pure 6 (v := .int .i64 (a : Int)) rfl (by kernel_rfl) (by kernel_rfl) (by kernel_rfl) (fun _ _ _ h => h) rfl (fun _ => rfl) (by assumption) ?_; simp only [Act.put, sS0, sS1, sS2]; refine wpAnyH_pure 7 (v := .pointer (some ⟨g, a * 2, none⟩)) rfl (by kernel_rfl) (by kernel_rfl) (by kernel_rfl) (fun _ _ _ h => h) rfl (fun _ => by go_simp) (by assumption) ?_; simp only [Act.put, sS0, sS1, sS2]; refine wpAnyH_load 8 93 (.tmp 47) rfl rfl rfl g (a * 2) rfl (#[.int .i64 u, .int .i64 v]) _ (fun w' h => HRA.out.2 w' h) Tryz.underlying93 rfl size_low (by kernel_rfl) (by kernel_rfl) (by kernel_rfl) (fun _ _ _ h => h) (by assumption) ?_; simp only [Act.put, sS0, sS1, sS2]; refine wpAnyH_one 9 rfl (by kernel_rfl) rfl (fun K hK => ?_); go_simp; go_at_call 73
        (with_reducible refine (HCM.out _ HSW.out).mono ?_)
        rintro ee w2 ⟨rfl, hb⟩; replace HSW : Sl (RowKit.Below wr.heap.size wr w2) := ⟨hb⟩; refine hK.out _ _ (Mv.below HSW.out) (fun hHeld => ?_); clear hK K hb
        (try simp only [Act.put, sS0, sS1, sS2])
        refine wpAnyH_pure 10 (v := .bool false) rfl (by kernel_rfl) (by kernel_rfl) (by kernel_rfl) (fun _ _ _ h => h) rfl (fun _ => by go_simp) (by assumption) ?_; simp only [Act.put, sS0, sS1, sS2]; refine wpAnyH_done (by kernel_rfl) ?_ _; clear hHeld; have HW2 : Sl (Mv g w w2 ∧ PB w2 g N d) := ⟨Mv.trans HW.out.1 (Mv.below HSW.out), HW.out.2.below HSW.out HW.out.2.lt⟩; clear HRA HCM HSW HW; go_wp2_with fail; refine ⟨⟨i, h, _, rfl, rfl, rfl, hmi, hhi.1, by omega, HW2, ⟨HC.out.1, fun c' h1 h2 => ?_⟩⟩, by simp [RowKit.intOf]; omega⟩; exact Int.le_trans HLT.out (HS.out.2 h c' (by omega) h1 h2)
    · obtain rfl : i = j := (by omega); obtain ⟨z, hz⟩ : ∃ z, i = z + 1 := ⟨i - 1, by omega⟩; have hzI : (i : Int) - 1 = (z : Int) := (by omega); have hzw : IntKind.i64.wrap (z : Int) = (z : Int) := (by rw [IntKind.wrap_i64]; omega); have HZ : Sl (i = z + 1 ∧ a ≤ z) := ⟨hz, by omega⟩; have hi6 : (i : Int) ≤ 1000000 := (by omega); clear hz hij hlt; go_wp2_with fail
      go_loopw [13] (fun s13 wr => ∃ (t : Nat), a + t ≤ z ∧ s13 = .int .i64 ((a : Int) + (t : Int)) ∧ Sl (Mv g w wr ∧ PB wr g N (upTo d a t))) (fun s13 _ => ((z : Int) - RowKit.intOf s13).toNat)
      case atStart => exact ⟨0, HZ.out.2, by go_num, HW⟩
      case round =>
        clear HW; obtain ⟨t, htz, rfl, HK⟩ := hrel; obtain ⟨p, hp⟩ : ∃ p, a + t = p := ⟨_, rfl⟩; have hpI : (a : Int) + (t : Int) = (p : Int) := (by omega); have HPP : Sl _ := ⟨hp⟩; rw [hpI]
        by_cases htz2 : p < z
        · obtain ⟨q, hq⟩ : ∃ q, p + 1 = q := ⟨_, rfl⟩; have hqI : (p : Int) + 1 = (q : Int) := (by omega); have HQQ : Sl _ := ⟨hq⟩; have hzi := HZ.out; have hpN : p < N := (by omega); have hqN : q < N := (by omega); have hpN2 : (p : Int) < (N : Int) := (by omega); have hqN2 : (q : Int) < (N : Int) := (by omega); have hqw : IntKind.i64.wrap (q : Int) = (q : Int) := (by rw [IntKind.wrap_i64]; omega); have hpz : (p : Int) < (z : Int) := (by omega); clear hzi ham hmb hbN' hN hne; have fp1 := HK.out.2.frozen (p * 2); have fp2 := HK.out.2.frozen (p * 2 + 1); have fq1 := HK.out.2.frozen (q * 2); have fq2 := HK.out.2.frozen (q * 2 + 1); obtain ⟨cp1, cp2⟩ := HK.out.2.cell hpN; obtain ⟨cq1, cq2⟩ := HK.out.2.cell hqN; obtain ⟨P, hP⟩ : ∃ P, upTo d a t p = P := ⟨_, rfl⟩; obtain ⟨R, hR⟩ : ∃ R, upTo d a t q = R := ⟨_, rfl⟩; rw [hP] at cp1 cp2; rw [hR] at cq1 cq2; obtain ⟨x, y⟩ := P; obtain ⟨u, v⟩ := R; have HPR : Sl _ := ⟨And.intro hP hR⟩; have HNN : Sl (p < N ∧ q < N) := ⟨hpN, hqN⟩; have hne : p ≠ q := (by omega); simp only [] at cp1 cp2 cq1 cq2; clear hp hq hP hR hpI; go_wp2_with fail
          go_region
          go_wp2_with fail; have hpb := HK.out.2.swap HNN.out.1 HNN.out.2 HPR.out.1 HPR.out.2; exact ⟨⟨t + 1, by have := HPP.out; omega, by have := HPP.out; have := HQQ.out; congr 1; omega, ⟨Mv.trans HK.out.1 (Mv.trans (Mv.set4 _ _ _ _ _ _ _ _ _ _) (Mv.drew _ _)), by rw [upTo, HPP.out, HQQ.out]; exact hpb⟩⟩, by have := HQQ.out; simp [RowKit.intOf]; omega⟩
        · have hpz : ¬ (p : Int) < (z : Int) := (by omega); have hpd : decide ((p : Int) < (z : Int)) = false := decide_eq_false hpz
          have HFIN : Sl (Pm a b d (upTo d a t) ∧ Srt due (upTo d a t) a b) := ⟨by
            have hzi := HZ.out; have h1 := H1.out
            refine ⟨upTo_pm d a t (Nat.le_refl _) (by omega), upTo_srt (by rw [← h1]; exact HS.out.2) (by omega) (fun c h2 h3 => HC.out.1 c (by omega) (by omega)) (fun c h2 h3 => HC.out.2 c (by omega) h3)⟩⟩
          have hp6 : (p : Int) ≤ 1000000 := (by omega); clear hp hpI; go_wp2_with fail
          ((try simp only [Exit.inBlock, Exit.then]); refine bodyPost_ret (results_none rfl _ _ _) rfl ?_)
          exact ⟨rfl, HK.out.1, _, HK.out.2, HFIN.out⟩
set_option maxHeartbeats 12800000 in
set_option maxRecDepth 100000 in
theorem smRight_any (g gf N cap a m b : Nat) (d : Nat → PI) (w : World) (h : PB w g N d) (hf : KeyAt w gf) (hne : gf ≠ g) (ham : a < m) (hmb : m < b) (hb : b ≤ N) (hN : N ≤ 1000000) (hs1 : Srt due d a m) (hs2 : Srt due d m b) (h0 : m ≠ a + 1) (h1 : b = m + 1) :
    Calls Tryz.prog 115 #[.slice (some ⟨g, 0, none⟩) N cap, .int .i64 a, .int .i64 m, .int .i64 b, .func (.func 73) #[] #[.pointer (some ⟨gf, 0, none⟩)]] w fun e w' => e = .returned (.tuple #[]) ∧ Mv g w w' ∧ ∃ d', PB w' g N d' ∧ Pm a b d d' ∧ Srt due d' a b := by
  have hrun : ∀ (args : Array Value) (w : World), (callFunc 73 args).run Tryz.prog w = .ok (.enter 73 args) w := fun a w => by go_simp
  have HP : Sl _ := ⟨h⟩; have HF : Sl _ := ⟨hf⟩; have HAB : Sl (a < m ∧ m < b ∧ b ≤ N ∧ N ≤ 1000000 ∧ gf ≠ g) := ⟨ham, hmb, hb, hN, hne⟩; have HS : Sl _ := ⟨And.intro hs1 hs2⟩; have hb6 : (b : Int) ≤ 1000000 := (by omega); have hbN : (b : Int) ≤ (N : Int) := (by omega); have hab0 : (a : Int) < (m : Int) := (by omega); have hmb0 : (m : Int) < (b : Int) := (by omega); have hma : ((m : Int) - (a : Int) == 1) = false := (by simp; omega); have hbm : (b : Int) - (m : Int) = 1 := (by omega); have H1 : Sl (b = m + 1) := ⟨h1⟩; clear h1 h0; clear h hf hne ham hmb hb hN hs1 hs2; go_enter Tryz.func115, Tryz.ntmps115; go_wp2_with fail; clear hma hbm
  go_loopw [14, 15, 16] (fun s14 s15 s16 wr => ∃ (i j : Nat) (v16 : Value), s14 = .int .i64 i ∧ s15 = .int .i64 j ∧ s16 = v16 ∧ a ≤ i ∧ i ≤ j ∧ j ≤ m ∧ Sl (Mv g w wr ∧ PB wr g N d) ∧ Sl ((∀ c, a ≤ c → c < i → due (d c) ≤ due (d m)) ∧ (∀ c, j ≤ c → c < m → due (d m) < due (d c)))) (fun s14 s15 _ _ => (RowKit.intOf s15 - RowKit.intOf s14).toNat)
  case atStart => exact ⟨a, m, _, rfl, rfl, rfl, Nat.le_refl _, Nat.le_of_lt HAB.out.1, Nat.le_refl _, ⟨Mv.refl _ _, HP.out⟩, ⟨fun c h1 h2 => by omega, fun c h1 h2 => by omega⟩⟩
  case round =>
    clear HP; obtain ⟨i, j, v16, rfl, rfl, rfl, hmi, hij, hjb, HW, HC⟩ := hrel; obtain ⟨ham, hmb, hbN', hN, hne⟩ := HAB.out
    by_cases hlt : i < j
    · obtain ⟨h, hh⟩ : ∃ h, (i + j) / 2 = h := ⟨_, rfl⟩; have hhi : i ≤ h ∧ h < j := (by omega); have hhI : ((i : Int) + (j : Int)) / 2 = (h : Int) := (by omega); have hltI : (i : Int) < (j : Int) := (by omega); have hj6 : (j : Int) ≤ 1000000 := (by omega); have hhN : (h : Int) < (N : Int) := (by omega); have hmN : (m : Int) < (N : Int) := (by omega); have hhN' : h < N := (by omega); have hmN' : m < N := (by omega); have hh6 : (h : Int) ≤ 1000000 := (by omega); obtain ⟨p1, hp⟩ : ∃ p, d m = p := ⟨_, rfl⟩; obtain ⟨q1, hq⟩ : ∃ q, d h = q := ⟨_, rfl⟩; obtain ⟨x, y⟩ := p1; obtain ⟨u, v⟩ := q1; have HPQ : Sl (d m = (x, y) ∧ d h = (u, v)) := ⟨hp, hq⟩
      have HRA : Sl ((∀ w' : World, Mv wr.heap.size wr w' → w'.rangeAt g (m * 2) (#[.int .i64 x, .int .i64 y] : Array Value).toList) ∧ (∀ w' : World, Mv wr.heap.size wr w' → w'.rangeAt g (h * 2) (#[.int .i64 u, .int .i64 v] : Array Value).toList)) := ⟨by
        refine ⟨fun w' hm' => ?_, fun w' hm' => ?_⟩
        · have := (HW.out.2.mv hm' (by have := HW.out.2.lt; omega)).range (j := m) (by omega); rw [hp] at this; exact this
        · have := (HW.out.2.mv hm' (by have := HW.out.2.lt; omega)).range (j := h) (by omega)
          rw [hq] at this; exact this⟩
      obtain ⟨c, hc⟩ : ∃ c, Lib.compareInt y v = c := ⟨_, rfl⟩; have HCC : Sl (c < 0 ↔ due (d m) < due (d h)) := ⟨by rw [← hc, hp, hq]; exact cmpi_lt y v⟩
      have HCM : Sl (∀ (W : World), RowKit.Below wr.heap.size wr W → Calls Tryz.prog 73 #[.agg #[.int .i64 x, .int .i64 y], .agg #[.int .i64 u, .int .i64 v], .pointer (some ⟨gf, 0, none⟩)] W fun e w' => e = .returned (.int .i64 c) ∧ RowKit.Below wr.heap.size wr w') := ⟨fun W hW => by
        have hk1 : Blk wr gf _ _ := HF.out.mv HW.out.1 HAB.out.2.2.2.2; have := by1_any gf x y u v W (hk1.below hW hk1.lt); rw [hc] at this
        exact this.mono fun e w' g => ⟨g.1, hW.trans (g.2.mono hW.size)⟩⟩
      clear hc hp hq; clear hh hne ham hmb hbN' hN
      by_cases hyv : due (d m) < due (d h)
      · have hcd : decide (c < 0) = true := decide_eq_true (HCC.out.2 hyv); have HLT : Sl _ := ⟨hyv⟩; clear hyv; go_wp2_with fail; have hm : Mv wr.heap.size wr wr.drew := Mv.drew _ _; have HSW : Sl (RowKit.Below wr.heap.size wr wr.drew) := ⟨below_drewN (Below.refl _ _) 1⟩; refine wp_region_held_drew (S := fun w' => Mv wr.heap.size wr w') (by kernel_rfl) hm (fun hHeld => ?_); clear hm; refine wpAnyH_pure 0 (v := .func (.func 73) #[] #[.pointer (some ⟨gf, 0, none⟩)]) rfl (by kernel_rfl) (by kernel_rfl) (by kernel_rfl) (fun _ _ _ h => h) rfl (fun _ => rfl) (by assumption) ?_; simp only [Act.put, sS0, sS1, sS2]; refine wpAnyH_pure 1 (v := .slice (some ⟨g, 0, none⟩) N cap) rfl (by kernel_rfl) (by kernel_rfl) (by kernel_rfl) (fun _ _ _ h => h) rfl (fun _ => rfl) (by assumption) ?_; simp only [Act.put, sS0, sS1, sS2]; refine wpAnyH_pure 2 (v := .int .i64 (m : Int)) rfl (by kernel_rfl) (by kernel_rfl) (by kernel_rfl) (fun _ _ _ h => h) rfl (fun _ => rfl) (by assumption) ?_; simp only [Act.put, sS0, sS1, sS2]; refine wpAnyH_pure 3 (v := .pointer (some ⟨g, m * 2, none⟩)) rfl (by kernel_rfl) (by kernel_rfl) (by kernel_rfl) (fun _ _ _ h => h) rfl (fun _ => by go_simp) (by assumption) ?_; simp only [Act.put, sS0, sS1, sS2]; refine wpAnyH_load 4 93 (.tmp 95) rfl rfl rfl g (m * 2) rfl (#[.int .i64 x, .int .i64 y]) _ (fun w' h => HRA.out.1 w' h) Tryz.underlying93 rfl size_low (by kernel_rfl) (by kernel_rfl) (by kernel_rfl) (fun _ _ _ h => h) (by assumption) ?_; simp only [Act.put, sS0, sS1, sS2]; refine wpAnyH_pure 5 (v := .slice (some ⟨g, 0, none⟩) N cap) rfl (by kernel_rfl) (by kernel_rfl) (by kernel_rfl) (fun _ _ _ h => h) rfl (fun _ => rfl) (by assumption) ?_; simp only [Act.put, sS0, sS1, sS2]; refine wpAnyH_pure 6 (v := .int .i64 (h : Int)) rfl (by kernel_rfl) (by kernel_rfl) (by kernel_rfl) (fun _ _ _ h => h) rfl (fun _ => rfl) (by assumption) ?_; simp only [Act.put, sS0, sS1, sS2]; refine wpAnyH_pure 7 (v := .pointer (some ⟨g, h * 2, none⟩)) rfl (by kernel_rfl) (by kernel_rfl) (by kernel_rfl) (fun _ _ _ h => h) rfl (fun _ => by go_simp) (by assumption) ?_; simp only [Act.put, sS0, sS1, sS2]; refine wpAnyH_load 8 93 (.tmp 99) rfl rfl rfl g (h * 2) rfl (#[.int .i64 u, .int .i64 v]) _ (fun w' h => HRA.out.2 w' h) Tryz.underlying93 rfl size_low (by kernel_rfl) (by kernel_rfl) (by kernel_rfl) (fun _ _ _ h => h) (by assumption) ?_; simp only [Act.put, sS0, sS1, sS2]; refine wpAnyH_one 9 rfl (by kernel_rfl) rfl (fun K hK => ?_); go_simp; go_at_call 73
        (with_reducible refine (HCM.out _ HSW.out).mono ?_)
        rintro ee w2 ⟨rfl, hb⟩; replace HSW : Sl (RowKit.Below wr.heap.size wr w2) := ⟨hb⟩; refine hK.out _ _ (Mv.below HSW.out) (fun hHeld => ?_); clear hK K hb
        (try simp only [Act.put, sS0, sS1, sS2])
        refine wpAnyH_pure 10 (v := .bool true) rfl (by kernel_rfl) (by kernel_rfl) (by kernel_rfl) (fun _ _ _ h => h) rfl (fun _ => by go_simp) (by assumption) ?_; simp only [Act.put, sS0, sS1, sS2]; refine wpAnyH_pure 11 (v := .bool false) rfl (by kernel_rfl) (by kernel_rfl) (by kernel_rfl) (fun _ _ _ h => h) rfl (fun _ => by go_simp) (by assumption) ?_; simp only [Act.put, sS0, sS1, sS2]; refine wpAnyH_done (by kernel_rfl) ?_ _; clear hHeld; have HW2 : Sl (Mv g w w2 ∧ PB w2 g N d) := ⟨Mv.trans HW.out.1 (Mv.below HSW.out), HW.out.2.below HSW.out HW.out.2.lt⟩; clear HRA HCM HSW HW; go_wp2_with fail; refine ⟨⟨i, h, _, rfl, rfl, rfl, hmi, hhi.1, by omega, HW2, ⟨HC.out.1, fun c' h1 h2 => ?_⟩⟩, by simp [RowKit.intOf]; omega⟩; exact Int.lt_of_lt_of_le HLT.out (HS.out.1 h c' (by omega) h1 h2)
      · have hcd : decide (c < 0) = false := decide_eq_false (fun h => hyv (HCC.out.1 h)); have HLT : Sl (due (d h) ≤ due (d m)) := ⟨by omega⟩; clear hyv; go_wp2_with fail; have hm : Mv wr.heap.size wr wr.drew := Mv.drew _ _; have HSW : Sl (RowKit.Below wr.heap.size wr wr.drew) := ⟨below_drewN (Below.refl _ _) 1⟩; refine wp_region_held_drew (S := fun w' => Mv wr.heap.size wr w') (by kernel_rfl) hm (fun hHeld => ?_); clear hm; refine wpAnyH_pure 0 (v := .func (.func 73) #[] #[.pointer (some ⟨gf, 0, none⟩)]) rfl (by kernel_rfl) (by kernel_rfl) (by kernel_rfl) (fun _ _ _ h => h) rfl (fun _ => rfl) (by assumption) ?_; simp only [Act.put, sS0, sS1, sS2]; refine wpAnyH_pure 1 (v := .slice (some ⟨g, 0, none⟩) N cap) rfl (by kernel_rfl) (by kernel_rfl) (by kernel_rfl) (fun _ _ _ h => h) rfl (fun _ => rfl) (by assumption) ?_; simp only [Act.put, sS0, sS1, sS2]; refine wpAnyH_pure 2 (v := .int .i64 (m : Int)) rfl (by kernel_rfl) (by kernel_rfl) (by kernel_rfl) (fun _ _ _ h => h) rfl (fun _ => rfl) (by assumption) ?_; simp only [Act.put, sS0, sS1, sS2]; refine wpAnyH_pure 3 (v := .pointer (some ⟨g, m * 2, none⟩)) rfl (by kernel_rfl) (by kernel_rfl) (by kernel_rfl) (fun _ _ _ h => h) rfl (fun _ => by go_simp) (by assumption) ?_; simp only [Act.put, sS0, sS1, sS2]; refine wpAnyH_load 4 93 (.tmp 95) rfl rfl rfl g (m * 2) rfl (#[.int .i64 x, .int .i64 y]) _ (fun w' h => HRA.out.1 w' h) Tryz.underlying93 rfl size_low (by kernel_rfl) (by kernel_rfl) (by kernel_rfl) (fun _ _ _ h => h) (by assumption) ?_; simp only [Act.put, sS0, sS1, sS2]; refine wpAnyH_pure 5 (v := .slice (some ⟨g, 0, none⟩) N cap) rfl (by kernel_rfl) (by kernel_rfl) (by kernel_rfl) (fun _ _ _ h => h) rfl (fun _ => rfl) (by assumption) ?_; simp only [Act.put, sS0, sS1, sS2]; refine wpAnyH_pure 6 (v := .int .i64 (h : Int)) rfl (by kernel_rfl) (by kernel_rfl) (by kernel_rfl) (fun _ _ _ h => h) rfl (fun _ => rfl) (by assumption) ?_; simp only [Act.put, sS0, sS1, sS2]; refine wpAnyH_pure 7 (v := .pointer (some ⟨g, h * 2, none⟩)) rfl (by kernel_rfl) (by kernel_rfl) (by kernel_rfl) (fun _ _ _ h => h) rfl (fun _ => by go_simp) (by assumption) ?_; simp only [Act.put, sS0, sS1, sS2]; refine wpAnyH_load 8 93 (.tmp 99) rfl rfl rfl g (h * 2) rfl (#[.int .i64 u, .int .i64 v]) _ (fun w' h => HRA.out.2 w' h) Tryz.underlying93 rfl size_low (by kernel_rfl) (by kernel_rfl) (by kernel_rfl) (fun _ _ _ h => h) (by assumption) ?_; simp only [Act.put, sS0, sS1, sS2]; refine wpAnyH_one 9 rfl (by kernel_rfl) rfl (fun K hK => ?_); go_simp; go_at_call 73
        (with_reducible refine (HCM.out _ HSW.out).mono ?_)
        rintro ee w2 ⟨rfl, hb⟩; replace HSW : Sl (RowKit.Below wr.heap.size wr w2) := ⟨hb⟩; refine hK.out _ _ (Mv.below HSW.out) (fun hHeld => ?_); clear hK K hb
        (try simp only [Act.put, sS0, sS1, sS2])
        refine wpAnyH_pure 10 (v := .bool false) rfl (by kernel_rfl) (by kernel_rfl) (by kernel_rfl) (fun _ _ _ h => h) rfl (fun _ => by go_simp) (by assumption) ?_; simp only [Act.put, sS0, sS1, sS2]; refine wpAnyH_pure 11 (v := .bool true) rfl (by kernel_rfl) (by kernel_rfl) (by kernel_rfl) (fun _ _ _ h => h) rfl (fun _ => by go_simp) (by assumption) ?_; simp only [Act.put, sS0, sS1, sS2]; refine wpAnyH_done (by kernel_rfl) ?_ _; clear hHeld; have HW2 : Sl (Mv g w w2 ∧ PB w2 g N d) := ⟨Mv.trans HW.out.1 (Mv.below HSW.out), HW.out.2.below HSW.out HW.out.2.lt⟩; clear HRA HCM HSW HW; go_wp2_with fail; refine ⟨⟨h + 1, j, _, by go_num, rfl, rfl, by omega, by omega, hjb, HW2, ⟨fun c' h1 h2 => ?_, HC.out.2⟩⟩, by simp [RowKit.intOf]; omega⟩; exact Int.le_trans (HS.out.1 c' h h1 (by omega) (by omega)) HLT.out
    · obtain rfl : i = j := (by omega); have hi6 : (i : Int) ≤ (m : Int) := (by omega); clear hij hlt; go_wp2_with fail
      go_loopw [17] (fun s17 wr => ∃ (t : Nat), i + t ≤ m ∧ s17 = .int .i64 ((m : Int) - (t : Int)) ∧ Sl (Mv g w wr ∧ PB wr g N (dnTo d m t))) (fun s17 _ => (RowKit.intOf s17).toNat)
      case atStart => exact ⟨0, by omega, by go_num, HW⟩
      case round =>
        clear HW; obtain ⟨t, htz, rfl, HK⟩ := hrel; obtain ⟨p, hp⟩ : ∃ p, m - t = p := ⟨_, rfl⟩; have hpI : (m : Int) - (t : Int) = (p : Int) := (by omega); have HPP : Sl (m = p + t) := ⟨by omega⟩; rw [hpI]
        by_cases htz2 : i < p
        · obtain ⟨q, hq⟩ : ∃ q, p - 1 = q := ⟨_, rfl⟩; have hqI : (p : Int) - 1 = (q : Int) := (by omega); have HQQ : Sl (p = q + 1 ∧ i ≤ q) := ⟨by omega⟩; have hpN : p < N := (by omega); have hqN : q < N := (by omega); have hpN2 : (p : Int) < (N : Int) := (by omega); have hqN2 : (q : Int) < (N : Int) := (by omega); have hqw : IntKind.i64.wrap (q : Int) = (q : Int) := (by rw [IntKind.wrap_i64]; omega); have hpz : (i : Int) < (p : Int) := (by omega); clear ham hmb hbN' hN hne; have fp1 := HK.out.2.frozen (p * 2); have fp2 := HK.out.2.frozen (p * 2 + 1); have fq1 := HK.out.2.frozen (q * 2); have fq2 := HK.out.2.frozen (q * 2 + 1); obtain ⟨cp1, cp2⟩ := HK.out.2.cell hpN; obtain ⟨cq1, cq2⟩ := HK.out.2.cell hqN; obtain ⟨P, hP⟩ : ∃ P, dnTo d m t p = P := ⟨_, rfl⟩; obtain ⟨R, hR⟩ : ∃ R, dnTo d m t q = R := ⟨_, rfl⟩; rw [hP] at cp1 cp2; rw [hR] at cq1 cq2; obtain ⟨x, y⟩ := P; obtain ⟨u, v⟩ := R; have HPR : Sl _ := ⟨And.intro hP hR⟩; have HNN : Sl (p < N ∧ q < N) := ⟨hpN, hqN⟩; have hne : p ≠ q := (by omega); simp only [] at cp1 cp2 cq1 cq2; clear hp hq hP hR hpI; go_wp2_with fail
          go_region
          go_wp2_with fail; have hpb := HK.out.2.swap HNN.out.1 HNN.out.2 HPR.out.1 HPR.out.2
          exact ⟨⟨t + 1, by have := HPP.out; have := HQQ.out; omega, by have := HPP.out; have := HQQ.out; congr 1; omega, ⟨Mv.trans HK.out.1 (Mv.trans (Mv.set4 _ _ _ _ _ _ _ _ _ _) (Mv.drew _ _)), by
            have e1 := HPP.out; have e2 := HQQ.out.1
            rw [dnTo, show m - t = p by omega, show p - 1 = q by omega]; exact hpb⟩⟩, by have := HQQ.out; simp [RowKit.intOf]; omega⟩
        · have hpz : ¬ (i : Int) < (p : Int) := (by omega); have hpd : decide ((i : Int) < (p : Int)) = false := decide_eq_false hpz
          have HFIN : Sl (Pm a b d (dnTo d m t) ∧ Srt due (dnTo d m t) a b) := ⟨by
            have h1 := H1.out; have e1 := HPP.out; refine ⟨dnTo_pm d m t (by omega) (by omega), ?_⟩; rw [h1]
            exact dnTo_srt HS.out.1 (by omega) (fun c h2 h3 => HC.out.1 c h2 (by omega)) (fun c h2 h3 => HC.out.2 c (by omega) h3)⟩
          have hp6 : (p : Int) ≤ 1000000 := (by omega); clear hp hpI; go_wp2_with fail
          ((try simp only [Exit.inBlock, Exit.then]); refine bodyPost_ret (results_none rfl _ _ _) rfl ?_)
          exact ⟨rfl, HK.out.1, _, HK.out.2, HFIN.out⟩
end Go.Proofs.YtafadpaljanghaaGreatDoor
namespace Go.Proofs.YtafadpaljanghaaGreatDoor
set_option linter.unusedSimpArgs false
open Go.RowKit
set_option linter.unusedVariables false
theorem rot_id {α : Type} (d : Nat → α) {s m e : Nat} (h : s = m ∨ e = m) (hs : s ≤ m) (he : m ≤ e) : rot d s m e = d := by
  funext k; unfold rot
  split
  · next h1 => congr 1; omega
  · split
    · next h2 => congr 1; omega
    · rfl
theorem sym_end {α : Type} {κ : α → Int} {d1 d2 d3 : Nat → α} {a mid b : Nat} (cross : ∀ i j, a ≤ i → i < mid → mid ≤ j → j < b → κ (d1 i) ≤ κ (d1 j)) (p2 : Pm a mid d1 d2) (s2 : Srt κ d2 a mid) (p3 : Pm mid b d2 d3) (s3 : Srt κ d3 mid b) : Srt κ d3 a b := by
  refine Srt.join (m := mid) (s2.congr fun k k1 k2 => p3.far (.inl k2)) s3 fun i j i1 i2 j1 j2 => ?_
  rw [p3.far (.inl i2)]
  have c2 : ∀ k, a ≤ k → k < mid → ∀ l, mid ≤ l → l < b → κ (d2 k) ≤ κ (d2 l) := fun k k1 k2 l l1 l2 => by
    rw [p2.far (k := l) (.inr l1)]; exact p2.all (P := fun x => κ x ≤ κ (d1 l)) (fun q q1 q2 => cross q l q1 q2 l1 l2) k k1 k2
  exact p3.all (P := fun x => κ (d2 i) ≤ κ x) (fun q q1 q2 => c2 i i1 i2 q q1 q2) j j1 j2
def Merges (g gf N cap : Nat) (a m b : Nat) : Prop := ∀ (d : Nat → PI) (w : World), PB w g N d → KeyAt w gf → gf ≠ g → a < m → m < b → b ≤ N → N ≤ 1000000 → Srt due d a m → Srt due d m b →
    Calls Tryz.prog 115 #[.slice (some ⟨g, 0, none⟩) N cap, .int .i64 a, .int .i64 m, .int .i64 b, .func (.func 73) #[] #[.pointer (some ⟨gf, 0, none⟩)]] w fun e w' => e = .returned (.tuple #[]) ∧ Mv g w w' ∧ ∃ d', PB w' g N d' ∧ Pm a b d d' ∧ Srt due d' a b
set_option maxHeartbeats 12800000 in
set_option maxRecDepth 100000 in
theorem smMid_any (g gf N cap a m b : Nat) (d : Nat → PI) (w : World) (h : PB w g N d) (hf : KeyAt w gf) (hne : gf ≠ g) (ham : a < m) (hmb : m < b) (hb : b ≤ N) (hN : N ≤ 1000000) (hs1 : Srt due d a m) (hs2 : Srt due d m b) (h0 : m ≠ a + 1) (h1 : b ≠ m + 1) (ih : ∀ a' m' b', b' - a' < b - a → Merges g gf N cap a' m' b') :
    Calls Tryz.prog 115 #[.slice (some ⟨g, 0, none⟩) N cap, .int .i64 a, .int .i64 m, .int .i64 b, .func (.func 73) #[] #[.pointer (some ⟨gf, 0, none⟩)]] w fun e w' => e = .returned (.tuple #[]) ∧ Mv g w w' ∧ ∃ d', PB w' g N d' ∧ Pm a b d d' ∧ Srt due d' a b := by
  have hrun : ∀ (args : Array Value) (w : World), (callFunc 73 args).run Tryz.prog w = .ok (.enter 73 args) w := fun a w => by go_simp
  have HP : Sl _ := ⟨h⟩; have HF : Sl _ := ⟨hf⟩; have HAB : Sl (a < m ∧ m < b ∧ b ≤ N ∧ N ≤ 1000000 ∧ gf ≠ g) := ⟨ham, hmb, hb, hN, hne⟩; have HS : Sl _ := ⟨And.intro hs1 hs2⟩; have hb6 : (b : Int) ≤ 1000000 := (by omega); have hbN : (b : Int) ≤ (N : Int) := (by omega); have hab0 : (a : Int) < (m : Int) := (by omega); have hmb0 : (m : Int) < (b : Int) := (by omega); have hma : ((m : Int) - (a : Int) == 1) = false := (by simp; omega); have hbm : ((b : Int) - (m : Int) == 1) = false := (by simp; omega); have HIH : Sl _ := ⟨ih⟩; obtain ⟨mid, hmid⟩ : ∃ mid, (a + b) / 2 = mid := ⟨_, rfl⟩; have hmidI : ((a : Int) + (b : Int)) / 2 = (mid : Int) := (by omega); obtain ⟨nn, hnn⟩ : ∃ nn, mid + m = nn := ⟨_, rfl⟩; have hnnI : (mid : Int) + (m : Int) = (nn : Int) := (by omega); obtain ⟨pp, hpp⟩ : ∃ pp, nn - 1 = pp := ⟨_, rfl⟩; have hppI : (nn : Int) - 1 = (pp : Int) := (by omega); have hnnw : IntKind.i64.wrap (nn : Int) = (nn : Int) := (by rw [IntKind.wrap_i64]; omega); have hppw : IntKind.i64.wrap (pp : Int) = (pp : Int) := (by rw [IntKind.wrap_i64]; omega); have hmd6 : (mid : Int) ≤ 1000000 := (by omega); have hlay : mid = (a + b) / 2 ∧ nn = mid + m ∧ pp + 1 = nn := (by omega); have hall : a < m ∧ m < b ∧ m ≠ a + 1 ∧ b ≠ m + 1 := ⟨ham, hmb, h0, h1⟩; clear h1 h0 ih
  by_cases hmm : mid < m
  · have hgt : decide ((mid : Int) < (m : Int)) = true := decide_eq_true (by omega); obtain ⟨s0, hs0⟩ : ∃ s0, nn - b = s0 := ⟨_, rfl⟩; have hs0I : (nn : Int) - (b : Int) = (s0 : Int) := (by omega); have hs0w : IntKind.i64.wrap (s0 : Int) = (s0 : Int) := (by rw [IntKind.wrap_i64]; omega); have HG : Sl (a ≤ s0 ∧ s0 ≤ mid ∧ mid < m ∧ s0 + b = nn ∧ nn = mid + m ∧ pp + 1 = nn ∧ a < mid ∧ mid < b ∧ mid = (a + b) / 2) := ⟨by omega⟩; clear hs0; clear hmid hnn hpp hlay hall h hf hne ham hmb hb hN hs1 hs2; go_enter Tryz.func115, Tryz.ntmps115; go_wp2_with fail
    go_loopw [20, 21, 23] (fun s20 s21 s23 wr => ∃ (i j : Nat) (v23 : Value), s20 = .int .i64 i ∧ s21 = .int .i64 j ∧ s23 = v23 ∧ s0 ≤ i ∧ i ≤ j ∧ j ≤ mid ∧ Sl (Mv g w wr ∧ PB wr g N d) ∧ Sl ((∀ c, s0 ≤ c → c < i → due (d c) ≤ due (d (pp - c))) ∧ (∀ c, j ≤ c → c < mid → due (d (pp - c)) < due (d c)))) (fun s20 s21 _ _ => (RowKit.intOf s21 - RowKit.intOf s20).toNat)
    case atStart => exact ⟨s0, mid, _, rfl, rfl, rfl, Nat.le_refl _, by have := HG.out; omega, Nat.le_refl _, ⟨Mv.refl _ _, HP.out⟩, ⟨fun c h1 h2 => by omega, fun c h1 h2 => by omega⟩⟩
    case round =>
      clear HP; obtain ⟨i, j, v23, rfl, rfl, rfl, hsi, hij, hjr, HW, HC⟩ := hrel; obtain ⟨ham, hmb, hbN', hN, hne⟩ := HAB.out
      by_cases hlt : i < j
      · obtain ⟨h, hh⟩ : ∃ h, (i + j) / 2 = h := ⟨_, rfl⟩; have hG := HG.out; have hhi : i ≤ h ∧ h < j := (by omega); have hhI : ((i : Int) + (j : Int)) / 2 = (h : Int) := (by omega); have hltI : (i : Int) < (j : Int) := (by omega); have hj6 : (j : Int) ≤ 1000000 := (by omega); have hhN : (h : Int) < (N : Int) := (by omega); have hhN' : h < N := (by omega); have hh6 : (h : Int) ≤ 1000000 := (by omega); obtain ⟨k, hk⟩ : ∃ k, pp - h = k := ⟨_, rfl⟩; have hkI : (pp : Int) - (h : Int) = (k : Int) := (by omega); have hkw : IntKind.i64.wrap (k : Int) = (k : Int) := (by rw [IntKind.wrap_i64]; omega); have hkm : m ≤ k := (by omega); have hkb : k < b := (by omega); have hkN : (k : Int) < (N : Int) := (by omega); have hkN' : k < N := (by omega); have HKH : Sl (k + h = pp) := ⟨by omega⟩; obtain ⟨p1, hp⟩ : ∃ p, d k = p := ⟨_, rfl⟩; obtain ⟨q1, hq⟩ : ∃ q, d h = q := ⟨_, rfl⟩; obtain ⟨x, y⟩ := p1; obtain ⟨u, v⟩ := q1; have HPQ : Sl (d k = (x, y) ∧ d h = (u, v)) := ⟨hp, hq⟩
        have HRA : Sl ((∀ w' : World, Mv wr.heap.size wr w' → w'.rangeAt g (k * 2) (#[.int .i64 x, .int .i64 y] : Array Value).toList) ∧ (∀ w' : World, Mv wr.heap.size wr w' → w'.rangeAt g (h * 2) (#[.int .i64 u, .int .i64 v] : Array Value).toList)) := ⟨by
          refine ⟨fun w' hm' => ?_, fun w' hm' => ?_⟩
          · have := (HW.out.2.mv hm' (by have := HW.out.2.lt; omega)).range (j := k) (by omega); rw [hp] at this; exact this
          · have := (HW.out.2.mv hm' (by have := HW.out.2.lt; omega)).range (j := h) (by omega)
            rw [hq] at this; exact this⟩
        obtain ⟨c, hc⟩ : ∃ c, Lib.compareInt y v = c := ⟨_, rfl⟩; have HCC : Sl (c < 0 ↔ due (d k) < due (d h)) := ⟨by rw [← hc, hp, hq]; exact cmpi_lt y v⟩
        have HCM : Sl (∀ (W : World), RowKit.Below wr.heap.size wr W → Calls Tryz.prog 73 #[.agg #[.int .i64 x, .int .i64 y], .agg #[.int .i64 u, .int .i64 v], .pointer (some ⟨gf, 0, none⟩)] W fun e w' => e = .returned (.int .i64 c) ∧ RowKit.Below wr.heap.size wr w') := ⟨fun W hW => by
          have hk1 : Blk wr gf _ _ := HF.out.mv HW.out.1 HAB.out.2.2.2.2; have := by1_any gf x y u v W (hk1.below hW hk1.lt); rw [hc] at this
          exact this.mono fun e w' g => ⟨g.1, hW.trans (g.2.mono hW.size)⟩⟩
        clear hc hp hq; clear hh hk hne ham hmb hbN' hN hG
        by_cases hyv : due (d k) < due (d h)
        · have hcd : decide (c < 0) = true := decide_eq_true (HCC.out.2 hyv); have HLT : Sl _ := ⟨hyv⟩; clear hyv; go_wp2_with fail; have hm : Mv wr.heap.size wr wr.drew := Mv.drew _ _; have HSW : Sl (RowKit.Below wr.heap.size wr wr.drew) := ⟨below_drewN (Below.refl _ _) 1⟩; refine wp_region_held_drew (S := fun w' => Mv wr.heap.size wr w') (by kernel_rfl) hm (fun hHeld => ?_); clear hm; refine wpAnyH_pure 0 (v := .func (.func 73) #[] #[.pointer (some ⟨gf, 0, none⟩)]) rfl (by kernel_rfl) (by kernel_rfl) (by kernel_rfl) (fun _ _ _ h => h) rfl (fun _ => rfl) (by assumption) ?_; simp only [Act.put, sS0, sS1, sS2]; refine wpAnyH_pure 1 (v := .slice (some ⟨g, 0, none⟩) N cap) rfl (by kernel_rfl) (by kernel_rfl) (by kernel_rfl) (fun _ _ _ h => h) rfl (fun _ => rfl) (by assumption) ?_; simp only [Act.put, sS0, sS1, sS2]; refine wpAnyH_pure 2 (v := .int .i64 (pp : Int)) rfl (by kernel_rfl) (by kernel_rfl) (by kernel_rfl) (fun _ _ _ h => h) rfl (fun _ => rfl) (by assumption) ?_; simp only [Act.put, sS0, sS1, sS2]; refine wpAnyH_pure 3 (v := .int .i64 (h : Int)) rfl (by kernel_rfl) (by kernel_rfl) (by kernel_rfl) (fun _ _ _ h => h) rfl (fun _ => rfl) (by assumption) ?_; simp only [Act.put, sS0, sS1, sS2]; refine wpAnyH_pure 4 (v := .int .i64 (k : Int)) rfl (by kernel_rfl) (by kernel_rfl) (by kernel_rfl) (fun _ _ _ h => h) rfl (fun _ => by go_simp) (by assumption) ?_; simp only [Act.put, sS0, sS1, sS2]; refine wpAnyH_pure 5 (v := .pointer (some ⟨g, k * 2, none⟩)) rfl (by kernel_rfl) (by kernel_rfl) (by kernel_rfl) (fun _ _ _ h => h) rfl (fun _ => by go_simp) (by assumption) ?_; simp only [Act.put, sS0, sS1, sS2]; refine wpAnyH_load 6 93 (.tmp 163) rfl rfl rfl g (k * 2) rfl (#[.int .i64 x, .int .i64 y]) _ (fun w' h => HRA.out.1 w' h) Tryz.underlying93 rfl size_low (by kernel_rfl) (by kernel_rfl) (by kernel_rfl) (fun _ _ _ h => h) (by assumption) ?_; simp only [Act.put, sS0, sS1, sS2]; refine wpAnyH_pure 7 (v := .slice (some ⟨g, 0, none⟩) N cap) rfl (by kernel_rfl) (by kernel_rfl) (by kernel_rfl) (fun _ _ _ h => h) rfl (fun _ => rfl) (by assumption) ?_; simp only [Act.put, sS0, sS1, sS2]; refine wpAnyH_pure 8 (v := .int .i64 (h : Int)) rfl (by kernel_rfl) (by kernel_rfl) (by kernel_rfl) (fun _ _ _ h => h) rfl (fun _ => rfl) (by assumption) ?_; simp only [Act.put, sS0, sS1, sS2]; refine wpAnyH_pure 9 (v := .pointer (some ⟨g, h * 2, none⟩)) rfl (by kernel_rfl) (by kernel_rfl) (by kernel_rfl) (fun _ _ _ h => h) rfl (fun _ => by go_simp) (by assumption) ?_; simp only [Act.put, sS0, sS1, sS2]; refine wpAnyH_load 10 93 (.tmp 167) rfl rfl rfl g (h * 2) rfl (#[.int .i64 u, .int .i64 v]) _ (fun w' h => HRA.out.2 w' h) Tryz.underlying93 rfl size_low (by kernel_rfl) (by kernel_rfl) (by kernel_rfl) (fun _ _ _ h => h) (by assumption) ?_; simp only [Act.put, sS0, sS1, sS2]; refine wpAnyH_one 11 rfl (by kernel_rfl) rfl (fun K hK => ?_); go_simp; go_at_call 73
          (with_reducible refine (HCM.out _ HSW.out).mono ?_)
          rintro ee w2 ⟨rfl, hb⟩; replace HSW : Sl (RowKit.Below wr.heap.size wr w2) := ⟨hb⟩; refine hK.out _ _ (Mv.below HSW.out) (fun hHeld => ?_); clear hK K hb
          (try simp only [Act.put, sS0, sS1, sS2])
          refine wpAnyH_pure 12 (v := .bool true) rfl (by kernel_rfl) (by kernel_rfl) (by kernel_rfl) (fun _ _ _ h => h) rfl (fun _ => by go_simp) (by assumption) ?_; simp only [Act.put, sS0, sS1, sS2]; refine wpAnyH_pure 13 (v := .bool false) rfl (by kernel_rfl) (by kernel_rfl) (by kernel_rfl) (fun _ _ _ h => h) rfl (fun _ => by go_simp) (by assumption) ?_; simp only [Act.put, sS0, sS1, sS2]; refine wpAnyH_done (by kernel_rfl) ?_ _; clear hHeld; have HW2 : Sl (Mv g w w2 ∧ PB w2 g N d) := ⟨Mv.trans HW.out.1 (Mv.below HSW.out), HW.out.2.below HSW.out HW.out.2.lt⟩; clear HRA HCM HSW HW; go_wp2_with fail; refine ⟨⟨i, h, _, rfl, rfl, rfl, hsi, hhi.1, by omega, HW2, ⟨HC.out.1, fun c' h1 h2 => ?_⟩⟩, by simp [RowKit.intOf]; omega⟩; have e1 := HKH.out; have hG := HG.out; have ham := HAB.out; exact Int.lt_of_le_of_lt (HS.out.2 (pp - c') k (by omega) (by omega) (by omega)) (Int.lt_of_lt_of_le HLT.out (HS.out.1 h c' (by omega) h1 (by omega)))
        · have hcd : decide (c < 0) = false := decide_eq_false (fun h => hyv (HCC.out.1 h)); have HLT : Sl (due (d h) ≤ due (d k)) := ⟨by omega⟩; clear hyv; go_wp2_with fail; have hm : Mv wr.heap.size wr wr.drew := Mv.drew _ _; have HSW : Sl (RowKit.Below wr.heap.size wr wr.drew) := ⟨below_drewN (Below.refl _ _) 1⟩; refine wp_region_held_drew (S := fun w' => Mv wr.heap.size wr w') (by kernel_rfl) hm (fun hHeld => ?_); clear hm; refine wpAnyH_pure 0 (v := .func (.func 73) #[] #[.pointer (some ⟨gf, 0, none⟩)]) rfl (by kernel_rfl) (by kernel_rfl) (by kernel_rfl) (fun _ _ _ h => h) rfl (fun _ => rfl) (by assumption) ?_; simp only [Act.put, sS0, sS1, sS2]; refine wpAnyH_pure 1 (v := .slice (some ⟨g, 0, none⟩) N cap) rfl (by kernel_rfl) (by kernel_rfl) (by kernel_rfl) (fun _ _ _ h => h) rfl (fun _ => rfl) (by assumption) ?_; simp only [Act.put, sS0, sS1, sS2]; refine wpAnyH_pure 2 (v := .int .i64 (pp : Int)) rfl (by kernel_rfl) (by kernel_rfl) (by kernel_rfl) (fun _ _ _ h => h) rfl (fun _ => rfl) (by assumption) ?_; simp only [Act.put, sS0, sS1, sS2]; refine wpAnyH_pure 3 (v := .int .i64 (h : Int)) rfl (by kernel_rfl) (by kernel_rfl) (by kernel_rfl) (fun _ _ _ h => h) rfl (fun _ => rfl) (by assumption) ?_; simp only [Act.put, sS0, sS1, sS2]; refine wpAnyH_pure 4 (v := .int .i64 (k : Int)) rfl (by kernel_rfl) (by kernel_rfl) (by kernel_rfl) (fun _ _ _ h => h) rfl (fun _ => by go_simp) (by assumption) ?_; simp only [Act.put, sS0, sS1, sS2]; refine wpAnyH_pure 5 (v := .pointer (some ⟨g, k * 2, none⟩)) rfl (by kernel_rfl) (by kernel_rfl) (by kernel_rfl) (fun _ _ _ h => h) rfl (fun _ => by go_simp) (by assumption) ?_; simp only [Act.put, sS0, sS1, sS2]; refine wpAnyH_load 6 93 (.tmp 163) rfl rfl rfl g (k * 2) rfl (#[.int .i64 x, .int .i64 y]) _ (fun w' h => HRA.out.1 w' h) Tryz.underlying93 rfl size_low (by kernel_rfl) (by kernel_rfl) (by kernel_rfl) (fun _ _ _ h => h) (by assumption) ?_; simp only [Act.put, sS0, sS1, sS2]; refine wpAnyH_pure 7 (v := .slice (some ⟨g, 0, none⟩) N cap) rfl (by kernel_rfl) (by kernel_rfl) (by kernel_rfl) (fun _ _ _ h => h) rfl (fun _ => rfl) (by assumption) ?_; simp only [Act.put, sS0, sS1, sS2]; refine wpAnyH_pure 8 (v := .int .i64 (h : Int)) rfl (by kernel_rfl) (by kernel_rfl) (by kernel_rfl) (fun _ _ _ h => h) rfl (fun _ => rfl) (by assumption) ?_; simp only [Act.put, sS0, sS1, sS2]; refine wpAnyH_pure 9 (v := .pointer (some ⟨g, h * 2, none⟩)) rfl (by kernel_rfl) (by kernel_rfl) (by kernel_rfl) (fun _ _ _ h => h) rfl (fun _ => by go_simp) (by assumption) ?_; simp only [Act.put, sS0, sS1, sS2]; refine wpAnyH_load 10 93 (.tmp 167) rfl rfl rfl g (h * 2) rfl (#[.int .i64 u, .int .i64 v]) _ (fun w' h => HRA.out.2 w' h) Tryz.underlying93 rfl size_low (by kernel_rfl) (by kernel_rfl) (by kernel_rfl) (fun _ _ _ h => h) (by assumption) ?_; simp only [Act.put, sS0, sS1, sS2]; refine wpAnyH_one 11 rfl (by kernel_rfl) rfl (fun K hK => ?_); go_simp; go_at_call 73
          (with_reducible refine (HCM.out _ HSW.out).mono ?_)
          rintro ee w2 ⟨rfl, hb⟩; replace HSW : Sl (RowKit.Below wr.heap.size wr w2) := ⟨hb⟩; refine hK.out _ _ (Mv.below HSW.out) (fun hHeld => ?_); clear hK K hb
          (try simp only [Act.put, sS0, sS1, sS2])
          refine wpAnyH_pure 12 (v := .bool false) rfl (by kernel_rfl) (by kernel_rfl) (by kernel_rfl) (fun _ _ _ h => h) rfl (fun _ => by go_simp) (by assumption) ?_; simp only [Act.put, sS0, sS1, sS2]; refine wpAnyH_pure 13 (v := .bool true) rfl (by kernel_rfl) (by kernel_rfl) (by kernel_rfl) (fun _ _ _ h => h) rfl (fun _ => by go_simp) (by assumption) ?_; simp only [Act.put, sS0, sS1, sS2]; refine wpAnyH_done (by kernel_rfl) ?_ _; clear hHeld; have HW2 : Sl (Mv g w w2 ∧ PB w2 g N d) := ⟨Mv.trans HW.out.1 (Mv.below HSW.out), HW.out.2.below HSW.out HW.out.2.lt⟩; clear HRA HCM HSW HW; go_wp2_with fail; refine ⟨⟨h + 1, j, _, by go_num, rfl, rfl, by omega, by omega, hjr, HW2, ⟨fun c' h1 h2 => ?_, HC.out.2⟩⟩, by simp [RowKit.intOf]; omega⟩; have e1 := HKH.out; have hG := HG.out; have ham := HAB.out; exact Int.le_trans (HS.out.1 c' h (by omega) (by omega) (by omega)) (Int.le_trans HLT.out (HS.out.2 k (pp - c') hkm (by omega) (by omega)))
      · obtain rfl : i = j := (by omega); obtain ⟨en, hen⟩ : ∃ en, nn - i = en := ⟨_, rfl⟩; have henI : (nn : Int) - (i : Int) = (en : Int) := (by omega); have henw : IntKind.i64.wrap (en : Int) = (en : Int) := (by rw [IntKind.wrap_i64]; omega); have hG := HG.out; have hen2 : mid + m - i = en := (by omega); obtain ⟨d1, hd1⟩ : ∃ d1, rot d i m en = d1 := ⟨_, rfl⟩
        have HSP : Sl (Srt due d1 a i ∧ Srt due d1 i mid ∧ Srt due d1 mid en ∧ Srt due d1 en b ∧ ∀ x y, a ≤ x → x < mid → mid ≤ y → y < b → due (d1 x) ≤ due (d1 y)) := ⟨by
          have := sym_parts (κ := due) (d := d) (a := a) (m := m) (b := b) (mid := mid) (st := i) ham hmb (by omega) HS.out.1 HS.out.2 (by omega) (by omega) (by omega) (by omega) (by omega) (fun c h1 h2 h3 => by
              have := HC.out.1 c (by omega) h2
              rw [show mid + m - 1 - c = pp - c by omega]; exact this) (fun c h1 h2 h3 => by
              have := HC.out.2 c h1 (by omega)
              rw [show mid + m - 1 - c = pp - c by omega]; exact this)
          rw [hen2, hd1] at this
          exact this⟩
        have HPM : Sl (Pm a b d d1) := ⟨by
          rw [← hd1]
          by_cases hid : i = m ∨ en = m
          · rw [rot_id d hid (by omega) (by omega)]; exact .refl
          · have := rot_pm (m := m) ((m - i) + (en - m)) (m - i) (en - m) d (Nat.le_refl _) (by omega) (by omega) (by omega); rw [show m - (m - i) = i by omega, show m + (en - m) = en by omega] at this
            exact this.mono (by omega) (by omega)⟩
        replace HG : Sl (a ≤ i ∧ i ≤ m ∧ i ≤ mid ∧ en + i = mid + m ∧ m ≤ en ∧ en ≤ b ∧ mid ≤ en ∧ a < mid ∧ mid < b ∧ mid = (a + b) / 2) := ⟨by omega⟩; clear HC hen hen2 hG hij hsi hjr
        by_cases hr : i < mid
        · by_cases ha : a < i
          · by_cases hb2 : en < b
            · skip; have hG := HG.out; have t1aI : (i : Int) < (m : Int) := (by omega); have t1a : decide ((i : Int) < (m : Int)) = true := decide_eq_true t1aI; have t1bI : (m : Int) < (en : Int) := (by omega); have t1b : decide ((m : Int) < (en : Int)) = true := decide_eq_true t1bI; have t2aI : (a : Int) < (i : Int) := (by omega); have t2a : decide ((a : Int) < (i : Int)) = true := decide_eq_true t2aI; have t2bI : (i : Int) < (mid : Int) := (by omega); have t2b : decide ((i : Int) < (mid : Int)) = true := decide_eq_true t2bI; have t3aI : (mid : Int) < (en : Int) := (by omega); have t3a : decide ((mid : Int) < (en : Int)) = true := decide_eq_true t3aI; have t3bI : (en : Int) < (b : Int) := (by omega); have t3b : decide ((en : Int) < (b : Int)) = true := decide_eq_true t3bI; have HRO : Sl _ := ⟨rotate_any g N cap i m en d (.func (.func 73) #[] #[.pointer (some ⟨gf, 0, none⟩)]) wr HW.out.2 (by omega) (by omega) (by omega) HAB.out.2.2.2.1⟩; rw [hd1] at HRO; clear hG hd1; go_wp2_with fail; refine HRO.out.mono ?_; rintro ee w3 ⟨rfl, hm3, hp3⟩; have HW1 : Sl (Mv g w w3 ∧ PB w3 g N d1) := ⟨Mv.trans HW.out.1 hm3, hp3⟩; clear hm3 hp3 HRO HW; have HC2 : Sl _ := ⟨HIH.out a i mid (by have := HG.out; omega) d1 w3 HW1.out.2 (Blk.mv HF.out HW1.out.1 HAB.out.2.2.2.2) HAB.out.2.2.2.2 (by have := HG.out; omega) (by have := HG.out; omega) (by have := HG.out; have := HAB.out; omega) HAB.out.2.2.2.1 HSP.out.1 HSP.out.2.1⟩; go_wp2_with fail; refine HC2.out.mono ?_; rintro ee w4 ⟨rfl, hm4, d2, hp4, hq4, hs4⟩; have HW2 : Sl (Mv g w w4 ∧ PB w4 g N d2) := ⟨Mv.trans HW1.out.1 hm4, hp4⟩; have HD2 : Sl (Pm a mid d1 d2 ∧ Srt due d2 a mid) := ⟨hq4, hs4⟩; clear hm4 hp4 hq4 hs4 HC2 HW1; have HE2 : Sl (Srt due d2 mid en ∧ Srt due d2 en b) := ⟨HSP.out.2.2.1.congr fun k k1 k2 => HD2.out.1.far (.inr k1), HSP.out.2.2.2.1.congr fun k k1 k2 => HD2.out.1.far (.inr (by have := HG.out; omega))⟩; have HC3 : Sl _ := ⟨HIH.out mid en b (by have := HG.out; omega) d2 w4 HW2.out.2 (Blk.mv HF.out HW2.out.1 HAB.out.2.2.2.2) HAB.out.2.2.2.2 (by have := HG.out; omega) (by have := HG.out; omega) HAB.out.2.2.1 HAB.out.2.2.2.1 HE2.out.1 HE2.out.2⟩; go_wp2_with fail; refine HC3.out.mono ?_; rintro ee w5 ⟨rfl, hm5, d3, hp5, hq5, hs5⟩; have HW3 : Sl (Mv g w w5 ∧ PB w5 g N d3) := ⟨Mv.trans HW2.out.1 hm5, hp5⟩; have HD3 : Sl (Pm mid b d2 d3 ∧ Srt due d3 mid b) := ⟨hq5, hs5⟩; clear hm5 hp5 hq5 hs5 HC3 HW2; go_wp2_with fail
              ((try simp only [Exit.inBlock, Exit.then]); refine bodyPost_end (results_none rfl _ _ _) rfl ?_)
              exact ⟨rfl, HW3.out.1, d3, HW3.out.2, ((HPM.out.trans (HD2.out.1.mono (Nat.le_refl _) (by have := HG.out; omega))).trans (HD3.out.1.mono (by have := HG.out; omega) (Nat.le_refl _))), sym_end HSP.out.2.2.2.2 HD2.out.1 HD2.out.2 HD3.out.1 HD3.out.2⟩
            · skip; have hG := HG.out; have t1aI : (i : Int) < (m : Int) := (by omega); have t1a : decide ((i : Int) < (m : Int)) = true := decide_eq_true t1aI; have t1bI : (m : Int) < (en : Int) := (by omega); have t1b : decide ((m : Int) < (en : Int)) = true := decide_eq_true t1bI; have t2aI : (a : Int) < (i : Int) := (by omega); have t2a : decide ((a : Int) < (i : Int)) = true := decide_eq_true t2aI; have t2bI : (i : Int) < (mid : Int) := (by omega); have t2b : decide ((i : Int) < (mid : Int)) = true := decide_eq_true t2bI; have t3aI : (mid : Int) < (en : Int) := (by omega); have t3a : decide ((mid : Int) < (en : Int)) = true := decide_eq_true t3aI; have t3bI : ¬ (en : Int) < (b : Int) := (by omega); have t3b : decide ((en : Int) < (b : Int)) = false := decide_eq_false t3bI; have HRO : Sl _ := ⟨rotate_any g N cap i m en d (.func (.func 73) #[] #[.pointer (some ⟨gf, 0, none⟩)]) wr HW.out.2 (by omega) (by omega) (by omega) HAB.out.2.2.2.1⟩; rw [hd1] at HRO; clear hG hd1; go_wp2_with fail; refine HRO.out.mono ?_; rintro ee w3 ⟨rfl, hm3, hp3⟩; have HW1 : Sl (Mv g w w3 ∧ PB w3 g N d1) := ⟨Mv.trans HW.out.1 hm3, hp3⟩; clear hm3 hp3 HRO HW; have HC2 : Sl _ := ⟨HIH.out a i mid (by have := HG.out; omega) d1 w3 HW1.out.2 (Blk.mv HF.out HW1.out.1 HAB.out.2.2.2.2) HAB.out.2.2.2.2 (by have := HG.out; omega) (by have := HG.out; omega) (by have := HG.out; have := HAB.out; omega) HAB.out.2.2.2.1 HSP.out.1 HSP.out.2.1⟩; go_wp2_with fail; refine HC2.out.mono ?_; rintro ee w4 ⟨rfl, hm4, d2, hp4, hq4, hs4⟩; have HW2 : Sl (Mv g w w4 ∧ PB w4 g N d2) := ⟨Mv.trans HW1.out.1 hm4, hp4⟩; have HD2 : Sl (Pm a mid d1 d2 ∧ Srt due d2 a mid) := ⟨hq4, hs4⟩; clear hm4 hp4 hq4 hs4 HC2 HW1; have HE2 : Sl (Srt due d2 mid en ∧ Srt due d2 en b) := ⟨HSP.out.2.2.1.congr fun k k1 k2 => HD2.out.1.far (.inr k1), HSP.out.2.2.2.1.congr fun k k1 k2 => HD2.out.1.far (.inr (by have := HG.out; omega))⟩; obtain ⟨d3, hd3⟩ : ∃ d3, d2 = d3 := ⟨_, rfl⟩; have HW3 : Sl (Mv g w w4 ∧ PB w4 g N d3) := ⟨by rw [← hd3]; exact HW2.out⟩
              have HD3 : Sl (Pm mid b d2 d3 ∧ Srt due d3 mid b) := ⟨by rw [← hd3]; exact ⟨.refl, by
                exact HE2.out.1.sub (Nat.le_refl _) (by have := HG.out; omega)⟩⟩
              clear HW2 hd3; go_wp2_with fail
              ((try simp only [Exit.inBlock, Exit.then]); refine bodyPost_end (results_none rfl _ _ _) rfl ?_)
              exact ⟨rfl, HW3.out.1, d3, HW3.out.2, ((HPM.out.trans (HD2.out.1.mono (Nat.le_refl _) (by have := HG.out; omega))).trans (HD3.out.1.mono (by have := HG.out; omega) (Nat.le_refl _))), sym_end HSP.out.2.2.2.2 HD2.out.1 HD2.out.2 HD3.out.1 HD3.out.2⟩
          · by_cases hb2 : en < b
            · skip; have hG := HG.out; have t1aI : (i : Int) < (m : Int) := (by omega); have t1a : decide ((i : Int) < (m : Int)) = true := decide_eq_true t1aI; have t1bI : (m : Int) < (en : Int) := (by omega); have t1b : decide ((m : Int) < (en : Int)) = true := decide_eq_true t1bI; have t2aI : ¬ (a : Int) < (i : Int) := (by omega); have t2a : decide ((a : Int) < (i : Int)) = false := decide_eq_false t2aI; have t3aI : (mid : Int) < (en : Int) := (by omega); have t3a : decide ((mid : Int) < (en : Int)) = true := decide_eq_true t3aI; have t3bI : (en : Int) < (b : Int) := (by omega); have t3b : decide ((en : Int) < (b : Int)) = true := decide_eq_true t3bI; have HRO : Sl _ := ⟨rotate_any g N cap i m en d (.func (.func 73) #[] #[.pointer (some ⟨gf, 0, none⟩)]) wr HW.out.2 (by omega) (by omega) (by omega) HAB.out.2.2.2.1⟩; rw [hd1] at HRO
              have HL2 : Sl (Srt due d1 a mid) := ⟨by
                obtain ⟨q1, q2, _⟩ := HSP.out
                exact q2.sub (by omega) (Nat.le_refl _)⟩
              clear hG hd1; go_wp2_with fail; refine HRO.out.mono ?_; rintro ee w3 ⟨rfl, hm3, hp3⟩; have HW1 : Sl (Mv g w w3 ∧ PB w3 g N d1) := ⟨Mv.trans HW.out.1 hm3, hp3⟩; clear hm3 hp3 HRO HW; obtain ⟨d2, hd2⟩ : ∃ d2, d1 = d2 := ⟨_, rfl⟩; have HW2 : Sl (Mv g w w3 ∧ PB w3 g N d2) := ⟨by rw [← hd2]; exact HW1.out⟩; have HD2 : Sl (Pm a mid d1 d2 ∧ Srt due d2 a mid) := ⟨by rw [← hd2]; exact ⟨.refl, HL2.out⟩⟩; clear HW1 hd2; have HE2 : Sl (Srt due d2 mid en ∧ Srt due d2 en b) := ⟨HSP.out.2.2.1.congr fun k k1 k2 => HD2.out.1.far (.inr k1), HSP.out.2.2.2.1.congr fun k k1 k2 => HD2.out.1.far (.inr (by have := HG.out; omega))⟩; have HC3 : Sl _ := ⟨HIH.out mid en b (by have := HG.out; omega) d2 w3 HW2.out.2 (Blk.mv HF.out HW2.out.1 HAB.out.2.2.2.2) HAB.out.2.2.2.2 (by have := HG.out; omega) (by have := HG.out; omega) HAB.out.2.2.1 HAB.out.2.2.2.1 HE2.out.1 HE2.out.2⟩; go_wp2_with fail; refine HC3.out.mono ?_; rintro ee w5 ⟨rfl, hm5, d3, hp5, hq5, hs5⟩; have HW3 : Sl (Mv g w w5 ∧ PB w5 g N d3) := ⟨Mv.trans HW2.out.1 hm5, hp5⟩; have HD3 : Sl (Pm mid b d2 d3 ∧ Srt due d3 mid b) := ⟨hq5, hs5⟩; clear hm5 hp5 hq5 hs5 HC3 HW2; go_wp2_with fail
              ((try simp only [Exit.inBlock, Exit.then]); refine bodyPost_end (results_none rfl _ _ _) rfl ?_)
              exact ⟨rfl, HW3.out.1, d3, HW3.out.2, ((HPM.out.trans (HD2.out.1.mono (Nat.le_refl _) (by have := HG.out; omega))).trans (HD3.out.1.mono (by have := HG.out; omega) (Nat.le_refl _))), sym_end HSP.out.2.2.2.2 HD2.out.1 HD2.out.2 HD3.out.1 HD3.out.2⟩
            · skip; have hG := HG.out; have t1aI : (i : Int) < (m : Int) := (by omega); have t1a : decide ((i : Int) < (m : Int)) = true := decide_eq_true t1aI; have t1bI : (m : Int) < (en : Int) := (by omega); have t1b : decide ((m : Int) < (en : Int)) = true := decide_eq_true t1bI; have t2aI : ¬ (a : Int) < (i : Int) := (by omega); have t2a : decide ((a : Int) < (i : Int)) = false := decide_eq_false t2aI; have t3aI : (mid : Int) < (en : Int) := (by omega); have t3a : decide ((mid : Int) < (en : Int)) = true := decide_eq_true t3aI; have t3bI : ¬ (en : Int) < (b : Int) := (by omega); have t3b : decide ((en : Int) < (b : Int)) = false := decide_eq_false t3bI; have HRO : Sl _ := ⟨rotate_any g N cap i m en d (.func (.func 73) #[] #[.pointer (some ⟨gf, 0, none⟩)]) wr HW.out.2 (by omega) (by omega) (by omega) HAB.out.2.2.2.1⟩; rw [hd1] at HRO
              have HL2 : Sl (Srt due d1 a mid) := ⟨by
                obtain ⟨q1, q2, _⟩ := HSP.out
                exact q2.sub (by omega) (Nat.le_refl _)⟩
              clear hG hd1; go_wp2_with fail; refine HRO.out.mono ?_; rintro ee w3 ⟨rfl, hm3, hp3⟩; have HW1 : Sl (Mv g w w3 ∧ PB w3 g N d1) := ⟨Mv.trans HW.out.1 hm3, hp3⟩; clear hm3 hp3 HRO HW; obtain ⟨d2, hd2⟩ : ∃ d2, d1 = d2 := ⟨_, rfl⟩; have HW2 : Sl (Mv g w w3 ∧ PB w3 g N d2) := ⟨by rw [← hd2]; exact HW1.out⟩; have HD2 : Sl (Pm a mid d1 d2 ∧ Srt due d2 a mid) := ⟨by rw [← hd2]; exact ⟨.refl, HL2.out⟩⟩; clear HW1 hd2; have HE2 : Sl (Srt due d2 mid en ∧ Srt due d2 en b) := ⟨HSP.out.2.2.1.congr fun k k1 k2 => HD2.out.1.far (.inr k1), HSP.out.2.2.2.1.congr fun k k1 k2 => HD2.out.1.far (.inr (by have := HG.out; omega))⟩; obtain ⟨d3, hd3⟩ : ∃ d3, d2 = d3 := ⟨_, rfl⟩; have HW3 : Sl (Mv g w w3 ∧ PB w3 g N d3) := ⟨by rw [← hd3]; exact HW2.out⟩
              have HD3 : Sl (Pm mid b d2 d3 ∧ Srt due d3 mid b) := ⟨by rw [← hd3]; exact ⟨.refl, by
                exact HE2.out.1.sub (Nat.le_refl _) (by have := HG.out; omega)⟩⟩
              clear HW2 hd3; go_wp2_with fail
              ((try simp only [Exit.inBlock, Exit.then]); refine bodyPost_end (results_none rfl _ _ _) rfl ?_)
              exact ⟨rfl, HW3.out.1, d3, HW3.out.2, ((HPM.out.trans (HD2.out.1.mono (Nat.le_refl _) (by have := HG.out; omega))).trans (HD3.out.1.mono (by have := HG.out; omega) (Nat.le_refl _))), sym_end HSP.out.2.2.2.2 HD2.out.1 HD2.out.2 HD3.out.1 HD3.out.2⟩
        · skip; have hG := HG.out; have t1aI : (i : Int) < (m : Int) := (by omega); have t1a : decide ((i : Int) < (m : Int)) = true := decide_eq_true t1aI; have t1bI : ¬ (m : Int) < (en : Int) := (by omega); have t1b : decide ((m : Int) < (en : Int)) = false := decide_eq_false t1bI; have t2aI : (a : Int) < (i : Int) := (by omega); have t2a : decide ((a : Int) < (i : Int)) = true := decide_eq_true t2aI; have t2bI : ¬ (i : Int) < (mid : Int) := (by omega); have t2b : decide ((i : Int) < (mid : Int)) = false := decide_eq_false t2bI; have t3aI : (mid : Int) < (en : Int) := (by omega); have t3a : decide ((mid : Int) < (en : Int)) = true := decide_eq_true t3aI; have t3bI : (en : Int) < (b : Int) := (by omega); have t3b : decide ((en : Int) < (b : Int)) = true := decide_eq_true t3bI; have HID : Sl (d1 = d) := ⟨by rw [← hd1]; exact rot_id d (by omega) (by omega) (by omega)⟩
          have HL2 : Sl (Srt due d1 a mid) := ⟨by
            obtain ⟨q1, q2, _⟩ := HSP.out
            exact q1.sub (Nat.le_refl _) (by omega)⟩
          clear hG hd1; go_wp2_with fail; have HW1 : Sl (Mv g w wr ∧ PB wr g N d1) := ⟨HW.out.1, by rw [HID.out]; exact HW.out.2⟩; clear HW; obtain ⟨d2, hd2⟩ : ∃ d2, d1 = d2 := ⟨_, rfl⟩; have HW2 : Sl (Mv g w wr ∧ PB wr g N d2) := ⟨by rw [← hd2]; exact HW1.out⟩; have HD2 : Sl (Pm a mid d1 d2 ∧ Srt due d2 a mid) := ⟨by rw [← hd2]; exact ⟨.refl, HL2.out⟩⟩; clear HW1 hd2; have HE2 : Sl (Srt due d2 mid en ∧ Srt due d2 en b) := ⟨HSP.out.2.2.1.congr fun k k1 k2 => HD2.out.1.far (.inr k1), HSP.out.2.2.2.1.congr fun k k1 k2 => HD2.out.1.far (.inr (by have := HG.out; omega))⟩; have HC3 : Sl _ := ⟨HIH.out mid en b (by have := HG.out; omega) d2 wr HW2.out.2 (Blk.mv HF.out HW2.out.1 HAB.out.2.2.2.2) HAB.out.2.2.2.2 (by have := HG.out; omega) (by have := HG.out; omega) HAB.out.2.2.1 HAB.out.2.2.2.1 HE2.out.1 HE2.out.2⟩; refine HC3.out.mono ?_; rintro ee w5 ⟨rfl, hm5, d3, hp5, hq5, hs5⟩; have HW3 : Sl (Mv g w w5 ∧ PB w5 g N d3) := ⟨Mv.trans HW2.out.1 hm5, hp5⟩; have HD3 : Sl (Pm mid b d2 d3 ∧ Srt due d3 mid b) := ⟨hq5, hs5⟩; clear hm5 hp5 hq5 hs5 HC3 HW2; go_wp2_with fail
          ((try simp only [Exit.inBlock, Exit.then]); refine bodyPost_end (results_none rfl _ _ _) rfl ?_)
          exact ⟨rfl, HW3.out.1, d3, HW3.out.2, ((HPM.out.trans (HD2.out.1.mono (Nat.le_refl _) (by have := HG.out; omega))).trans (HD3.out.1.mono (by have := HG.out; omega) (Nat.le_refl _))), sym_end HSP.out.2.2.2.2 HD2.out.1 HD2.out.2 HD3.out.1 HD3.out.2⟩
  · have hgt : decide ((mid : Int) < (m : Int)) = false := decide_eq_false (by omega); have HG : Sl (a < m ∧ m ≤ mid ∧ nn = mid + m ∧ pp + 1 = nn ∧ a < mid ∧ mid < b ∧ mid = (a + b) / 2) := ⟨by omega⟩; clear hmid hnn hpp hlay hall h hf hne ham hmb hb hN hs1 hs2; go_enter Tryz.func115, Tryz.ntmps115; go_wp2_with fail
    go_loopw [20, 21, 23] (fun s20 s21 s23 wr => ∃ (i j : Nat) (v23 : Value), s20 = .int .i64 i ∧ s21 = .int .i64 j ∧ s23 = v23 ∧ a ≤ i ∧ i ≤ j ∧ j ≤ m ∧ Sl (Mv g w wr ∧ PB wr g N d) ∧ Sl ((∀ c, a ≤ c → c < i → due (d c) ≤ due (d (pp - c))) ∧ (∀ c, j ≤ c → c < m → due (d (pp - c)) < due (d c)))) (fun s20 s21 _ _ => (RowKit.intOf s21 - RowKit.intOf s20).toNat)
    case atStart => exact ⟨a, m, _, rfl, rfl, rfl, Nat.le_refl _, by have := HG.out; omega, Nat.le_refl _, ⟨Mv.refl _ _, HP.out⟩, ⟨fun c h1 h2 => by omega, fun c h1 h2 => by omega⟩⟩
    case round =>
      clear HP; obtain ⟨i, j, v23, rfl, rfl, rfl, hsi, hij, hjr, HW, HC⟩ := hrel; obtain ⟨ham, hmb, hbN', hN, hne⟩ := HAB.out
      by_cases hlt : i < j
      · obtain ⟨h, hh⟩ : ∃ h, (i + j) / 2 = h := ⟨_, rfl⟩; have hG := HG.out; have hhi : i ≤ h ∧ h < j := (by omega); have hhI : ((i : Int) + (j : Int)) / 2 = (h : Int) := (by omega); have hltI : (i : Int) < (j : Int) := (by omega); have hj6 : (j : Int) ≤ 1000000 := (by omega); have hhN : (h : Int) < (N : Int) := (by omega); have hhN' : h < N := (by omega); have hh6 : (h : Int) ≤ 1000000 := (by omega); obtain ⟨k, hk⟩ : ∃ k, pp - h = k := ⟨_, rfl⟩; have hkI : (pp : Int) - (h : Int) = (k : Int) := (by omega); have hkw : IntKind.i64.wrap (k : Int) = (k : Int) := (by rw [IntKind.wrap_i64]; omega); have hkm : m ≤ k := (by omega); have hkb : k < b := (by omega); have hkN : (k : Int) < (N : Int) := (by omega); have hkN' : k < N := (by omega); have HKH : Sl (k + h = pp) := ⟨by omega⟩; obtain ⟨p1, hp⟩ : ∃ p, d k = p := ⟨_, rfl⟩; obtain ⟨q1, hq⟩ : ∃ q, d h = q := ⟨_, rfl⟩; obtain ⟨x, y⟩ := p1; obtain ⟨u, v⟩ := q1; have HPQ : Sl (d k = (x, y) ∧ d h = (u, v)) := ⟨hp, hq⟩
        have HRA : Sl ((∀ w' : World, Mv wr.heap.size wr w' → w'.rangeAt g (k * 2) (#[.int .i64 x, .int .i64 y] : Array Value).toList) ∧ (∀ w' : World, Mv wr.heap.size wr w' → w'.rangeAt g (h * 2) (#[.int .i64 u, .int .i64 v] : Array Value).toList)) := ⟨by
          refine ⟨fun w' hm' => ?_, fun w' hm' => ?_⟩
          · have := (HW.out.2.mv hm' (by have := HW.out.2.lt; omega)).range (j := k) (by omega); rw [hp] at this; exact this
          · have := (HW.out.2.mv hm' (by have := HW.out.2.lt; omega)).range (j := h) (by omega)
            rw [hq] at this; exact this⟩
        obtain ⟨c, hc⟩ : ∃ c, Lib.compareInt y v = c := ⟨_, rfl⟩; have HCC : Sl (c < 0 ↔ due (d k) < due (d h)) := ⟨by rw [← hc, hp, hq]; exact cmpi_lt y v⟩
        have HCM : Sl (∀ (W : World), RowKit.Below wr.heap.size wr W → Calls Tryz.prog 73 #[.agg #[.int .i64 x, .int .i64 y], .agg #[.int .i64 u, .int .i64 v], .pointer (some ⟨gf, 0, none⟩)] W fun e w' => e = .returned (.int .i64 c) ∧ RowKit.Below wr.heap.size wr w') := ⟨fun W hW => by
          have hk1 : Blk wr gf _ _ := HF.out.mv HW.out.1 HAB.out.2.2.2.2; have := by1_any gf x y u v W (hk1.below hW hk1.lt); rw [hc] at this
          exact this.mono fun e w' g => ⟨g.1, hW.trans (g.2.mono hW.size)⟩⟩
        clear hc hp hq; clear hh hk hne ham hmb hbN' hN hG
        by_cases hyv : due (d k) < due (d h)
        · have hcd : decide (c < 0) = true := decide_eq_true (HCC.out.2 hyv); have HLT : Sl _ := ⟨hyv⟩; clear hyv; go_wp2_with fail; have hm : Mv wr.heap.size wr wr.drew := Mv.drew _ _; have HSW : Sl (RowKit.Below wr.heap.size wr wr.drew) := ⟨below_drewN (Below.refl _ _) 1⟩; refine wp_region_held_drew (S := fun w' => Mv wr.heap.size wr w') (by kernel_rfl) hm (fun hHeld => ?_); clear hm; refine wpAnyH_pure 0 (v := .func (.func 73) #[] #[.pointer (some ⟨gf, 0, none⟩)]) rfl (by kernel_rfl) (by kernel_rfl) (by kernel_rfl) (fun _ _ _ h => h) rfl (fun _ => rfl) (by assumption) ?_; simp only [Act.put, sS0, sS1, sS2]; refine wpAnyH_pure 1 (v := .slice (some ⟨g, 0, none⟩) N cap) rfl (by kernel_rfl) (by kernel_rfl) (by kernel_rfl) (fun _ _ _ h => h) rfl (fun _ => rfl) (by assumption) ?_; simp only [Act.put, sS0, sS1, sS2]; refine wpAnyH_pure 2 (v := .int .i64 (pp : Int)) rfl (by kernel_rfl) (by kernel_rfl) (by kernel_rfl) (fun _ _ _ h => h) rfl (fun _ => rfl) (by assumption) ?_; simp only [Act.put, sS0, sS1, sS2]; refine wpAnyH_pure 3 (v := .int .i64 (h : Int)) rfl (by kernel_rfl) (by kernel_rfl) (by kernel_rfl) (fun _ _ _ h => h) rfl (fun _ => rfl) (by assumption) ?_; simp only [Act.put, sS0, sS1, sS2]; refine wpAnyH_pure 4 (v := .int .i64 (k : Int)) rfl (by kernel_rfl) (by kernel_rfl) (by kernel_rfl) (fun _ _ _ h => h) rfl (fun _ => by go_simp) (by assumption) ?_; simp only [Act.put, sS0, sS1, sS2]; refine wpAnyH_pure 5 (v := .pointer (some ⟨g, k * 2, none⟩)) rfl (by kernel_rfl) (by kernel_rfl) (by kernel_rfl) (fun _ _ _ h => h) rfl (fun _ => by go_simp) (by assumption) ?_; simp only [Act.put, sS0, sS1, sS2]; refine wpAnyH_load 6 93 (.tmp 163) rfl rfl rfl g (k * 2) rfl (#[.int .i64 x, .int .i64 y]) _ (fun w' h => HRA.out.1 w' h) Tryz.underlying93 rfl size_low (by kernel_rfl) (by kernel_rfl) (by kernel_rfl) (fun _ _ _ h => h) (by assumption) ?_; simp only [Act.put, sS0, sS1, sS2]; refine wpAnyH_pure 7 (v := .slice (some ⟨g, 0, none⟩) N cap) rfl (by kernel_rfl) (by kernel_rfl) (by kernel_rfl) (fun _ _ _ h => h) rfl (fun _ => rfl) (by assumption) ?_; simp only [Act.put, sS0, sS1, sS2]; refine wpAnyH_pure 8 (v := .int .i64 (h : Int)) rfl (by kernel_rfl) (by kernel_rfl) (by kernel_rfl) (fun _ _ _ h => h) rfl (fun _ => rfl) (by assumption) ?_; simp only [Act.put, sS0, sS1, sS2]; refine wpAnyH_pure 9 (v := .pointer (some ⟨g, h * 2, none⟩)) rfl (by kernel_rfl) (by kernel_rfl) (by kernel_rfl) (fun _ _ _ h => h) rfl (fun _ => by go_simp) (by assumption) ?_; simp only [Act.put, sS0, sS1, sS2]; refine wpAnyH_load 10 93 (.tmp 167) rfl rfl rfl g (h * 2) rfl (#[.int .i64 u, .int .i64 v]) _ (fun w' h => HRA.out.2 w' h) Tryz.underlying93 rfl size_low (by kernel_rfl) (by kernel_rfl) (by kernel_rfl) (fun _ _ _ h => h) (by assumption) ?_; simp only [Act.put, sS0, sS1, sS2]; refine wpAnyH_one 11 rfl (by kernel_rfl) rfl (fun K hK => ?_); go_simp; go_at_call 73
          (with_reducible refine (HCM.out _ HSW.out).mono ?_)
          rintro ee w2 ⟨rfl, hb⟩; replace HSW : Sl (RowKit.Below wr.heap.size wr w2) := ⟨hb⟩; refine hK.out _ _ (Mv.below HSW.out) (fun hHeld => ?_); clear hK K hb
          (try simp only [Act.put, sS0, sS1, sS2])
          refine wpAnyH_pure 12 (v := .bool true) rfl (by kernel_rfl) (by kernel_rfl) (by kernel_rfl) (fun _ _ _ h => h) rfl (fun _ => by go_simp) (by assumption) ?_; simp only [Act.put, sS0, sS1, sS2]; refine wpAnyH_pure 13 (v := .bool false) rfl (by kernel_rfl) (by kernel_rfl) (by kernel_rfl) (fun _ _ _ h => h) rfl (fun _ => by go_simp) (by assumption) ?_; simp only [Act.put, sS0, sS1, sS2]; refine wpAnyH_done (by kernel_rfl) ?_ _; clear hHeld; have HW2 : Sl (Mv g w w2 ∧ PB w2 g N d) := ⟨Mv.trans HW.out.1 (Mv.below HSW.out), HW.out.2.below HSW.out HW.out.2.lt⟩; clear HRA HCM HSW HW; go_wp2_with fail; refine ⟨⟨i, h, _, rfl, rfl, rfl, hsi, hhi.1, by omega, HW2, ⟨HC.out.1, fun c' h1 h2 => ?_⟩⟩, by simp [RowKit.intOf]; omega⟩; have e1 := HKH.out; have hG := HG.out; have ham := HAB.out; exact Int.lt_of_le_of_lt (HS.out.2 (pp - c') k (by omega) (by omega) (by omega)) (Int.lt_of_lt_of_le HLT.out (HS.out.1 h c' (by omega) h1 (by omega)))
        · have hcd : decide (c < 0) = false := decide_eq_false (fun h => hyv (HCC.out.1 h)); have HLT : Sl (due (d h) ≤ due (d k)) := ⟨by omega⟩; clear hyv; go_wp2_with fail; have hm : Mv wr.heap.size wr wr.drew := Mv.drew _ _; have HSW : Sl (RowKit.Below wr.heap.size wr wr.drew) := ⟨below_drewN (Below.refl _ _) 1⟩; refine wp_region_held_drew (S := fun w' => Mv wr.heap.size wr w') (by kernel_rfl) hm (fun hHeld => ?_); clear hm; refine wpAnyH_pure 0 (v := .func (.func 73) #[] #[.pointer (some ⟨gf, 0, none⟩)]) rfl (by kernel_rfl) (by kernel_rfl) (by kernel_rfl) (fun _ _ _ h => h) rfl (fun _ => rfl) (by assumption) ?_; simp only [Act.put, sS0, sS1, sS2]; refine wpAnyH_pure 1 (v := .slice (some ⟨g, 0, none⟩) N cap) rfl (by kernel_rfl) (by kernel_rfl) (by kernel_rfl) (fun _ _ _ h => h) rfl (fun _ => rfl) (by assumption) ?_; simp only [Act.put, sS0, sS1, sS2]; refine wpAnyH_pure 2 (v := .int .i64 (pp : Int)) rfl (by kernel_rfl) (by kernel_rfl) (by kernel_rfl) (fun _ _ _ h => h) rfl (fun _ => rfl) (by assumption) ?_; simp only [Act.put, sS0, sS1, sS2]; refine wpAnyH_pure 3 (v := .int .i64 (h : Int)) rfl (by kernel_rfl) (by kernel_rfl) (by kernel_rfl) (fun _ _ _ h => h) rfl (fun _ => rfl) (by assumption) ?_; simp only [Act.put, sS0, sS1, sS2]; refine wpAnyH_pure 4 (v := .int .i64 (k : Int)) rfl (by kernel_rfl) (by kernel_rfl) (by kernel_rfl) (fun _ _ _ h => h) rfl (fun _ => by go_simp) (by assumption) ?_; simp only [Act.put, sS0, sS1, sS2]; refine wpAnyH_pure 5 (v := .pointer (some ⟨g, k * 2, none⟩)) rfl (by kernel_rfl) (by kernel_rfl) (by kernel_rfl) (fun _ _ _ h => h) rfl (fun _ => by go_simp) (by assumption) ?_; simp only [Act.put, sS0, sS1, sS2]; refine wpAnyH_load 6 93 (.tmp 163) rfl rfl rfl g (k * 2) rfl (#[.int .i64 x, .int .i64 y]) _ (fun w' h => HRA.out.1 w' h) Tryz.underlying93 rfl size_low (by kernel_rfl) (by kernel_rfl) (by kernel_rfl) (fun _ _ _ h => h) (by assumption) ?_; simp only [Act.put, sS0, sS1, sS2]; refine wpAnyH_pure 7 (v := .slice (some ⟨g, 0, none⟩) N cap) rfl (by kernel_rfl) (by kernel_rfl) (by kernel_rfl) (fun _ _ _ h => h) rfl (fun _ => rfl) (by assumption) ?_; simp only [Act.put, sS0, sS1, sS2]; refine wpAnyH_pure 8 (v := .int .i64 (h : Int)) rfl (by kernel_rfl) (by kernel_rfl) (by kernel_rfl) (fun _ _ _ h => h) rfl (fun _ => rfl) (by assumption) ?_; simp only [Act.put, sS0, sS1, sS2]; refine wpAnyH_pure 9 (v := .pointer (some ⟨g, h * 2, none⟩)) rfl (by kernel_rfl) (by kernel_rfl) (by kernel_rfl) (fun _ _ _ h => h) rfl (fun _ => by go_simp) (by assumption) ?_; simp only [Act.put, sS0, sS1, sS2]; refine wpAnyH_load 10 93 (.tmp 167) rfl rfl rfl g (h * 2) rfl (#[.int .i64 u, .int .i64 v]) _ (fun w' h => HRA.out.2 w' h) Tryz.underlying93 rfl size_low (by kernel_rfl) (by kernel_rfl) (by kernel_rfl) (fun _ _ _ h => h) (by assumption) ?_; simp only [Act.put, sS0, sS1, sS2]; refine wpAnyH_one 11 rfl (by kernel_rfl) rfl (fun K hK => ?_); go_simp; go_at_call 73
          (with_reducible refine (HCM.out _ HSW.out).mono ?_)
          rintro ee w2 ⟨rfl, hb⟩; replace HSW : Sl (RowKit.Below wr.heap.size wr w2) := ⟨hb⟩; refine hK.out _ _ (Mv.below HSW.out) (fun hHeld => ?_); clear hK K hb
          (try simp only [Act.put, sS0, sS1, sS2])
          refine wpAnyH_pure 12 (v := .bool false) rfl (by kernel_rfl) (by kernel_rfl) (by kernel_rfl) (fun _ _ _ h => h) rfl (fun _ => by go_simp) (by assumption) ?_; simp only [Act.put, sS0, sS1, sS2]; refine wpAnyH_pure 13 (v := .bool true) rfl (by kernel_rfl) (by kernel_rfl) (by kernel_rfl) (fun _ _ _ h => h) rfl (fun _ => by go_simp) (by assumption) ?_; simp only [Act.put, sS0, sS1, sS2]; refine wpAnyH_done (by kernel_rfl) ?_ _; clear hHeld; have HW2 : Sl (Mv g w w2 ∧ PB w2 g N d) := ⟨Mv.trans HW.out.1 (Mv.below HSW.out), HW.out.2.below HSW.out HW.out.2.lt⟩; clear HRA HCM HSW HW; go_wp2_with fail; refine ⟨⟨h + 1, j, _, by go_num, rfl, rfl, by omega, by omega, hjr, HW2, ⟨fun c' h1 h2 => ?_, HC.out.2⟩⟩, by simp [RowKit.intOf]; omega⟩; have e1 := HKH.out; have hG := HG.out; have ham := HAB.out; exact Int.le_trans (HS.out.1 c' h (by omega) (by omega) (by omega)) (Int.le_trans HLT.out (HS.out.2 k (pp - c') hkm (by omega) (by omega)))
      · obtain rfl : i = j := (by omega); obtain ⟨en, hen⟩ : ∃ en, nn - i = en := ⟨_, rfl⟩; have henI : (nn : Int) - (i : Int) = (en : Int) := (by omega); have henw : IntKind.i64.wrap (en : Int) = (en : Int) := (by rw [IntKind.wrap_i64]; omega); have hG := HG.out; have hen2 : mid + m - i = en := (by omega); obtain ⟨d1, hd1⟩ : ∃ d1, rot d i m en = d1 := ⟨_, rfl⟩
        have HSP : Sl (Srt due d1 a i ∧ Srt due d1 i mid ∧ Srt due d1 mid en ∧ Srt due d1 en b ∧ ∀ x y, a ≤ x → x < mid → mid ≤ y → y < b → due (d1 x) ≤ due (d1 y)) := ⟨by
          have := sym_parts (κ := due) (d := d) (a := a) (m := m) (b := b) (mid := mid) (st := i) ham hmb (by omega) HS.out.1 HS.out.2 (by omega) (by omega) (by omega) (by omega) (by omega) (fun c h1 h2 h3 => by
              have := HC.out.1 c (by omega) h2
              rw [show mid + m - 1 - c = pp - c by omega]; exact this) (fun c h1 h2 h3 => by
              have := HC.out.2 c h1 (by omega)
              rw [show mid + m - 1 - c = pp - c by omega]; exact this)
          rw [hen2, hd1] at this
          exact this⟩
        have HPM : Sl (Pm a b d d1) := ⟨by
          rw [← hd1]
          by_cases hid : i = m ∨ en = m
          · rw [rot_id d hid (by omega) (by omega)]; exact .refl
          · have := rot_pm (m := m) ((m - i) + (en - m)) (m - i) (en - m) d (Nat.le_refl _) (by omega) (by omega) (by omega); rw [show m - (m - i) = i by omega, show m + (en - m) = en by omega] at this
            exact this.mono (by omega) (by omega)⟩
        replace HG : Sl (a ≤ i ∧ i ≤ m ∧ i ≤ mid ∧ en + i = mid + m ∧ m ≤ en ∧ en ≤ b ∧ mid ≤ en ∧ a < mid ∧ mid < b ∧ mid = (a + b) / 2) := ⟨by omega⟩; clear HC hen hen2 hG hij hsi hjr
        by_cases hr : i < m
        · by_cases ha : a < i
          · by_cases hb2 : en < b
            · skip; have hG := HG.out; have t1aI : (i : Int) < (m : Int) := (by omega); have t1a : decide ((i : Int) < (m : Int)) = true := decide_eq_true t1aI; have t1bI : (m : Int) < (en : Int) := (by omega); have t1b : decide ((m : Int) < (en : Int)) = true := decide_eq_true t1bI; have t2aI : (a : Int) < (i : Int) := (by omega); have t2a : decide ((a : Int) < (i : Int)) = true := decide_eq_true t2aI; have t2bI : (i : Int) < (mid : Int) := (by omega); have t2b : decide ((i : Int) < (mid : Int)) = true := decide_eq_true t2bI; have t3aI : (mid : Int) < (en : Int) := (by omega); have t3a : decide ((mid : Int) < (en : Int)) = true := decide_eq_true t3aI; have t3bI : (en : Int) < (b : Int) := (by omega); have t3b : decide ((en : Int) < (b : Int)) = true := decide_eq_true t3bI; have HRO : Sl _ := ⟨rotate_any g N cap i m en d (.func (.func 73) #[] #[.pointer (some ⟨gf, 0, none⟩)]) wr HW.out.2 (by omega) (by omega) (by omega) HAB.out.2.2.2.1⟩; rw [hd1] at HRO; clear hG hd1; go_wp2_with fail; refine HRO.out.mono ?_; rintro ee w3 ⟨rfl, hm3, hp3⟩; have HW1 : Sl (Mv g w w3 ∧ PB w3 g N d1) := ⟨Mv.trans HW.out.1 hm3, hp3⟩; clear hm3 hp3 HRO HW; have HC2 : Sl _ := ⟨HIH.out a i mid (by have := HG.out; omega) d1 w3 HW1.out.2 (Blk.mv HF.out HW1.out.1 HAB.out.2.2.2.2) HAB.out.2.2.2.2 (by have := HG.out; omega) (by have := HG.out; omega) (by have := HG.out; have := HAB.out; omega) HAB.out.2.2.2.1 HSP.out.1 HSP.out.2.1⟩; go_wp2_with fail; refine HC2.out.mono ?_; rintro ee w4 ⟨rfl, hm4, d2, hp4, hq4, hs4⟩; have HW2 : Sl (Mv g w w4 ∧ PB w4 g N d2) := ⟨Mv.trans HW1.out.1 hm4, hp4⟩; have HD2 : Sl (Pm a mid d1 d2 ∧ Srt due d2 a mid) := ⟨hq4, hs4⟩; clear hm4 hp4 hq4 hs4 HC2 HW1; have HE2 : Sl (Srt due d2 mid en ∧ Srt due d2 en b) := ⟨HSP.out.2.2.1.congr fun k k1 k2 => HD2.out.1.far (.inr k1), HSP.out.2.2.2.1.congr fun k k1 k2 => HD2.out.1.far (.inr (by have := HG.out; omega))⟩; have HC3 : Sl _ := ⟨HIH.out mid en b (by have := HG.out; omega) d2 w4 HW2.out.2 (Blk.mv HF.out HW2.out.1 HAB.out.2.2.2.2) HAB.out.2.2.2.2 (by have := HG.out; omega) (by have := HG.out; omega) HAB.out.2.2.1 HAB.out.2.2.2.1 HE2.out.1 HE2.out.2⟩; go_wp2_with fail; refine HC3.out.mono ?_; rintro ee w5 ⟨rfl, hm5, d3, hp5, hq5, hs5⟩; have HW3 : Sl (Mv g w w5 ∧ PB w5 g N d3) := ⟨Mv.trans HW2.out.1 hm5, hp5⟩; have HD3 : Sl (Pm mid b d2 d3 ∧ Srt due d3 mid b) := ⟨hq5, hs5⟩; clear hm5 hp5 hq5 hs5 HC3 HW2; go_wp2_with fail
              ((try simp only [Exit.inBlock, Exit.then]); refine bodyPost_end (results_none rfl _ _ _) rfl ?_)
              exact ⟨rfl, HW3.out.1, d3, HW3.out.2, ((HPM.out.trans (HD2.out.1.mono (Nat.le_refl _) (by have := HG.out; omega))).trans (HD3.out.1.mono (by have := HG.out; omega) (Nat.le_refl _))), sym_end HSP.out.2.2.2.2 HD2.out.1 HD2.out.2 HD3.out.1 HD3.out.2⟩
            · skip; have hG := HG.out; have t1aI : (i : Int) < (m : Int) := (by omega); have t1a : decide ((i : Int) < (m : Int)) = true := decide_eq_true t1aI; have t1bI : (m : Int) < (en : Int) := (by omega); have t1b : decide ((m : Int) < (en : Int)) = true := decide_eq_true t1bI; have t2aI : (a : Int) < (i : Int) := (by omega); have t2a : decide ((a : Int) < (i : Int)) = true := decide_eq_true t2aI; have t2bI : (i : Int) < (mid : Int) := (by omega); have t2b : decide ((i : Int) < (mid : Int)) = true := decide_eq_true t2bI; have t3aI : (mid : Int) < (en : Int) := (by omega); have t3a : decide ((mid : Int) < (en : Int)) = true := decide_eq_true t3aI; have t3bI : ¬ (en : Int) < (b : Int) := (by omega); have t3b : decide ((en : Int) < (b : Int)) = false := decide_eq_false t3bI; have HRO : Sl _ := ⟨rotate_any g N cap i m en d (.func (.func 73) #[] #[.pointer (some ⟨gf, 0, none⟩)]) wr HW.out.2 (by omega) (by omega) (by omega) HAB.out.2.2.2.1⟩; rw [hd1] at HRO; clear hG hd1; go_wp2_with fail; refine HRO.out.mono ?_; rintro ee w3 ⟨rfl, hm3, hp3⟩; have HW1 : Sl (Mv g w w3 ∧ PB w3 g N d1) := ⟨Mv.trans HW.out.1 hm3, hp3⟩; clear hm3 hp3 HRO HW; have HC2 : Sl _ := ⟨HIH.out a i mid (by have := HG.out; omega) d1 w3 HW1.out.2 (Blk.mv HF.out HW1.out.1 HAB.out.2.2.2.2) HAB.out.2.2.2.2 (by have := HG.out; omega) (by have := HG.out; omega) (by have := HG.out; have := HAB.out; omega) HAB.out.2.2.2.1 HSP.out.1 HSP.out.2.1⟩; go_wp2_with fail; refine HC2.out.mono ?_; rintro ee w4 ⟨rfl, hm4, d2, hp4, hq4, hs4⟩; have HW2 : Sl (Mv g w w4 ∧ PB w4 g N d2) := ⟨Mv.trans HW1.out.1 hm4, hp4⟩; have HD2 : Sl (Pm a mid d1 d2 ∧ Srt due d2 a mid) := ⟨hq4, hs4⟩; clear hm4 hp4 hq4 hs4 HC2 HW1; have HE2 : Sl (Srt due d2 mid en ∧ Srt due d2 en b) := ⟨HSP.out.2.2.1.congr fun k k1 k2 => HD2.out.1.far (.inr k1), HSP.out.2.2.2.1.congr fun k k1 k2 => HD2.out.1.far (.inr (by have := HG.out; omega))⟩; obtain ⟨d3, hd3⟩ : ∃ d3, d2 = d3 := ⟨_, rfl⟩; have HW3 : Sl (Mv g w w4 ∧ PB w4 g N d3) := ⟨by rw [← hd3]; exact HW2.out⟩
              have HD3 : Sl (Pm mid b d2 d3 ∧ Srt due d3 mid b) := ⟨by rw [← hd3]; exact ⟨.refl, by
                exact HE2.out.1.sub (Nat.le_refl _) (by have := HG.out; omega)⟩⟩
              clear HW2 hd3; go_wp2_with fail
              ((try simp only [Exit.inBlock, Exit.then]); refine bodyPost_end (results_none rfl _ _ _) rfl ?_)
              exact ⟨rfl, HW3.out.1, d3, HW3.out.2, ((HPM.out.trans (HD2.out.1.mono (Nat.le_refl _) (by have := HG.out; omega))).trans (HD3.out.1.mono (by have := HG.out; omega) (Nat.le_refl _))), sym_end HSP.out.2.2.2.2 HD2.out.1 HD2.out.2 HD3.out.1 HD3.out.2⟩
          · by_cases hb2 : en < b
            · skip; have hG := HG.out; have t1aI : (i : Int) < (m : Int) := (by omega); have t1a : decide ((i : Int) < (m : Int)) = true := decide_eq_true t1aI; have t1bI : (m : Int) < (en : Int) := (by omega); have t1b : decide ((m : Int) < (en : Int)) = true := decide_eq_true t1bI; have t2aI : ¬ (a : Int) < (i : Int) := (by omega); have t2a : decide ((a : Int) < (i : Int)) = false := decide_eq_false t2aI; have t3aI : (mid : Int) < (en : Int) := (by omega); have t3a : decide ((mid : Int) < (en : Int)) = true := decide_eq_true t3aI; have t3bI : (en : Int) < (b : Int) := (by omega); have t3b : decide ((en : Int) < (b : Int)) = true := decide_eq_true t3bI; have HRO : Sl _ := ⟨rotate_any g N cap i m en d (.func (.func 73) #[] #[.pointer (some ⟨gf, 0, none⟩)]) wr HW.out.2 (by omega) (by omega) (by omega) HAB.out.2.2.2.1⟩; rw [hd1] at HRO
              have HL2 : Sl (Srt due d1 a mid) := ⟨by
                obtain ⟨q1, q2, _⟩ := HSP.out
                exact q2.sub (by omega) (Nat.le_refl _)⟩
              clear hG hd1; go_wp2_with fail; refine HRO.out.mono ?_; rintro ee w3 ⟨rfl, hm3, hp3⟩; have HW1 : Sl (Mv g w w3 ∧ PB w3 g N d1) := ⟨Mv.trans HW.out.1 hm3, hp3⟩; clear hm3 hp3 HRO HW; obtain ⟨d2, hd2⟩ : ∃ d2, d1 = d2 := ⟨_, rfl⟩; have HW2 : Sl (Mv g w w3 ∧ PB w3 g N d2) := ⟨by rw [← hd2]; exact HW1.out⟩; have HD2 : Sl (Pm a mid d1 d2 ∧ Srt due d2 a mid) := ⟨by rw [← hd2]; exact ⟨.refl, HL2.out⟩⟩; clear HW1 hd2; have HE2 : Sl (Srt due d2 mid en ∧ Srt due d2 en b) := ⟨HSP.out.2.2.1.congr fun k k1 k2 => HD2.out.1.far (.inr k1), HSP.out.2.2.2.1.congr fun k k1 k2 => HD2.out.1.far (.inr (by have := HG.out; omega))⟩; have HC3 : Sl _ := ⟨HIH.out mid en b (by have := HG.out; omega) d2 w3 HW2.out.2 (Blk.mv HF.out HW2.out.1 HAB.out.2.2.2.2) HAB.out.2.2.2.2 (by have := HG.out; omega) (by have := HG.out; omega) HAB.out.2.2.1 HAB.out.2.2.2.1 HE2.out.1 HE2.out.2⟩; go_wp2_with fail; refine HC3.out.mono ?_; rintro ee w5 ⟨rfl, hm5, d3, hp5, hq5, hs5⟩; have HW3 : Sl (Mv g w w5 ∧ PB w5 g N d3) := ⟨Mv.trans HW2.out.1 hm5, hp5⟩; have HD3 : Sl (Pm mid b d2 d3 ∧ Srt due d3 mid b) := ⟨hq5, hs5⟩; clear hm5 hp5 hq5 hs5 HC3 HW2; go_wp2_with fail
              ((try simp only [Exit.inBlock, Exit.then]); refine bodyPost_end (results_none rfl _ _ _) rfl ?_)
              exact ⟨rfl, HW3.out.1, d3, HW3.out.2, ((HPM.out.trans (HD2.out.1.mono (Nat.le_refl _) (by have := HG.out; omega))).trans (HD3.out.1.mono (by have := HG.out; omega) (Nat.le_refl _))), sym_end HSP.out.2.2.2.2 HD2.out.1 HD2.out.2 HD3.out.1 HD3.out.2⟩
            · skip; have hG := HG.out; have t1aI : (i : Int) < (m : Int) := (by omega); have t1a : decide ((i : Int) < (m : Int)) = true := decide_eq_true t1aI; have t1bI : (m : Int) < (en : Int) := (by omega); have t1b : decide ((m : Int) < (en : Int)) = true := decide_eq_true t1bI; have t2aI : ¬ (a : Int) < (i : Int) := (by omega); have t2a : decide ((a : Int) < (i : Int)) = false := decide_eq_false t2aI; have t3aI : (mid : Int) < (en : Int) := (by omega); have t3a : decide ((mid : Int) < (en : Int)) = true := decide_eq_true t3aI; have t3bI : ¬ (en : Int) < (b : Int) := (by omega); have t3b : decide ((en : Int) < (b : Int)) = false := decide_eq_false t3bI; have HRO : Sl _ := ⟨rotate_any g N cap i m en d (.func (.func 73) #[] #[.pointer (some ⟨gf, 0, none⟩)]) wr HW.out.2 (by omega) (by omega) (by omega) HAB.out.2.2.2.1⟩; rw [hd1] at HRO
              have HL2 : Sl (Srt due d1 a mid) := ⟨by
                obtain ⟨q1, q2, _⟩ := HSP.out
                exact q2.sub (by omega) (Nat.le_refl _)⟩
              clear hG hd1; go_wp2_with fail; refine HRO.out.mono ?_; rintro ee w3 ⟨rfl, hm3, hp3⟩; have HW1 : Sl (Mv g w w3 ∧ PB w3 g N d1) := ⟨Mv.trans HW.out.1 hm3, hp3⟩; clear hm3 hp3 HRO HW; obtain ⟨d2, hd2⟩ : ∃ d2, d1 = d2 := ⟨_, rfl⟩; have HW2 : Sl (Mv g w w3 ∧ PB w3 g N d2) := ⟨by rw [← hd2]; exact HW1.out⟩; have HD2 : Sl (Pm a mid d1 d2 ∧ Srt due d2 a mid) := ⟨by rw [← hd2]; exact ⟨.refl, HL2.out⟩⟩; clear HW1 hd2; have HE2 : Sl (Srt due d2 mid en ∧ Srt due d2 en b) := ⟨HSP.out.2.2.1.congr fun k k1 k2 => HD2.out.1.far (.inr k1), HSP.out.2.2.2.1.congr fun k k1 k2 => HD2.out.1.far (.inr (by have := HG.out; omega))⟩; obtain ⟨d3, hd3⟩ : ∃ d3, d2 = d3 := ⟨_, rfl⟩; have HW3 : Sl (Mv g w w3 ∧ PB w3 g N d3) := ⟨by rw [← hd3]; exact HW2.out⟩
              have HD3 : Sl (Pm mid b d2 d3 ∧ Srt due d3 mid b) := ⟨by rw [← hd3]; exact ⟨.refl, by
                exact HE2.out.1.sub (Nat.le_refl _) (by have := HG.out; omega)⟩⟩
              clear HW2 hd3; go_wp2_with fail
              ((try simp only [Exit.inBlock, Exit.then]); refine bodyPost_end (results_none rfl _ _ _) rfl ?_)
              exact ⟨rfl, HW3.out.1, d3, HW3.out.2, ((HPM.out.trans (HD2.out.1.mono (Nat.le_refl _) (by have := HG.out; omega))).trans (HD3.out.1.mono (by have := HG.out; omega) (Nat.le_refl _))), sym_end HSP.out.2.2.2.2 HD2.out.1 HD2.out.2 HD3.out.1 HD3.out.2⟩
        · by_cases ha : i < mid
          · skip; have hG := HG.out; have t1aI : ¬ (i : Int) < (m : Int) := (by omega); have t1a : decide ((i : Int) < (m : Int)) = false := decide_eq_false t1aI; have t2aI : (a : Int) < (i : Int) := (by omega); have t2a : decide ((a : Int) < (i : Int)) = true := decide_eq_true t2aI; have t2bI : (i : Int) < (mid : Int) := (by omega); have t2b : decide ((i : Int) < (mid : Int)) = true := decide_eq_true t2bI; have t3aI : ¬ (mid : Int) < (en : Int) := (by omega); have t3a : decide ((mid : Int) < (en : Int)) = false := decide_eq_false t3aI; have HID : Sl (d1 = d) := ⟨by rw [← hd1]; exact rot_id d (by omega) (by omega) (by omega)⟩; clear hG hd1; go_wp2_with fail; have HW1 : Sl (Mv g w wr ∧ PB wr g N d1) := ⟨HW.out.1, by rw [HID.out]; exact HW.out.2⟩; clear HW; have HC2 : Sl _ := ⟨HIH.out a i mid (by have := HG.out; omega) d1 wr HW1.out.2 (Blk.mv HF.out HW1.out.1 HAB.out.2.2.2.2) HAB.out.2.2.2.2 (by have := HG.out; omega) (by have := HG.out; omega) (by have := HG.out; have := HAB.out; omega) HAB.out.2.2.2.1 HSP.out.1 HSP.out.2.1⟩; refine HC2.out.mono ?_; rintro ee w4 ⟨rfl, hm4, d2, hp4, hq4, hs4⟩; have HW2 : Sl (Mv g w w4 ∧ PB w4 g N d2) := ⟨Mv.trans HW1.out.1 hm4, hp4⟩; have HD2 : Sl (Pm a mid d1 d2 ∧ Srt due d2 a mid) := ⟨hq4, hs4⟩; clear hm4 hp4 hq4 hs4 HC2 HW1; have HE2 : Sl (Srt due d2 mid en ∧ Srt due d2 en b) := ⟨HSP.out.2.2.1.congr fun k k1 k2 => HD2.out.1.far (.inr k1), HSP.out.2.2.2.1.congr fun k k1 k2 => HD2.out.1.far (.inr (by have := HG.out; omega))⟩; obtain ⟨d3, hd3⟩ : ∃ d3, d2 = d3 := ⟨_, rfl⟩; have HW3 : Sl (Mv g w w4 ∧ PB w4 g N d3) := ⟨by rw [← hd3]; exact HW2.out⟩
            have HD3 : Sl (Pm mid b d2 d3 ∧ Srt due d3 mid b) := ⟨by rw [← hd3]; exact ⟨.refl, by
              exact HE2.out.2.sub (by have := HG.out; omega) (Nat.le_refl _)⟩⟩
            clear HW2 hd3; go_wp2_with fail
            ((try simp only [Exit.inBlock, Exit.then]); refine bodyPost_end (results_none rfl _ _ _) rfl ?_)
            exact ⟨rfl, HW3.out.1, d3, HW3.out.2, ((HPM.out.trans (HD2.out.1.mono (Nat.le_refl _) (by have := HG.out; omega))).trans (HD3.out.1.mono (by have := HG.out; omega) (Nat.le_refl _))), sym_end HSP.out.2.2.2.2 HD2.out.1 HD2.out.2 HD3.out.1 HD3.out.2⟩
          · skip; have hG := HG.out; have t1aI : ¬ (i : Int) < (m : Int) := (by omega); have t1a : decide ((i : Int) < (m : Int)) = false := decide_eq_false t1aI; have t2aI : (a : Int) < (i : Int) := (by omega); have t2a : decide ((a : Int) < (i : Int)) = true := decide_eq_true t2aI; have t2bI : ¬ (i : Int) < (mid : Int) := (by omega); have t2b : decide ((i : Int) < (mid : Int)) = false := decide_eq_false t2bI; have t3aI : ¬ (mid : Int) < (en : Int) := (by omega); have t3a : decide ((mid : Int) < (en : Int)) = false := decide_eq_false t3aI; have HID : Sl (d1 = d) := ⟨by rw [← hd1]; exact rot_id d (by omega) (by omega) (by omega)⟩
            have HL2 : Sl (Srt due d1 a mid) := ⟨by
              obtain ⟨q1, q2, _⟩ := HSP.out
              exact q1.sub (Nat.le_refl _) (by omega)⟩
            clear hG hd1; go_wp2_with fail; have HW1 : Sl (Mv g w wr ∧ PB wr g N d1) := ⟨HW.out.1, by rw [HID.out]; exact HW.out.2⟩; clear HW; obtain ⟨d2, hd2⟩ : ∃ d2, d1 = d2 := ⟨_, rfl⟩; have HW2 : Sl (Mv g w wr ∧ PB wr g N d2) := ⟨by rw [← hd2]; exact HW1.out⟩; have HD2 : Sl (Pm a mid d1 d2 ∧ Srt due d2 a mid) := ⟨by rw [← hd2]; exact ⟨.refl, HL2.out⟩⟩; clear HW1 hd2; have HE2 : Sl (Srt due d2 mid en ∧ Srt due d2 en b) := ⟨HSP.out.2.2.1.congr fun k k1 k2 => HD2.out.1.far (.inr k1), HSP.out.2.2.2.1.congr fun k k1 k2 => HD2.out.1.far (.inr (by have := HG.out; omega))⟩; obtain ⟨d3, hd3⟩ : ∃ d3, d2 = d3 := ⟨_, rfl⟩; have HW3 : Sl (Mv g w wr ∧ PB wr g N d3) := ⟨by rw [← hd3]; exact HW2.out⟩
            have HD3 : Sl (Pm mid b d2 d3 ∧ Srt due d3 mid b) := ⟨by rw [← hd3]; exact ⟨.refl, by
              exact HE2.out.2.sub (by have := HG.out; omega) (Nat.le_refl _)⟩⟩
            clear HW2 hd3
            ((try simp only [Exit.inBlock, Exit.then]); refine bodyPost_end (results_none rfl _ _ _) rfl ?_)
            exact ⟨rfl, HW3.out.1, d3, HW3.out.2, ((HPM.out.trans (HD2.out.1.mono (Nat.le_refl _) (by have := HG.out; omega))).trans (HD3.out.1.mono (by have := HG.out; omega) (Nat.le_refl _))), sym_end HSP.out.2.2.2.2 HD2.out.1 HD2.out.2 HD3.out.1 HD3.out.2⟩
set_option maxHeartbeats 3200000 in
theorem symMerge_any (g gf N cap : Nat) : ∀ (s a m b : Nat), b - a ≤ s → Merges g gf N cap a m b
  | 0, a, m, b, hs => fun d w _ _ _ h1 h2 => by omega
  | s+1, a, m, b, hs => fun d w hp hf hne h1 h2 h3 h4 h5 h6 => by
    by_cases hl : m = a + 1
    · exact smLeft_any g gf N cap a m b d w hp hf hne h1 h2 h3 h4 h5 h6 hl
    · by_cases hr : b = m + 1
      · exact smRight_any g gf N cap a m b d w hp hf hne h1 h2 h3 h4 h5 h6 hl hr
      · exact smMid_any g gf N cap a m b d w hp hf hne h1 h2 h3 h4 h5 h6 hl hr fun a' m' b' h => symMerge_any g gf N cap s a' m' b' (by omega)
end Go.Proofs.YtafadpaljanghaaGreatDoor
namespace Go.Proofs.YtafadpaljanghaaGreatDoor
set_option linter.unusedSimpArgs false
open Go.RowKit
set_option linter.unusedVariables false
section
variable {α : Type} {κ : α → Int}
def Lft (κ : α → Int) (d : Nat → α) (s t : Nat) : Prop := ∀ v, v < t → Srt κ d (v * s) (v * s + s)
theorem Lft.far {d e : Nat → α} {s t b : Nat} (h : Lft κ d s t) (hp : Pm (t * s) b d e) : Lft κ e s t := fun v hv => (h v hv).congr fun k k1 k2 => hp.far (.inl (by
  have := Nat.mul_le_mul_right s (show v + 1 ≤ t from hv); rw [Nat.succ_mul] at this
  omega))
theorem Lft.succ {d e : Nat → α} {s t b : Nat} (h : Lft κ d s t) (hp : Pm (t * s) b d e) (hs : Srt κ e (t * s) (t * s + s)) : Lft κ e s (t + 1) := fun v hv => by
  rcases Nat.lt_or_ge v t with h1 | h1
  · exact h.far hp v h1
  · rw [show v = t by omega]; exact hs
theorem Lft.bks {d : Nat → α} {n s t : Nat} (h : Lft κ d s t) (hl : Srt κ d (t * s) n) (hn : n < t * s + s) : Bks κ d n s 0 := fun v hv => by
  rw [Nat.zero_add] at *
  rcases Nat.lt_trichotomy v t with h1 | h1 | h1
  · exact (h v h1).sub (Nat.le_refl _) (Nat.min_le_left _ _)
  · subst h1; exact hl.sub (Nat.le_refl _) (Nat.min_le_right _ _)
  · have := Nat.mul_le_mul_right s (show t + 1 ≤ v from h1); rw [Nat.succ_mul] at this; omega
theorem Bks.fst {d : Nat → α} {n s lo : Nat} (h : Bks κ d n s lo) (hl : lo + s ≤ n) (hs : 0 < s) : Srt κ d lo (lo + s) := by
  have := h.at0 (by omega)
  rwa [Nat.min_eq_left hl] at this
theorem Bks.lst {d : Nat → α} {n s lo : Nat} (h : Bks κ d n s lo) (hl : n ≤ lo + s) : Srt κ d lo n := by
  rcases Nat.lt_or_ge lo n with h1 | h1
  · have := h.at0 h1
    rwa [Nat.min_eq_right hl] at this
  · exact .one (by omega)
end
set_option maxHeartbeats 12800000 in
set_option maxRecDepth 100000 in
theorem lwStable_any (g gf N cap : Nat) (d : Nat → PI) (w : World) (h : PB w g N d) (hf : KeyAt w gf) (hne : gf ≠ g) (hN : N ≤ 100000) :
    Calls Tryz.prog 93 #[.slice (some ⟨g, 0, none⟩) N cap, .int .i64 N, .func (.func 73) #[] #[.pointer (some ⟨gf, 0, none⟩)]] w fun e w' => e = .returned (.tuple #[]) ∧ Mv g w w' ∧ ∃ d', PB w' g N d' ∧ Pm 0 N d d' ∧ Srt due d' 0 N := by
  have HP : Sl _ := ⟨h⟩; have HF : Sl (∀ W, Mv g w W → KeyAt W gf) := ⟨fun W hm => Blk.mv hf hm hne⟩; have HAB : Sl (N ≤ 100000 ∧ gf ≠ g) := ⟨hN, hne⟩; have hN6 : (N : Int) ≤ 100000 := (by omega); clear h hf hne hN; go_enter Tryz.func93, Tryz.ntmps93; go_wp2_with fail
  go_loopw [7, 8] (fun s7 s8 wr => ∃ (a : Nat) (e : Nat → PI), a ≤ N ∧ s7 = .int .i64 a ∧ s8 = .int .i64 ((a : Int) + 20) ∧ Sl (Mv g w wr ∧ PB wr g N e ∧ Pm 0 N d e) ∧ Sl (∃ t, a = t * 20 ∧ Lft due e 20 t)) (fun s7 _ _ => N - (RowKit.intOf s7).toNat)
  case atStart => exact ⟨0, d, Nat.zero_le _, by go_num, by go_num, ⟨Mv.refl _ _, HP.out, .refl⟩, ⟨0, rfl, fun v hv => by omega⟩⟩
  case round =>
    clear HP; obtain ⟨a, e, haN, rfl, rfl, HK, HB⟩ := hrel
    by_cases hb : a + 20 ≤ N
    · have hbI : (a : Int) + 20 ≤ (N : Int) := (by omega); obtain ⟨b, hbb⟩ : ∃ b, a + 20 = b := ⟨_, rfl⟩; have hbbI : (a : Int) + 20 = (b : Int) := (by omega); have HBB : Sl _ := ⟨hbb⟩; have HI : Sl _ := ⟨insSort_any g gf N cap a b e wr HK.out.2.1 (HF.out wr HK.out.1) HAB.out.2 (by omega) (by omega) (by have := HAB.out.1; omega)⟩; rw [hbbI]; have hbN : (b : Int) ≤ (N : Int) := (by omega); clear hbb hbbI hbI hb; go_wp2_with fail; refine HI.out.mono ?_; rintro ee w2 ⟨rfl, hm2, e2, hp2, hq2, hs2⟩; have HW : Sl (Mv g w w2 ∧ PB w2 g N e2 ∧ Pm 0 N d e2) := ⟨Mv.trans HK.out.1 hm2, hp2, HK.out.2.2.trans (hq2.mono (Nat.zero_le _) (by omega))⟩
      have HB2 : Sl (∃ t, b = t * 20 ∧ Lft due e2 20 t) := ⟨by
        obtain ⟨t, e1, h1⟩ := HB.out; have h2 := HBB.out; refine ⟨t + 1, by rw [Nat.succ_mul]; omega, ?_⟩
        refine h1.succ (b := b) (by rw [← e1]; exact hq2) (by rw [← e1, h2]; exact hs2)⟩
      clear hm2 hp2 hq2 hs2 HI HK HB; go_wp2_with fail; exact ⟨⟨b, e2, by omega, rfl, by go_num, HW, HB2⟩, by have := HBB.out; simp [RowKit.intOf]; omega⟩
    · have hbI : ¬ (a : Int) + 20 ≤ (N : Int) := (by omega); have hbd : decide ((a : Int) + 20 ≤ (N : Int)) = false := decide_eq_false hbI; have HI : Sl _ := ⟨insSort_any g gf N cap a N e wr HK.out.2.1 (HF.out wr HK.out.1) HAB.out.2 haN (Nat.le_refl _) (by have := HAB.out.1; omega)⟩; go_wp2_with fail; refine HI.out.mono ?_; rintro ee w2 ⟨rfl, hm2, e2, hp2, hq2, hs2⟩
      have HW : Sl (Mv g w w2 ∧ PB w2 g N e2 ∧ Pm 0 N d e2 ∧ Bks due e2 N 20 0) := ⟨Mv.trans HK.out.1 hm2, hp2, HK.out.2.2.trans (hq2.mono (Nat.zero_le _) (Nat.le_refl _)), by
        obtain ⟨t, e1, h1⟩ := HB.out; rw [e1] at hq2 hs2
        exact (h1.far hq2).bks hs2 (by omega)⟩
      clear hm2 hp2 hq2 hs2 HI HK HB hbd hbI hb; go_wp2_with fail
      go_loopw [6, 7, 8, 9] (fun s6 s7 s8 s9 wr => ∃ (s : Nat) (v7 v8 v9 : Value) (e : Nat → PI), 0 < s ∧ s ≤ 2 * N + 20 ∧ s6 = .int .i64 s ∧ s7 = v7 ∧ s8 = v8 ∧ s9 = v9 ∧ Sl (Mv g w wr ∧ PB wr g N e ∧ Pm 0 N d e ∧ Bks due e N s 0)) (fun s6 _ _ _ _ => N - (RowKit.intOf s6).toNat)
      case atStart => exact ⟨20, _, _, _, e2, by decide, by omega, by go_num, rfl, rfl, rfl, HW⟩
      case round =>
        clear HW; obtain ⟨s, v7, v8, v9, e3, hs0, hsN, rfl, rfl, rfl, rfl, HW⟩ := hrel
        by_cases hs : s < N
        · have hsI : (s : Int) < (N : Int) := (by omega); obtain ⟨s2, hs2⟩ : ∃ s2, s + s = s2 := ⟨_, rfl⟩; have hs2I : 2 * (s : Int) = (s2 : Int) := (by omega); have hs2J : (s : Int) * 2 = (s2 : Int) := (by omega); have hs2w : IntKind.i64.wrap (s2 : Int) = (s2 : Int) := (by rw [IntKind.wrap_i64]; omega); have hs26 : (s2 : Int) ≤ 200000 := (by omega); have HS2 : Sl (s + s = s2 ∧ 0 < s ∧ s < N) := ⟨hs2, hs0, hs⟩; clear hs2; go_wp2_with fail
          go_loopw [7, 8] (fun s7 s8 wr => ∃ (a : Nat) (e : Nat → PI), a ≤ N ∧ s7 = .int .i64 a ∧ s8 = .int .i64 ((a : Int) + (s2 : Int)) ∧ Sl (Mv g w wr ∧ PB wr g N e ∧ Pm 0 N d e ∧ Bks due e N s a) ∧ Sl (∃ t, a = t * s2 ∧ Lft due e s2 t)) (fun s7 _ _ => N - (RowKit.intOf s7).toNat)
          case atStart => exact ⟨0, e3, Nat.zero_le _, by go_num, by go_num, HW, ⟨0, by omega, fun v hv => by omega⟩⟩
          case round =>
            clear HW; obtain ⟨a, e4, haN4, rfl, rfl, HK, HB⟩ := hrel
            by_cases hb : a + s2 ≤ N
            · obtain ⟨b, hbb⟩ : ∃ b, a + s2 = b := ⟨_, rfl⟩; have hbbI : (a : Int) + (s2 : Int) = (b : Int) := (by omega); obtain ⟨m, hm⟩ : ∃ m, a + s = m := ⟨_, rfl⟩; have hmI : (a : Int) + (s : Int) = (m : Int) := (by omega); have hmw : IntKind.i64.wrap (m : Int) = (m : Int) := (by rw [IntKind.wrap_i64]; omega); have HBB : Sl (a + s2 = b ∧ a + s = m) := ⟨hbb, hm⟩; have hss := HS2.out
              have HI : Sl _ := ⟨symMerge_any g gf N cap (b - a) a m b (Nat.le_refl _) e4 wr HK.out.2.1 (HF.out wr HK.out.1) HAB.out.2 (by omega) (by omega) (by omega) (by have := HAB.out.1; omega)
                (by rw [← hm]; exact HK.out.2.2.2.fst (by omega) hs0) (by rw [show b = m + s by omega, ← hm]; exact HK.out.2.2.2.next.fst (by omega) hs0)⟩
              rw [hbbI]; have hbN : (b : Int) ≤ (N : Int) := (by omega); clear hbb hm hbbI hss hb; go_wp2_with fail; refine HI.out.mono ?_; rintro ee w5 ⟨rfl, hm5, e5, hp5, hq5, hs5⟩
              have HW : Sl (Mv g w w5 ∧ PB w5 g N e5 ∧ Pm 0 N d e5 ∧ Bks due e5 N s b) := ⟨Mv.trans HK.out.1 hm5, hp5, HK.out.2.2.1.trans (hq5.mono (Nat.zero_le _) (by omega)), by
                have h1 := HK.out.2.2.2.next.next; have h2 := HBB.out; have h3 := HS2.out; rw [show a + s + s = b by omega] at h1
                exact h1.congr fun k k1 k2 => hq5.far (.inr k1)⟩
              have HB2 : Sl (∃ t, b = t * s2 ∧ Lft due e5 s2 t) := ⟨by
                obtain ⟨t, e1, h1⟩ := HB.out; have h2 := HBB.out.1; refine ⟨t + 1, by rw [Nat.succ_mul]; omega, ?_⟩
                refine h1.succ (b := b) (by rw [← e1]; exact hq5) (by rw [← e1, h2]; exact hs5)⟩
              clear hm5 hp5 hq5 hs5 HI HK HB; go_wp2_with fail; exact ⟨⟨b, e5, by omega, rfl, by go_num, HW, HB2⟩, by have := HBB.out; have := HS2.out; simp [RowKit.intOf]; omega⟩
            · have hbI : ¬ (a : Int) + (s2 : Int) ≤ (N : Int) := (by omega); have hbd : decide ((a : Int) + (s2 : Int) ≤ (N : Int)) = false := decide_eq_false hbI; obtain ⟨m, hm⟩ : ∃ m, a + s = m := ⟨_, rfl⟩; have hmI : (a : Int) + (s : Int) = (m : Int) := (by omega); have hmw : IntKind.i64.wrap (m : Int) = (m : Int) := (by rw [IntKind.wrap_i64]; omega); have hss := HS2.out
              by_cases hmN : m < N
              · have hmNI : (m : Int) < (N : Int) := (by omega); have hmNd : decide ((m : Int) < (N : Int)) = true := decide_eq_true hmNI
                have HI : Sl _ := ⟨symMerge_any g gf N cap (N - a) a m N (Nat.le_refl _) e4 wr HK.out.2.1 (HF.out wr HK.out.1) HAB.out.2 (by omega) hmN (Nat.le_refl _) (by have := HAB.out.1; omega)
                  (by rw [← hm]; exact HK.out.2.2.2.fst (by omega) hs0) (by rw [← hm]; exact HK.out.2.2.2.next.lst (by omega))⟩
                have HNS : Sl (N < a + s2) := ⟨by omega⟩; clear hm hss hmN hb; go_wp2_with fail; refine HI.out.mono ?_; rintro ee w5 ⟨rfl, hm5, e5, hp5, hq5, hs5⟩
                have HW : Sl (Mv g w w5 ∧ PB w5 g N e5 ∧ Pm 0 N d e5 ∧ Bks due e5 N s2 0) := ⟨Mv.trans HK.out.1 hm5, hp5, HK.out.2.2.1.trans (hq5.mono (Nat.zero_le _) (Nat.le_refl _)), by
                  obtain ⟨t, e1, h1⟩ := HB.out; have h2 := HNS.out; rw [e1] at hq5 hs5 h2
                  exact (h1.far hq5).bks hs5 h2⟩
                clear hm5 hp5 hq5 hs5 HI HK HB hbd hbI hmI hmNd hmNI; go_wp2_with fail; exact ⟨⟨s2, _, _, _, e5, by have := HS2.out; omega, by have := HS2.out; omega, by go_num, rfl, rfl, rfl, HW⟩, by have := HS2.out; simp [RowKit.intOf]; omega⟩
              · have hmNI : ¬ (m : Int) < (N : Int) := (by omega); have hmNd : decide ((m : Int) < (N : Int)) = false := decide_eq_false hmNI
                have HW : Sl (Mv g w wr ∧ PB wr g N e4 ∧ Pm 0 N d e4 ∧ Bks due e4 N s2 0) := ⟨HK.out.1, HK.out.2.1, HK.out.2.2.1, by
                  obtain ⟨t, e1, h1⟩ := HB.out; have h2 := HK.out.2.2.2.lst (by omega); have h3 : N < a + s2 := (by omega); rw [e1] at h2 h3
                  exact h1.bks h2 h3⟩
                clear hm hss hmN hb HK HB; go_wp2_with fail; exact ⟨⟨s2, _, _, _, e4, by have := HS2.out; omega, by have := HS2.out; omega, by go_num, rfl, rfl, rfl, HW⟩, by have := HS2.out; simp [RowKit.intOf]; omega⟩
        · have hsI : ¬ (s : Int) < (N : Int) := (by omega); have hsd : decide ((s : Int) < (N : Int)) = false := decide_eq_false hsI; have HFN : Sl (Srt due e3 0 N) := ⟨HW.out.2.2.2.lst (by omega)⟩; go_wp2_with fail; go_end0; exact ⟨rfl, HW.out.1, e3, HW.out.2.1, HW.out.2.2.1, HFN.out⟩
set_option maxHeartbeats 3200000 in
set_option maxRecDepth 100000 in
theorem lwSortStable_any (g gf N cap : Nat) (d : Nat → PI) (w : World) (h : PB w g N d) (hf : KeyAt w gf) (hne : gf ≠ g) (hN : N ≤ 100000) :
    Calls Tryz.prog 72 #[.slice (some ⟨g, 0, none⟩) N cap, .func (.func 73) #[] #[.pointer (some ⟨gf, 0, none⟩)]] w fun e w' => e = .returned (.tuple #[]) ∧ Mv g w w' ∧ ∃ d', PB w' g N d' ∧ Pm 0 N d d' ∧ Srt due d' 0 N := by
  have HI : Sl _ := ⟨lwStable_any g gf N cap d w h hf hne hN⟩; clear h hf hne hN; go_enter Tryz.func72, Tryz.ntmps72; go_wp2_with fail; refine HI.out.mono ?_; rintro e w2 ⟨rfl, h1, h2⟩; have HM : Sl _ := ⟨And.intro h1 h2⟩; clear h1 h2 HI; go_wp2_with fail; go_end0; exact ⟨rfl, HM.out⟩
set_option maxHeartbeats 3200000 in
set_option maxRecDepth 100000 in
theorem lwBy_any (g N cap : Nat) (d : Nat → PI) (w : World) (h : PB w g N d) (hN : N ≤ 100000) :
    Calls Tryz.prog 48 #[.slice (some ⟨g, 0, none⟩) N cap, .func (.func 49) #[] #[]] w fun e w' => e = .returned (.tuple #[]) ∧ Mv g w w' ∧ ∃ d', PB w' g N d' ∧ Pm 0 N d d' ∧ Srt due d' 0 N := by
  have hmf : ∀ (fn : Fn) (first cap : Array Value) (w : World), (Instr.makeFunc fn first cap).run Tryz.prog w = .ok (.func fn first cap) w := fun _ _ _ _ => rfl
  have hbn : KeyAt (w.alloc (.cells #[.func (.func 49) #[] #[]] 95)) w.heap.size := Blk.new w 95 #[.func (.func 49) #[] #[]]; have hu : Below w.heap.size w (w.alloc (.cells #[.func (.func 49) #[] #[]] 95)) := (Below.refl _ _).alloc (Nat.le_refl _) _; have HI : Sl _ := ⟨lwSortStable_any g w.heap.size N cap d _ (h.below hu h.lt) hbn (by have := h.lt; omega) hN⟩; have HU : Sl _ := ⟨hu⟩; clear h hN hbn hu; go_enter Tryz.func48, Tryz.ntmps48; go_wp2_with fail; refine HI.out.mono ?_; rintro e w2 ⟨rfl, h1, h2⟩; have HM : Sl _ := ⟨And.intro (Mv.trans (Mv.below HU.out) h1) h2⟩; clear h1 h2 HI; go_wp2_with fail; go_end0; exact ⟨rfl, HM.out⟩
end Go.Proofs.YtafadpaljanghaaGreatDoor
namespace Go.Proofs.YtafadpaljanghaaGreatDoor
set_option linter.unusedSimpArgs false
set_option linter.unusedVariables false
structure RSt (all : List Lw) (T : Int) (rest made : List Lw) : Prop where
  rest : rest = all.filter fun x => decide (T < x.2)
  made : made.Perm (all.filter fun x => decide (x.2 ≤ T))
theorem RSt.start {all : List Lw} (h : ∀ x ∈ all, -1000 < x.2) : RSt all (-1000) all [] := by
  refine ⟨(List.filter_eq_self.2 fun x hx => decide_eq_true (h x hx)).symm, ?_⟩; rw [List.filter_eq_nil_iff.2 fun x hx => ?_]; have := h x hx; simp; omega
theorem RSt.due {all rest made : List Lw} {T key : Int} (h : RSt all T rest made) : (∃ x ∈ rest, x.2 = key) ↔ dueAt all T key = true := by
  rw [dueAt_iff, h.rest]; constructor
  · rintro ⟨x, h1, h2⟩; rw [List.mem_filter] at h1; exact ⟨x, h1.1, of_decide_eq_true h1.2, h2⟩
  · rintro ⟨x, h1, h2, h3⟩; exact ⟨x, List.mem_filter.2 ⟨h1, decide_eq_true h2⟩, h3⟩
theorem filter_parts {α : Type} (p q r s : α → Bool) (h : ∀ x, s x = (p x || (q x && r x))) (hd : ∀ x, q x = true → p x = false) : ∀ l : List α, (l.filter p ++ (l.filter q).filter r).Perm (l.filter s)
  | [] => List.Perm.refl _
  | x :: l => by
    have ih := filter_parts p q r s h hd l; have hs := h x
    by_cases hp : p x = true
    · rw [hp, Bool.true_or] at hs
      have hq : q x = false := by
        rcases hqq : q x with _ | _
        · rfl
        · rw [hd x hqq] at hp; cases hp
      rw [List.filter_cons_of_pos hp, List.filter_cons_of_pos hs, List.filter_cons_of_neg (by rw [hq]; decide)]; exact ih.cons x
    · have hp2 : p x = false := (by simpa using hp); rw [List.filter_cons_of_neg hp]; rw [hp2, Bool.false_or] at hs
      by_cases hq : q x = true
      · rw [List.filter_cons_of_pos hq]
        by_cases hr : r x = true
        · rw [List.filter_cons_of_pos hr, List.filter_cons_of_pos (by rw [hs, hq, hr]; rfl)]; exact List.perm_middle.trans (ih.cons x)
        · rw [List.filter_cons_of_neg hr, List.filter_cons_of_neg (by rw [hs, hq]; simpa using hr)]; exact ih
      · rw [List.filter_cons_of_neg hq, List.filter_cons_of_neg (by rw [hs]; simp [hq])]; exact ih
theorem RSt.step {all rest made : List Lw} {T T' : Int} (h : RSt all T rest made) (ht : T ≤ T') : RSt all T' (rest.filter fun x => decide (T' < x.2)) (made ++ rest.filter fun x => decide (x.2 ≤ T')) := by
  constructor
  · rw [h.rest, List.filter_filter]; refine List.filter_congr fun x _ => ?_
    by_cases h1 : T' < x.2
    · rw [decide_eq_true h1, decide_eq_true (show T < x.2 by omega)]; rfl
    · rw [decide_eq_false h1]; rfl
  · refine (h.made.append_right _).trans ?_; rw [h.rest]; refine filter_parts _ _ _ _ (fun x => ?_) (fun x hx => ?_) all
    · by_cases h1 : x.2 ≤ T
      · rw [decide_eq_true h1, decide_eq_true (show x.2 ≤ T' by omega)]; rfl
      · rw [decide_eq_false h1, decide_eq_true (show T < x.2 by omega)]; rfl
    · have := of_decide_eq_true hx; exact decide_eq_false (by omega)
theorem RSt.row {all rest made : List Lw} {T : Int} (h : RSt all T rest made) (l : List Int) : fl1 (lowF l made) l.length = rowN l all T := by
  unfold fl1 rowN; refine List.map_congr_left fun i _ => ?_
  unfold lowF
  have e : cnt1 made i = cntT all i T := by
    unfold cnt1 cntT; rw [h.made.countP_eq, List.countP_filter]
  rw [e]
def pI (x : Lw) : PI := ((x.1 : Int), x.2)
def frI (d : Nat → PI) (p i : Nat) : Nat := ((List.range p).map d).countP fun x => decide (x.1 = (i : Int))
theorem frI_succ (d : Nat → PI) (p i : Nat) : frI d (p + 1) i = frI d p i + if (d p).1 = (i : Int) then 1 else 0 := by
  unfold frI; rw [List.range_succ, List.map_append, List.countP_append]; congr 1
  by_cases h : (d p).1 = (i : Int)
  · rw [if_pos h]; simp [h]
  · rw [if_neg h]; simp [h]
structure PSt (all : List Lw) (d : Nat → PI) (N : Nat) (T : Int) (p : Nat) : Prop where
  perm : ((List.range N).map d).Perm (all.map pI)
  srt : Srt due d 0 N
  le : p ≤ N
  lo : ∀ j, j < p → (d j).2 ≤ T
  hi : ∀ j, p ≤ j → j < N → T < (d j).2
theorem PSt.cnt {all : List Lw} {d : Nat → PI} {N : Nat} {T : Int} {p : Nat} (h : PSt all d N T p) (i : Nat) : frI d p i = cntT all i T := by
  have e1 : cntT all i T = ((List.range N).map d).countP fun y => decide (y.1 = (i : Int)) && decide (y.2 ≤ T) := by
    rw [h.perm.countP_eq, List.countP_map]; unfold cntT; refine List.countP_congr fun x _ => ?_
    show (decide (x.1 = i) && decide (x.2 ≤ T)) = true ↔ (decide ((x.1 : Int) = (i : Int)) && decide (x.2 ≤ T)) = true; rw [Bool.and_eq_true, Bool.and_eq_true, decide_eq_true_iff, decide_eq_true_iff, decide_eq_true_iff]; omega
  rw [e1]
  have hs : List.range N = List.range p ++ (List.range (N - p)).map (p + ·) := by
    have := List.range_add (n := p) (m := N - p)
    rwa [Nat.add_sub_cancel' h.le] at this
  rw [hs, List.map_append, List.countP_append]
  have z : (((List.range (N - p)).map (p + ·)).map d).countP (fun y => decide (y.1 = (i : Int)) && decide (y.2 ≤ T)) = 0 := by
    rw [List.countP_eq_zero]; intro y hy; rw [List.mem_map] at hy; obtain ⟨j, hj, rfl⟩ := hy; rw [List.mem_map] at hj; obtain ⟨t, ht, rfl⟩ := hj; have := h.hi (p + t) (by omega) (by have := List.mem_range.1 ht; omega); simp; intro _; omega
  rw [z, Nat.add_zero]; unfold frI; refine List.countP_congr fun y hy => ?_
  rw [List.mem_map] at hy; obtain ⟨j, hj, rfl⟩ := hy; have := h.lo j (List.mem_range.1 hj); simp [this]
def nowF (l : List Int) (d : Nat → PI) (p i : Nat) : Int := gt l i - 12 * (frI d p i : Int)
theorem PSt.row {all : List Lw} {d : Nat → PI} {N : Nat} {T : Int} {p : Nat} (h : PSt all d N T p) (l : List Int) : fl1 (nowF l d p) l.length = rowN l all T := by
  unfold fl1 rowN; refine List.map_congr_left fun i _ => ?_
  unfold nowF; rw [h.cnt i]
theorem PSt.mem {all : List Lw} {d : Nat → PI} {N : Nat} {T : Int} {p : Nat} (h : PSt all d N T p) {j : Nat} (hj : j < N) : ∃ x ∈ all, pI x = d j := by
  have : d j ∈ all.map pI := h.perm.mem_iff.1 (List.mem_map.2 ⟨j, List.mem_range.2 hj, rfl⟩); exact List.mem_map.1 this
theorem PSt.none {all : List Lw} {d : Nat → PI} {N : Nat} {T : Int} (h : PSt all d N T N) : ∀ x ∈ all, x.2 ≤ T := fun x hx => by
  have : pI x ∈ (List.range N).map d := h.perm.mem_iff.2 (List.mem_map.2 ⟨x, hx, rfl⟩); obtain ⟨j, hj, e⟩ := List.mem_map.1 this; have h1 := h.lo j (List.mem_range.1 hj); rw [e] at h1; exact h1
theorem PSt.next {all : List Lw} {d : Nat → PI} {N : Nat} {T : Int} {p : Nat} (h : PSt all d N T p) (hp : p < N) : T < (d p).2 ∧ (∀ x ∈ all, T < x.2 → (d p).2 ≤ x.2) ∧ dueAt all T (d p).2 = true := by
  refine ⟨h.hi p (Nat.le_refl _) hp, fun x hx hT => ?_, ?_⟩
  · have : pI x ∈ (List.range N).map d := h.perm.mem_iff.2 (List.mem_map.2 ⟨x, hx, rfl⟩); obtain ⟨j, hj, e⟩ := List.mem_map.1 this; have hjN := List.mem_range.1 hj; have e2 : (d j).2 = x.2 := (by rw [e]; rfl); rcases Nat.lt_or_ge j p with h1 | h1
    · have := h.lo j h1; omega
    · have := h.srt p j (Nat.zero_le _) h1 hjN; unfold due at this; omega
  · obtain ⟨x, hx, e⟩ := h.mem hp; have e2 : x.2 = (d p).2 := (by rw [← e]; rfl); exact dueAt_iff.2 ⟨x, hx, by rw [e2]; exact h.hi p (Nat.le_refl _) hp, e2⟩
end Go.Proofs.YtafadpaljanghaaGreatDoor
namespace Go.Proofs.YtafadpaljanghaaGreatDoor
set_option linter.unusedSimpArgs false
open Go.RowKit
set_option linter.unusedVariables false
abbrev tB : TypeId := 59
abbrev tI : TypeId := 3
theorem tBI : tB ≠ tI := by decide
structure BM (w : World) (B : Nat) (v : Value) (o : List (Int × List Int)) (L : List Bk) : Prop where
  own : w.ownsRow B tB 2 v L.length (L.flatMap Bk.cells)
  told : L.map (fun b => (b.fr, b.l)) = o
  rows : ∀ b ∈ L, w.ownsRow B tI 1 (.slice b.A b.n b.c) b.n (b.l.map iv)
theorem BM.nil (w : World) (B : Nat) : BM w B (.slice none 0 0) [] [] := ⟨World.ownsRow_nil _ _ _ _, rfl, fun b h => by cases h⟩
theorem BM.mv {w w' : World} {B g : Nat} {v : Value} {o : List (Int × List Int)} {L : List Bk} (h : BM w B v o L) (hm : Mv g w w') (hv : v.ownBlock ≠ some g) (hr : ∀ b ∈ L, (Value.slice b.A b.n b.c).ownBlock ≠ some g) : BM w' B v o L :=
  ⟨own_mv h.own hm (fun k hk e => hv (by rw [hk, e])), h.told, fun b hb => own_mv (h.rows b hb) hm (fun k hk e => hr b hb (by rw [hk, e]))⟩
theorem BM.below {w w' : World} {B : Nat} {v : Value} {o : List (Int × List Int)} {L : List Bk} (h : BM w B v o L) (hb : Below w.heap.size w w') : BM w' B v o L := by
  refine h.mv (Mv.of_below hb) (fun e => ?_) (fun b hbm e => ?_)
  · have := (h.own.lt _ e).2; omega
  · have := ((h.rows b hbm).lt _ e).2; omega
theorem BM.other {w w' : World} {B g : Nat} {t : TypeId} {cs : Array Value} {v : Value} {o : List (Int × List Int)} {L : List Bk} (h : BM w B v o L) (hm : Mv g w w') (hB : Blk w g t cs) (h1 : tB ≠ t) (h2 : tI ≠ t) : BM w' B v o L :=
  h.mv hm (own_blk_ne h.own hB h1) (fun b hb => own_blk_ne (h.rows b hb) hB h2)
theorem own_types {w : World} {base base' size size' n n' : Nat} {e e' : TypeId} {v v' : Value} {xs xs' : List Value} (h : w.ownsRow base e size v n xs) (h' : w.ownsRow base' e' size' v' n' xs') (hne : e ≠ e') : ∀ k, v.ownBlock = some k → v'.ownBlock ≠ some k := by
  intro k hk hk'; rcases h'.2 with ⟨rfl, _⟩ | ⟨b', cap, cur, rfl, _, hh, _⟩
  · simp [Value.ownBlock] at hk'
  · have e1 : b' = k := (by simpa [Value.ownBlock] using hk'); exact own_blk_ne (t := e') (cs := cur) h (g := b') hh hne (by rw [hk, e1])
theorem BM.push {w w' : World} {B : Nat} {ob : Obj} {v v' : Value} {o : List (Int × List Int)} {L : List Bk} {b : Bk} (h : BM w B v o L) (hb : w.ownsRow B tI 1 (.slice b.A b.n b.c) b.n (b.l.map iv))
    (hown : w'.ownsRow B tB 2 v' (L.length + 1) (L.flatMap Bk.cells ++ b.cells)) (hg : (w.alloc ob).grownBy w' v.ownBlock) : BM w' B v' (o ++ [(b.fr, b.l)]) (L ++ [b]) := by
  have keep : ∀ b' : Bk, w.ownsRow B tI 1 (.slice b'.A b'.n b'.c) b'.n (b'.l.map iv) → w'.ownsRow B tI 1 (.slice b'.A b'.n b'.c) b'.n (b'.l.map iv) := fun b' hb' => by
    obtain ⟨g, hg1⟩ : ∃ g, ∀ k, v.ownBlock = some k → k = g := by
      rcases hv : v.ownBlock with _ | k
      · exact ⟨(w.alloc ob).heap.size, fun k hk => by cases hk⟩
      · exact ⟨k, fun k' hk => by injection hk with hk; exact hk.symm⟩
    have hm : (w.alloc ob).grownBy w' v.ownBlock := hg; refine ⟨hb'.1, ?_⟩; rcases (xown_alloc hb' ob).2 with h0 | ⟨gb, cap, cur, e1, hb1, hh, h1⟩
    · exact .inl h0
    · refine .inr ⟨gb, cap, cur, e1, hb1, ?_, h1⟩; have hlt : gb < (w.alloc ob).heap.size := Blk.lt (t := tI) (cs := cur) hh; refine (hg.block gb hlt (fun e => ?_)).trans hh; have := own_types h.own hb' tBI gb e.symm; rw [e1] at this; exact this rfl
  refine ⟨?_, ?_, fun b' hb' => ?_⟩
  · rw [List.length_append, List.flatMap_append]; simpa using hown
  · rw [List.map_append, h.told]; rfl
  · rcases List.mem_append.1 hb' with h1 | h1
    · exact keep b' (h.rows b' h1)
    · have : b' = b := (by simpa using h1); subst this; exact keep b' hb
theorem BM.len {w : World} {B : Nat} {v : Value} {o : List (Int × List Int)} {L : List Bk} (h : BM w B v o L) : L.length = o.length := by rw [← h.told, List.length_map]
theorem BM.mx {w : World} {B : Nat} {v : Value} {o : List (Int × List Int)} {L : List Bk} (h : BM w B v o L) : ∃ A c, v = .slice A L.length c ∧ MX w A L.length L := by
  obtain ⟨A, c, e, hr⟩ := own_slice2 h.own; refine ⟨A, c, e, ⟨rfl, hr, fun b hb => ⟨?_, Reads.of_own (h.rows b hb)⟩⟩⟩; have := (h.rows b hb).1; rw [List.length_map] at this; omega
theorem own_cap {w : World} {base size n c : Nat} {e : TypeId} {A : Option Addr} {xs : List Value} (h : w.ownsRow base e size (.slice A n c) n xs) : n ≤ c ∧ c ≤ maxLen := by
  rcases h.2 with ⟨h1, h2⟩ | ⟨g, cap, cur, h1, _, _, hnc, hcm, _⟩
  · injection h1 with e1 e2 e3; subst e2 e3; exact ⟨Nat.le_refl _, Nat.zero_le _⟩
  · injection h1 with e1 e2 e3; subst e3; exact ⟨hnc, hcm⟩
theorem BM.mxa {w : World} {B : Nat} {v : Value} {o : List (Int × List Int)} {L : List Bk} (h : BM w B v o L) (hf : ∀ b ∈ L, i64 b.fr) (hi : ∀ b ∈ L, ∀ z ∈ b.l, i64 z) : ∃ A c, v = .slice A L.length c ∧ MXA w A L.length c L := by
  obtain ⟨A, c, e, hm⟩ := h.mx; refine ⟨A, c, e, hm, ?_, hf, fun b hb => own_cap (h.rows b hb), hi⟩; have := h.own; rw [e] at this; exact own_cap this
end Go.Proofs.YtafadpaljanghaaGreatDoor
namespace Go.Proofs.YtafadpaljanghaaGreatDoor
set_option linter.unusedSimpArgs false
open Go.RowKit
set_option linter.unusedVariables false
set_option maxHeartbeats 6400000 in
set_option maxRecDepth 100000 in
theorem same11_any (a b : Int) (A B : Option Addr) (n c c2 : Nat) (L K : List Bk) (w : World) (hA : MX w A n L) (hB : MX w B n K) (he : L.map (fun b => (b.fr, b.l)) = K.map (fun b => (b.fr, b.l))) (hn : n ≤ 1000000) (hr : ∀ b ∈ L, b.n ≤ 9223372036854775807) :
    Calls Tryz.prog 23 #[.agg #[.int .i64 a, .int .i64 b, .slice A n c], .agg #[.int .i64 a, .int .i64 b, .slice B n c2]] w fun e w' => e = .returned (.bool true) ∧ Below w.heap.size w w' := by
  have b1 := (Blk.new w 34 #[.int .i64 a, .int .i64 b, .slice A n c]).alloc (.cells #[.int .i64 a, .int .i64 b, .slice B n c2] 34); have b2 := Blk.new (w.alloc (.cells #[.int .i64 a, .int .i64 b, .slice A n c] 34)) 34 #[.int .i64 a, .int .i64 b, .slice B n c2]; have u := ((Below.refl w.heap.size w).alloc (Nat.le_refl _) (.cells #[.int .i64 a, .int .i64 b, .slice A n c] 34)).alloc (by simp) (.cells #[.int .i64 a, .int .i64 b, .slice B n c2] 34); rw [show (w.alloc (.cells #[.int .i64 a, .int .i64 b, .slice A n c] 34)).heap.size = w.heap.size + 1 by simp] at b2; have HBL : Sl _ := ⟨And.intro b1 b2⟩; have HU : Sl _ := ⟨u⟩; have HM : Sl _ := ⟨And.intro (hA.below u) (hB.below u)⟩; have HE : Sl _ := ⟨And.intro he hr⟩; have HN : Sl (L.length = n ∧ K.length = n) := ⟨hA.len, hB.len⟩; have haa : (a != a) = false := (by simp); have hbb : (b != b) = false := (by simp); have hnn : ((n : Int) != (n : Int)) = false := (by simp); clear b1 b2 u hA hB he hr; go_enter Tryz.func23, Tryz.ntmps23; go_wp2_with fail; generalize (w.alloc (.cells #[.int .i64 a, .int .i64 b, .slice A n c] 34)).alloc (.cells #[.int .i64 a, .int .i64 b, .slice B n c2] 34) = w0 at *
  obtain ⟨gA, hgA⟩ : ∃ g, w.heap.size = g := ⟨_, rfl⟩; obtain ⟨gB, hgB⟩ : ∃ g, gA + 1 = g := ⟨_, rfl⟩; have HG : Sl (w.heap.size = gA) := ⟨hgA⟩; rw [hgA] at HBL; rw [hgB] at HBL
  try rw [hgA]
  try rw [hgB]
  clear hgA hgB
  have HCE : Sl (∀ W, Below w0.heap.size w0 W → (W.cell? ⟨gA, 0, none⟩ = some (.int .i64 a) ∧ W.cell? ⟨gA, 1, none⟩ = some (.int .i64 b) ∧ W.cell? ⟨gA, 2, none⟩ = some (.slice A n c)) ∧ W.cell? ⟨gB, 0, none⟩ = some (.int .i64 a) ∧ W.cell? ⟨gB, 1, none⟩ = some (.int .i64 b) ∧ W.cell? ⟨gB, 2, none⟩ = some (.slice B n c2)) := ⟨fun W h => by
    have e := HBL.out.1.below h HBL.out.1.lt; have f := HBL.out.2.below h HBL.out.2.lt
    exact ⟨⟨by rw [e.cell]; rfl, by rw [e.cell]; rfl, by rw [e.cell]; rfl⟩, by rw [f.cell]; rfl, by rw [f.cell]; rfl, by rw [f.cell]; rfl⟩⟩
  obtain ⟨⟨q0, q1, q2⟩, q3, q4, q5⟩ := HCE.out w0 (Below.refl _ _); go_wp2_with fail; clear q0 q1 q2 q3 q4 q5
  go_loopw [5] (fun s5 wr => ∃ (k : Nat), k ≤ n ∧ s5 = .int .i64 k ∧ Sl (Below w0.heap.size w0 wr)) (fun s5 _ => n - (RowKit.intOf s5).toNat)
  case atStart => exact ⟨0, Nat.zero_le _, rfl, ⟨Below.refl _ _⟩⟩
  case round =>
    obtain ⟨k, hk, rfl, HB⟩ := hrel; obtain ⟨⟨_, _, q2⟩, _, _, q5⟩ := HCE.out wr HB.out
    by_cases hkn : k < n
    · have hkI : (k : Int) < (n : Int) := (by omega); obtain ⟨p, hp⟩ : ∃ p, L[k]? = some p := ⟨_, List.getElem?_eq_getElem (by rw [HN.out.1]; exact hkn)⟩; obtain ⟨q, hq⟩ : ∃ q, K[k]? = some q := ⟨_, List.getElem?_eq_getElem (by rw [HN.out.2]; exact hkn)⟩
      have hpq : p.fr = q.fr ∧ p.l = q.l := by
        have h1 : (L.map (fun b => (b.fr, b.l)))[k]? = some (p.fr, p.l) := (by rw [List.getElem?_map, hp]; rfl); rw [HE.out.1, List.getElem?_map, hq] at h1; injection h1 with h1
        injection h1 with h1 h2
        exact ⟨h1.symm, h2.symm⟩
      have hMA := HM.out.1.below HB.out; have hMB := HM.out.2.below HB.out; obtain ⟨ad, rfl, hab, x1, x2⟩ := hMA.cells2 hp; obtain ⟨bd, rfl, hbb2, y1, y2⟩ := hMB.cells2 hq; have hip := hMA.rk p (List.mem_of_getElem? hp); have hiq := hMB.rk q (List.mem_of_getElem? hq); have hrn := HE.out.2 p (List.mem_of_getElem? hp); clear hp hq hMA hMB; obtain ⟨fr, A1, rn, rc, rl⟩ := p; obtain ⟨fr2, A2, rn2, rc2, rl2⟩ := q; simp only [] at hpq x1 x2 y1 y2 hip hiq hrn; obtain ⟨h1, h2⟩ := hpq; subst h1 h2; have hrr : rn2 = rn := (by rw [← hip.1, ← hiq.1]); subst hrr; have HCM : Sl (∀ (W : World), RowKit.Below wr.heap.size wr W → Calls Tryz.prog 17 #[.slice A1 rn2 rc, .slice A2 rn2 rc2] W fun e w' => e = .returned (.bool true) ∧ RowKit.Below wr.heap.size wr w') := ⟨fun W hW => (sameInts11_any A1 A2 rn2 rc rc2 rl W (hip.below hW) (hiq.below hW) hrn).mono fun e w' g => ⟨g.1, by obtain ⟨m, hm⟩ := g.2; rw [hm]; exact below_drewN hW m⟩⟩; have hffr : (fr != fr) = false := (by simp)
      have HS : Sl (∀ w' : World, Mv wr.heap.size wr w' → w'.cell? ⟨gA, 2, none⟩ = some (.slice (some ad) n c) ∧ w'.cell? ⟨gB, 2, none⟩ = some (.slice (some bd) n c2) ∧ w'.cell? (ad.add (k * 2)) = some (.int .i64 fr) ∧ w'.cell? ⟨(ad.add (k * 2)).block, (ad.add (k * 2)).off + 1, none⟩ = some (.slice A1 rn2 rc) ∧ w'.cell? (bd.add (k * 2)) = some (.int .i64 fr) ∧ w'.cell? ⟨(bd.add (k * 2)).block, (bd.add (k * 2)).off + 1, none⟩ = some (.slice A2 rn2 rc2)) := ⟨fun w' hm => by
        have hs := HB.out.size; have key : ∀ (p : Addr), p.block < wr.heap.size → w'.cell? p = wr.cell? p := fun p hp => World.cell?_of_block (hm.block p.block hp (by omega))
        have e1 : (ad.add (k * 2)).block = ad.block := (by unfold Addr.add; split <;> rfl); have e2 : (bd.add (k * 2)).block = bd.block := (by unfold Addr.add; split <;> rfl); have l1 := HBL.out.1.lt; have l2 := HBL.out.2.lt; refine ⟨?_, ?_, ?_, ?_, ?_, ?_⟩
        · rw [key _ (by show gA < _; omega)]; exact q2
        · rw [key _ (by show gB < _; omega)]; exact q5
        · rw [key _ (by rw [e1]; omega)]; exact x1
        · rw [key _ (by show (ad.add (k * 2)).block < _; rw [e1]; omega)]; exact x2
        · rw [key _ (by rw [e2]; omega)]; exact y1
        · rw [key _ (by show (bd.add (k * 2)).block < _; rw [e2]; omega)]; exact y2⟩
      clear x1 x2 y1 y2 hip hiq hab hbb2; go_wp2_with fail; have hm : Mv wr.heap.size wr wr.drew := Mv.drew _ _; have HSW : Sl (RowKit.Below wr.heap.size wr wr.drew) := ⟨below_drewN (Below.refl _ _) 1⟩; refine wp_region_held_drew (S := fun w' => Mv wr.heap.size wr w') (by kernel_rfl) hm (fun hHeld => ?_); clear hm; refine wpAnyH_pure 0 (v := .pointer (some ⟨gA, 2, none⟩)) rfl (by kernel_rfl) (by kernel_rfl) (by kernel_rfl) (fun _ _ _ h => h) rfl (fun _ => by go_simp) (by assumption) ?_; simp only [Act.put, sS0, sS1, sS2]
      refine wpAnyH_cell 1 (v := .slice (some ad) n c) rfl rfl (fun w' h => by
        obtain ⟨z1, z2, z3, z4, z5, z6⟩ := HS.out w' h
        go_simp) (by kernel_rfl) (by kernel_rfl) (by kernel_rfl) (fun _ _ _ h => h) (by assumption) ?_
      simp only [Act.put, sS0, sS1, sS2]; refine wpAnyH_pure 2 (v := .int .i64 (k : Int)) rfl (by kernel_rfl) (by kernel_rfl) (by kernel_rfl) (fun _ _ _ h => h) rfl (fun _ => rfl) (by assumption) ?_; simp only [Act.put, sS0, sS1, sS2]; refine wpAnyH_pure 3 (v := .pointer (some (ad.add (k * 2)))) rfl (by kernel_rfl) (by kernel_rfl) (by kernel_rfl) (fun _ _ _ h => h) rfl (fun _ => by go_simp) (by assumption) ?_; simp only [Act.put, sS0, sS1, sS2]; refine wpAnyH_pure 4 (v := .pointer (some (ad.add (k * 2)))) rfl (by kernel_rfl) (by kernel_rfl) (by kernel_rfl) (fun _ _ _ h => h) rfl (fun _ => by go_simp) (by assumption) ?_; simp only [Act.put, sS0, sS1, sS2]
      refine wpAnyH_cell 5 (v := .int .i64 fr) rfl rfl (fun w' h => by
        obtain ⟨z1, z2, z3, z4, z5, z6⟩ := HS.out w' h
        go_simp) (by kernel_rfl) (by kernel_rfl) (by kernel_rfl) (fun _ _ _ h => h) (by assumption) ?_
      simp only [Act.put, sS0, sS1, sS2]; refine wpAnyH_pure 6 (v := .pointer (some ⟨gB, 2, none⟩)) rfl (by kernel_rfl) (by kernel_rfl) (by kernel_rfl) (fun _ _ _ h => h) rfl (fun _ => by go_simp) (by assumption) ?_; simp only [Act.put, sS0, sS1, sS2]
      refine wpAnyH_cell 7 (v := .slice (some bd) n c2) rfl rfl (fun w' h => by
        obtain ⟨z1, z2, z3, z4, z5, z6⟩ := HS.out w' h
        go_simp) (by kernel_rfl) (by kernel_rfl) (by kernel_rfl) (fun _ _ _ h => h) (by assumption) ?_
      simp only [Act.put, sS0, sS1, sS2]; refine wpAnyH_pure 8 (v := .int .i64 (k : Int)) rfl (by kernel_rfl) (by kernel_rfl) (by kernel_rfl) (fun _ _ _ h => h) rfl (fun _ => rfl) (by assumption) ?_; simp only [Act.put, sS0, sS1, sS2]; refine wpAnyH_pure 9 (v := .pointer (some (bd.add (k * 2)))) rfl (by kernel_rfl) (by kernel_rfl) (by kernel_rfl) (fun _ _ _ h => h) rfl (fun _ => by go_simp) (by assumption) ?_; simp only [Act.put, sS0, sS1, sS2]; refine wpAnyH_pure 10 (v := .pointer (some (bd.add (k * 2)))) rfl (by kernel_rfl) (by kernel_rfl) (by kernel_rfl) (fun _ _ _ h => h) rfl (fun _ => by go_simp) (by assumption) ?_; simp only [Act.put, sS0, sS1, sS2]
      refine wpAnyH_cell 11 (v := .int .i64 fr) rfl rfl (fun w' h => by
        obtain ⟨z1, z2, z3, z4, z5, z6⟩ := HS.out w' h
        go_simp) (by kernel_rfl) (by kernel_rfl) (by kernel_rfl) (fun _ _ _ h => h) (by assumption) ?_
      simp only [Act.put, sS0, sS1, sS2]; refine wpAnyH_pure 12 (v := .bool false) rfl (by kernel_rfl) (by kernel_rfl) (by kernel_rfl) (fun _ _ _ h => h) rfl (fun _ => by go_simp) (by assumption) ?_; simp only [Act.put, sS0, sS1, sS2]; refine wpAnyH_pure 13 (v := .bool false) rfl (by kernel_rfl) (by kernel_rfl) (by kernel_rfl) (fun _ _ _ h => h) rfl (fun _ => rfl) (by assumption) ?_; simp only [Act.put, sS0, sS1, sS2]; refine wpAnyH_pureg 14 (v := .pointer (some ⟨gA, 2, none⟩)) rfl (by kernel_rfl) (by kernel_rfl) (by kernel_rfl) (fun _ _ _ h => h) (by rfl) (fun _ => by go_simp) (by assumption) ?_; simp only [Act.put, sS0, sS1, sS2]
      refine wpAnyH_cellg 15 (v := .slice (some ad) n c) rfl (by rfl) (fun w' h => by
        obtain ⟨z1, z2, z3, z4, z5, z6⟩ := HS.out w' h
        go_simp) (by kernel_rfl) (by kernel_rfl) (by kernel_rfl) (fun _ _ _ h => h) (by assumption) ?_
      simp only [Act.put, sS0, sS1, sS2]; refine wpAnyH_pureg 16 (v := .int .i64 (k : Int)) rfl (by kernel_rfl) (by kernel_rfl) (by kernel_rfl) (fun _ _ _ h => h) (by rfl) (fun _ => rfl) (by assumption) ?_; simp only [Act.put, sS0, sS1, sS2]; refine wpAnyH_pureg 17 (v := .pointer (some (ad.add (k * 2)))) rfl (by kernel_rfl) (by kernel_rfl) (by kernel_rfl) (fun _ _ _ h => h) (by rfl) (fun _ => by go_simp) (by assumption) ?_; simp only [Act.put, sS0, sS1, sS2]; refine wpAnyH_pureg 18 (v := .pointer (some ⟨(ad.add (k * 2)).block, (ad.add (k * 2)).off + 1, none⟩)) rfl (by kernel_rfl) (by kernel_rfl) (by kernel_rfl) (fun _ _ _ h => h) (by rfl) (fun _ => by go_simp) (by assumption) ?_; simp only [Act.put, sS0, sS1, sS2]
      refine wpAnyH_cellg 19 (v := .slice A1 rn2 rc) rfl (by rfl) (fun w' h => by
        obtain ⟨z1, z2, z3, z4, z5, z6⟩ := HS.out w' h
        go_simp) (by kernel_rfl) (by kernel_rfl) (by kernel_rfl) (fun _ _ _ h => h) (by assumption) ?_
      simp only [Act.put, sS0, sS1, sS2]; refine wpAnyH_pureg 20 (v := .pointer (some ⟨gB, 2, none⟩)) rfl (by kernel_rfl) (by kernel_rfl) (by kernel_rfl) (fun _ _ _ h => h) (by rfl) (fun _ => by go_simp) (by assumption) ?_; simp only [Act.put, sS0, sS1, sS2]
      refine wpAnyH_cellg 21 (v := .slice (some bd) n c2) rfl (by rfl) (fun w' h => by
        obtain ⟨z1, z2, z3, z4, z5, z6⟩ := HS.out w' h
        go_simp) (by kernel_rfl) (by kernel_rfl) (by kernel_rfl) (fun _ _ _ h => h) (by assumption) ?_
      simp only [Act.put, sS0, sS1, sS2]; refine wpAnyH_pureg 22 (v := .int .i64 (k : Int)) rfl (by kernel_rfl) (by kernel_rfl) (by kernel_rfl) (fun _ _ _ h => h) (by rfl) (fun _ => rfl) (by assumption) ?_; simp only [Act.put, sS0, sS1, sS2]; refine wpAnyH_pureg 23 (v := .pointer (some (bd.add (k * 2)))) rfl (by kernel_rfl) (by kernel_rfl) (by kernel_rfl) (fun _ _ _ h => h) (by rfl) (fun _ => by go_simp) (by assumption) ?_; simp only [Act.put, sS0, sS1, sS2]; refine wpAnyH_pureg 24 (v := .pointer (some ⟨(bd.add (k * 2)).block, (bd.add (k * 2)).off + 1, none⟩)) rfl (by kernel_rfl) (by kernel_rfl) (by kernel_rfl) (fun _ _ _ h => h) (by rfl) (fun _ => by go_simp) (by assumption) ?_; simp only [Act.put, sS0, sS1, sS2]
      refine wpAnyH_cellg 25 (v := .slice A2 rn2 rc2) rfl (by rfl) (fun w' h => by
        obtain ⟨z1, z2, z3, z4, z5, z6⟩ := HS.out w' h
        go_simp) (by kernel_rfl) (by kernel_rfl) (by kernel_rfl) (fun _ _ _ h => h) (by assumption) ?_
      simp only [Act.put, sS0, sS1, sS2]; refine wpAnyH_onew 26 rfl (by kernel_rfl) (by rfl) (fun K hK => ?_); go_simp; go_at_call 17
      (with_reducible refine (HCM.out _ HSW.out).mono ?_)
      rintro ee w2 ⟨rfl, hb⟩; replace HSW : Sl (RowKit.Below wr.heap.size wr w2) := ⟨hb⟩; refine hK.out _ _ (Mv.below HSW.out) (fun hHeld => ?_); clear hK K hb
      (try simp only [Act.put, sS0, sS1, sS2])
      refine wpAnyH_pureg 27 (v := .bool false) rfl (by kernel_rfl) (by kernel_rfl) (by kernel_rfl) (fun _ _ _ h => h) (by rfl) (fun _ => by go_simp) (by assumption) ?_; simp only [Act.put, sS0, sS1, sS2]; refine wpAnyH_pure 28 (v := .bool false) rfl (by kernel_rfl) (by kernel_rfl) (by kernel_rfl) (fun _ _ _ h => h) rfl (fun _ => by go_simp) (by assumption) ?_; simp only [Act.put, sS0, sS1, sS2]; refine wpAnyH_done (by kernel_rfl) ?_ _; clear hHeld; have HB2 : Sl (Below w0.heap.size w0 w2) := ⟨HB.out.trans (HSW.out.mono HB.out.size)⟩; clear HS HCM HSW q2 q5; go_wp2_with fail; exact ⟨⟨k + 1, hkn, by go_num, HB2⟩, by simp [RowKit.intOf]; omega⟩
    · obtain rfl : k = n := (by omega); go_wp2_with fail; go_ret; exact ⟨rfl, HU.out.trans (HB.out.mono HU.out.size)⟩
end Go.Proofs.YtafadpaljanghaaGreatDoor
namespace Go.Proofs.YtafadpaljanghaaGreatDoor
set_option linter.unusedSimpArgs false
set_option linter.unusedVariables false
theorem scn_mem {l : List Int} {all : List Lw} {e a : Int} : ∀ (k : Nat), ∀ x ∈ (scn l all e a k).2, a ≤ x.1 ∧ x.1 < a + (k : Int) ∧ x.2 = rowT l all (x.1 + e)
  | 0, x, h => by simp [scn] at h
  | k+1, x, h => by
    rw [scn] at h
    split at h
    · simp only [] at h; rcases List.mem_append.1 h with h | h
      · obtain ⟨h1, h2, h3⟩ := scn_mem k x h; exact ⟨h1, by omega, h3⟩
      · have : x = (a + (k : Int), rowT l all (a + (k : Int) + e)) := (by simpa using h); rw [this]; exact ⟨by simp only []; omega, by simp only []; omega, rfl⟩
    · obtain ⟨h1, h2, h3⟩ := scn_mem k x h; exact ⟨h1, by omega, h3⟩
theorem cntT_17 {l : List Int} {most u : Int} {T : Int} {i n : Nat} (h0 : 0 ≤ most) (hu : u ≤ 127) (hi : i < n → gt l i ≤ 72) : cntT (lwA l most u n) i T ≤ 17 := by
  rw [lwA_count]
  split
  · next h => exact lwN_17 (by have := hi h; omega) (by omega)
  · exact Nat.zero_le _
theorem rowT_bd {l : List Int} {most u T : Int} (h0 : 0 ≤ most) (hu : u ≤ 127) (hz : ∀ j, j < l.length → -24 ≤ gt l j ∧ gt l j ≤ 72) : ∀ z ∈ rowT l (lwA l most u l.length) T, -300 ≤ z ∧ z ≤ 72 := by
  intro z h; unfold rowT at h; have h2 := (srt_perm _).mem_iff.1 h; unfold rowN at h2; obtain ⟨i, hi, rfl⟩ := List.mem_map.1 h2; have hil := List.mem_range.1 hi; have h1 := hz i hil; have h3 := cntT_17 (l := l) (most := most) (u := u) (T := T) (i := i) (n := l.length) h0 hu (fun _ => h1.2); omega
theorem gt_mem {l : List Int} (h : 0 < l.length) : gt l 0 ∈ l := by
  cases l with
  | nil => simp at h
  | cons a l => simp [gt]
theorem plO_mem {f u : Int} {l : List Int} {most early : Int} (h0 : 0 ≤ most) (hu : u ≤ 127) (hz : ∀ j, j < l.length → -24 ≤ gt l j ∧ gt l j ≤ 72) {k : Nat} {x : Int × List Int} (hx : x ∈ (scn l (lwA l most u l.length) early f k).2) :
    (f ≤ x.1 ∧ x.1 < f + (k : Int)) ∧ x.2.length = l.length ∧ ∀ z ∈ x.2, -300 ≤ z ∧ z ≤ 72 := by
  obtain ⟨h1, h2, h3⟩ := scn_mem k x hx; exact ⟨⟨h1, h2⟩, by rw [h3, rowT_len], by rw [h3]; exact rowT_bd h0 hu hz⟩
theorem outL_in {l : List Int} (h : outL l = false) : ∀ j, j < l.length → -24 ≤ gt l j ∧ gt l j ≤ 72 := fun j hj => by
  have h1 : ¬ (anyN l.length fun j => outI (gt l j)) = true := (by unfold outL at h; rw [h]; decide); have h2 : ¬ outI (gt l j) = true := fun h3 => h1 (anyN_iff.2 ⟨j, hj, h3⟩)
  unfold outI at h2; simp at h2; omega
end Go.Proofs.YtafadpaljanghaaGreatDoor
namespace Go.Proofs.YtafadpaljanghaaGreatDoor
set_option linter.unusedSimpArgs false
open Go.RowKit
set_option linter.unusedVariables false
end Go.Proofs.YtafadpaljanghaaGreatDoor
namespace Go.Proofs.YtafadpaljanghaaGreatDoor
set_option linter.unusedSimpArgs false
open Go.RowKit
set_option linter.unusedVariables false
def plO (f u : Int) (l : List Int) (most early : Int) : List (Int × List Int) := (scn l (lwA l most u l.length) early f (u - f + 1).toNat).2
def plC (f u : Int) : Bool := decide (0 ≤ f) && decide (u ≤ 127) && decide (f ≤ u) && decide (u - f < 61)
def plE (f u : Int) (l : List Int) (most early : Int) : Int :=
  if plC f u = false then 7 else if 8 < l.length then 3 else if (decide (0 < l.length) && !dn l) = false then 2 else if outL l = true then 7 else
  if early < 0 ∨ 11 < early then 2 else if most < 0 ∨ 139 < most then 7 else
  if (plO f u l most early).any lowB = true then 7 else if 12 < (plO f u l most early).length then 3 else 0
def PlT (f u : Int) (l : List Int) (most early : Int) (e : Ending) (w' : World) : Prop :=
  (plE f u l most early = 0 ∧ ∃ A c L, e = .returned (.tuple #[.agg #[.int .i64 f, .int .i64 u, .slice A L.length c], .int .i64 0]) ∧ MXA w' A L.length c L ∧ L.map (fun b => (b.fr, b.l)) = plO f u l most early) ∨
  (plE f u l most early ≠ 0 ∧ e = .returned (.tuple #[.agg #[.int .i64 0, .int .i64 0, .slice none 0 0], .int .i64 (plE f u l most early)]))
theorem PlT.bad {f u : Int} {l : List Int} {most early r : Int} {w' : World} (h : plE f u l most early = r) (h0 : r ≠ 0) : PlT f u l most early (.returned (.tuple #[.agg #[.int .i64 0, .int .i64 0, .slice none 0 0], .int .i64 r])) w' := .inr ⟨by rw [h]; exact h0, by rw [h]⟩
theorem scn_grow {l : List Int} {all : List Lw} {e a : Int} {k : Nat} : ∀ {k' : Nat}, k ≤ k' → ∀ x ∈ (scn l all e a k).2, x ∈ (scn l all e a k').2
  | 0, h, x, hx => by rw [show k = 0 by omega] at hx; exact hx
  | k'+1, h, x, hx => by
    rcases Nat.lt_or_ge k (k' + 1) with h1 | h1
    · have := scn_grow (l := l) (all := all) (e := e) (a := a) (k' := k') (by omega) x hx; rw [scn]
      split
      · exact List.mem_append_left _ this
      · exact this
    · rw [show k' + 1 = k by omega]; exact hx
theorem scn_count {l : List Int} {all : List Lw} {e a : Int} : ∀ k, (scn l all e a k).2.length ≤ k
  | 0 => Nat.le_refl _
  | k+1 => by
    have := scn_count (l := l) (all := all) (e := e) (a := a) k; rw [scn]
    split
    · simp; omega
    · omega
def dOf (all : List Lw) (j : Nat) : PI := pI (all[j]?.getD (0, 0))
theorem dOf_perm (all : List Lw) : (List.range all.length).map (dOf all) = all.map pI := by
  refine List.ext_getElem? fun j => ?_
  rw [List.getElem?_map, List.getElem?_map]; rcases Nat.lt_or_ge j all.length with h | h
  · rw [List.getElem?_range h, List.getElem?_eq_getElem h]; show some (dOf all j) = _; unfold dOf; rw [List.getElem?_eq_getElem h]; rfl
  · rw [List.getElem?_eq_none (by simpa using h), List.getElem?_eq_none h]; rfl
theorem PB.of_own {w : World} {B g cap n : Nat} {e : TypeId} {all : List Lw} (h : w.ownsRow B e 2 (.slice (some ⟨g, 0, none⟩) n cap) n (all.flatMap lC)) (hn : all.length = n) : PB w g n (dOf all) := by
  have hc := fun j hj => h.cellAt j hj
  rcases h.2 with ⟨h1, _⟩ | ⟨g', cap', cur, e1, _, hh, hnc, _, hcs, _⟩
  · cases h1
  · injection e1 with e1 _ e3
    injection e1 with e1
    injection e1 with e1
    subst e1 e3; have hB : Blk w g e cur := hh; refine ⟨e, cur, hB, by rw [hcs]; exact Nat.mul_le_mul_right _ hnc, fun j hj => ?_⟩; have c0 := hc (j * 2) (by omega); have c1 := hc (j * 2 + 1) (by omega); have hp : all[j]? = some (all[j]'(by omega)) := List.getElem?_eq_getElem (by omega); have g0 := flatS_get lC 2 (fun _ => rfl) all j _ 0 hp (by decide); have g1 := flatS_get lC 2 (fun _ => rfl) all j _ 1 hp (by decide); rw [Nat.add_zero] at g0; rw [hB.cell, g0] at c0; rw [hB.cell, g1] at c1; rw [c0, c1]; unfold dOf; rw [hp]; exact ⟨rfl, rfl⟩
abbrev tPL : TypeId := 93
theorem frI_le (d : Nat → PI) (p i : Nat) : frI d p i ≤ p := by
  unfold frI; have := List.countP_le_length (p := fun x : PI => decide (x.1 = (i : Int))) (l := (List.range p).map d); simpa using this
theorem nowF_step (l : List Int) (d : Nat → PI) (p r : Nat) (h : (d p).1 = (r : Int)) (n : Nat) : frL n (fun j => if j = r then nowF l d p r - 12 else nowF l d p j) = frL n (nowF l d (p + 1)) := by
  refine frL_congr fun j _ => ?_
  unfold nowF; rw [frI_succ, h]
  by_cases hj : j = r
  · rw [if_pos hj, hj, if_pos rfl]; omega
  · rw [if_neg hj, if_neg (by omega)]; omega
structure TP0 (w w' : World) (g gn n cn N Bn : Nat) (h : Nat → Int) (d : Nat → PI) : Prop where
  x0 : Blk w' w.heap.size 34 #[.int .i64 0, .int .i64 0, .slice none 0 0]
  xn : w'.ownsRow Bn tI 1 (.slice (some ⟨gn, 0, none⟩) n cn) n (frL n h)
  pb : PB w' g N d
  bl : Below w.heap.size w w'
  od : g < gn ∧ w.heap.size < gn
theorem TP0.mv {w w1 w2 : World} {g gn n cn N Bn q : Nat} {h : Nat → Int} {d : Nat → PI} (T : TP0 w w1 g gn n cn N Bn h d) (hm : Mv q w1 w2) (hq : gn < q) : TP0 w w2 g gn n cn N Bn h d :=
  ⟨T.x0.mv hm (by have := T.od; omega), own_mv T.xn hm (fun k hk => xblk_ne hk (by omega)), T.pb.mv hm (by have := T.od; omega), below_mv T.bl hm (by have := T.od; omega) T.bl.size, T.od⟩
theorem TP0.mvx {w w1 w2 : World} {g gn n cn N Bn q : Nat} {h : Nat → Int} {d : Nat → PI} (T : TP0 w w1 g gn n cn N Bn h d) (hm : Mv q w1 w2) (hq : g < q ∧ w.heap.size < q ∧ q ≠ gn) : TP0 w w2 g gn n cn N Bn h d :=
  ⟨T.x0.mv hm (by omega), own_mv T.xn hm (fun k hk => xblk_ne hk (by omega)), T.pb.mv hm (by omega), below_mv T.bl hm (by omega) T.bl.size, T.od⟩
theorem TP0.gn_lt {w w' : World} {g gn n cn N Bn : Nat} {h : Nat → Int} {d : Nat → PI} (T : TP0 w w' g gn n cn N Bn h d) : gn < w'.heap.size := xform_lt T.xn
theorem TP0.below {w w1 w2 : World} {g gn n cn N Bn : Nat} {h : Nat → Int} {d : Nat → PI} (T : TP0 w w1 g gn n cn N Bn h d) (hb : Below w1.heap.size w1 w2) : TP0 w w2 g gn n cn N Bn h d :=
  ⟨T.x0.below hb T.x0.lt, own_mv T.xn (Mv.of_below hb) (fun k hk => xblk_ne hk (by have := T.gn_lt; omega)), T.pb.below hb T.pb.lt, T.bl.trans (hb.mono T.bl.size), T.od⟩
theorem TP0.made {w w1 w2 : World} {g gn n cn N Bn p r : Nat} {l : List Int} {z : Int} {d : Nat → PI} (T : TP0 w w1 g gn n cn N Bn (nowF l d p) d) (hm : Mv gn w1 w2) (hd : (d p).1 = (r : Int)) (hz : nowF l d p r = z) (hown : w2.ownsRow Bn tI 1 (.slice (some ⟨gn, 0, none⟩) n cn) n ((frL n (nowF l d p)).set r (.int .i64 (z - 12)))) : TP0 w w2 g gn n cn N Bn (nowF l d (p + 1)) d := by
  refine ⟨T.x0.mv hm (by have := T.od; omega), ?_, T.pb.mv hm (by have := T.od; omega), below_mv T.bl hm (by have := T.od; omega) T.bl.size, T.od⟩; rw [show (frL n (nowF l d p)).set r (.int .i64 (z - 12)) = _ from frL_set n _ r (z - 12), ← hz, nowF_step l d p r hd n] at hown; exact hown
theorem BM.mvlo {w w' : World} {B q : Nat} {v : Value} {o : List (Int × List Int)} {L : List Bk} (h : BM w B v o L) (hm : Mv q w w') (hq : q < B) : BM w' B v o L :=
  h.mv hm (fun e => by have := (h.own.lt _ e).1; omega) (fun b hb e => by have := ((h.rows b hb).lt _ e).1; omega)
end Go.Proofs.YtafadpaljanghaaGreatDoor
