/- The reference: Divide, Common, DivMod, Gcd. -/
import Derived.Test.YtgjbaamhpapeeaaDoorLawL
import Derived.Test.YtgjbaamhpapeeaaDoorLawO
import Derived.Test.YtgjbaamhpapeeaaDoorWideJ
namespace Go.Proofs.YtgjbaamhpapeeaaDoor
open Go.RowKit
set_option linter.unusedVariables false
set_option linter.unusedSimpArgs false

theorem nv_nil (w : World) : NV w (.slice none 0 0) 0 := by
  unfold NV
  rw [limbs_zero]
  exact ⟨none, 0, rfl, U_nil _ _, Nat.le_refl _, by decide⟩
theorem dbl_len {R b m y : Nat} (hR : R < b) (hb : (limbs b).length ≤ m) (hy : y ≤ 1) : (limbs (2 * R + y)).length ≤ m + 1 := by
  refine Nat.le_trans (limbs_mono (b := b + b) (by omega)) ?_
  exact limbs_len_add hb hb

theorem sh_or1 (o r : Nat) (ho : o < LB) (hr : r < 32) : bits .or .u32 (o : Int) (2 ^ r % 4294967296) = ((o ||| 2 ^ r : Nat) : Int) ∧ bits .or .u32 (o : Int) (1 * 2 ^ r % 4294967296) = ((o ||| 2 ^ r : Nat) : Int) := by
  have h := sh_or o 1 r ho (Nat.le_refl _) hr
  rw [Nat.one_mul, Int.natCast_one] at h
  have h2 := h
  rw [Int.one_mul] at h2
  exact ⟨h2, h⟩

set_option maxHeartbeats 3200000 in
set_option maxRecDepth 100000 in
/-- the reference's Divide -/
theorem divide_any (A B : Option Addr) (n m c d a b : Nat) (w : World) (ha : U w A n (limbs a)) (hb : U w B m (limbs b)) (hn : n ≤ 100000) (hm : m ≤ 100000) (hb0 : b ≠ 0) :
    Calls Tryd.prog 60 #[.slice A n c, .slice B m d] w fun e w' => DivRes (a / b) (a % b) e w' ∧ Below w.heap.size w w' := by
  have hsz := fun (W : World) (h : U W A n (limbs a)) => size_any A n c a W h (by omega)
  have HLA : Sl _ := ⟨ha.len⟩
  have HLB : Sl _ := ⟨hb.len⟩
  have hBn : bitsN a ≤ 32 * n := bitsN_limbs (by rw [ha.len]; exact Nat.le_refl _)
  have HBA : Sl _ := ⟨bitsN_lt a⟩
  have HA : Sl _ := ⟨ha⟩
  have HB : Sl _ := ⟨hb⟩
  have HB0 : Sl _ := ⟨hb0⟩
  clear ha hb hb0
  generalize bitsN a = N at *
  have HSZ : Sl _ := ⟨hsz⟩
  clear hsz
  have hmk := run_make_row' (P := Tryd.prog) 23 59 (.int .u32 0) 4 Tryd.underlying23 info32 rfl .i64 .i64 n (by omega) (by omega)
  go_enter Tryd.func60, Tryd.ntmps60
  go_wp2_with fail
  clear hmk
  have hu0 : Below w.heap.size w (w.alloc (.cells (madeCells #[.int .u32 0] n) 59)) := (Below.refl _ _).alloc (Nat.le_refl _) _
  have HO0 : Sl _ := ⟨Out.zeros w n⟩
  refine (HSZ.out _ (HA.out.below hu0)).mono ?_; rintro e w' ⟨rfl, q0, rfl⟩
  have hu1 := below_drewN hu0 q0
  have HO1 : Sl _ := ⟨HO0.out.drewN q0⟩
  clear hu0 HO0
  generalize (w.alloc (.cells (madeCells #[.int .u32 0] n) 59)).drewN q0 = w1 at *
  go_wp2_with fail
  go_loopw [7, 8] (fun s7 s8 wr => ∃ (k R Q : Nat) (O : List Nat), k ≤ N ∧ s8 = .int .i64 ((k : Int) - 1) ∧ (∃ A c, s7 = .slice A (limbs R).length c ∧ Arg wr A (limbs R).length c (limbs R) ∧ Fresh (w.heap.size + 1) A) ∧ Sl (R < b ∧ a / 2 ^ k = Q * b + R ∧ valOf O = Q * 2 ^ k ∧ O.length = n ∧ Out wr w.heap.size n O) ∧ Below w.heap.size w wr) (fun _ s8 _ => (intOf s8 + 1).toNat)
  case atStart =>
    refine ⟨N, 0, 0, List.replicate n 0, Nat.le_refl _, rfl, by rw [limbs_zero]; exact ⟨none, 0, rfl, ⟨U_nil _ _, Nat.le_refl _, by decide⟩, fun ad he => by cases he⟩, ⟨Nat.pos_of_ne_zero HB0.out, ?_, ?_, by simp, HO1.out⟩, hu1⟩
    · rw [Nat.div_eq_of_lt HBA.out]; simp
    · rw [valOf_zeros]; simp
  case round =>
    clear HO1
    obtain ⟨k, R, Q, O, hk, rfl, ⟨A7, c7, rfl, hR, hF⟩, HO, hB⟩ := hrel
    have hlw : w.heap.size + 1 ≤ wr.heap.size := HO.out.2.2.2.2.1.lt
    have HR : Sl _ := ⟨hR⟩
    have hrl : (limbs R).length ≤ 100000 := Nat.le_trans (limbs_mono (Nat.le_of_lt HO.out.1)) (by rw [HLB.out]; exact hm)
    clear hR
    rcases k with _ | i
    · have hd := div_mod_of (A := a) (B := b) (Q := Q) (R := R) (by have := HO.out.2.1; simpa using this) HO.out.1
      have hv : valOf O = Q := by have := HO.out.2.2.1; simpa using this
      have hU := HO.out.2.2.2.2.U HO.out.2.2.2.1
      have ht := rtrim_any _ n n O wr hU (by omega) (Nat.le_refl _) (by unfold maxLen; omega)
      rw [trimN_limbs hU.2, hv] at ht
      have HT : Sl _ := ⟨ht⟩
      have HD : Sl _ := ⟨hd⟩
      clear ht hU hv hd
      go_wp2_with fail
      refine HT.out.mono ?_; rintro e w' ⟨⟨A2, c2, rfl, g1, g2, g3⟩, hb⟩
      go_wp2_with fail
      go_ret2
      rw [← HD.out.1, ← HD.out.2]
      exact ⟨⟨A2, c2, A7, c7, rfl, ⟨g3, g1, g2⟩, HR.out.below hb⟩, hB.trans (hb.mono hB.size)⟩
    · have ei : (((i + 1 : Nat) : Int) - 1) = (i : Int) := by omega
      obtain ⟨q, hq⟩ : ∃ q, q = i / 32 := ⟨_, rfl⟩
      obtain ⟨r, hr⟩ : ∃ r, r = i % 32 := ⟨_, rfl⟩
      have hcb := bit_any A n c (limbs a) i q r wr (HA.out.below hB) (by omega) hq.symm hr.symm (by omega) (by omega)
      rw [valOf_limbs] at hcb
      have hb1 : a / 2 ^ i % 2 ≤ 1 := by omega
      have hds := dv_step HO.out.2.1 HO.out.1
      have hoh := or_high (l := O) HO.out.2.2.2.2.2 HO.out.2.2.1 (by rw [HO.out.2.2.2.1]; omega)
      rw [← hq, ← hr] at hoh
      have hdl := dbl_len HO.out.1 (by rw [HLB.out]; exact Nat.le_refl _) hb1
      have hdb := double_fresh A7 (limbs R).length c7 (limbs R) (a / 2 ^ i % 2) wr HR.out.1 (by omega) hb1
      rw [valOf_limbs] at hdb
      generalize hbe : a / 2 ^ i % 2 = be at *
      have HBE : Sl _ := ⟨hbe⟩
      have HCB : Sl _ := ⟨hcb⟩
      have HDS : Sl _ := ⟨hds⟩
      have HOH : Sl _ := ⟨hoh⟩
      have HDB : Sl _ := ⟨hdb⟩
      clear hbe hcb hds hoh hdb
      generalize 2 * R + be = X at *
      go_wp2_with fail
      refine HCB.out.mono ?_; rintro e w' ⟨rfl, rfl⟩
      go_wp2_with fail
      refine HDB.out.mono ?_; rintro e w2 ⟨⟨A2, c2, rfl, k1, k2, k3, k4⟩, hb2⟩
      have hF2 : Fresh (w.heap.size + 1) A2 := k4.mono hlw
      have hlw2 : w.heap.size + 1 ≤ w2.heap.size := Nat.le_trans hlw hb2.size
      have HX : Sl _ := ⟨(⟨k3, k1, k2⟩ : Arg w2 A2 (limbs X).length c2 (limbs X))⟩
      have hB2 := hB.trans (hb2.mono hB.size)
      have HO2 : Sl _ := ⟨HO.out.2.2.2.2.below hb2⟩
      have hor := order_any A2 B (limbs X).length m c2 d (limbs X) (limbs b) w2 HX.out.1 (HB.out.below hB2) (by omega) (by omega)
      rw [valOf_limbs, valOf_limbs] at hor
      by_cases hXb : X < b
      · rw [cmpN_lt hXb] at hor
        have HOR : Sl _ := ⟨hor⟩
        have HXB : Sl _ := ⟨hXb⟩
        clear hor hXb k1 k2 k3 k4
        go_wp2_with fail
        refine HOR.out.mono ?_; rintro e w' ⟨rfl, rfl⟩
        go_wp2_with fail
        refine ⟨⟨i, X, 2 * Q, O, by omega, by first | rfl | exact int_eq (by omega), ⟨A2, c2, rfl, HX.out, hF2⟩, ⟨HXB.out, HDS.out.1 HXB.out, ?_, HO.out.2.2.2.1, HO2.out⟩, hB2⟩, by simp [intOf]; try omega⟩
        rw [HO.out.2.2.1, Nat.pow_succ, Nat.mul_comm 2 Q, Nat.mul_assoc, Nat.mul_comm 2]
      · have hc : 0 ≤ cmpN X b := by unfold cmpN; rw [if_neg hXb]; split <;> decide
        generalize cmpN X b = cc at *
        have HOR : Sl _ := ⟨hor⟩
        have hds2 := HDS.out.2 (by omega)
        have HD2 : Sl _ := ⟨hds2⟩
        have hmi := rminus_fresh A2 B (limbs X).length m c2 d (limbs X) (limbs b) w2 HX.out.1 (HB.out.below hB2) (by omega) (by omega) (by rw [valOf_limbs, valOf_limbs]; omega)
        rw [valOf_limbs, valOf_limbs] at hmi
        have HMI : Sl _ := ⟨hmi⟩
        clear hor hds2 hmi k1 k2 k3 k4
        go_wp2_with fail
        refine HOR.out.mono ?_; rintro e w' ⟨rfl, rfl⟩
        go_wp2_with fail
        refine HMI.out.mono ?_; rintro e w3 ⟨⟨A3, c3, rfl, k1, k2, k3, k4⟩, hb3⟩
        have hF3 : Fresh (w.heap.size + 1) A3 := k4.mono hlw2
        have HY : Sl _ := ⟨(⟨k3, k1, k2⟩ : Arg w3 A3 (limbs (X - b)).length c3 (limbs (X - b)))⟩
        have hB3 := hB2.trans (hb3.mono hB2.size)
        have HO3 : Sl _ := ⟨HO2.out.below hb3⟩
        have hq5 : q < n := by omega
        have hq6 : (q : Int) < n := by omega
        have hc0 := HO3.out.cellAt (i := q) hq5
        have hf0 := HO3.out.1.frozen q
        have e0 : lim O q = O[q]?.getD 0 := rfl
        rw [← e0] at hc0
        have hlo := lim_lt HO3.out.2 q
        have hr32 : r < 32 := by omega
        have hsh := sh_or1 (lim O q) r hlo hr32
        have HSH : Sl _ := ⟨hsh⟩
        generalize lim O q = z at *
        have hw1 : IntKind.i64.wrap (i : Int) = (i : Int) := by rw [IntKind.wrap_i64]; omega
        have hw2 : IntKind.i64.wrap (q : Int) = (q : Int) := by rw [IntKind.wrap_i64]; omega
        have hw3 : IntKind.i64.wrap (r : Int) = (r : Int) := by rw [IntKind.wrap_i64]; omega
        have hdq : (i : Int).tdiv 32 = q := by rw [Int.tdiv_eq_ediv_of_nonneg (by omega)]; omega
        have hdr : (i : Int).tmod 32 = r := by rw [Int.tmod_eq_emod_of_nonneg (by omega)]; omega
        have hdq2 : (i : Int) / 32 = q := by omega
        have hdr2 : (i : Int) % 32 = r := by omega
        clear k1 k2 k3 k4 hb3 hb2 hsh hlo e0 hq hr
        go_wp2_with fail
        go_region_with (fail)
        all_goals (
          go_wp2_with fail
          have hne : ∀ ad, A3 = some ad → ad.block ≠ w.heap.size := fun ad he => by have := hF3 ad he; omega
          refine ⟨⟨i, X - b, 2 * Q + 1, O.set q (z ||| 2 ^ r), by omega, by first | rfl | exact int_eq (by omega), ⟨A3, c3, rfl, ⟨(HY.out.1.put_ hne _ _).drewN 1, HY.out.2⟩, hF3⟩, ⟨HD2.out.2, HD2.out.1, HOH.out.1, by rw [List.length_set]; exact HO.out.2.2.2.1, ?_⟩, below_drewN (hB3.setCell (Nat.le_refl _) _) 1⟩, by simp [intOf]; try omega⟩
          exact (HO3.out.put HO.out.2.2.2.1 hq5 HSH.out.1 HOH.out.2).drewN 1)
end Go.Proofs.YtgjbaamhpapeeaaDoor
