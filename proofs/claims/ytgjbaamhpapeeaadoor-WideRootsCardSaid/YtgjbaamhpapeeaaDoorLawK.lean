/- The reference: Size, bit, double. -/
import Derived.Test.YtgjbaamhpapeeaaDoorLawH
namespace Go.Proofs.YtgjbaamhpapeeaaDoor
open Go.RowKit
set_option linter.unusedVariables false
set_option linter.unusedSimpArgs false

set_option maxHeartbeats 800000 in
set_option maxRecDepth 100000 in
/-- the reference's Size -/
theorem size_any (A : Option Addr) (n c a : Nat) (w : World) (ha : U w A n (limbs a)) (hn : n ≤ 1000000) :
    Calls Tryd.prog 75 #[.slice A n c] w fun e w' => e = .returned (.int .i64 (bitsN a)) ∧ ∃ q, w' = w.drewN q := by
  have hl := ha.len
  rcases n with _ | n
  · have e : a = 0 := limbs_nil_iff.1 (List.eq_nil_of_length_eq_zero hl)
    have e2 : bitsN a = 0 := by rw [e]; exact bitsN_zero
    rw [e2]
    clear e e2 hl ha
    go_enter Tryd.func75, Tryd.ntmps75
    go_wp2_with fail
    go_ret
    exact ⟨rfl, 0, rfl⟩
  · obtain ⟨ad, rfl, hb, hcell⟩ := ha.cell (k := n) (by omega)
    have h0 : lim (limbs a) n ≠ 0 := by
      have h := (limbs_norm a).2
      rw [List.getLast?_eq_getElem?, hl] at h
      simp only [Nat.add_sub_cancel] at h
      unfold lim
      rw [List.getElem?_eq_getElem (by omega)] at h ⊢
      simpa using h
    have hT : Sl (bitsN a = 32 * n + bitsN (lim (limbs a) n)) := ⟨by have := bitsN_top ha.2 hl h0; rwa [valOf_limbs] at this⟩
    have hlt := lim_lt ha.2 n
    have e0 : lim (limbs a) n = (limbs a)[n]?.getD 0 := rfl
    rw [← e0] at hcell
    generalize lim (limbs a) n = t at *
    have HLT : Sl _ := ⟨hlt⟩
    have HBA : Sl (bitsN a ≤ 32 * n + 32) := ⟨by
      have h1 : bitsN t ≤ 32 := bitsN_le_iff.2 (by rw [← LB_two]; exact hlt)
      have := hT.out
      omega⟩
    have g0 : (((n : Int) + 1) == 0) = false := by rw [beq_eq_false_iff_ne]; omega
    clear ha hl h0 hlt e0
    go_enter Tryd.func75, Tryd.ntmps75
    go_wp2_with fail
    go_quiet (fail)
    go_wp2_with fail
    go_loop [3, 4] (fun s3 s4 => ∃ k t : Nat, s3 = .int .i64 k ∧ s4 = .int .u32 t ∧ k + bitsN t = bitsN a ∧ t < 4294967296 ∧ k ≤ 32 * n + 32) (fun _ s4 => (intOf s4).toNat)
    case atStart => exact ⟨32 * n, t, by first | rfl | exact int_eq (by omega), by first | rfl | exact int_eq (by omega), hT.out.symm, HLT.out, by omega⟩
    case round =>
      obtain ⟨k, t, rfl, rfl, hkt, ht, hk⟩ := hrel
      have HKT : Sl _ := ⟨hkt⟩
      clear hkt
      rcases Nat.eq_zero_or_pos t with h0 | h0
      · subst h0
        have e : k = bitsN a := by have := HKT.out; rw [bitsN_zero] at this; omega
        have E : Sl _ := ⟨e⟩
        clear e
        go_wp2_with fail
        go_ret
        rw [E.out]
        exact ⟨rfl, _, rfl⟩
      · have hst := bitsN_half (t := t) (by omega)
        have HST : Sl _ := ⟨hst⟩
        have hpos : 0 < bitsN t := by omega
        have h0' : (0 : Int) < t := by omega
        clear hst
        go_wp2_with fail
        refine ⟨⟨k + 1, t / 2, by go_num, ?_, by have := HKT.out; have := HST.out; omega, by omega, ?_⟩, ?_⟩
        · exact int_eq (by omega)
        · have := HKT.out; have := HBA.out; omega
        · simp [intOf]; omega

theorem and1_u32 (x : Nat) (hx : x < 4294967296) : bits .and .u32 (x : Int) 1 = ((x % 2 : Nat) : Int) := by
  show IntKind.u32.wrap ((BitVec.ofInt 32 (x : Int) &&& BitVec.ofInt 32 1).toNat : Int) = _
  rw [BitVec.toNat_and, BitVec.ofInt_natCast, BitVec.toNat_ofNat, Nat.mod_eq_of_lt (by omega)]
  have e1 : (BitVec.ofInt 32 1).toNat = 1 := by decide
  rw [e1, Nat.and_one_is_mod, IntKind.wrap_u32]
  omega

set_option maxHeartbeats 400000 in
set_option maxRecDepth 100000 in
/-- the reference's bit -/
theorem bit_any (A : Option Addr) (n c : Nat) (l : List Nat) (i q r : Nat) (w : World) (ha : U w A n l) (hn : n ≤ 1000000) (hq : i / 32 = q) (hr : i % 32 = r) (hi : q < n) (hi2 : i ≤ 100000000) :
    Calls Tryd.prog 88 #[.slice A n c, .int .i64 i] w fun e w' => e = .returned (.int .u32 (valOf l / 2 ^ i % 2 : Nat)) ∧ w = w' := by
  obtain ⟨ad, rfl, hb, hcell⟩ := ha.cell (k := q) hi
  have hbit := lim_bit ha.2 i
  rw [hq, hr] at hbit
  have hlt := lim_lt ha.2 q
  have e0 : lim l q = l[q]?.getD 0 := rfl
  rw [← e0] at hcell
  have HBIT : Sl _ := ⟨hbit⟩
  generalize lim l q = x at *
  have HLT : Sl _ := ⟨hlt⟩
  have hq' : (i : Int) / 32 = q := by omega
  have hr' : (i : Int) % 32 = r := by omega
  have hr2 : r < 32 := by omega
  have hdq : (i : Int).tdiv 32 = q := by rw [Int.tdiv_eq_ediv_of_nonneg (by omega)]; exact hq'
  have hdr : (i : Int).tmod 32 = r := by rw [Int.tmod_eq_emod_of_nonneg (by omega)]; exact hr'
  clear ha hlt hq hr hbit e0
  go_enter Tryd.func88, Tryd.ntmps88
  go_wp2_with fail
  go_ret
  refine ⟨?_, rfl⟩
  rw [← HBIT.out]
  show Ending.returned (.int .u32 (bits .and .u32 ((x : Int) / 2 ^ r) 1)) = _
  have h1 : x / 2 ^ r < 4294967296 := by
    have := Nat.div_le_self x (2 ^ r)
    have := HLT.out
    unfold LB at this
    omega
  rw [← pow_cast, ← Int.natCast_ediv, and1_u32 _ h1]

theorem dbl_or (z x : Nat) (hz : z < LB) (hx : x ≤ 1) : bits .or .u32 ((z : Int) * 2 % 4294967296) (x : Int) = ((2 * z % LB + x : Nat) : Int) ∧ 2 * z % LB + x < LB := by
  have h1 : 2 * z % LB < LB := Nat.mod_lt _ LB_pos
  have h2 : 2 ∣ 2 * z % LB := by
    refine (Nat.dvd_mod_iff ?_).2 (Nat.dvd_mul_right _ _)
    rw [LB_two]; exact Nat.dvd_of_pow_dvd (by decide : 1 ≤ 32) (Nat.dvd_refl _)
  have e : ((z : Int) * 2 % 4294967296) = ((2 * z % LB : Nat) : Int) := by unfold LB; omega
  obtain ⟨k, hk⟩ := h2
  refine ⟨?_, by unfold LB at h1 ⊢; unfold LB at hk; omega⟩
  rw [e, or_u32 _ _ h1 (by unfold LB; omega), Nat.or_comm, or_add 1 x _ (by omega) (by rw [hk]; exact Nat.dvd_mul_right _ _), Nat.add_comm]

set_option maxHeartbeats 800000 in
set_option maxRecDepth 100000 in
/-- the reference's double -/
theorem double_any (A : Option Addr) (n c : Nat) (l : List Nat) (y : Nat) (w : World) (ha : U w A n l) (hn : n ≤ 1000000) (hy : y ≤ 1) :
    Calls Tryd.prog 100 #[.slice A n c, .int .u32 y] w fun e w' => Limbs (limbs (2 * valOf l + y)) e w' ∧ Below w.heap.size w w' := by
  have HA : Sl _ := ⟨ha⟩
  have HL : Sl _ := ⟨ha.len⟩
  clear ha
  have hmk := run_make_row' (P := Tryd.prog) 23 59 (.int .u32 0) 4 Tryd.underlying23 info32 rfl .i64 .i64 (n+1) (by omega) (by omega)
  simp only [Int.natCast_add, Int.natCast_one] at hmk
  go_enter Tryd.func100, Tryd.ntmps100
  go_wp2_with fail
  clear hmk
  go_loopw [1, 6] (fun s1 s6 wr => ∃ (i x : Nat) (o : List Nat), i ≤ n ∧ s1 = .int .u32 x ∧ s6 = .int .i64 i ∧ x ≤ 1 ∧ Sl (o.length = i ∧ valOf o + x * LB ^ i = 2 * valOf (l.take i) + y ∧ Out wr w.heap.size (n+1) o) ∧ Below w.heap.size w wr) (fun _ s6 _ => n - (intOf s6).toNat)
  case atStart => exact ⟨0, y, [], Nat.zero_le _, rfl, rfl, hy, ⟨rfl, by simp [valOf], Out.made _ _⟩, (Below.refl _ _).alloc (Nat.le_refl _) _⟩
  case round =>
    obtain ⟨i, x, o, hi, rfl, rfl, hx, HO, hB⟩ := hrel
    by_cases hin : i < n
    · obtain ⟨ad, rfl, hbd, hca0⟩ := HA.out.cell (k := i) hin
      have hca : wr.cell? (ad.add i) = some (.int .u32 (l[i]?.getD 0 : Nat)) := (hB.cell (by rw [block_of_add]; exact hbd)).trans hca0
      clear hca0
      have hlt := lim_lt HA.out.2 i
      have e0 : lim l i = l[i]?.getD 0 := rfl
      rw [← e0] at hca
      have hs := dbl_step HO.out.2.1 (lim l i)
      rw [← valOf_take_lim] at hs
      generalize lim l i = z at *
      have HS : Sl _ := ⟨hs⟩
      have HZ : Sl _ := ⟨hlt⟩
      have hc0 := HO.out.2.2.1.cell (i := i) (by omega)
      have hf0 := HO.out.2.2.1.frozen i
      have hca2 : ∀ u, (wr.setCell ⟨w.heap.size, i, none⟩ u).cell? (ad.add i) = some (.int .u32 z) := fun u => by
        refine (World.cell?_setCell_other _ _ _ _ (fun he => ?_)).trans hca
        have := congrArg Addr.block he
        rw [block_of_add] at this
        simp at this
        omega
      clear hs hlt e0
      go_wp2_with fail
      have hz := HZ.out
      have hor := dbl_or z x hz hx
      refine ⟨⟨i + 1, z / 2147483648, o ++ [2 * z % LB + x], hin, int_eq (by omega), by go_num, by unfold LB at hz; omega, ⟨by rw [List.length_append, HO.out.1]; rfl, ?_, HO.out.2.2.setI HO.out.1 hor.1 hor.2⟩, hB.setCell (Nat.le_refl _) _⟩, by simp [intOf]; omega⟩
      rw [valOf_snoc, HO.out.1]
      exact HS.out
    · obtain rfl : i = n := by omega
      have hc0 := HO.out.2.2.1.cell (i := i) (by omega)
      have hf0 := HO.out.2.2.1.frozen i
      have hx' : (x : Int) ≤ 1 := by omega
      have hU : U (wr.setCell ⟨w.heap.size, i, none⟩ (.int .u32 x)) (some ⟨w.heap.size, 0, none⟩) (i+1) (o ++ [x]) :=
        (HO.out.2.2.setI HO.out.1 rfl (by unfold LB; omega)).U (by rw [List.length_append, HO.out.1]; rfl)
      have ht := rtrim_any _ _ (i+1) _ _ hU (by omega) (Nat.le_refl _) (by unfold maxLen; omega)
      have e : trimN (o ++ [x]) = limbs (2 * valOf l + y) := by
        rw [trimN_limbs hU.2, valOf_snoc, HO.out.1]
        have := HO.out.2.1
        rw [List.take_of_length_le (by rw [HL.out]; exact Nat.le_refl _)] at this
        rw [Nat.mul_comm, this]
      rw [e] at ht
      have HT : Sl _ := ⟨ht⟩
      clear ht e hU
      go_wp2_with fail
      refine HT.out.mono ?_; rintro e w' ⟨⟨A2, c2, rfl, g1, g2, g3⟩, hb⟩
      go_wp2_with fail
      go_ret
      exact ⟨⟨A2, c2, rfl, g1, g2, g3⟩, (hB.setCell (Nat.le_refl _) _).trans (hb.mono (hB.setCell (Nat.le_refl _) _).size)⟩
end Go.Proofs.YtgjbaamhpapeeaaDoor
