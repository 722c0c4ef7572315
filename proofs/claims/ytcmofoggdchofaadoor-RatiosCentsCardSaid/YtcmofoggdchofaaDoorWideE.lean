/- Package wide, fifth part: shifts. -/
import Derived.Test.YtcmofoggdchofaaDoorWideD
namespace Go.Proofs.YtcmofoggdchofaaDoor
set_option linter.unusedSimpArgs false
open Go.RowKit
set_option linter.unusedVariables false

theorem pow_cast (r : Nat) : ((2 ^ r : Nat) : Int) = (2 : Int) ^ r := by simp
theorem ofInt_u32 (a : Nat) (ha : a < LB) : (BitVec.ofInt 32 (a : Int)).toNat = a := by
  rw [BitVec.ofInt_natCast, BitVec.toNat_ofNat]; exact Nat.mod_eq_of_lt ha
theorem or_u32 (a b : Nat) (ha : a < LB) (hb : b < LB) : bits .or .u32 (a : Int) (b : Int) = ((a ||| b : Nat) : Int) := by
  have hx : a ||| b < LB := or_lt_LB ha hb
  show IntKind.u32.wrap ((BitVec.ofInt 32 (a : Int) ||| BitVec.ofInt 32 (b : Int)).toNat : Int) = _
  rw [BitVec.toNat_or, ofInt_u32 a ha, ofInt_u32 b hb, IntKind.wrap_u32]
  unfold LB at hx; omega

set_option maxHeartbeats 800000 in
set_option maxRecDepth 100000 in
theorem up_any (A : Option Addr) (n c a : Nat) (k q r : Nat) (w : World) (ha : U w A n (limbs a)) (hn : n ≤ 4294967296) (hk : k ≤ 20000) (h0 : 0 < n) (hq : k / 32 = q) (hr : k % 32 = r) :
    Calls Tryd.prog 96 #[.slice A n c, .int .i64 k] w fun e w' => Limbs (limbs (a * 2 ^ k)) e w' ∧ Below w.heap.size w w' := by
  have hla := ha.len
  have HA := Lib.hid hla
  clear hla
  have g0 : ((n : Int) == 0) = false := by rw [beq_eq_false_iff_ne]; omega
  have hmk := run_make_row' (P := Tryd.prog) 113 125 (.int .u32 0) 4 Tryd.underlying113 info32 rfl .i64 .i64 (n+q+1) (by omega) (by omega)
  simp only [Int.natCast_add, Int.natCast_one] at hmk
  have HK := Lib.hid (show k = 32 * q + r by omega)
  have hq' : (k : Int) / 32 = q := by omega
  have hr' : (k : Int) % 32 = r := by omega
  have hq2 : q ≤ 625 := by omega
  have hr2 : r < 32 := by omega
  clear hq hr
  go_enter Tryd.func96, Tryd.ntmps96
  go_wp2
  clear hmk hq' hr'
  go_loopw [27] (fun s27 wr => ∃ (i : Nat) (O : List Nat), i ≤ n ∧ s27 = .int .i64 i ∧ UpI (limbs a) n q r i O ∧ Out wr w.heap.size (n+q+1) O ∧ Below w.heap.size w wr) (fun s27 _ => n - (intOf s27).toNat)
  case atStart => exact ⟨0, _, Nat.zero_le _, rfl, UpI.start _ _ _ _, Out.zeros _ _, (Below.refl _ _).alloc (Nat.le_refl _) _⟩
  case round =>
    obtain ⟨i, O, hi, rfl, hI, hO, hB⟩ := hrel
    by_cases hin : i < n
    · obtain ⟨ad, rfl, hbd, hca⟩ := (ha.below hB).cell (k := i) hin
      have hx : (((limbs a)[i]?.getD 0 : Nat) : Int) < 4294967296 := by have := ha.lt i; unfold LB at this; omega
      have hc0 := hO.cellAt (i := i + q) (by omega)
      have hf0 := hO.1.frozen (i + q)
      have ho : ((O[i+q]?.getD 0 : Nat) : Int) < 4294967296 := by have := hO.limb (i+q); unfold LB at this; omega
      have hc1 : ∀ v, (wr.setCell ⟨w.heap.size, i + q, none⟩ v).cell? ⟨w.heap.size, i + q + 1, none⟩ = some (.int .u32 (O[i+q+1]?.getD 0 : Nat)) := fun v => by
        have := (hO.1.set (i+q) v).cell (i := i + q + 1) (by omega)
        rw [this, if_neg (by omega)]; rfl
      have hf1 : ∀ v, (wr.setCell ⟨w.heap.size, i + q, none⟩ v).frozen? ⟨w.heap.size, i + q + 1, none⟩ = false := fun v => (hO.1.set (i+q) v).frozen _
      go_wp2
      have hlx : (limbs a)[i]?.getD 0 < LB := by unfold LB; omega
      have hst := hI.step hin HA.out hr2 hlx
      have hs := sh_lt hlx hr2
      have hw : IntKind.u64.wrap (((limbs a)[i]?.getD 0 : Nat) * 2 ^ r : Int) = (((limbs a)[i]?.getD 0 * 2 ^ r : Nat) : Int) := by
        rw [← pow_cast, ← Int.natCast_mul, wrap_u64 _ (by omega) (by omega)]
      have hor := or_u32 (O[i+q]?.getD 0) (((limbs a)[i]?.getD 0 * 2 ^ r) % LB) (hO.limb _) (Nat.mod_lt _ LB_pos)
      rw [hw]
      refine ⟨⟨i + 1, _, hin, by go_num, hst, (hO.put hI.len (i := i + q) (by omega) ?_ (or_lt_LB (hO.limb _) (Nat.mod_lt _ LB_pos))).put (by simpa using hI.len) (by omega) ?_ ?_, (hB.setCell (Nat.le_refl _) _).setCell (Nat.le_refl _) _⟩, by simp [intOf]; omega⟩
      · rw [← hor]; rfl
      · unfold LB; omega
      · unfold LB; omega
    · obtain rfl : i = n := by omega
      have hU := hO.U hI.len
      go_wp2_with (refine (trim_any _ _ _ _ _ hU (Nat.le_refl _) (by unfold maxLen; omega)).mono ?_; rintro e w' ⟨⟨A', c', rfl, h1, h2, h3⟩, rfl⟩)
      go_ret
      have e : trimN O = limbs (a * 2 ^ k) := by
        rw [trimN_limbs hU.2, hI.val, List.take_of_length_le (by rw [HA.out]; omega), valOf_limbs, HK.out]
      rw [← e]
      exact ⟨⟨A', c', rfl, h1, h2, h3⟩, hB⟩

theorem or_u64 (a b : Nat) (ha : a < 18446744073709551616) (hb : b < 18446744073709551616) : bits .or .u64 (a : Int) (b : Int) = ((a ||| b : Nat) : Int) := by
  have hx : a ||| b < 2 ^ 64 := Nat.or_lt_two_pow (by omega) (by omega)
  have e : ∀ x : Nat, x < 18446744073709551616 → (BitVec.ofInt 64 (x : Int)).toNat = x := fun x h => by
    rw [BitVec.ofInt_natCast, BitVec.toNat_ofNat]; exact Nat.mod_eq_of_lt h
  show IntKind.u64.wrap ((BitVec.ofInt 64 (a : Int) ||| BitVec.ofInt 64 (b : Int)).toNat : Int) = _
  rw [BitVec.toNat_or, e a ha, e b hb, IntKind.wrap_u64]
  omega
theorem down_v0 (x r : Nat) (hx : x < LB) : (IntKind.u64.wrap (x : Int) / 2 ^ r % 4294967296 : Int) = (((x + LB * 0) / 2 ^ r % LB : Nat) : Int) := by
  unfold LB at *
  rw [wrap_u64 _ (by omega) (by omega), Nat.mul_zero, Nat.add_zero]
  simp
theorem down_v1 (x y r : Nat) (hx : x < LB) (hy : y < LB) :
    (bits .or .u64 (IntKind.u64.wrap (x : Int)) (IntKind.u64.wrap (IntKind.u64.wrap (y : Int) * 4294967296)) / 2 ^ r % 4294967296 : Int) = (((x + LB * y) / 2 ^ r % LB : Nat) : Int) := by
  have h1 : y * 4294967296 < 18446744073709551616 := by unfold LB at hy; omega
  have e0 : (y : Int) * 4294967296 = ((y * 4294967296 : Nat) : Int) := by omega
  have hx' := hx
  unfold LB at hx hy
  rw [wrap_u64 (x : Int) (by omega) (by omega), wrap_u64 (y : Int) (by omega) (by omega), e0, wrap_u64 _ (by omega) (by omega), or_u64 _ _ (by omega) h1,
    or_add 32 x _ (by rw [← LB_two]; exact hx') (by rw [← LB_two]; exact Nat.dvd_mul_left _ _), Nat.mul_comm y]
  unfold LB
  simp

set_option maxHeartbeats 800000 in
set_option maxRecDepth 100000 in
theorem down_some (A : Option Addr) (n c a : Nat) (k q r : Nat) (w : World) (ha : U w A n (limbs a)) (hn : n ≤ 4294967296) (hk : k ≤ 20000) (hq : k / 32 = q) (hr : k % 32 = r) (hqn : q < n) :
    Calls Tryd.prog 95 #[.slice A n c, .int .i64 k] w fun e w' => Limbs (limbs (a / 2 ^ k)) e w' ∧ Below w.heap.size w w' := by
  have hla := ha.len
  have HA := Lib.hid hla
  clear hla
  have g0 : ¬ (q : Int) ≥ (n : Int) := by omega
  obtain ⟨N, hN⟩ : ∃ N, N = n - q := ⟨_, rfl⟩
  have hmk := run_make_row' (P := Tryd.prog) 113 125 (.int .u32 0) 4 Tryd.underlying113 info32 rfl .i64 .i64 N (by omega) (by omega)
  have hNi : (n : Int) - (q : Int) = N := by omega
  have HN := Lib.hid (show n = q + N by omega)
  have HK := Lib.hid (show k = 32 * q + r by omega)
  have hq' : (k : Int) / 32 = q := by omega
  have hr' : (k : Int) % 32 = r := by omega
  have hq2 : q ≤ 625 := by omega
  have hr2 : r < 32 := by omega
  have hN1 : N ≤ n := by omega
  clear hq hr hN
  go_enter Tryd.func95, Tryd.ntmps95
  go_wp2
  clear hmk hq' hr' hNi
  go_loopw [26] (fun s26 wr => ∃ (i : Nat) (O : List Nat), i ≤ N ∧ s26 = .int .i64 i ∧ O = (shr r ((limbs a).drop q)).take i ∧ O.length = i ∧ Out wr w.heap.size N O ∧ Below w.heap.size w wr) (fun s26 _ => N - (intOf s26).toNat)
  case atStart => exact ⟨0, _, Nat.zero_le _, rfl, by simp, rfl, Out.made _ _, (Below.refl _ _).alloc (Nat.le_refl _) _⟩
  case round =>
    obtain ⟨i, O, hi, rfl, hsh, hol, hO, hB⟩ := hrel
    have HS := Lib.hid hsh
    have HL := Lib.hid hol
    clear hsh hol
    by_cases hin : i < N
    · have hn3 : (i : Int) + q < n := by have := HN.out; omega
      obtain ⟨ad, rfl, hbd, hca⟩ := (ha.below hB).cell (k := i + q) (by omega)
      have hx : (((limbs a)[i+q]?.getD 0 : Nat) : Int) < 4294967296 := by have := ha.lt (i+q); unfold LB at this; omega
      have hc0 := hO.1.cell (i := i) (by omega)
      have hf0 := hO.1.frozen i
      have hidx : 0 ≤ (i : Int) + q := by omega
      by_cases him : i + q + 1 < n
      · obtain ⟨bd, hbe, hbd', hcb⟩ := (ha.below hB).cell (k := i + q + 1) him
        have hbe' : ad = bd := by injection hbe
        subst hbe'
        have hy : (((limbs a)[i+q+1]?.getD 0 : Nat) : Int) < 4294967296 := by have := ha.lt (i+q+1); unfold LB at this; omega
        clear hbe
        have HX : Sl _ := ⟨hx⟩
        have HY : Sl _ := ⟨hy⟩
        clear hx hy
        rw [add_succ] at hcb
        go_wp2
        have hx := HX.out
        have hy := HY.out
        have hlx : (limbs a)[i+q]?.getD 0 < LB := by unfold LB; omega
        have hly : (limbs a)[i+q+1]?.getD 0 < LB := by unfold LB; omega
        have hget := shr_get r ((limbs a).drop q) i (by rw [List.length_drop, HA.out]; omega)
        simp only [List.getElem?_drop] at hget
        rw [Nat.add_comm q i, show q + (i + 1) = i + q + 1 by omega] at hget
        refine ⟨⟨i + 1, _, hin, by go_num, ?_, ?_, hO.setI HL.out (down_v1 _ _ r hlx hly) (Nat.mod_lt _ LB_pos), hB.setCell (Nat.le_refl _) _⟩, by simp [intOf]; omega⟩
        · rw [HS.out, take_snoc_get hget]
        · rw [List.length_append, HL.out]; rfl
      · have him' : decide (i + q + 1 < n) = false := by simp; omega
        have HX : Sl _ := ⟨hx⟩
        clear hx
        go_wp2
        have hx := HX.out
        have hlx : (limbs a)[i+q]?.getD 0 < LB := by unfold LB; omega
        have hget := shr_get r ((limbs a).drop q) i (by rw [List.length_drop, HA.out]; omega)
        simp only [List.getElem?_drop] at hget
        rw [Nat.add_comm q i, show q + (i + 1) = i + q + 1 by omega, List.getElem?_eq_none (i := i + q + 1) (by rw [HA.out]; omega)] at hget
        refine ⟨⟨i + 1, _, hin, by go_num, ?_, ?_, hO.setI HL.out (down_v0 _ r hlx) (Nat.mod_lt _ LB_pos), hB.setCell (Nat.le_refl _) _⟩, by simp [intOf]; omega⟩
        · rw [HS.out, take_snoc_get hget]; simp
        · rw [List.length_append, HL.out]; rfl
    · obtain rfl : i = N := by omega
      have hU := hO.U HL.out
      go_wp2_with (refine (trim_any _ _ _ _ _ hU (Nat.le_refl _) (by unfold maxLen; omega)).mono ?_; rintro e w' ⟨⟨A', c', rfl, h1, h2, h3⟩, rfl⟩)
      go_ret
      have e : trimN O = limbs (a / 2 ^ k) := by
        rw [trimN_limbs hU.2, HS.out, List.take_of_length_le (by rw [shr_len, List.length_drop, HA.out]; have := HN.out; omega), down_val _ _ _ (by omega), ← HK.out]
      rw [← e]
      exact ⟨⟨A', c', rfl, h1, h2, h3⟩, hB⟩

set_option maxHeartbeats 400000 in
set_option maxRecDepth 100000 in
theorem down_none (A : Option Addr) (n c a : Nat) (k q : Nat) (w : World) (ha : U w A n (limbs a)) (hn : n ≤ 4294967296) (hk : k ≤ 20000) (hq : k / 32 = q) (hqn : n ≤ q) :
    Calls Tryd.prog 95 #[.slice A n c, .int .i64 k] w fun e w' => Limbs (limbs (a / 2 ^ k)) e w' ∧ Below w.heap.size w w' := by
  have hla := ha.len
  have e : a / 2 ^ k = 0 := by
    refine Nat.div_eq_of_lt (Nat.lt_of_lt_of_le (lt_limbs_len a) ?_)
    rw [hla, LB_pow]
    exact Nat.pow_le_pow_right (by decide) (by omega)
  rw [e, limbs_zero]
  have hq' : (k : Int) / 32 = q := by omega
  have g1 : (n : Int) ≤ q := by omega
  clear hla e hq
  go_enter Tryd.func95, Tryd.ntmps95
  go_wp2
  go_ret
  exact ⟨⟨none, 0, rfl, by simp, by decide, U_nil _ _⟩, Below.refl _ _⟩
theorem down_any (A : Option Addr) (n c a : Nat) (k : Nat) (w : World) (ha : U w A n (limbs a)) (hn : n ≤ 4294967296) (hk : k ≤ 20000) :
    Calls Tryd.prog 95 #[.slice A n c, .int .i64 k] w fun e w' => Limbs (limbs (a / 2 ^ k)) e w' ∧ Below w.heap.size w w' := by
  rcases Nat.lt_or_ge (k / 32) n with h | h
  · exact down_some A n c a k _ _ w ha hn hk rfl rfl h
  · exact down_none A n c a k _ w ha hn hk rfl h
set_option maxHeartbeats 400000 in
theorem up_zero (A : Option Addr) (c a : Nat) (k : Nat) (w : World) (ha : U w A 0 (limbs a)) :
    Calls Tryd.prog 96 #[.slice A 0 c, .int .i64 k] w fun e w' => Limbs (limbs (a * 2 ^ k)) e w' ∧ Below w.heap.size w w' := by
  have e : a = 0 := limbs_nil_iff.1 (List.eq_nil_of_length_eq_zero ha.len)
  subst e
  rw [Nat.zero_mul, limbs_zero]
  go_enter Tryd.func96, Tryd.ntmps96
  go_wp2
  go_ret
  exact ⟨⟨none, 0, rfl, by simp, by decide, U_nil _ _⟩, Below.refl _ _⟩
theorem up_all (A : Option Addr) (n c a : Nat) (k : Nat) (w : World) (ha : U w A n (limbs a)) (hn : n ≤ 4294967296) (hk : k ≤ 20000) :
    Calls Tryd.prog 96 #[.slice A n c, .int .i64 k] w fun e w' => Limbs (limbs (a * 2 ^ k)) e w' ∧ Below w.heap.size w w' := by
  rcases Nat.eq_zero_or_pos n with h | h
  · subst h; exact up_zero A c a k w ha
  · exact up_any A n c a k _ _ w ha hn hk h rfl rfl
end Go.Proofs.YtcmofoggdchofaaDoor
