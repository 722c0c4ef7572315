/- Package wide, seventh part: minus, short, bits. -/
import Derived.Test.YtgjbaamhpapeeaaGreatDoorWideF
import Derived.Test.YtgjbaamhpapeeaaGreatDoorNatM
import Derived.Test.YtgjbaamhpapeeaaGreatDoorShelf
namespace Go.Proofs.YtgjbaamhpapeeaaGreatDoor
set_option linter.unusedSimpArgs false
open Go.RowKit
set_option linter.unusedVariables false

theorem owe_eq (z : Int) (o : Nat) (h : (o : Int) = z % 18446744073709551616 / 9223372036854775808) (ho : o ≤ 1) : wrap64 (IntKind.u64.wrap z / 9223372036854775808) = o := by
  rw [IntKind.wrap_u64, ← h]; exact IntWalk.wrap64_in _ (by omega)
set_option maxHeartbeats 800000 in
set_option maxRecDepth 100000 in
theorem minus_any (A B : Option Addr) (n m c d a b : Nat) (w : World) (ha : U w A n (limbs a)) (hb : U w B m (limbs b)) (hn : n ≤ 4294967296) (hm : m ≤ n) (hab : b ≤ a) :
    Calls Tryz.prog 66 #[.slice A n c, .slice B m d] w fun e w' => Limbs (limbs (a - b)) e w' ∧ Below w.heap.size w w' := by
  have hla := ha.len
  have hlb := hb.len
  have HA : Sl _ := ⟨hla⟩
  have HB : Sl _ := ⟨hlb⟩
  clear hla hlb
  have hmk := run_make_row' (P := Tryz.prog) 58 49 (.int .u32 0) 4 Tryz.underlying58 info32 rfl .i64 .i64 n (by omega) (by omega)
  go_enter Tryz.func66, Tryz.ntmps66
  go_wp2
  clear hmk
  go_loopw [6, 14] (fun s6 s14 wr => ∃ (i o : Nat) (V : List Nat), i ≤ n ∧ s6 = .int .i64 o ∧ s14 = .int .i64 i ∧ V.length = i ∧ o ≤ 1 ∧ valOf V + valOf ((limbs b).take i) = valOf ((limbs a).take i) + o * LB ^ i ∧ Out wr w.heap.size n V ∧ Below w.heap.size w wr) (fun _ s14 _ => n - (intOf s14).toNat)
  case atStart => exact ⟨0, 0, [], Nat.zero_le _, rfl, rfl, rfl, by omega, by simp [valOf], Out.made _ _, (Below.refl _ _).alloc (Nat.le_refl _) _⟩
  case round =>
    obtain ⟨i, o, V, hi, rfl, rfl, hol, ho, hval, hO, hB⟩ := hrel
    have HV : Sl _ := ⟨hval⟩
    have HL : Sl _ := ⟨hol⟩
    clear hval hol
    by_cases hin : i < n
    · obtain ⟨ad, rfl, hbd, hca⟩ := (ha.below hB).cell (k := i) hin
      have hx : (((limbs a)[i]?.getD 0 : Nat) : Int) < 4294967296 := by have := ha.lt i; unfold LB at this; omega
      have ho2 : (o : Int) ≤ 1 := by omega
      have hc0 := hO.1.cell (i := i) (by omega)
      have hf0 := hO.1.frozen i
      have hlx : (limbs a)[i]?.getD 0 < LB := by unfold LB; omega
      by_cases him : i < m
      · obtain ⟨bd, rfl, hbd', hcb⟩ := (hb.below hB).cell (k := i) him
        have hy : (((limbs b)[i]?.getD 0 : Nat) : Int) < 4294967296 := by have := hb.lt i; unfold LB at this; omega
        go_wp2
        have hly : (limbs b)[i]?.getD 0 < LB := by unfold LB; omega
        obtain ⟨cc, o', k1, k2, k3, k4, k5⟩ := minus_limb _ _ o hlx hly ho
        have hs := minus_step HV.out ho hlx hly k1 o' k2 k3
        refine ⟨⟨i + 1, o', V ++ [cc], hin, int_eq (owe_eq _ _ k5 k2), by go_num, by rw [List.length_append, HL.out]; rfl, k2, ?_, hO.setI HL.out k4.symm k1, hB.setCell (Nat.le_refl _) _⟩, by simp [intOf]; omega⟩
        rw [valOf_snoc, HL.out, valOf_take_succ (limbs a) i (by rw [HA.out]; exact hin), valOf_take_succ (limbs b) i (by rw [HB.out]; exact him)]
        exact hs
      · have him' : decide (i < m) = false := by simp; omega
        go_wp2
        obtain ⟨cc, o', k1, k2, k3, k4, k5⟩ := minus_limb _ 0 o hlx LB_pos ho
        have hs := minus_step (y := 0) HV.out ho hlx LB_pos k1 o' k2 k3
        simp only [Nat.mul_zero, Nat.add_zero] at hs
        simp only [Int.natCast_zero, Int.sub_zero] at k4 k5
        refine ⟨⟨i + 1, o', V ++ [cc], hin, int_eq (owe_eq _ _ k5 k2), by go_num, by rw [List.length_append, HL.out]; rfl, k2, ?_, hO.setI HL.out k4.symm k1, hB.setCell (Nat.le_refl _) _⟩, by simp [intOf]; omega⟩
        have e1 : (limbs b).take (i+1) = limbs b := List.take_of_length_le (by rw [HB.out]; omega)
        have e2 : (limbs b).take i = limbs b := List.take_of_length_le (by rw [HB.out]; omega)
        rw [e2] at hs
        rw [valOf_snoc, HL.out, valOf_take_succ (limbs a) i (by rw [HA.out]; exact hin), e1]
        exact hs
    · obtain rfl : i = n := by omega
      have hU := hO.U HL.out
      go_wp2_with (refine (trim_any _ _ _ _ _ hU (Nat.le_refl _) (by unfold maxLen; omega)).mono ?_; rintro e w' ⟨⟨A', c', rfl, h1, h2, h3⟩, rfl⟩)
      go_ret
      have e : trimN V = limbs (a - b) := by
        rw [trimN_limbs hU.2]
        have h4 := HV.out
        rw [List.take_of_length_le (l := limbs a) (by rw [HA.out]; omega), List.take_of_length_le (l := limbs b) (by rw [HB.out]; omega), valOf_limbs, valOf_limbs] at h4
        have h5 := valOf_lt V hU.2
        rw [HL.out] at h5
        have h6 : o = 0 := by
          rcases Nat.eq_zero_or_pos o with h | h
          · exact h
          · have : LB ^ i ≤ o * LB ^ i := Nat.le_mul_of_pos_left _ h
            omega
        subst h6
        congr 1; omega
      rw [← e]
      exact ⟨⟨A', c', rfl, h1, h2, h3⟩, hB⟩

theorem short_store (z d : Nat) (h : z / d < LB) : IntKind.u64.wrap ((z : Int) / (d : Int)) % 4294967296 = ((z / d : Nat) : Int) := by
  have e : (z : Int) / d = ((z / d : Nat) : Int) := by simp
  rw [e]
  generalize z / d = y at *
  unfold LB at h
  rw [wrap_u64 _ (by omega) (by omega)]; omega
theorem set_zero (k v : Nat) (q : List Nat) : (List.replicate (k + 1) 0 ++ q).set k v = List.replicate k 0 ++ v :: q := by
  rw [List.replicate_succ', List.append_assoc, List.set_append_right _ _ (by simp)]
  simp
theorem bitLenAux_eq (f x : Nat) (h : x < 2 ^ f) : Lib.bitLenAux f x = bitsN x := by
  induction f generalizing x with
  | zero => have : x = 0 := by simpa using h
            subst this; simp [Lib.bitLenAux, bitsN]
  | succ f ih =>
    unfold Lib.bitLenAux
    split
    · rename_i h0; subst h0; rw [bitsN_zero]
    · rename_i h0
      rw [ih (x / 2) (by rw [Nat.pow_succ] at h; omega)]
      unfold bitsN
      rw [if_neg h0]
      by_cases h1 : x / 2 = 0
      · have : x = 1 := by omega
        subst this; decide
      · rw [if_neg h1, Nat.log2_def x, if_pos (by omega)]; omega
theorem bitLen_eq (x : Nat) (h : x < 18446744073709551616) : Lib.bitLen x = bitsN x := bitLenAux_eq 64 x h
theorem bitLen_le (x k : Nat) (h : x < 2 ^ k) (hk : k ≤ 64 := by decide) : Lib.bitLen x ≤ k := by
  rw [bitLen_eq x (Nat.lt_of_lt_of_le h (Nat.pow_le_pow_right (by decide) hk))]; exact bitsN_le_iff.2 h
/-- the bits of a number are those of its highest limb, and 32 for each of the others -/
theorem limbs_bits (a n : Nat) (h : (limbs a).length = n + 1) : (bitsN a : Int) = 32 * ((n : Int) + 1) - (32 - (Lib.bitLen ((limbs a)[n]?.getD 0) : Int)) := by
  have hx : (limbs a)[n]?.getD 0 < LB := by
    rw [List.getElem?_eq_getElem (by omega)]; exact limbs_lt a _ (List.getElem_mem _)
  have hs := valOf_split (limbs a) n (by omega)
  rw [valOf_limbs, List.drop_of_length_le (by omega)] at hs
  have hlow : valOf ((limbs a).take n) < LB ^ n := by
    have := valOf_lt ((limbs a).take n) (fun x hx => limbs_lt a x (List.mem_of_mem_take hx))
    rwa [List.length_take, Nat.min_eq_left (by omega)] at this
  have hne : (limbs a)[n]?.getD 0 ≠ 0 := by
    have := (limbs_norm a).2
    rw [List.getLast?_eq_getElem?, h, Nat.add_sub_cancel, List.getElem?_eq_getElem (by omega)] at this
    rw [List.getElem?_eq_getElem (by omega)]
    simpa using this
  generalize (limbs a)[n]?.getD 0 = x at *
  have hx64 : x < 18446744073709551616 := by unfold LB at hx; omega
  rw [bitLen_eq x hx64]
  have h1 := bitsN_le hne
  have h2 := bitsN_lt x
  have hb : 0 < bitsN x := by
    rcases Nat.eq_zero_or_pos (bitsN x) with h0 | h0
    · rw [h0] at h2; omega
    · exact h0
  simp only [valOf, Nat.mul_zero, Nat.add_zero] at hs
  have key : bitsN a = 32 * n + bitsN x := by
    obtain ⟨j, hj⟩ : ∃ j, bitsN x = j + 1 := ⟨bitsN x - 1, by omega⟩
    rw [hj] at h1 h2
    have : 32 * n + bitsN x = (32 * n + j) + 1 := by omega
    rw [this]
    refine bitsN_unique ?_ ?_
    · rw [Nat.pow_add, ← LB_pow, hs]
      have : LB ^ n * 2 ^ (j + 1 - 1) ≤ LB ^ n * x := Nat.mul_le_mul_left _ h1
      simp only [Nat.add_sub_cancel] at this
      omega
    · have : 32 * n + j + 1 = 32 * n + (j + 1) := by omega
      rw [this, Nat.pow_add, ← LB_pow, hs]
      have : LB ^ n * (x + 1) ≤ LB ^ n * 2 ^ (j + 1) := Nat.mul_le_mul_left _ h2
      rw [Nat.mul_add] at this
      omega
  omega
theorem short_or (r x : Nat) (hr : r < LB) (hx : x < LB) : bits .or .u64 ((r : Int) * 4294967296) (IntKind.u64.wrap (x : Int)) = ((r * LB + x : Nat) : Int) := by
  have e0 : (r : Int) * 4294967296 = ((r * LB : Nat) : Int) := by unfold LB; omega
  have h1 : r * LB < 18446744073709551616 := by unfold LB at *; omega
  have hx' := hx
  unfold LB at hx
  rw [e0, wrap_u64 (x : Int) (by omega) (by omega), or_u64 _ _ h1 (by omega), Nat.or_comm, or_add 32 x _ (by rw [← LB_two]; exact hx') (by rw [← LB_two]; exact Nat.dvd_mul_left _ _), Nat.add_comm]
set_option maxHeartbeats 800000 in
set_option maxRecDepth 100000 in
theorem short_at (A : Option Addr) (n c a d : Nat) (w : World) (ha : U w A n (limbs a)) (hn : n ≤ 4294967296) (hd : 0 < d) (hd2 : (d : Int) < 4294967296) :
    Calls Tryz.prog 70 #[.slice A n c, .int .u32 d] w fun e w' => (∃ c', e = .returned (.tuple #[.slice (some ⟨w.heap.size, 0, none⟩) (limbs (a / d)).length c', .int .u32 (a % d : Nat)]) ∧ (limbs (a / d)).length ≤ c' ∧ c' ≤ maxLen ∧ U w' (some ⟨w.heap.size, 0, none⟩) (limbs (a / d)).length (limbs (a / d))) ∧ Below w.heap.size w w' := by
  have hla := ha.len
  have HA : Sl _ := ⟨hla⟩
  clear hla
  have hmk := run_make_row' (P := Tryz.prog) 58 49 (.int .u32 0) 4 Tryz.underlying58 info32 rfl .i64 .i64 n (by omega) (by omega)
  have hd0 : ((d : Int) == 0) = false := by rw [beq_eq_false_iff_ne]; omega
  go_enter Tryz.func70, Tryz.ntmps70
  go_wp2
  clear hmk
  go_loopw [6, 7] (fun s6 s7 wr => ∃ (k r : Nat) (q : List Nat), k ≤ n ∧ s6 = .int .u64 r ∧ s7 = .int .i64 ((k : Int) - 1) ∧ (∀ x ∈ q, x < LB) ∧ q.length + k = n ∧ r < d ∧ valOf ((limbs a).drop k) = valOf q * d + r ∧ Out wr w.heap.size n (List.replicate k 0 ++ q) ∧ Below w.heap.size w wr) (fun _ s7 _ => (intOf s7 + 1).toNat)
  case atStart => exact ⟨n, 0, [], Nat.le_refl _, rfl, rfl, by simp, by simp, hd, by rw [List.drop_of_length_le (by rw [HA.out]; omega)]; simp [valOf], by rw [List.append_nil]; exact Out.zeros _ _, (Below.refl _ _).alloc (Nat.le_refl _) _⟩
  case round =>
    obtain ⟨k, r, q, hk, rfl, rfl, hq, hql, hr, hval, hO, hB⟩ := hrel
    have HV : Sl _ := ⟨hval⟩
    have HL : Sl _ := ⟨hql⟩
    clear hval hql
    rcases k with _ | k
    · have hU := hO.U (by have := HL.out; simp; omega)
      have hr2 : (r : Int) < 4294967296 := by omega
      go_wp2_with fail
      refine (trim_at _ _ _ _ _ hU (Nat.le_refl _) (by unfold maxLen; omega)).mono ?_; rintro e w' ⟨⟨rfl, h1, h3⟩, rfl⟩
      go_wp2
      go_ret2
      have h4 := HV.out
      simp only [List.drop_zero, valOf_limbs] at h4
      have e1 : a / d = valOf q := by rw [h4, Nat.mul_comm, Nat.mul_add_div hd, Nat.div_eq_of_lt hr, Nat.add_zero]
      have e2 : a % d = r := by rw [h4, Nat.mul_comm, Nat.mul_add_mod, Nat.mod_eq_of_lt hr]
      have e : trimN (List.replicate 0 0 ++ q) = limbs (a / d) := by
        rw [trimN_limbs hU.2, e1]; rfl
      rw [e2, ← e]
      exact ⟨⟨_, rfl, h1, by unfold maxLen; omega, h3⟩, hB⟩
    · obtain ⟨ad, rfl, hbd, hca⟩ := (ha.below hB).cell (k := k) (by omega)
      have hx : (limbs a)[k]?.getD 0 < LB := ha.lt k
      have hr3 : r < LB := by unfold LB; omega
      have hor := short_or r ((limbs a)[k]?.getD 0) hr3 hx
      obtain ⟨z, hz⟩ : ∃ z : Nat, r * LB + (limbs a)[k]?.getD 0 = z := ⟨_, rfl⟩
      rw [hz] at hor
      have HZ : Sl _ := ⟨hz⟩
      have HX : Sl _ := ⟨hx⟩
      have hz2 : (z : Int) < 18446744073709551616 := by unfold LB at *; omega
      clear hz hx hr3
      have hc0 := hO.1.cell (i := k) (by omega)
      have hf0 := hO.1.frozen k
      have hr2 : (r : Int) < 4294967296 := by omega
      go_wp2
      clear hor
      go_region
      go_wp2
      have hz := HZ.out
      have hx := HX.out
      have hlt : z / d < LB := by rw [← hz]; exact short_lt hr hx
      have hst := short_step (l := limbs a) (k := k) hd (by rw [HA.out]; omega) HV.out hr
      rw [hz] at hst
      have hput := hO.put (i := k) (x := z / d) (v := IntKind.u64.wrap ((z : Int) / d) % 4294967296) (by have := HL.out; simp; omega) (by omega) (short_store z d hlt) hlt
      rw [set_zero] at hput
      refine ⟨⟨k, z % d, (z / d) :: q, by omega, by simp, rfl, ?_, by have := HL.out; simp; omega, Nat.mod_lt _ hd, hst, hput, (hB.setCell (Nat.le_refl _) _).drew⟩, by simp [intOf]⟩
      intro y hy
      rcases List.mem_cons.1 hy with rfl | hy
      · exact hlt
      · exact hq y hy

theorem short_any (A : Option Addr) (n c a d : Nat) (w : World) (ha : U w A n (limbs a)) (hn : n ≤ 4294967296) (hd : 0 < d) (hd2 : (d : Int) < 4294967296) :
    Calls Tryz.prog 70 #[.slice A n c, .int .u32 d] w fun e w' => (∃ B c', e = .returned (.tuple #[.slice B (limbs (a / d)).length c', .int .u32 (a % d : Nat)]) ∧ (limbs (a / d)).length ≤ c' ∧ c' ≤ maxLen ∧ U w' B (limbs (a / d)).length (limbs (a / d))) ∧ Below w.heap.size w w' :=
  (short_at A n c a d w ha hn hd hd2).mono fun e w' ⟨⟨c', h1, h2, h3, h4⟩, h5⟩ => ⟨⟨_, c', h1, h2, h3, h4⟩, h5⟩

set_option maxHeartbeats 400000 in
/-- bits -/
theorem bits_any (A : Option Addr) (n c a : Nat) (w : World) (ha : U w A n (limbs a)) (hn : n ≤ 4294967296) :
    Calls Tryz.prog 95 #[.slice A n c] w fun e w' => e = .returned (.int .i64 (bitsN a)) ∧ w = w' := by
  have hla := ha.len
  rcases n with _ | n
  · have e : a = 0 := limbs_nil_iff.1 (List.eq_nil_of_length_eq_zero hla)
    subst e
    rw [bitsN_zero]
    clear hla
    go_enter Tryz.func95, Tryz.ntmps95
    go_wp2
    go_ret
    exact ⟨rfl, rfl⟩
  · obtain ⟨ad, rfl, hb, hcell⟩ := ha.cell (k := n) (by omega)
    have hx := ha.lt n
    have hx2 : (((limbs a)[n]?.getD 0 : Nat) : Int) ≤ 4294967295 := by unfold LB at hx; omega
    have hbit : Sl _ := ⟨limbs_bits a n hla⟩
    have hbl : Lib.bitLen ((limbs a)[n]?.getD 0) ≤ 32 := bitLen_le _ 32 (by unfold LB at hx; omega)
    have g0 : (((n : Int) + 1) == 0) = false := by rw [beq_eq_false_iff_ne]; omega
    have HX : Sl _ := ⟨hx2⟩
    clear hla hx hx2
    go_enter Tryz.func95, Tryz.ntmps95
    go_wp2_with fail
    refine (Tryz.bits_LeadingZeros32 _ _ (by omega) HX.out).mono ?_; rintro e w' ⟨rfl, rfl⟩
    rw [Int.toNat_natCast]
    go_wp2
    go_ret
    refine ⟨?_, rfl⟩
    rw [hbit.out]; rfl
end Go.Proofs.YtgjbaamhpapeeaaGreatDoor
