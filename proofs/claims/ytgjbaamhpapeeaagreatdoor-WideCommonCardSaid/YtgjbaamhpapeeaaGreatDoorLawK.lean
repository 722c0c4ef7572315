/- The reference: Size, bit, double. The reference: Cmp, Bits, Shift. The reference: trim, Minus and double return a new block. The reference: Divide, Common, DivMod, Gcd. The reference: Common, DivMod, Gcd. -/
import Derived.Test.YtgjbaamhpapeeaaGreatDoorLawD
import Derived.Test.YtgjbaamhpapeeaaGreatDoorWideJ
namespace Go.Proofs.YtgjbaamhpapeeaaGreatDoor
open Go.RowKit
set_option linter.unusedVariables false
set_option linter.unusedSimpArgs false

set_option maxHeartbeats 800000 in
set_option maxRecDepth 100000 in
/-- the reference's Size -/
theorem size_any (A : Option Addr) (n c a : Nat) (w : World) (ha : U w A n (limbs a)) (hn : n ≤ 1000000) :
    Calls Tryz.prog 76 #[.slice A n c] w fun e w' => e = .returned (.int .i64 (bitsN a)) ∧ ∃ q, w' = w.drewN q := by
  have hl := ha.len
  rcases n with _ | n
  · have e : a = 0 := limbs_nil_iff.1 (List.eq_nil_of_length_eq_zero hl)
    have e2 : bitsN a = 0 := by rw [e]; exact bitsN_zero
    rw [e2]
    clear e e2 hl ha
    go_enter Tryz.func76, Tryz.ntmps76
    go_wp2_with fail
    go_ret
    exact ⟨rfl, 0, rfl⟩
  · obtain ⟨ad, rfl, hb, hcell⟩ := ha.cell (k := n) (by omega)
    have h0 : lim (limbs a) n ≠ 0 := by
      have h := (limbs_norm a).2
      rw [List.getLast?_eq_getElem?, hl] at h
      simp only [Nat.add_sub_cancel] at h
      unfold lim
      rw [List.getElem?_eq_getElem (by omega)] at h ⊢
      simpa using h
    have hT : Sl (bitsN a = 32 * n + bitsN (lim (limbs a) n)) := ⟨by have := bitsN_top ha.2 hl h0; rwa [valOf_limbs] at this⟩
    have hlt := lim_lt ha.2 n
    have e0 : lim (limbs a) n = (limbs a)[n]?.getD 0 := rfl
    rw [← e0] at hcell
    generalize lim (limbs a) n = t at *
    have HLT : Sl _ := ⟨hlt⟩
    have HBA : Sl (bitsN a ≤ 32 * n + 32) := ⟨by
      have h1 : bitsN t ≤ 32 := bitsN_le_iff.2 (by rw [← LB_two]; exact hlt)
      have := hT.out
      omega⟩
    have g0 : (((n : Int) + 1) == 0) = false := by rw [beq_eq_false_iff_ne]; omega
    clear ha hl h0 hlt e0
    go_enter Tryz.func76, Tryz.ntmps76
    go_wp2_with fail
    go_quiet (fail)
    go_wp2_with fail
    go_loop [3, 4] (fun s3 s4 => ∃ k t : Nat, s3 = .int .i64 k ∧ s4 = .int .u32 t ∧ k + bitsN t = bitsN a ∧ t < 4294967296 ∧ k ≤ 32 * n + 32) (fun _ s4 => (intOf s4).toNat)
    case atStart => exact ⟨32 * n, t, by first | rfl | exact int_eq (by omega), by first | rfl | exact int_eq (by omega), hT.out.symm, HLT.out, by omega⟩
    case round =>
      obtain ⟨k, t, rfl, rfl, hkt, ht, hk⟩ := hrel
      have HKT : Sl _ := ⟨hkt⟩
      clear hkt
      rcases Nat.eq_zero_or_pos t with h0 | h0
      · subst h0
        have e : k = bitsN a := by have := HKT.out; rw [bitsN_zero] at this; omega
        have E : Sl _ := ⟨e⟩
        clear e
        go_wp2_with fail
        go_ret
        rw [E.out]
        exact ⟨rfl, _, rfl⟩
      · have hst := bitsN_half (t := t) (by omega)
        have HST : Sl _ := ⟨hst⟩
        have hpos : 0 < bitsN t := by omega
        have h0' : (0 : Int) < t := by omega
        clear hst
        go_wp2_with fail
        refine ⟨⟨k + 1, t / 2, by go_num, ?_, by have := HKT.out; have := HST.out; omega, by omega, ?_⟩, ?_⟩
        · exact int_eq (by omega)
        · have := HKT.out; have := HBA.out; omega
        · simp [intOf]; omega

theorem and1_u32 (x : Nat) (hx : x < 4294967296) : bits .and .u32 (x : Int) 1 = ((x % 2 : Nat) : Int) := by
  show IntKind.u32.wrap ((BitVec.ofInt 32 (x : Int) &&& BitVec.ofInt 32 1).toNat : Int) = _
  rw [BitVec.toNat_and, BitVec.ofInt_natCast, BitVec.toNat_ofNat, Nat.mod_eq_of_lt (by omega)]
  have e1 : (BitVec.ofInt 32 1).toNat = 1 := by decide
  rw [e1, Nat.and_one_is_mod, IntKind.wrap_u32]
  omega

set_option maxHeartbeats 400000 in
set_option maxRecDepth 100000 in
/-- the reference's bit -/
theorem bit_any (A : Option Addr) (n c : Nat) (l : List Nat) (i q r : Nat) (w : World) (ha : U w A n l) (hn : n ≤ 1000000) (hq : i / 32 = q) (hr : i % 32 = r) (hi : q < n) (hi2 : i ≤ 100000000) :
    Calls Tryz.prog 78 #[.slice A n c, .int .i64 i] w fun e w' => e = .returned (.int .u32 (valOf l / 2 ^ i % 2 : Nat)) ∧ w = w' := by
  obtain ⟨ad, rfl, hb, hcell⟩ := ha.cell (k := q) hi
  have hbit := lim_bit ha.2 i
  rw [hq, hr] at hbit
  have hlt := lim_lt ha.2 q
  have e0 : lim l q = l[q]?.getD 0 := rfl
  rw [← e0] at hcell
  have HBIT : Sl _ := ⟨hbit⟩
  generalize lim l q = x at *
  have HLT : Sl _ := ⟨hlt⟩
  have hq' : (i : Int) / 32 = q := by omega
  have hr' : (i : Int) % 32 = r := by omega
  have hr2 : r < 32 := by omega
  have hdq : (i : Int).tdiv 32 = q := by rw [Int.tdiv_eq_ediv_of_nonneg (by omega)]; exact hq'
  have hdr : (i : Int).tmod 32 = r := by rw [Int.tmod_eq_emod_of_nonneg (by omega)]; exact hr'
  clear ha hlt hq hr hbit e0
  go_enter Tryz.func78, Tryz.ntmps78
  go_wp2_with fail
  go_ret
  refine ⟨?_, rfl⟩
  rw [← HBIT.out]
  show Ending.returned (.int .u32 (bits .and .u32 ((x : Int) / 2 ^ r) 1)) = _
  have h1 : x / 2 ^ r < 4294967296 := by
    have := Nat.div_le_self x (2 ^ r)
    have := HLT.out
    unfold LB at this
    omega
  rw [← pow_cast, ← Int.natCast_ediv, and1_u32 _ h1]

theorem dbl_or (z x : Nat) (hz : z < LB) (hx : x ≤ 1) : bits .or .u32 ((z : Int) * 2 % 4294967296) (x : Int) = ((2 * z % LB + x : Nat) : Int) ∧ 2 * z % LB + x < LB := by
  have h1 : 2 * z % LB < LB := Nat.mod_lt _ LB_pos
  have h2 : 2 ∣ 2 * z % LB := by
    refine (Nat.dvd_mod_iff ?_).2 (Nat.dvd_mul_right _ _)
    rw [LB_two]; exact Nat.dvd_of_pow_dvd (by decide : 1 ≤ 32) (Nat.dvd_refl _)
  have e : ((z : Int) * 2 % 4294967296) = ((2 * z % LB : Nat) : Int) := by unfold LB; omega
  obtain ⟨k, hk⟩ := h2
  refine ⟨?_, by unfold LB at h1 ⊢; unfold LB at hk; omega⟩
  rw [e, or_u32 _ _ h1 (by unfold LB; omega), Nat.or_comm, or_add 1 x _ (by omega) (by rw [hk]; exact Nat.dvd_mul_right _ _), Nat.add_comm]

set_option maxHeartbeats 800000 in
set_option maxRecDepth 100000 in
/-- the reference's double -/
theorem double_any (A : Option Addr) (n c : Nat) (l : List Nat) (y : Nat) (w : World) (ha : U w A n l) (hn : n ≤ 1000000) (hy : y ≤ 1) :
    Calls Tryz.prog 77 #[.slice A n c, .int .u32 y] w fun e w' => Limbs (limbs (2 * valOf l + y)) e w' ∧ Below w.heap.size w w' := by
  have HA : Sl _ := ⟨ha⟩
  have HL : Sl _ := ⟨ha.len⟩
  clear ha
  have hmk := run_make_row' (P := Tryz.prog) 23 49 (.int .u32 0) 4 Tryz.underlying23 info32 rfl .i64 .i64 (n+1) (by omega) (by omega)
  simp only [Int.natCast_add, Int.natCast_one] at hmk
  go_enter Tryz.func77, Tryz.ntmps77
  go_wp2_with fail
  clear hmk
  go_loopw [1, 6] (fun s1 s6 wr => ∃ (i x : Nat) (o : List Nat), i ≤ n ∧ s1 = .int .u32 x ∧ s6 = .int .i64 i ∧ x ≤ 1 ∧ Sl (o.length = i ∧ valOf o + x * LB ^ i = 2 * valOf (l.take i) + y ∧ Out wr w.heap.size (n+1) o) ∧ Below w.heap.size w wr) (fun _ s6 _ => n - (intOf s6).toNat)
  case atStart => exact ⟨0, y, [], Nat.zero_le _, rfl, rfl, hy, ⟨rfl, by simp [valOf], Out.made _ _⟩, (Below.refl _ _).alloc (Nat.le_refl _) _⟩
  case round =>
    obtain ⟨i, x, o, hi, rfl, rfl, hx, HO, hB⟩ := hrel
    by_cases hin : i < n
    · obtain ⟨ad, rfl, hbd, hca0⟩ := HA.out.cell (k := i) hin
      have hca : wr.cell? (ad.add i) = some (.int .u32 (l[i]?.getD 0 : Nat)) := (hB.cell (by rw [block_of_add]; exact hbd)).trans hca0
      clear hca0
      have hlt := lim_lt HA.out.2 i
      have e0 : lim l i = l[i]?.getD 0 := rfl
      rw [← e0] at hca
      have hs := dbl_step HO.out.2.1 (lim l i)
      rw [← valOf_take_lim] at hs
      generalize lim l i = z at *
      have HS : Sl _ := ⟨hs⟩
      have HZ : Sl _ := ⟨hlt⟩
      have hc0 := HO.out.2.2.1.cell (i := i) (by omega)
      have hf0 := HO.out.2.2.1.frozen i
      have hca2 : ∀ u, (wr.setCell ⟨w.heap.size, i, none⟩ u).cell? (ad.add i) = some (.int .u32 z) := fun u => by
        refine (World.cell?_setCell_other _ _ _ _ (fun he => ?_)).trans hca
        have := congrArg Addr.block he
        rw [block_of_add] at this
        simp at this
        omega
      clear hs hlt e0
      go_wp2_with fail
      have hz := HZ.out
      have hor := dbl_or z x hz hx
      refine ⟨⟨i + 1, z / 2147483648, o ++ [2 * z % LB + x], hin, int_eq (by omega), by go_num, by unfold LB at hz; omega, ⟨by rw [List.length_append, HO.out.1]; rfl, ?_, HO.out.2.2.setI HO.out.1 hor.1 hor.2⟩, hB.setCell (Nat.le_refl _) _⟩, by simp [intOf]; omega⟩
      rw [valOf_snoc, HO.out.1]
      exact HS.out
    · obtain rfl : i = n := by omega
      have hc0 := HO.out.2.2.1.cell (i := i) (by omega)
      have hf0 := HO.out.2.2.1.frozen i
      have hx' : (x : Int) ≤ 1 := by omega
      have hU : U (wr.setCell ⟨w.heap.size, i, none⟩ (.int .u32 x)) (some ⟨w.heap.size, 0, none⟩) (i+1) (o ++ [x]) :=
        (HO.out.2.2.setI HO.out.1 rfl (by unfold LB; omega)).U (by rw [List.length_append, HO.out.1]; rfl)
      have ht := rtrim_any _ _ (i+1) _ _ hU (by omega) (Nat.le_refl _) (by unfold maxLen; omega)
      have e : trimN (o ++ [x]) = limbs (2 * valOf l + y) := by
        rw [trimN_limbs hU.2, valOf_snoc, HO.out.1]
        have := HO.out.2.1
        rw [List.take_of_length_le (by rw [HL.out]; exact Nat.le_refl _)] at this
        rw [Nat.mul_comm, this]
      rw [e] at ht
      have HT : Sl _ := ⟨ht⟩
      clear ht e hU
      go_wp2_with fail
      refine HT.out.mono ?_; rintro e w' ⟨⟨A2, c2, rfl, g1, g2, g3⟩, hb⟩
      go_wp2_with fail
      go_ret
      exact ⟨⟨A2, c2, rfl, g1, g2, g3⟩, (hB.setCell (Nat.le_refl _) _).trans (hb.mono (hB.setCell (Nat.le_refl _) _).size)⟩
end Go.Proofs.YtgjbaamhpapeeaaGreatDoor
namespace Go.Proofs.YtgjbaamhpapeeaaGreatDoor
open Go.RowKit
set_option linter.unusedVariables false
set_option linter.unusedSimpArgs false

theorem sh_or (o b r : Nat) (ho : o < LB) (hb : b ≤ 1) (hr : r < 32) : bits .or .u32 (o : Int) ((b : Int) * 2 ^ r % 4294967296) = ((o ||| b * 2 ^ r : Nat) : Int) := by
  have h1 : 2 ^ r ≤ 2 ^ 31 := Nat.pow_le_pow_right (by decide) (by omega)
  have h2 : b * 2 ^ r ≤ 1 * 2 ^ r := Nat.mul_le_mul_right _ hb
  have e : (b : Int) * 2 ^ r = ((b * 2 ^ r : Nat) : Int) := by rw [Int.natCast_mul, pow_cast]
  rw [e]
  generalize b * 2 ^ r = z at *
  have e2 : (z : Int) % 4294967296 = z := by omega
  rw [e2, or_u32 _ _ ho (by unfold LB; omega)]

theorem rShift_fit {la : List Nat} {k : Int} (hv : badE [la] = 0) (hk1 : -20000 ≤ k) (hk2 : k ≤ 20000) (hfit : la.length = 0 ∨ (bitsN (valOf la) : Int) + k ≤ 16384) (hl : ∀ x ∈ la, x < LB) :
    shiftS la k = (limbs (if k < 0 then valOf la / 2 ^ (-k).toNat else valOf la * 2 ^ k.toNat), 0) := by
  have h5 : la.length ≤ 512 := by
    have := badE_zero.1 hv la (by simp)
    simp [validL] at this
    exact this.1
  have hno : ¬ (k < -20000 ∨ 20000 < k) := by omega
  rw [shiftS, if_pos hv, if_neg hno]
  by_cases h0 : k < 0
  · rw [if_pos h0, if_pos h0]
    have hf : (limbs (valOf la / 2 ^ (-k).toNat)).length ≤ 512 := val_len hl h5 (Nat.div_le_self _ _)
    simp only [fitS, if_pos hf]
  · rw [if_neg h0, if_neg h0]
    have hf : (limbs (valOf la * 2 ^ k.toNat)).length ≤ 512 := by
      by_cases hz : valOf la = 0
      · rw [hz, Nat.zero_mul, limbs_zero]; simp
      · have h1 : la.length ≠ 0 := by
          intro h1
          have : la = [] := List.eq_nil_of_length_eq_zero h1
          rw [this] at hz
          exact hz rfl
        refine fit_short ?_
        rw [bitsN_mul_pow hz]
        omega
    simp only [fitS, if_pos hf]
theorem rShift_toolong {la : List Nat} {k : Int} (hv : badE [la] = 0) (hk1 : -20000 ≤ k) (hk2 : k ≤ 20000) (h0 : la.length ≠ 0) (hlong : 16384 < (bitsN (valOf la) : Int) + k) (hn : la = limbs (valOf la)) :
    shiftS la k = ([], 3) := by
  have h5 : la.length ≤ 512 := by
    have := badE_zero.1 hv la (by simp)
    simp [validL] at this
    exact this.1
  have hno : ¬ (k < -20000 ∨ 20000 < k) := by omega
  have hb : bitsN (valOf la) ≤ 32 * la.length := bitsN_limbs (by rw [← hn]; exact Nat.le_refl _)
  have hz : valOf la ≠ 0 := by
    intro hz
    rw [hz, limbs_zero] at hn
    rw [hn] at h0
    exact h0 rfl
  rw [shiftS, if_pos hv, if_neg hno, if_neg (by omega)]
  have hf : ¬ (limbs (valOf la * 2 ^ k.toNat)).length ≤ 512 := by
    have : 512 < (limbs (valOf la * 2 ^ k.toNat)).length := fit_long (by rw [bitsN_mul_pow hz]; omega)
    omega
  simp only [fitS, if_neg hf]

end Go.Proofs.YtgjbaamhpapeeaaGreatDoor
namespace Go.Proofs.YtgjbaamhpapeeaaGreatDoor
open Go.RowKit
set_option linter.unusedVariables false
set_option linter.unusedSimpArgs false

/-- an address that is nil or lies in a block that is no older -/
def Fresh (B : Nat) (A : Option Addr) : Prop := ∀ ad, A = some ad → B ≤ ad.block
theorem Fresh.mono {B B' : Nat} {A : Option Addr} (h : Fresh B A) (hb : B' ≤ B) : Fresh B' A := fun ad e => Nat.le_trans hb (h ad e)
/-- a result: a new slice of limbs -/
def LimbsF (B : Nat) (l : List Nat) (e : Ending) (w : World) : Prop := ∃ A c, e = .returned (.slice A l.length c) ∧ l.length ≤ c ∧ c ≤ maxLen ∧ U w A l.length l ∧ Fresh B A
theorem LimbsF.of_own {w : World} {base : Nat} {e : TypeId} {v : Value} {n : Nat} {l : List Nat} (h : w.ownsRow base e 1 v n (l.map lv)) (hn : l.length = n) (hl : ∀ x ∈ l, x < LB) : LimbsF base l (.returned v) w := by
  subst hn
  have hr := h
  rcases h.2 with ⟨rfl, h0⟩ | ⟨g, cap, cur, rfl, hb, hh, hc, hm, _⟩
  · have e : l = [] := List.eq_nil_of_length_eq_zero h0
    subst e
    exact ⟨none, 0, rfl, by simp, by decide, ⟨⟨by simp, fun h => absurd h (by simp)⟩, by simp⟩, fun ad he => by cases he⟩
  · exact ⟨_, cap, rfl, hc, hm, ⟨Reads.of_own hr, hl⟩, fun ad he => by cases he; exact hb⟩
/-- a slice of limbs in another block than a cell that is written -/
theorem U.put_ {w : World} {A : Option Addr} {n : Nat} {l : List Nat} (h : U w A n l) {g : Nat} (hf : ∀ ad, A = some ad → ad.block ≠ g) (i : Nat) (u : Value) : U (w.setCell ⟨g, i, none⟩ u) A n l := by
  have hs : (w.setCell ⟨g, i, none⟩ u).heap.size = w.heap.size := by simp [World.setCell]
  refine ⟨⟨h.1.1, fun hn => ?_⟩, h.2⟩
  obtain ⟨ad, e, hb, hc⟩ := h.1.2 hn
  refine ⟨ad, e, by rw [hs]; exact hb, fun j v hv => (World.cell?_setCell_other _ _ _ _ (fun he => ?_)).trans (hc j v hv)⟩
  have := congrArg Addr.block he
  rw [block_of_add] at this
  exact hf ad e this.symm

set_option maxHeartbeats 400000 in
/-- the reference's trim -/
theorem rtrim_fresh (A : Option Addr) (n c : Nat) (l : List Nat) (w : World) (h : U w A n l) (hn : n ≤ 4294967296) (hc : n ≤ c) (hm : c ≤ maxLen) :
    Calls Tryz.prog 58 #[.slice A n c] w fun e w' => LimbsF w.heap.size (trimN l) e w' ∧ Below w.heap.size w w' := by
  obtain ⟨i0, hi0, hz0, hz1, hz2⟩ := info_parts info32
  have hl := h.len
  unfold maxLen at hm
  have HL : Sl _ := ⟨hl⟩
  clear hl
  have HI : Sl _ := ⟨And.intro hi0 (And.intro hz0 (And.intro hz1 hz2))⟩
  clear hi0 hz0 hz1 hz2
  go_enter Tryz.func58, Tryz.ntmps58
  go_wp2
  go_loop [3] (fun v => ∃ k : Nat, k ≤ n ∧ v = .int .i64 k ∧ trimN (l.take k) = trimN l) (fun v => (intOf v).toNat)
  case atStart => exact ⟨n, Nat.le_refl _, rfl, by rw [List.take_of_length_le (by rw [HL.out]; exact Nat.le_refl _)]⟩
  case round =>
    obtain ⟨k, hk, rfl, ht⟩ := hrel
    have HT : Sl _ := ⟨ht⟩
    clear ht
    by_cases hgo : ∃ j, k = j + 1 ∧ l[j]?.getD 0 = 0
    · obtain ⟨j, rfl, hz⟩ := hgo
      obtain ⟨ad, rfl, hb, hcell⟩ := h.cell (k := j) (by omega)
      rw [hz] at hcell
      have HZ : Sl _ := ⟨hz⟩
      clear hz
      have ej : (((j + 1 : Nat) : Int) - 1) = (j : Int) := by omega
      go_wp2
      exact ⟨⟨j, by omega, by first | rfl | exact int_eq (by omega), by rw [← HT.out, take_trim0 l j (by rw [HL.out]; omega) HZ.out]⟩, by simp [intOf]; try omega⟩
    · have hend : trimN l = l.take k := by
        rcases k with _ | j
        · rw [← HT.out]; simp [trimN_nil]
        · rw [← HT.out, take_trim1 l j (by rw [HL.out]; omega) (fun h0 => hgo ⟨j, rfl, h0⟩)]
      have hU := h.take hk
      have HU : Sl _ := ⟨hU⟩
      have HE : Sl _ := ⟨hend⟩
      have hone : ∀ u ∈ (l.take k).map lv, u.oneCell' = true := by intro u hu; obtain ⟨x, _, rfl⟩ := List.mem_map.1 hu; rfl
      have hcon : k = 0 ∨ ∃ j ad, k = j + 1 ∧ A = some ad ∧ w.cell? (ad.add j) = some (.int .u32 (l[j]?.getD 0 : Nat)) ∧ (((l[j]?.getD 0 : Nat) : Int) == 0) = false := by
        rcases k with _ | j
        · exact .inl rfl
        · obtain ⟨ad, rfl, hb, hcell⟩ := h.cell (k := j) (by omega)
          exact .inr ⟨j, ad, rfl, rfl, hcell, by rw [beq_eq_false_iff_ne]; intro h0; exact hgo ⟨j, rfl, by omega⟩⟩
      clear hend hU hgo
      rcases hcon with rfl | ⟨j, ad, rfl, rfl, hcell, hz⟩
      all_goals (
        go_wp2_with (at_builtin; go_loud (refine wpList_append_any _ rfl (.tmp 18) (.tmp 21) _ rfl w.heap.size 49 i0 _ 1 4 Tryz.underlying23 HI.out.1 HI.out.2.1 HI.out.2.2.1 HI.out.2.2.2 rfl (by decide) (.slice (some ⟨w.heap.size, 0, none⟩) 0 0) 0 [] rfl (World.ownsRow_made w #[] 0 (Nat.le_refl _) (by decide) rfl) w.heap.size _ _ c _ rfl (HU.out.1.alloc (Nat.le_refl _) _) hone (by simp only [maxLen]; omega) (by omega) (by simp) ?_; intro v1 w1 hown1 hg1 hat1))
        go_ret
        have hg : Below w.heap.size w w1 := ((Below.refl _ _).alloc (Nat.le_refl _) _).grown hg1 (by simp) (fun k hk => by simp [Value.ownBlock] at hk; omega)
        rw [HE.out]
        exact ⟨LimbsF.of_own (by simpa using hown1) HU.out.len HU.out.2, hg⟩)


set_option maxHeartbeats 1600000 in
set_option maxRecDepth 100000 in
/-- the reference's Minus -/
theorem rminus_fresh (A B : Option Addr) (n m c d : Nat) (la lb : List Nat) (w : World) (ha : U w A n la) (hb : U w B m lb) (hn : n ≤ 1000000) (hm : m ≤ 1000000) (hab : valOf lb ≤ valOf la) :
    Calls Tryz.prog 43 #[.slice A n c, .slice B m d] w fun e w' => LimbsF w.heap.size (limbs (valOf la - valOf lb)) e w' ∧ Below w.heap.size w w' := by
  obtain ⟨i0, hi0, hz0, hz1, hz2⟩ := info_parts info32
  have HI : Sl _ := ⟨And.intro hi0 (And.intro hz0 (And.intro hz1 hz2))⟩
  clear hi0 hz0 hz1 hz2
  have HA : Sl _ := ⟨ha⟩
  have HB : Sl _ := ⟨hb⟩
  have HAB : Sl _ := ⟨hab⟩
  clear ha hb hab
  go_enter Tryz.func43, Tryz.ntmps43
  go_wp2_with fail
  go_loopw [5, 6, 7] (fun s5 s6 s7 wr => ∃ (i cy : Nat) (o : List Nat), i ≤ n ∧ s6 = .int .u64 cy ∧ s7 = .int .i64 i ∧ cy ≤ 1 ∧ Sl (o.length = i ∧ valOf o + valOf (lb.take i) = valOf (la.take i) + cy * LB ^ i ∧ (∀ x ∈ o, x < LB) ∧ wr.ownsRow w.heap.size 49 1 s5 i (o.map lv)) ∧ Below w.heap.size w wr) (fun _ _ s7 _ => n - (intOf s7).toNat)
  case atStart => exact ⟨0, 0, [], Nat.zero_le _, rfl, rfl, by omega, ⟨rfl, by simp [valOf], by simp, World.ownsRow_nil _ _ _ _⟩, Below.refl _ _⟩
  case round =>
    obtain ⟨i, cy, o, hi, rfl, rfl, hcy, HO, hB⟩ := hrel
    by_cases hin : i < n
    · have ca := limb_any A n c la i wr (HA.out.below hB) (by omega) (by omega)
      have cb := limb_any B m d lb i wr (HB.out.below hB) (by omega) (by omega)
      have hx := lim_small HA.out.2 i
      have hy := lim_small HB.out.2 i
      have hs := minus_step' (x := lim la i) (y := lim lb i) HO.out.2.1 hcy (lim_lt HA.out.2 i) (lim_lt HB.out.2 i)
      rw [← valOf_take_lim, ← valOf_take_lim] at hs
      have HS : Sl _ := ⟨hs.1⟩
      clear hs
      generalize lim la i = x at *
      generalize lim lb i = y at *
      have CA : Sl _ := ⟨ca⟩
      have CB : Sl _ := ⟨cb⟩
      clear ca cb
      have hr : (LB + x - y - cy) % LB < LB := Nat.mod_lt _ LB_pos
      have HR : Sl _ := ⟨hr⟩
      clear hr
      have hcr : ((4294967296 + (x : Int) - (y : Int) - (cy : Int)) % 4294967296) = (((LB + x - y - cy) % LB : Nat) : Int) := by unfold LB; omega
      have hcq : ((4294967296 + (x : Int) - (y : Int) - (cy : Int)) / 4294967296) = (((LB + x - y - cy) / LB : Nat) : Int) := by unfold LB; omega
      have hq1 : (LB + x - y - cy) / LB ≤ 1 := by unfold LB; omega
      generalize (LB + x - y - cy) % LB = r at *
      generalize (LB + x - y - cy) / LB = q at *
      go_wp2_with fail
      refine CA.out.mono ?_; rintro e w' ⟨rfl, rfl⟩
      go_wp2_with fail
      refine CB.out.mono ?_; rintro e w' ⟨rfl, rfl⟩
      have HOA := HO.out.2.2.2.alloc (.cells #[.int .u32 (r : Int)] 49)
      go_wp2_with (at_builtin; go_loud (refine wpList_append_any _ rfl (.tmp 25) (.tmp 29) _ rfl w.heap.size 49 i0 _ 1 4 Tryz.underlying23 HI.out.1 HI.out.2.1 HI.out.2.2.1 HI.out.2.2.2 rfl (by decide) _ i _ rfl HOA _ (some ⟨wr.heap.size, 0, none⟩) 1 1 ([r].map lv) rfl (U_one wr r HR.out _).1 (one_lv r) (by unfold maxLen; omega) (by omega) (Nat.le_trans hB.size (by simp)) ?_; intro v1 w3 hown1 hg1 hat1))
      have hBa := hB.alloc hB.size (.cells #[.int .u32 (r : Int)] 49)
      have hown := HO.out.2.2.2.lt
      have hB3 := hBa.grown hg1 (Nat.le_trans hB.size (by simp)) (fun k hk => (hown k hk).1)
      refine ⟨⟨i + 1, 1 - q, o ++ [r], hin, ?_, by go_num, by omega, ⟨by rw [List.length_append, HO.out.1]; rfl, ?_, all_snoc HO.out.2.2.1 HR.out, ?_⟩, hB3⟩, by simp [intOf]; try omega⟩
      · first | rfl | exact int_eq (by omega)
      · rw [valOf_snoc, HO.out.1]; exact HS.out
      · rw [List.map_append]; exact hown1
    · obtain rfl : i = n := by omega
      obtain ⟨A', c', rfl, k1, k2, k3⟩ := Limbs.trim_own HO.out.2.2.2 HO.out.1 HO.out.2.2.1 (by omega)
      have hs := minus_end HA.out.2 HO.out.2.2.1 HA.out.len HO.out.1 HAB.out HO.out.2.1
      have ht := rtrim_fresh A' i c' o wr k3 (by omega) k1 k2
      rw [trimN_limbs HO.out.2.2.1, hs] at ht
      have HT : Sl _ := ⟨ht⟩
      clear hs ht k1 k2 k3
      go_wp2_with fail
      refine HT.out.mono ?_; rintro e w' ⟨⟨A2, c2, rfl, g1, g2, g3, g4⟩, hb⟩
      go_wp2_with fail
      go_ret
      exact ⟨⟨A2, c2, rfl, g1, g2, g3, g4.mono hB.size⟩, hB.trans (hb.mono hB.size)⟩


set_option maxHeartbeats 800000 in
set_option maxRecDepth 100000 in
/-- the reference's double -/
theorem double_fresh (A : Option Addr) (n c : Nat) (l : List Nat) (y : Nat) (w : World) (ha : U w A n l) (hn : n ≤ 1000000) (hy : y ≤ 1) :
    Calls Tryz.prog 77 #[.slice A n c, .int .u32 y] w fun e w' => LimbsF w.heap.size (limbs (2 * valOf l + y)) e w' ∧ Below w.heap.size w w' := by
  have HA : Sl _ := ⟨ha⟩
  have HL : Sl _ := ⟨ha.len⟩
  clear ha
  have hmk := run_make_row' (P := Tryz.prog) 23 49 (.int .u32 0) 4 Tryz.underlying23 info32 rfl .i64 .i64 (n+1) (by omega) (by omega)
  simp only [Int.natCast_add, Int.natCast_one] at hmk
  go_enter Tryz.func77, Tryz.ntmps77
  go_wp2_with fail
  clear hmk
  go_loopw [1, 6] (fun s1 s6 wr => ∃ (i x : Nat) (o : List Nat), i ≤ n ∧ s1 = .int .u32 x ∧ s6 = .int .i64 i ∧ x ≤ 1 ∧ Sl (o.length = i ∧ valOf o + x * LB ^ i = 2 * valOf (l.take i) + y ∧ Out wr w.heap.size (n+1) o) ∧ Below w.heap.size w wr) (fun _ s6 _ => n - (intOf s6).toNat)
  case atStart => exact ⟨0, y, [], Nat.zero_le _, rfl, rfl, hy, ⟨rfl, by simp [valOf], Out.made _ _⟩, (Below.refl _ _).alloc (Nat.le_refl _) _⟩
  case round =>
    obtain ⟨i, x, o, hi, rfl, rfl, hx, HO, hB⟩ := hrel
    by_cases hin : i < n
    · obtain ⟨ad, rfl, hbd, hca0⟩ := HA.out.cell (k := i) hin
      have hca : wr.cell? (ad.add i) = some (.int .u32 (l[i]?.getD 0 : Nat)) := (hB.cell (by rw [block_of_add]; exact hbd)).trans hca0
      clear hca0
      have hlt := lim_lt HA.out.2 i
      have e0 : lim l i = l[i]?.getD 0 := rfl
      rw [← e0] at hca
      have hs := dbl_step HO.out.2.1 (lim l i)
      rw [← valOf_take_lim] at hs
      generalize lim l i = z at *
      have HS : Sl _ := ⟨hs⟩
      have HZ : Sl _ := ⟨hlt⟩
      have hc0 := HO.out.2.2.1.cell (i := i) (by omega)
      have hf0 := HO.out.2.2.1.frozen i
      have hca2 : ∀ u, (wr.setCell ⟨w.heap.size, i, none⟩ u).cell? (ad.add i) = some (.int .u32 z) := fun u => by
        refine (World.cell?_setCell_other _ _ _ _ (fun he => ?_)).trans hca
        have := congrArg Addr.block he
        rw [block_of_add] at this
        simp at this
        omega
      clear hs hlt e0
      go_wp2_with fail
      have hz := HZ.out
      have hor := dbl_or z x hz hx
      refine ⟨⟨i + 1, z / 2147483648, o ++ [2 * z % LB + x], hin, int_eq (by omega), by go_num, by unfold LB at hz; omega, ⟨by rw [List.length_append, HO.out.1]; rfl, ?_, HO.out.2.2.setI HO.out.1 hor.1 hor.2⟩, hB.setCell (Nat.le_refl _) _⟩, by simp [intOf]; omega⟩
      rw [valOf_snoc, HO.out.1]
      exact HS.out
    · obtain rfl : i = n := by omega
      have hc0 := HO.out.2.2.1.cell (i := i) (by omega)
      have hf0 := HO.out.2.2.1.frozen i
      have hx' : (x : Int) ≤ 1 := by omega
      have hU : U (wr.setCell ⟨w.heap.size, i, none⟩ (.int .u32 x)) (some ⟨w.heap.size, 0, none⟩) (i+1) (o ++ [x]) :=
        (HO.out.2.2.setI HO.out.1 rfl (by unfold LB; omega)).U (by rw [List.length_append, HO.out.1]; rfl)
      have ht := rtrim_fresh _ _ (i+1) _ _ hU (by omega) (Nat.le_refl _) (by unfold maxLen; omega)
      have e : trimN (o ++ [x]) = limbs (2 * valOf l + y) := by
        rw [trimN_limbs hU.2, valOf_snoc, HO.out.1]
        have := HO.out.2.1
        rw [List.take_of_length_le (by rw [HL.out]; exact Nat.le_refl _)] at this
        rw [Nat.mul_comm, this]
      rw [e] at ht
      have HT : Sl _ := ⟨ht⟩
      clear ht e hU
      go_wp2_with fail
      refine HT.out.mono ?_; rintro e w' ⟨⟨A2, c2, rfl, g1, g2, g3, g4⟩, hb⟩
      go_wp2_with fail
      go_ret
      exact ⟨⟨A2, c2, rfl, g1, g2, g3, g4.mono (hB.setCell (Nat.le_refl _) _).size⟩, (hB.setCell (Nat.le_refl _) _).trans (hb.mono (hB.setCell (Nat.le_refl _) _).size)⟩
end Go.Proofs.YtgjbaamhpapeeaaGreatDoor
namespace Go.Proofs.YtgjbaamhpapeeaaGreatDoor
open Go.RowKit
set_option linter.unusedVariables false
set_option linter.unusedSimpArgs false

theorem nv_nil (w : World) : NV w (.slice none 0 0) 0 := by
  unfold NV
  rw [limbs_zero]
  exact ⟨none, 0, rfl, U_nil _ _, Nat.le_refl _, by decide⟩
theorem dbl_len {R b m y : Nat} (hR : R < b) (hb : (limbs b).length ≤ m) (hy : y ≤ 1) : (limbs (2 * R + y)).length ≤ m + 1 := by
  refine Nat.le_trans (limbs_mono (b := b + b) (by omega)) ?_
  exact limbs_len_add hb hb

theorem sh_or1 (o r : Nat) (ho : o < LB) (hr : r < 32) : bits .or .u32 (o : Int) (2 ^ r % 4294967296) = ((o ||| 2 ^ r : Nat) : Int) ∧ bits .or .u32 (o : Int) (1 * 2 ^ r % 4294967296) = ((o ||| 2 ^ r : Nat) : Int) := by
  have h := sh_or o 1 r ho (Nat.le_refl _) hr
  rw [Nat.one_mul, Int.natCast_one] at h
  have h2 := h
  rw [Int.one_mul] at h2
  exact ⟨h2, h⟩

set_option maxHeartbeats 3200000 in
set_option maxRecDepth 100000 in
/-- the reference's Divide -/
theorem divide_any (A B : Option Addr) (n m c d a b : Nat) (w : World) (ha : U w A n (limbs a)) (hb : U w B m (limbs b)) (hn : n ≤ 100000) (hm : m ≤ 100000) (hb0 : b ≠ 0) :
    Calls Tryz.prog 50 #[.slice A n c, .slice B m d] w fun e w' => DivRes (a / b) (a % b) e w' ∧ Below w.heap.size w w' := by
  have hsz := fun (W : World) (h : U W A n (limbs a)) => size_any A n c a W h (by omega)
  have HLA : Sl _ := ⟨ha.len⟩
  have HLB : Sl _ := ⟨hb.len⟩
  have hBn : bitsN a ≤ 32 * n := bitsN_limbs (by rw [ha.len]; exact Nat.le_refl _)
  have HBA : Sl _ := ⟨bitsN_lt a⟩
  have HA : Sl _ := ⟨ha⟩
  have HB : Sl _ := ⟨hb⟩
  have HB0 : Sl _ := ⟨hb0⟩
  clear ha hb hb0
  generalize bitsN a = N at *
  have HSZ : Sl _ := ⟨hsz⟩
  clear hsz
  have hmk := run_make_row' (P := Tryz.prog) 23 49 (.int .u32 0) 4 Tryz.underlying23 info32 rfl .i64 .i64 n (by omega) (by omega)
  go_enter Tryz.func50, Tryz.ntmps50
  go_wp2_with fail
  clear hmk
  have hu0 : Below w.heap.size w (w.alloc (.cells (madeCells #[.int .u32 0] n) 49)) := (Below.refl _ _).alloc (Nat.le_refl _) _
  have HO0 : Sl _ := ⟨Out.zeros w n⟩
  refine (HSZ.out _ (HA.out.below hu0)).mono ?_; rintro e w' ⟨rfl, q0, rfl⟩
  have hu1 := below_drewN hu0 q0
  have HO1 : Sl _ := ⟨HO0.out.drewN q0⟩
  clear hu0 HO0
  generalize (w.alloc (.cells (madeCells #[.int .u32 0] n) 49)).drewN q0 = w1 at *
  go_wp2_with fail
  go_loopw [7, 8] (fun s7 s8 wr => ∃ (k R Q : Nat) (O : List Nat), k ≤ N ∧ s8 = .int .i64 ((k : Int) - 1) ∧ (∃ A c, s7 = .slice A (limbs R).length c ∧ Arg wr A (limbs R).length c (limbs R) ∧ Fresh (w.heap.size + 1) A) ∧ Sl (R < b ∧ a / 2 ^ k = Q * b + R ∧ valOf O = Q * 2 ^ k ∧ O.length = n ∧ Out wr w.heap.size n O) ∧ Below w.heap.size w wr) (fun _ s8 _ => (intOf s8 + 1).toNat)
  case atStart =>
    refine ⟨N, 0, 0, List.replicate n 0, Nat.le_refl _, rfl, by rw [limbs_zero]; exact ⟨none, 0, rfl, ⟨U_nil _ _, Nat.le_refl _, by decide⟩, fun ad he => by cases he⟩, ⟨Nat.pos_of_ne_zero HB0.out, ?_, ?_, by simp, HO1.out⟩, hu1⟩
    · rw [Nat.div_eq_of_lt HBA.out]; simp
    · rw [valOf_zeros]; simp
  case round =>
    clear HO1
    obtain ⟨k, R, Q, O, hk, rfl, ⟨A7, c7, rfl, hR, hF⟩, HO, hB⟩ := hrel
    have hlw : w.heap.size + 1 ≤ wr.heap.size := HO.out.2.2.2.2.1.lt
    have HR : Sl _ := ⟨hR⟩
    have hrl : (limbs R).length ≤ 100000 := Nat.le_trans (limbs_mono (Nat.le_of_lt HO.out.1)) (by rw [HLB.out]; exact hm)
    clear hR
    rcases k with _ | i
    · have hd := div_mod_of (A := a) (B := b) (Q := Q) (R := R) (by have := HO.out.2.1; simpa using this) HO.out.1
      have hv : valOf O = Q := by have := HO.out.2.2.1; simpa using this
      have hU := HO.out.2.2.2.2.U HO.out.2.2.2.1
      have ht := rtrim_any _ n n O wr hU (by omega) (Nat.le_refl _) (by unfold maxLen; omega)
      rw [trimN_limbs hU.2, hv] at ht
      have HT : Sl _ := ⟨ht⟩
      have HD : Sl _ := ⟨hd⟩
      clear ht hU hv hd
      go_wp2_with fail
      refine HT.out.mono ?_; rintro e w' ⟨⟨A2, c2, rfl, g1, g2, g3⟩, hb⟩
      go_wp2_with fail
      go_ret2
      rw [← HD.out.1, ← HD.out.2]
      exact ⟨⟨A2, c2, A7, c7, rfl, ⟨g3, g1, g2⟩, HR.out.below hb⟩, hB.trans (hb.mono hB.size)⟩
    · have ei : (((i + 1 : Nat) : Int) - 1) = (i : Int) := by omega
      obtain ⟨q, hq⟩ : ∃ q, q = i / 32 := ⟨_, rfl⟩
      obtain ⟨r, hr⟩ : ∃ r, r = i % 32 := ⟨_, rfl⟩
      have hcb := bit_any A n c (limbs a) i q r wr (HA.out.below hB) (by omega) hq.symm hr.symm (by omega) (by omega)
      rw [valOf_limbs] at hcb
      have hb1 : a / 2 ^ i % 2 ≤ 1 := by omega
      have hds := dv_step HO.out.2.1 HO.out.1
      have hoh := or_high (l := O) HO.out.2.2.2.2.2 HO.out.2.2.1 (by rw [HO.out.2.2.2.1]; omega)
      rw [← hq, ← hr] at hoh
      have hdl := dbl_len HO.out.1 (by rw [HLB.out]; exact Nat.le_refl _) hb1
      have hdb := double_fresh A7 (limbs R).length c7 (limbs R) (a / 2 ^ i % 2) wr HR.out.1 (by omega) hb1
      rw [valOf_limbs] at hdb
      generalize hbe : a / 2 ^ i % 2 = be at *
      have HBE : Sl _ := ⟨hbe⟩
      have HCB : Sl _ := ⟨hcb⟩
      have HDS : Sl _ := ⟨hds⟩
      have HOH : Sl _ := ⟨hoh⟩
      have HDB : Sl _ := ⟨hdb⟩
      clear hbe hcb hds hoh hdb
      generalize 2 * R + be = X at *
      go_wp2_with fail
      refine HCB.out.mono ?_; rintro e w' ⟨rfl, rfl⟩
      go_wp2_with fail
      refine HDB.out.mono ?_; rintro e w2 ⟨⟨A2, c2, rfl, k1, k2, k3, k4⟩, hb2⟩
      have hF2 : Fresh (w.heap.size + 1) A2 := k4.mono hlw
      have hlw2 : w.heap.size + 1 ≤ w2.heap.size := Nat.le_trans hlw hb2.size
      have HX : Sl _ := ⟨(⟨k3, k1, k2⟩ : Arg w2 A2 (limbs X).length c2 (limbs X))⟩
      have hB2 := hB.trans (hb2.mono hB.size)
      have HO2 : Sl _ := ⟨HO.out.2.2.2.2.below hb2⟩
      have hor := order_any A2 B (limbs X).length m c2 d (limbs X) (limbs b) w2 HX.out.1 (HB.out.below hB2) (by omega) (by omega)
      rw [valOf_limbs, valOf_limbs] at hor
      by_cases hXb : X < b
      · rw [cmpN_lt hXb] at hor
        have HOR : Sl _ := ⟨hor⟩
        have HXB : Sl _ := ⟨hXb⟩
        clear hor hXb k1 k2 k3 k4
        go_wp2_with fail
        refine HOR.out.mono ?_; rintro e w' ⟨rfl, rfl⟩
        go_wp2_with fail
        refine ⟨⟨i, X, 2 * Q, O, by omega, by first | rfl | exact int_eq (by omega), ⟨A2, c2, rfl, HX.out, hF2⟩, ⟨HXB.out, HDS.out.1 HXB.out, ?_, HO.out.2.2.2.1, HO2.out⟩, hB2⟩, by simp [intOf]; try omega⟩
        rw [HO.out.2.2.1, Nat.pow_succ, Nat.mul_comm 2 Q, Nat.mul_assoc, Nat.mul_comm 2]
      · have hc : 0 ≤ cmpN X b := by unfold cmpN; rw [if_neg hXb]; split <;> decide
        generalize cmpN X b = cc at *
        have HOR : Sl _ := ⟨hor⟩
        have hds2 := HDS.out.2 (by omega)
        have HD2 : Sl _ := ⟨hds2⟩
        have hmi := rminus_fresh A2 B (limbs X).length m c2 d (limbs X) (limbs b) w2 HX.out.1 (HB.out.below hB2) (by omega) (by omega) (by rw [valOf_limbs, valOf_limbs]; omega)
        rw [valOf_limbs, valOf_limbs] at hmi
        have HMI : Sl _ := ⟨hmi⟩
        clear hor hds2 hmi k1 k2 k3 k4
        go_wp2_with fail
        refine HOR.out.mono ?_; rintro e w' ⟨rfl, rfl⟩
        go_wp2_with fail
        refine HMI.out.mono ?_; rintro e w3 ⟨⟨A3, c3, rfl, k1, k2, k3, k4⟩, hb3⟩
        have hF3 : Fresh (w.heap.size + 1) A3 := k4.mono hlw2
        have HY : Sl _ := ⟨(⟨k3, k1, k2⟩ : Arg w3 A3 (limbs (X - b)).length c3 (limbs (X - b)))⟩
        have hB3 := hB2.trans (hb3.mono hB2.size)
        have HO3 : Sl _ := ⟨HO2.out.below hb3⟩
        have hq5 : q < n := by omega
        have hq6 : (q : Int) < n := by omega
        have hc0 := HO3.out.cellAt (i := q) hq5
        have hf0 := HO3.out.1.frozen q
        have e0 : lim O q = O[q]?.getD 0 := rfl
        rw [← e0] at hc0
        have hlo := lim_lt HO3.out.2 q
        have hr32 : r < 32 := by omega
        have hsh := sh_or1 (lim O q) r hlo hr32
        have HSH : Sl _ := ⟨hsh⟩
        generalize lim O q = z at *
        have hw1 : IntKind.i64.wrap (i : Int) = (i : Int) := by rw [IntKind.wrap_i64]; omega
        have hw2 : IntKind.i64.wrap (q : Int) = (q : Int) := by rw [IntKind.wrap_i64]; omega
        have hw3 : IntKind.i64.wrap (r : Int) = (r : Int) := by rw [IntKind.wrap_i64]; omega
        have hdq : (i : Int).tdiv 32 = q := by rw [Int.tdiv_eq_ediv_of_nonneg (by omega)]; omega
        have hdr : (i : Int).tmod 32 = r := by rw [Int.tmod_eq_emod_of_nonneg (by omega)]; omega
        have hdq2 : (i : Int) / 32 = q := by omega
        have hdr2 : (i : Int) % 32 = r := by omega
        clear k1 k2 k3 k4 hb3 hb2 hsh hlo e0 hq hr
        go_wp2_with fail
        go_region_with (fail)
        all_goals (
          go_wp2_with fail
          have hne : ∀ ad, A3 = some ad → ad.block ≠ w.heap.size := fun ad he => by have := hF3 ad he; omega
          refine ⟨⟨i, X - b, 2 * Q + 1, O.set q (z ||| 2 ^ r), by omega, by first | rfl | exact int_eq (by omega), ⟨A3, c3, rfl, ⟨(HY.out.1.put_ hne _ _).drewN 1, HY.out.2⟩, hF3⟩, ⟨HD2.out.2, HD2.out.1, HOH.out.1, by rw [List.length_set]; exact HO.out.2.2.2.1, ?_⟩, below_drewN (hB3.setCell (Nat.le_refl _) _) 1⟩, by simp [intOf]; try omega⟩
          exact (HO3.out.put HO.out.2.2.2.1 hq5 HSH.out.1 HOH.out.2).drewN 1)
end Go.Proofs.YtgjbaamhpapeeaaGreatDoor
namespace Go.Proofs.YtgjbaamhpapeeaaGreatDoor
open Go.RowKit
set_option linter.unusedVariables false
set_option linter.unusedSimpArgs false

set_option maxHeartbeats 800000 in
set_option maxRecDepth 100000 in
theorem common_any (A B : Option Addr) (n m c d a b : Nat) (w : World) (ha : Arg w A n c (limbs a)) (hb : Arg w B m d (limbs b)) (hn : n ≤ 16384) (hm : m ≤ 16384) :
    Calls Tryz.prog 54 #[.slice A n c, .slice B m d] w fun e w' => Limbs (limbs (Nat.gcd a b)) e w' ∧ Below w.heap.size w w' := by
  have HA : Sl _ := ⟨ha⟩
  have HB : Sl _ := ⟨hb⟩
  have HLA : Sl ((limbs a).length ≤ 16384) := ⟨by rw [ha.1.len]; exact hn⟩
  have HLB : Sl ((limbs b).length ≤ 16384) := ⟨by rw [hb.1.len]; exact hm⟩
  have h0 : NV w (.slice A n c) a := ha.nv
  have h1 : NV w (.slice B m d) b := hb.nv
  clear ha hb hn hm
  go_enter Tryz.func54, Tryz.ntmps54
  go_wp2
  go_loopw [0, 1] (fun s0 s1 wr => ∃ (x y : Nat), NV wr s0 x ∧ NV wr s1 y ∧ (limbs x).length ≤ 16384 ∧ (limbs y).length ≤ 16384 ∧ Nat.gcd x y = Nat.gcd a b ∧ Below w.heap.size w wr) (fun _ s1 wr => Classical.epsilon (fun z => NV wr s1 z))
  case atStart => exact ⟨a, b, h0, h1, HLA.out, HLB.out, rfl, Below.refl _ _⟩
  case round =>
    obtain ⟨x, y, ⟨A1, c1, rfl, hx⟩, ⟨A2, c2, rfl, hy⟩, hlx, hly, hg, hB⟩ := hrel
    have HX : Sl _ := ⟨hx⟩
    have HY : Sl _ := ⟨hy⟩
    have HG : Sl _ := ⟨hg⟩
    have hc1 := hx.2
    clear hx hy hg
    by_cases hz : y = 0
    · subst hz
      have hl0 : (limbs 0).length = 0 := by rw [limbs_zero]; rfl
      go_wp2_with fail
      go_ret
      have hg := HG.out
      rw [Nat.gcd_zero_right] at hg
      rw [← hg]
      exact ⟨⟨A1, c1, rfl, hc1.1, hc1.2, HX.out.1⟩, hB⟩
    · have hyl : 0 < (limbs y).length := by
        rcases Nat.eq_zero_or_pos (limbs y).length with h | h
        · exact absurd (limbs_nil_iff.1 (List.eq_nil_of_length_eq_zero h)) hz
        · exact h
      have hmod := Nat.mod_lt x (Nat.pos_of_ne_zero hz)
      have hml := limbs_len_mono (Nat.le_of_lt hmod)
      have hnv : NV wr (.slice A2 (limbs y).length c2) y := ⟨A2, c2, rfl, HY.out⟩
      have hep := hnv.eps
      have HE : Sl _ := ⟨hep⟩
      clear hep
      have HN : Sl _ := ⟨hnv⟩
      clear hnv
      generalize hly2 : (limbs y).length = ny at *
      generalize hlx2 : (limbs x).length = nx at *
      go_wp2_with fail
      refine (divide_any A1 A2 _ _ c1 c2 x y _ HX.out.1 HY.out.1 (by omega) (by omega) hz).mono ?_; rintro e w' ⟨⟨Q, cq, R, cr, rfl, hq, hr⟩, hb⟩
      have hnr : NV w' (.slice R (limbs (x % y)).length cr) (x % y) := hr.nv
      clear hq hr
      go_wp2_with fail
      rw [HE.out, hnr.eps]
      refine ⟨⟨y, x % y, HN.out.below hb, hnr, by rw [hly2]; exact hly, by omega, ?_, hB.trans (hb.mono hB.size)⟩, hmod⟩
      rw [← HG.out, Nat.gcd_comm y, ← Nat.gcd_rec, Nat.gcd_comm]

end Go.Proofs.YtgjbaamhpapeeaaGreatDoor
