/- The reference: Cmp, Bits, Shift. -/
import Derived.Test.YtgjbaamhpapeeaaDoorLawK
namespace Go.Proofs.YtgjbaamhpapeeaaDoor
open Go.RowKit
set_option linter.unusedVariables false
set_option linter.unusedSimpArgs false

set_option maxHeartbeats 400000 in
theorem rCmp_any (A B : Option Addr) (n m c d : Nat) (la lb : List Nat) (w : World) (ha : Arg w A n c la) (hb : Arg w B m d lb) :
    Calls Tryd.prog 42 #[.slice A n c, .slice B m d] w fun e w' => e = .returned (.tuple #[.int .i64 (cmpS la lb).1, .int .i64 (cmpS la lb).2]) ∧ Below w.heap.size w w' := by
  have hck := rbad2 A B n m c d la lb w 23 ha hb
  have hu : Below w.heap.size w (w.alloc (.cells #[.slice A n c, .slice B m d] 23)) := (Below.refl _ _).alloc (Nat.le_refl _) _
  rcases badE_cases [la, lb] with e | e | e
  · have h1 := (ok_one (ha.below hu) (badE_zero.1 e la (by simp))).2
    have h2 := (ok_one (hb.below hu) (badE_zero.1 e lb (by simp))).2
    have ho := order_any A B n m c d la lb _ (ha.below hu).1 (hb.below hu).1 (by omega) (by omega)
    have es : cmpS la lb = (cmpN (valOf la) (valOf lb), 0) := by simp [cmpS, e]
    rw [es]
    rw [e] at hck
    generalize cmpN (valOf la) (valOf lb) = x at *
    have H : Sl _ := ⟨hck⟩
    have HP : Sl _ := ⟨ho⟩
    clear hck ho es e ha hb h1 h2
    go_enter Tryd.func42, Tryd.ntmps42
    go_wp2_with fail
    refine H.out.mono ?_; rintro e w' ⟨rfl, rfl⟩
    go_wp2_with fail
    refine HP.out.mono ?_; rintro e w' ⟨rfl, rfl⟩
    go_wp2_with fail
    go_ret2
    exact ⟨rfl, hu⟩
  all_goals
    have es : cmpS la lb = (0, badE [la, lb]) := by simp [cmpS, e]
    rw [es, e]
    rw [e] at hck
    have H : Sl _ := ⟨hck⟩
    clear hck es e ha hb
    go_enter Tryd.func42, Tryd.ntmps42
    go_wp2_with fail
    refine H.out.mono ?_; rintro e w' ⟨rfl, rfl⟩
    go_wp2
    go_ret2
    exact ⟨rfl, hu⟩

set_option maxHeartbeats 400000 in
theorem rBits_any (A : Option Addr) (n c : Nat) (la : List Nat) (w : World) (ha : Arg w A n c la) :
    Calls Tryd.prog 44 #[.slice A n c] w fun e w' => e = .returned (.tuple #[.int .i64 ((bitsS la).1 : Nat), .int .i64 (bitsS la).2]) ∧ Below w.heap.size w w' := by
  have hck := rbad1 A n c la w 23 ha
  have hu : Below w.heap.size w (w.alloc (.cells #[.slice A n c] 23)) := (Below.refl _ _).alloc (Nat.le_refl _) _
  rcases badE_cases [la] with e | e | e
  · obtain ⟨h1, h2⟩ := ok_one (ha.below hu) (badE_zero.1 e la (by simp))
    have ho := size_any A n c (valOf la) _ h1.1 (by omega)
    have es : bitsS la = (bitsN (valOf la), 0) := by simp [bitsS, e]
    rw [es]
    rw [e] at hck
    generalize bitsN (valOf la) = x at *
    have H : Sl _ := ⟨hck⟩
    have HP : Sl _ := ⟨ho⟩
    clear hck ho es e ha h1 h2
    go_enter Tryd.func44, Tryd.ntmps44
    go_wp2_with fail
    refine H.out.mono ?_; rintro e w' ⟨rfl, rfl⟩
    go_wp2_with fail
    refine HP.out.mono ?_; rintro e w' ⟨rfl, q, rfl⟩
    go_wp2_with fail
    go_ret2
    exact ⟨rfl, below_drewN hu q⟩
  all_goals
    have es : bitsS la = (0, badE [la]) := by simp [bitsS, e]
    rw [es, e]
    rw [e] at hck
    have H : Sl _ := ⟨hck⟩
    clear hck es e ha
    go_enter Tryd.func44, Tryd.ntmps44
    go_wp2_with fail
    refine H.out.mono ?_; rintro e w' ⟨rfl, rfl⟩
    go_wp2
    go_ret2
    exact ⟨rfl, hu⟩

theorem sh_or (o b r : Nat) (ho : o < LB) (hb : b ≤ 1) (hr : r < 32) : bits .or .u32 (o : Int) ((b : Int) * 2 ^ r % 4294967296) = ((o ||| b * 2 ^ r : Nat) : Int) := by
  have h1 : 2 ^ r ≤ 2 ^ 31 := Nat.pow_le_pow_right (by decide) (by omega)
  have h2 : b * 2 ^ r ≤ 1 * 2 ^ r := Nat.mul_le_mul_right _ hb
  have e : (b : Int) * 2 ^ r = ((b * 2 ^ r : Nat) : Int) := by rw [Int.natCast_mul, pow_cast]
  rw [e]
  generalize b * 2 ^ r = z at *
  have e2 : (z : Int) % 4294967296 = z := by omega
  rw [e2, or_u32 _ _ ho (by unfold LB; omega)]

set_option maxHeartbeats 1600000 in
set_option maxRecDepth 100000 in
theorem rShift_ok (A : Option Addr) (n c a : Nat) (k : Int) (w : World) (ha : Arg w A n c (limbs a)) (hn : n ≤ 512) (hb : badE [limbs a] = 0) (hk1 : -20000 ≤ k) (hk2 : k ≤ 20000) (hfit : n = 0 ∨ (bitsN a : Int) + k ≤ 16384) :
    Calls Tryd.prog 46 #[.slice A n c, .int .i64 k] w fun e w' => NatRes (limbs (if k < 0 then a / 2 ^ (-k).toNat else a * 2 ^ k.toNat)) 0 e w' ∧ Below w.heap.size w w' := by
  generalize hx : (if k < 0 then a / 2 ^ (-k).toNat else a * 2 ^ k.toNat) = x
  have hck := rbad1 A n c (limbs a) w 23 ha
  rw [hb] at hck
  have H : Sl _ := ⟨hck⟩
  have hu : Below w.heap.size w (w.alloc (.cells #[.slice A n c] 23)) := (Below.refl _ _).alloc (Nat.le_refl _) _
  have HA : Sl _ := ⟨(ha.below hu).1⟩
  have hsz := fun (W : World) (h : U W A n (limbs a)) => size_any A n c a W h (by omega)
  have HSZ : Sl _ := ⟨hsz⟩
  have hmk := run_make_row' (P := Tryd.prog) 23 59 (.int .u32 0) 4 Tryd.underlying23 info32 rfl .i64 .i64 512 (by omega) (by omega)
  simp only [Int.cast_ofNat_Int] at hmk
  have hBn : bitsN a ≤ 32 * n := bitsN_limbs (by rw [ha.1.len]; exact Nat.le_refl _)
  have HLA : Sl _ := ⟨ha.1.len⟩
  clear ha hb hsz hck
  have g1 : decide (k < -20000) = false := by rw [decide_eq_false_iff_not]; omega
  have g2 : decide (20000 < k) = false := by rw [decide_eq_false_iff_not]; omega
  rcases Nat.eq_zero_or_pos n with h0 | h0
  · subst h0
    have ea : a = 0 := limbs_nil_iff.1 (List.eq_nil_of_length_eq_zero HLA.out)
    subst ea
    have er : x = 0 := by rw [← hx]; split <;> simp
    subst er
    rw [limbs_zero]
    clear hx
    rw [bitsN_zero] at HSZ
    rw [limbs_zero] at HSZ HA
    clear hfit hBn HLA
    go_enter Tryd.func46, Tryd.ntmps46
    go_wp2_with fail
    refine H.out.mono ?_; rintro e w' ⟨rfl, rfl⟩
    have hu1 := hu
    have HA1 : Sl _ := ⟨HA.out⟩
    clear hu HA H
    generalize (w.alloc (.cells #[.slice A 0 c] 23)) = w1 at *
    go_wp2_with fail
    clear hmk
    obtain ⟨Z, hZ⟩ : ∃ Z : List Nat, Z = List.replicate 512 0 := ⟨_, rfl⟩
    have HZ : Sl (trimN Z = [] ∧ Z.length = 512 ∧ Z = List.replicate 512 0) := ⟨by rw [hZ, trimN_limbs (by simp [LB_pos]), valOf_zeros, limbs_zero], by rw [hZ, List.length_replicate], hZ⟩
    clear hZ
    go_loopw [8] (fun s8 wr => s8 = .int .i64 0 ∧ Sl (Out wr w1.heap.size 512 Z) ∧ Below w1.heap.size w1 wr) (fun s8 _ => 0)
    case atStart => exact ⟨rfl, ⟨by rw [HZ.out.2.2]; exact Out.zeros _ _⟩, (Below.refl _ _).alloc (Nat.le_refl _) _⟩
    case round =>
      obtain ⟨rfl, HO, hB⟩ := hrel
      have HAW : Sl _ := ⟨HA1.out.below hB⟩
      go_wp2_with fail
      refine (HSZ.out _ HAW.out).mono ?_; rintro e w' ⟨rfl, q2, rfl⟩
      go_wp2_with fail
      refine (rtrim_any _ _ 512 _ (wr.drewN q2) (HO.out.U HZ.out.2.1 |>.drewN q2) (by omega) (Nat.le_refl _) (by decide)).mono ?_; rintro e w' ⟨⟨A2, c2, rfl, g1, g2, g3⟩, hb⟩
      have E : Sl _ := ⟨HZ.out.1⟩
      go_wp2_with fail
      go_ret2
      rw [E.out] at g1 g3 ⊢
      have hBq := below_drewN hB q2
      exact ⟨⟨A2, c2, rfl, g1, g2, g3⟩, hu1.trans ((hBq.trans (hb.mono hBq.size)).mono hu1.size)⟩
  · have hfit : (bitsN a : Int) + k ≤ 16384 := by omega
    have HBA : Sl _ := ⟨bitsN_lt a⟩
    generalize hB : bitsN a = B at *
    have HBB : Sl _ := ⟨hB⟩
    have HXX : Sl _ := ⟨hx⟩
    clear hB hx
    have g3 : decide (16384 < (B : Int) + k) = false := by rw [decide_eq_false_iff_not]; omega
    go_enter Tryd.func46, Tryd.ntmps46
    go_wp2_with fail
    refine H.out.mono ?_; rintro e w' ⟨rfl, rfl⟩
    go_wp2_with fail
    refine (HSZ.out _ HA.out).mono ?_; rintro e w' ⟨rfl, q1, rfl⟩
    have hu1 := below_drewN hu q1
    have HA1 : Sl _ := ⟨HA.out.drewN q1⟩
    clear hu HA H
    generalize (w.alloc (.cells #[.slice A n c] 23)).drewN q1 = w1 at *
    go_wp2_with fail
    clear hmk
    go_loopw [8] (fun s8 wr => ∃ (i : Nat) (O : List Nat), i ≤ B ∧ s8 = .int .i64 i ∧ Sl (valOf O = part a i k ∧ O.length = 512 ∧ Out wr w1.heap.size 512 O) ∧ Below w1.heap.size w1 wr) (fun s8 _ => B - (intOf s8).toNat)
    case atStart => exact ⟨0, List.replicate 512 0, Nat.zero_le _, rfl, ⟨by rw [part_zero, valOf_zeros], by simp, Out.zeros _ _⟩, (Below.refl _ _).alloc (Nat.le_refl _) _⟩
    case round =>
      obtain ⟨i, O, hi, rfl, HO, hB⟩ := hrel
      have HAW : Sl _ := ⟨HA1.out.below hB⟩
      by_cases hin : i < B
      · go_wp2_with fail
        refine (HSZ.out _ HAW.out).mono ?_; rintro e w' ⟨rfl, q2, rfl⟩
        have HAW2 : Sl _ := ⟨HAW.out.drewN q2⟩
        have hB2 := below_drewN hB q2
        have HO2 : Sl _ := ⟨And.intro HO.out.1 (And.intro HO.out.2.1 (HO.out.2.2.drewN q2))⟩
        clear HAW hB HO
        generalize wr.drewN q2 = wr2 at *
        by_cases hneg : (i : Int) + k < 0
        · have hneg' : ¬ (0 : Int) ≤ (i : Int) + k := by omega
          have hp : part a (i+1) k = part a i k := part_skip hneg
          have HP : Sl _ := ⟨hp⟩
          clear hp
          go_wp2_with fail
          exact ⟨⟨i + 1, O, hin, by go_num, ⟨by rw [HP.out]; exact HO2.out.1, HO2.out.2⟩, hB2⟩, by simp [intOf]; omega⟩
        · obtain ⟨j, hj⟩ := Int.eq_ofNat_of_zero_le (show 0 ≤ (i : Int) + k by omega)
          have hps := part_step (A := a) hj
          have hjB : j < 16384 := by omega
          obtain ⟨q, hq⟩ : ∃ q, q = j / 32 := ⟨_, rfl⟩
          obtain ⟨r, hr⟩ : ∃ r, r = j % 32 := ⟨_, rfl⟩
          obtain ⟨q', hq'⟩ : ∃ q', q' = i / 32 := ⟨_, rfl⟩
          obtain ⟨r', hr'⟩ : ∃ r', r' = i % 32 := ⟨_, rfl⟩
          have hcb := bit_any A n c (limbs a) i q' r' wr2.drew (HAW2.out.drewN 1) (by omega) hq'.symm hr'.symm (by omega) (by omega)
          rw [valOf_limbs] at hcb
          have hb1 : a / 2 ^ i % 2 ≤ 1 := by omega
          have hol := or_low (l := O) HO2.out.2.2.2 (i := j) (b := a / 2 ^ i % 2) (by rw [HO2.out.1]; exact hps.2) hb1 (by rw [HO2.out.2.1]; omega)
          rw [← hq, ← hr] at hol
          rw [HO2.out.1, ← hps.1] at hol
          have hc0 := HO2.out.2.2.cellAt (i := q) (by omega)
          have hf0 := HO2.out.2.2.1.frozen q
          have e0 : lim O q = O[q]?.getD 0 := rfl
          rw [← e0] at hc0
          have hlo := lim_lt HO2.out.2.2.2 q
          have hsh := sh_or (lim O q) (a / 2 ^ i % 2) r hlo hb1 (by omega)
          have hw1 : IntKind.i64.wrap (j : Int) = (j : Int) := by rw [IntKind.wrap_i64]; omega
          have hw2 : IntKind.i64.wrap (q : Int) = (q : Int) := by rw [IntKind.wrap_i64]; omega
          have hw3 : IntKind.i64.wrap (r : Int) = (r : Int) := by rw [IntKind.wrap_i64]; omega
          have hdq : (j : Int).tdiv 32 = q := by rw [Int.tdiv_eq_ediv_of_nonneg (by omega)]; omega
          have hdr : (j : Int).tmod 32 = r := by rw [Int.tmod_eq_emod_of_nonneg (by omega)]; omega
          have hdq2 : (j : Int) / 32 = q := by omega
          have hdr2 : (j : Int) % 32 = r := by omega
          have hq5 : q < 512 := by omega
          have hq6 : (q : Int) < 512 := by omega
          have hr32 : r < 32 := by omega
          generalize a / 2 ^ i % 2 = b at *
          generalize lim O q = z at *
          have HB1 : Sl _ := ⟨hcb⟩
          have HOL : Sl _ := ⟨hol⟩
          have HSH : Sl _ := ⟨hsh⟩
          clear hcb hol hsh hps hlo e0 hq hr hq' hr' hb1
          have hpos : (0 : Int) ≤ (i : Int) + k := by omega
          go_wp2_with fail
          go_region_with (go_at_call 88; (with_reducible refine HB1.out.mono ?_); rintro e w' ⟨rfl, rfl⟩)
          all_goals (
            go_wp2_with fail
            exact ⟨⟨i + 1, O.set q (z ||| b * 2 ^ r), hin, by go_num, ⟨HOL.out.1, by rw [List.length_set]; exact HO2.out.2.1, (HO2.out.2.2.put HO2.out.2.1 hq5 HSH.out HOL.out.2).drewN 1⟩, below_drewN (hB2.setCell (Nat.le_refl _) _) 1⟩, by simp [intOf]; omega⟩)
      · obtain rfl : i = B := by omega
        go_wp2_with fail
        refine (HSZ.out _ HAW.out).mono ?_; rintro e w' ⟨rfl, q2, rfl⟩
        go_wp2_with fail
        refine (rtrim_any _ _ 512 O (wr.drewN q2) (HO.out.2.2.U HO.out.2.1 |>.drewN q2) (by omega) (Nat.le_refl _) (by decide)).mono ?_; rintro e w' ⟨⟨A2, c2, rfl, g1, g2, g3⟩, hb⟩
        have hU := HO.out.2.2.U HO.out.2.1
        have hs := HO.out.1
        rw [part_all HBA.out, HXX.out] at hs
        have e : trimN O = limbs x := by rw [trimN_limbs hU.2, hs]
        have E : Sl _ := ⟨e⟩
        clear e hs hU
        go_wp2_with fail
        go_ret2
        rw [E.out] at g1 g3 ⊢
        have hBq := below_drewN hB q2
        exact ⟨⟨A2, c2, rfl, g1, g2, g3⟩, hu1.trans ((hBq.trans (hb.mono hBq.size)).mono hu1.size)⟩

theorem rShift_fit {la : List Nat} {k : Int} (hv : badE [la] = 0) (hk1 : -20000 ≤ k) (hk2 : k ≤ 20000) (hfit : la.length = 0 ∨ (bitsN (valOf la) : Int) + k ≤ 16384) (hl : ∀ x ∈ la, x < LB) :
    shiftS la k = (limbs (if k < 0 then valOf la / 2 ^ (-k).toNat else valOf la * 2 ^ k.toNat), 0) := by
  have h5 : la.length ≤ 512 := by
    have := badE_zero.1 hv la (by simp)
    simp [validL] at this
    exact this.1
  have hno : ¬ (k < -20000 ∨ 20000 < k) := by omega
  rw [shiftS, if_pos hv, if_neg hno]
  by_cases h0 : k < 0
  · rw [if_pos h0, if_pos h0]
    have hf : (limbs (valOf la / 2 ^ (-k).toNat)).length ≤ 512 := val_len hl h5 (Nat.div_le_self _ _)
    simp only [fitS, if_pos hf]
  · rw [if_neg h0, if_neg h0]
    have hf : (limbs (valOf la * 2 ^ k.toNat)).length ≤ 512 := by
      by_cases hz : valOf la = 0
      · rw [hz, Nat.zero_mul, limbs_zero]; simp
      · have h1 : la.length ≠ 0 := by
          intro h1
          have : la = [] := List.eq_nil_of_length_eq_zero h1
          rw [this] at hz
          exact hz rfl
        refine fit_short ?_
        rw [bitsN_mul_pow hz]
        omega
    simp only [fitS, if_pos hf]
theorem rShift_toolong {la : List Nat} {k : Int} (hv : badE [la] = 0) (hk1 : -20000 ≤ k) (hk2 : k ≤ 20000) (h0 : la.length ≠ 0) (hlong : 16384 < (bitsN (valOf la) : Int) + k) (hn : la = limbs (valOf la)) :
    shiftS la k = ([], 3) := by
  have h5 : la.length ≤ 512 := by
    have := badE_zero.1 hv la (by simp)
    simp [validL] at this
    exact this.1
  have hno : ¬ (k < -20000 ∨ 20000 < k) := by omega
  have hb : bitsN (valOf la) ≤ 32 * la.length := bitsN_limbs (by rw [← hn]; exact Nat.le_refl _)
  have hz : valOf la ≠ 0 := by
    intro hz
    rw [hz, limbs_zero] at hn
    rw [hn] at h0
    exact h0 rfl
  rw [shiftS, if_pos hv, if_neg hno, if_neg (by omega)]
  have hf : ¬ (limbs (valOf la * 2 ^ k.toNat)).length ≤ 512 := by
    have : 512 < (limbs (valOf la * 2 ^ k.toNat)).length := fit_long (by rw [bitsN_mul_pow hz]; omega)
    omega
  simp only [fitS, if_neg hf]

set_option maxHeartbeats 800000 in
theorem rShift_any (A : Option Addr) (n c : Nat) (la : List Nat) (k : Int) (w : World) (ha : Arg w A n c la) (hk64 : -9223372036854775808 ≤ k ∧ k < 9223372036854775808) :
    Calls Tryd.prog 46 #[.slice A n c, .int .i64 k] w fun e w' => NatRes (shiftS la k).1 (shiftS la k).2 e w' ∧ Below w.heap.size w w' := by
  have hck := rbad1 A n c la w 23 ha
  have hu : Below w.heap.size w (w.alloc (.cells #[.slice A n c] 23)) := (Below.refl _ _).alloc (Nat.le_refl _) _
  rcases badE_cases [la] with e | e | e
  · obtain ⟨h1, h2⟩ := ok_one ha (badE_zero.1 e la (by simp))
    have hnl := ha.1.len
    have heq := ((validL_iff ha.1.2).1 (badE_zero.1 e la (by simp))).1
    by_cases hk : k < -20000 ∨ 20000 < k
    · have es : shiftS la k = ([], 2) := by simp [shiftS, e, hk]
      rw [es]
      rw [e] at hck
      have H : Sl _ := ⟨hck⟩
      clear hck es e ha h1 h2 hnl heq
      rcases hk with hk | hk
      · go_enter Tryd.func46, Tryd.ntmps46
        go_wp2_with fail
        refine H.out.mono ?_; rintro e w' ⟨rfl, rfl⟩
        go_wp2
        go_ret2
        exact ⟨nat_none _ _, hu⟩
      · have g1 : decide (k < -20000) = false := by rw [decide_eq_false_iff_not]; omega
        go_enter Tryd.func46, Tryd.ntmps46
        go_wp2_with fail
        refine H.out.mono ?_; rintro e w' ⟨rfl, rfl⟩
        go_wp2
        go_ret2
        exact ⟨nat_none _ _, hu⟩
    · by_cases hfit : la.length = 0 ∨ (bitsN (valOf la) : Int) + k ≤ 16384
      · rw [rShift_fit e (by omega) (by omega) hfit ha.1.2]
        have e2 := e
        rw [heq] at e2
        exact rShift_ok A n c (valOf la) k w h1 h2 e2 (by omega) (by omega) (by rw [hnl] at hfit; exact hfit)
      · rw [rShift_toolong e (by omega) (by omega) (by omega) (by omega) heq]
        rw [e] at hck
        have hsz := size_any A n c (valOf la) _ (h1.below hu).1 (by omega)
        have g1 : decide (k < -20000) = false := by rw [decide_eq_false_iff_not]; omega
        have g2 : decide (20000 < k) = false := by rw [decide_eq_false_iff_not]; omega
        have g3 : 16384 < (bitsN (valOf la) : Int) + k := by omega
        have g4 : 0 < n := by omega
        have g5 : bitsN (valOf la) ≤ 16384 := by
          have := bitsN_limbs (a := valOf la) (n := n) (by rw [← heq, hnl]; exact Nat.le_refl _)
          omega
        generalize bitsN (valOf la) = B at *
        have H : Sl _ := ⟨hck⟩
        have HS : Sl _ := ⟨hsz⟩
        clear hck hsz e ha h1 hnl heq hfit
        go_enter Tryd.func46, Tryd.ntmps46
        go_wp2_with fail
        refine H.out.mono ?_; rintro e w' ⟨rfl, rfl⟩
        go_wp2_with fail
        refine HS.out.mono ?_; rintro e w' ⟨rfl, q, rfl⟩
        go_wp2_with fail
        go_ret2
        exact ⟨nat_none _ _, below_drewN hu q⟩
  all_goals
    have es : shiftS la k = ([], badE [la]) := by simp [shiftS, e]
    rw [es, e]
    rw [e] at hck
    have H : Sl _ := ⟨hck⟩
    clear hck es e ha
    go_enter Tryd.func46, Tryd.ntmps46
    go_wp2_with fail
    refine H.out.mono ?_; rintro e w' ⟨rfl, rfl⟩
    go_wp2
    go_ret2
    exact ⟨nat_none _ _, hu⟩
end Go.Proofs.YtgjbaamhpapeeaaDoor
