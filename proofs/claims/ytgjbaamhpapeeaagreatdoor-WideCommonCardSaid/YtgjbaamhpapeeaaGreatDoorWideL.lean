/- Package wide, twelfth part: root. -/
import Derived.Test.YtgjbaamhpapeeaaGreatDoorWideK
namespace Go.Proofs.YtgjbaamhpapeeaaGreatDoor
set_option linter.unusedSimpArgs false
open Go.RowKit
set_option linter.unusedVariables false

theorem limbs_len_add {a b M : Nat} (ha : (limbs a).length ≤ M) (hb : (limbs b).length ≤ M) : (limbs (a + b)).length ≤ M + 1 := by
  refine limbs_len_le ?_
  have h1 := lt_limbs_len a
  have h2 := lt_limbs_len b
  have h3 : LB ^ (limbs a).length ≤ LB ^ M := Nat.pow_le_pow_right LB_pos ha
  have h4 : LB ^ (limbs b).length ≤ LB ^ M := Nat.pow_le_pow_right LB_pos hb
  rw [Nat.pow_succ LB M]
  generalize LB ^ M = Z at *
  unfold LB; omega
theorem am_gm (z x m : Nat) : (m + 1) * (z * x ^ m) ≤ z ^ (m+1) + m * x ^ (m+1) := by
  induction m with
  | zero => simp
  | succ m ih =>
    have h1 : (m+1) * (z * x ^ m) * z ≤ (z ^ (m+1) + m * x ^ (m+1)) * z := Nat.mul_le_mul_right _ ih
    have h2 : 2 * (z * x) ≤ z * z + x * x := by
      rcases Nat.le_total z x with h | h
      · obtain ⟨d, rfl⟩ := Nat.exists_eq_add_of_le h
        grind
      · obtain ⟨d, rfl⟩ := Nat.exists_eq_add_of_le h
        grind
    have h3 : 2 * (z * x) * ((m+1) * x ^ m) ≤ (z * z + x * x) * ((m+1) * x ^ m) := Nat.mul_le_mul_right _ h2
    simp only [Nat.pow_succ] at *
    generalize x ^ m = X at *
    generalize z ^ m = Z at *
    grind
/-- x is the k-th root of a, rounded down -/
structure IsRoot (k a x : Nat) : Prop where
  le : x ^ k ≤ a
  lt : a < (x + 1) ^ k
theorem IsRoot.uniq {k a x y : Nat} (h : IsRoot k a x) (g : IsRoot k a y) : x = y := by
  rcases Nat.lt_trichotomy x y with e | e | e
  · exact absurd (Nat.lt_of_lt_of_le h.lt (Nat.le_trans (Nat.pow_le_pow_left e k) g.le)) (Nat.lt_irrefl _)
  · exact e
  · exact absurd (Nat.lt_of_lt_of_le g.lt (Nat.le_trans (Nat.pow_le_pow_left e k) h.le)) (Nat.lt_irrefl _)
theorem root_start {a B k : Nat} (ha : a < 2 ^ B) (hk : 0 < k) : a < (2 ^ (B / k + 1) + 1) ^ k := by
  have h1 : (2 ^ (B / k + 1)) ^ k ≤ (2 ^ (B / k + 1) + 1) ^ k := Nat.pow_le_pow_left (Nat.le_succ _) k
  rw [← Nat.pow_mul] at h1
  have h2 : B ≤ (B / k + 1) * k := by
    have := Nat.div_add_mod B k
    have h3 := Nat.mod_lt B hk
    rw [Nat.add_mul, Nat.one_mul, Nat.mul_comm]; omega
  exact Nat.lt_of_lt_of_le ha (Nat.le_trans (Nat.pow_le_pow_right (by decide) h2) h1)
theorem root_step {a x m : Nat} (hx : 0 < x) : a < ((x * m + a / x ^ m) / (m + 1) + 1) ^ (m + 1) := by
  have hX : 0 < x ^ m := Nat.pow_pos hx
  have h1 : a < (a / x ^ m + 1) * x ^ m := by
    have h := Nat.lt_mul_div_succ a hX
    rwa [Nat.mul_comm] at h
  have h2 : x * m + a / x ^ m + 1 ≤ (m + 1) * ((x * m + a / x ^ m) / (m + 1) + 1) := Nat.lt_mul_div_succ _ (Nat.succ_pos _)
  generalize (x * m + a / x ^ m) / (m + 1) + 1 = y at *
  have h3 := am_gm y x m
  have h4 : (x * m + a / x ^ m + 1) * x ^ m ≤ (m + 1) * y * x ^ m := Nat.mul_le_mul_right _ h2
  generalize a / x ^ m = q at *
  rw [Nat.pow_succ x] at h3
  generalize x ^ m = X at *
  generalize y ^ (m+1) = Y at *
  grind
theorem root_stop {a x m : Nat} (h : x ≤ (x * m + a / x ^ m) / (m + 1)) : x ^ (m + 1) ≤ a := by
  have h1 : x * (m + 1) ≤ x * m + a / x ^ m := (Nat.le_div_iff_mul_le (Nat.succ_pos _)).1 h
  have h2 : x ≤ a / x ^ m := by rw [Nat.mul_add] at h1; omega
  have h3 : x * x ^ m ≤ a / x ^ m * x ^ m := Nat.mul_le_mul_right _ h2
  rw [Nat.pow_succ, Nat.mul_comm]
  exact Nat.le_trans h3 (Nat.div_mul_le_self _ _)

/-- the root of a number -/
def RootRes (k a : Nat) (e : Ending) (w : World) : Prop := ∃ x, IsRoot k a x ∧ Limbs (limbs x) e w

set_option maxHeartbeats 800000 in
set_option maxRecDepth 100000 in
theorem root_any (A : Option Addr) (n c a k : Nat) (w : World) (ha : Arg w A n c (limbs a)) (hn : n ≤ 512) (hk : k ≤ 64) (hk0 : 0 < k) :
    Calls Tryz.prog 63 #[.slice A n c, .int .i64 k] w fun e w' => RootRes k a e w' ∧ Below w.heap.size w w' := by
  by_cases htriv : n = 0 ∨ k = 1
  · have hr : IsRoot k a a := by
      rcases htriv with h | h
      · have h0 : a = 0 := limbs_nil_iff.1 (List.eq_nil_of_length_eq_zero (by rw [ha.1.len]; exact h))
        subst h0
        obtain ⟨m, rfl⟩ : ∃ m, k = m + 1 := ⟨k - 1, by omega⟩
        exact ⟨by simp, by simp⟩
      · subst h; exact ⟨by simp, by simp⟩
    have hl := ha.1.len
    have HA : Sl _ := ⟨ha⟩
    have HR : Sl _ := ⟨hr⟩
    have HL : Sl _ := ⟨hl⟩
    clear ha hr hl
    go_enter Tryz.func63, Tryz.ntmps63
    rcases Nat.eq_zero_or_pos n with h | h
    · subst h
      go_wp2
      go_ret
      exact ⟨⟨a, HR.out, A, c, by rw [HL.out]; rfl, by rw [HL.out]; exact HA.out.2.1, HA.out.2.2, by rw [HL.out]; exact HA.out.1⟩, Below.refl _ _⟩
    · obtain rfl : k = 1 := by omega
      have g0 : ((n : Int) == 0) = false := by rw [beq_eq_false_iff_ne]; omega
      go_wp2
      go_ret
      exact ⟨⟨a, HR.out, A, c, by rw [HL.out]; rfl, by rw [HL.out]; exact HA.out.2.1, HA.out.2.2, by rw [HL.out]; exact HA.out.1⟩, Below.refl _ _⟩
  · have hn0 : 0 < n := by omega
    have hk2 : 2 ≤ k := by omega
    have g0 : ((n : Int) == 0) = false := by rw [beq_eq_false_iff_ne]; omega
    have gk : ((k : Int) == 1) = false := by rw [beq_eq_false_iff_ne]; omega
    obtain ⟨B, hB⟩ : ∃ B, bitsN a = B := ⟨_, rfl⟩
    have hB2 : B ≤ 16384 := by rw [← hB]; exact bitsN_limbs (n := 512) (by rw [ha.1.len]; exact hn)
    have haB : a < 2 ^ B := by rw [← hB]; exact bitsN_lt a
    have hst := root_start haB hk0
    obtain ⟨Q, hQ⟩ : ∃ Q, B / k = Q := ⟨_, rfl⟩
    rw [hQ] at hst
    have hQ2 : Q ≤ 16384 := by rw [← hQ]; exact Nat.le_trans (Nat.div_le_self _ _) hB2
    have hQi : (B : Int) / (k : Int) = (Q : Int) := by rw [← hQ]; simp
    have hQB : (Q + 1) * k ≤ 16384 + 64 := by
      have := Nat.div_mul_le_self B k
      rw [hQ] at this
      rw [Nat.add_mul]; omega
    have HA : Sl _ := ⟨ha⟩
    have HB : Sl _ := ⟨hB⟩
    have HST : Sl _ := ⟨hst⟩
    have HQB : Sl _ := ⟨hQB⟩
    clear ha hB haB hst hQ hQB htriv
    go_enter Tryz.func63, Tryz.ntmps63
    go_wp2_with fail
    refine (of_any 1 _ (by decide)).mono ?_; rintro e w1 ⟨⟨A1, c1, rfl, k1, k2, k3⟩, hb1⟩
    have H1 : Sl _ := ⟨k3⟩
    clear k1 k2 k3
    have hl1 : (limbs 1).length ≤ 4294967296 := by
      have h : (limbs 1).length ≤ 1 := limbs_len_le (by decide)
      omega
    generalize (limbs 1).length = l1 at *
    go_wp2_with fail
    refine (bits_any A n c a _ (HA.out.below hb1).1 (by omega)).mono ?_; rintro e w' ⟨rfl, rfl⟩
    rw [HB.out]
    go_wp2_with fail
    rw [show ((Q : Int) + 1) = ((Q + 1 : Nat) : Int) by simp]
    refine (up_all A1 l1 c1 1 (Q+1) _ H1.out hl1 (by omega)).mono ?_; rintro e w2 ⟨⟨A2, c2, rfl, k1, k2, k3⟩, hb2⟩
    rw [Nat.one_mul] at k1 k3 ⊢
    have hw2 := hb1.trans (hb2.mono hb1.size)
    have H2 : Sl (NV w2 _ _) := ⟨⟨A2, c2, rfl, k3, k1, k2⟩⟩
    clear k1 k2 k3 hl1 hQi
    generalize Value.slice A2 (limbs (2 ^ (Q + 1))).length c2 = v2 at *
    obtain ⟨m, hm⟩ : ∃ m, k = m + 1 := ⟨k - 1, by omega⟩
    have HM : Sl _ := ⟨hm⟩
    have hkm : (k : Int) - 1 = (m : Int) := by omega
    have hm64 : m < 64 := by omega
    have hm0 : 0 < m := by omega
    clear hm
    have HLX : Sl (∀ x i : Nat, x ≤ 2 ^ (Q + 1) → i ≤ k → (limbs (x ^ i)).length ≤ 600) := ⟨fun x i hx hi => by
      have h1 := HQB.out
      have h2 : (Q + 1) * i ≤ (Q + 1) * k := Nat.mul_le_mul_left _ hi
      exact len_le_bits hx h2 (M := 600) (by omega)⟩
    have HP2 : Sl (0 < 2 ^ (Q + 1)) := ⟨Nat.two_pow_pos _⟩
    generalize 2 ^ (Q + 1) = X0 at *
    go_wp2_with fail
    go_loopw [5] (fun s5 wr => ∃ (x : Nat), NV wr s5 x ∧ 0 < x ∧ x ≤ X0 ∧ a < (x + 1) ^ k ∧ Below w.heap.size w wr) (fun s5 wr => Classical.epsilon (fun z => NV wr s5 z))
    case atStart => exact ⟨X0, H2.out, HP2.out, Nat.le_refl _, HST.out, hw2⟩
    case round =>
      obtain ⟨x, hx, hx0, hxX, hax, hB⟩ := hrel
      have hep := hx.eps
      have HE : Sl _ := ⟨hep⟩
      obtain ⟨A3, c3, rfl, h3⟩ := hx
      have H3 : Sl _ := ⟨h3⟩
      have HAX : Sl _ := ⟨hax⟩
      have hlx : (limbs x).length ≤ 600 := by have := HLX.out x 1 hxX hk0; rwa [Nat.pow_one] at this
      have HLx : Sl _ := ⟨hlx⟩
      clear h3 hax hep hlx
      go_wp2_with fail
      refine (of_any 1 _ (by decide)).mono ?_; rintro e w3 ⟨⟨A4, c4, rfl, k1, k2, k3⟩, hb3⟩
      have H4 : Sl (NV w3 _ _) := ⟨⟨A4, c4, rfl, k3, k1, k2⟩⟩
      clear k1 k2 k3
      generalize Value.slice A4 (limbs 1).length c4 = v4 at *
      go_wp2_with fail
      go_loopw [6, 29] (fun s6 s29 wy => ∃ (i : Nat), i ≤ m ∧ s29 = .int .i64 i ∧ NV wy s6 (x ^ i) ∧ Below wr.heap.size wr wy) (fun _ s29 _ => m - (intOf s29).toNat)
      case atStart => exact ⟨0, Nat.zero_le _, rfl, by rw [Nat.pow_zero]; exact H4.out, hb3⟩
      case round =>
        obtain ⟨i, hi, rfl, ⟨A5, c5, rfl, h5⟩, hBy⟩ := hrel
        have hl5 := HLX.out x i hxX (by have := HM.out; omega)
        have H5 : Sl _ := ⟨h5⟩
        have HL5 : Sl _ := ⟨hl5⟩
        clear h5 hl5
        by_cases him : i < m
        · go_wp2_with fail
          refine (times_any A5 A3 _ _ c5 c3 _ _ _ H5.out.1 (H3.out.below hBy).1 (by have := HL5.out; omega) (by have := HLx.out; omega)).mono ?_; rintro e w5 ⟨⟨A6, c6, rfl, k1, k2, k3⟩, hb5⟩
          have H6 : Sl (NV w5 _ _) := ⟨⟨A6, c6, rfl, k3, k1, k2⟩⟩
          clear k1 k2 k3
          go_wp2_with fail
          exact ⟨⟨i + 1, him, by go_num, by rw [Nat.pow_succ]; exact H6.out, hBy.trans (hb5.mono hBy.size)⟩, by simp [intOf]; omega⟩
        · obtain rfl : i = m := by omega
          have hBo := hB.trans (hBy.mono hB.size)
          have HSTEP : Sl (a < ((x * i + a / x ^ i) / (i + 1) + 1) ^ (i + 1)) := ⟨root_step hx0⟩
          have HSTOP : Sl (x ≤ (x * i + a / x ^ i) / (i + 1) → x ^ (i + 1) ≤ a) := ⟨root_stop⟩
          have hpn : x ^ i ≠ 0 := Nat.ne_of_gt (Nat.pow_pos hx0)
          have HX5 := H3.out.below hBy
          have HX : Sl _ := ⟨HX5⟩
          clear HX5
          have hiB : i < LB * LB := by unfold LB; omega
          have hli : (limbs i).length ≤ 1 := limbs_len_le (by unfold LB; omega)
          go_wp2_with fail
          refine (div_any A A5 n _ c c5 a (x ^ i) _ (HA.out.below hBo).1 H5.out.1 (by omega) (by have := HL5.out; omega) hpn).mono ?_; rintro e w6 ⟨⟨Q6, c6, R6, d6, rfl, hq6, hr6⟩, hb6⟩
          have hql : (limbs (a / x ^ i)).length ≤ 512 := by
            have h1 := limbs_len_mono (Nat.div_le_self a (x ^ i))
            have h2 := HA.out.1.len; omega
          generalize hqq : a / x ^ i = q at *
          have HQ6 : Sl _ := ⟨hq6⟩
          have HQL : Sl _ := ⟨hql⟩
          clear hq6 hr6 hql hqq
          go_wp2_with fail
          refine (of_any i _ hiB).mono ?_; rintro e w7 ⟨⟨A7, c7, rfl, k1, k2, k3⟩, hb7⟩
          have H7 : Sl _ := ⟨k3⟩
          have hb67 := hb6.trans (hb7.mono hb6.size)
          clear k1 k2 k3
          go_wp2_with fail
          refine (times_any A3 A7 _ _ c3 c7 x i _ (HX.out.below hb67).1 H7.out (by have := HLx.out; omega) (by omega)).mono ?_; rintro e w8 ⟨⟨A8, c8, rfl, k1, k2, k3⟩, hb8⟩
          have hb68 := hb67.trans (hb8.mono hb67.size)
          have H8 : Sl _ := ⟨k3⟩
          have hl8 : (limbs (x * i)).length ≤ 601 := by
            have h1 := limbs_len_mul x i
            have h2 := HLx.out; omega
          clear k1 k2 k3
          have hb78 := hb7.trans (hb8.mono hb7.size)
          go_wp2_with fail
          refine (plus_any A8 Q6 _ _ c8 c6 (x * i) q _ H8.out (HQ6.out.below hb78).1 (by omega) (by have := HQL.out; omega)).mono ?_; rintro e w9 ⟨⟨A9, c9, rfl, k1, k2, k3⟩, hb9⟩
          have hb69 := hb68.trans (hb9.mono hb68.size)
          have H9 : Sl _ := ⟨k3⟩
          have hl9 : (limbs (x * i + q)).length ≤ 1300 := limbs_len_add (M := 1299) (by omega) (by have := HQL.out; omega)
          clear k1 k2 k3
          go_wp2_with fail
          refine (short_any A9 _ c9 (x * i + q) k _ H9.out (by omega) hk0 (by omega)).mono ?_; rintro e w10 ⟨⟨A10, c10, rfl, k1, k2, k3⟩, hb10⟩
          have hki := HM.out
          rw [← hki] at HSTEP HSTOP
          generalize hyy : (x * i + q) / k = y at *
          have hyx : y ≤ x ∨ x ≤ y := Nat.le_total _ _
          have hlys : (limbs y).length ≤ 4294967296 := by
            have h1 := limbs_len_mono (a := y) (b := x * i + q) (by rw [← hyy]; exact Nat.div_le_self _ _)
            omega
          have H10 : Sl (Arg w10 A10 (limbs y).length c10 (limbs y)) := ⟨⟨k3, k1, k2⟩⟩
          have hb610 := hb69.trans (hb10.mono hb69.size)
          clear k1 k2 k3 hyy hki
          go_wp2_with fail
          refine (cmp_any A10 A3 _ _ c10 c3 y x _ H10.out.1 (HX.out.below hb610).1 hlys (by have := HLx.out; omega)).mono ?_; rintro e w11 ⟨rfl, nq, rfl⟩
          by_cases hyx2 : y < x
          · rw [cmpN_lt hyx2]
            have hy0 : 0 < y := by
              rcases Nat.eq_zero_or_pos y with h0 | h0
              · exfalso
                have h1 := HSTEP.out
                rw [h0, Nat.zero_add, Nat.one_pow] at h1
                have h2 : limbs a = [] := limbs_nil_iff.2 (by omega)
                have h3 := HA.out.1.len
                rw [h2] at h3
                simp at h3
                omega
              · exact h0
            have hny : NV (w10.drewN nq) (.slice A10 (limbs y).length c10) y := ⟨A10, c10, rfl, H10.out.drewN nq⟩
            go_wp2_with fail
            have hny' := hny.eps
            rw [HE.out, hny']
            exact ⟨⟨y, hny, hy0, Nat.le_trans (Nat.le_of_lt hyx2) hxX, HSTEP.out, below_drewN (hBo.trans (hb610.mono hBo.size)) nq⟩, hyx2⟩
          · have hge : (0 : Int) ≤ cmpN y x := by unfold cmpN; split <;> (try split) <;> omega
            have hres : IsRoot k a x := ⟨HSTOP.out (by omega), HAX.out⟩
            generalize cmpN y x = z at *
            go_wp2_with fail
            go_ret
            refine ⟨⟨x, hres, A3, c3, rfl, HX.out.2.1, HX.out.2.2, ((HX.out.below hb610).drewN nq).1⟩, below_drewN (hBo.trans (hb610.mono hBo.size)) nq⟩
end Go.Proofs.YtgjbaamhpapeeaaGreatDoor
