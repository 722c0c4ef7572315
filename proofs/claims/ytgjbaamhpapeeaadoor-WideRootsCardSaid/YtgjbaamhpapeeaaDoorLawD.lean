/- The reference: limb, Valid, bad, fit, Order, Plus, Minus, Times. -/
import Derived.Test.YtgjbaamhpapeeaaDoorWideN
import Derived.Test.YtgjbaamhpapeeaaDoorNatV
namespace Go.Proofs.YtgjbaamhpapeeaaDoor
set_option linter.unusedSimpArgs false
open Go.RowKit
set_option linter.unusedVariables false

set_option maxHeartbeats 400000 in
/-- the reference's limb -/
theorem limb_any (A : Option Addr) (n c : Nat) (l : List Nat) (i : Nat) (w : World) (h : U w A n l) (hn : n ≤ 4294967296) (hi : i ≤ 4294967296) :
    Calls Tryd.prog 70 #[.slice A n c, .int .i64 i] w fun e w' => e = .returned (.int .u64 (lim l i)) ∧ w = w' := by
  by_cases hin : i < n
  · obtain ⟨ad, rfl, hb, hcell⟩ := h.cell (k := i) hin
    have hlt := h.lt i
    unfold LB at hlt
    have e : lim l i = l[i]?.getD 0 := rfl
    rw [e]
    go_enter Tryd.func70, Tryd.ntmps70
    go_wp2_with fail
    go_ret
    exact ⟨ret_int (by omega), rfl⟩
  · have e : lim l i = 0 := lim_out (by rw [h.len]; omega)
    rw [e]
    go_enter Tryd.func70, Tryd.ntmps70
    go_wp2_with fail
    go_ret
    exact ⟨rfl, rfl⟩

set_option maxHeartbeats 400000 in
/-- the reference's Valid -/
theorem rValid_any (A : Option Addr) (n c : Nat) (l : List Nat) (w : World) (h : U w A n l) (hc : n ≤ c) (hm : c ≤ maxLen) :
    Calls Tryd.prog 27 #[.slice A n c] w fun e w' => e = .returned (.bool (validL l)) ∧ w = w' := by
  have hl := h.len
  unfold maxLen at hm
  by_cases h5 : n ≤ 512
  · rcases n with _ | n
    · go_enter Tryd.func27, Tryd.ntmps27
      go_wp2
      go_ret
      have e : l = [] := List.eq_nil_of_length_eq_zero hl
      subst e
      exact ⟨rfl, rfl⟩
    · obtain ⟨ad, rfl, hb, hcell⟩ := h.cell (k := n) (by omega)
      have HL := Lib.hid hl; clear hl
      have g0 : (((n : Int) + 1) == 0) = false := by rw [beq_eq_false_iff_ne]; omega
      have g1 : (n : Int) + 1 ≤ 512 := by omega
      set_option maxRecDepth 10000 in
      go_enter Tryd.func27, Tryd.ntmps27
      go_wp2
      go_ret
      refine ⟨?_, rfl⟩
      show Ending.returned (.bool ((↑(l[n]?.getD 0) : Int) != 0)) = _
      have hl := HL.out
      rw [validL_succ hl h5]
      congr 2
      generalize l[n]?.getD 0 = x
      cases x <;> simp <;> omega
  · have h5' : decide (n ≤ 512) = false := by simp; omega
    go_enter Tryd.func27, Tryd.ntmps27
    go_wp2
    go_ret
    refine ⟨?_, rfl⟩
    show Ending.returned (.bool false) = _
    simp [validL, hl, h5]

set_option maxHeartbeats 800000 in
/-- the reference's bad -/
theorem rbad_any (ad : Addr) (k c : Nat) (vs : Nat → Value) (ls : List (List Nat)) (w : World) (hk : ls.length = k) (hk2 : k ≤ 4294967296) (hcell : ∀ i, i < k → w.cell? (ad.add i) = some (vs i))
    (hv : ∀ i, i < k → ∃ A n c, vs i = .slice A n c ∧ U w A n (ls[i]?.getD []) ∧ n ≤ c ∧ c ≤ maxLen) :
    Calls Tryd.prog 59 #[.slice (some ad) k c] w fun e w' => e = .returned (.int .i64 (badE ls)) ∧ w = w' := by
  have HC : Sl _ := ⟨hcell⟩
  have HV : Sl _ := ⟨hv⟩
  have e1 := any_idx hk (fun l => decide (512 < l.length))
  have e2 := any_idx hk (fun l => !validL l)
  have hbad : badE ls = if ls.any (fun l => decide (512 < l.length)) then 3 else if ls.any (fun l => !validL l) then 2 else 0 := rfl
  rw [← e1, ← e2] at hbad
  have HB : Sl _ := ⟨hbad⟩
  clear hcell hv e1 e2 hbad
  go_enter Tryd.func59, Tryd.ntmps59
  go_wp2_with fail
  go_loop [3] (fun s3 => ∃ i : Nat, i ≤ k ∧ s3 = .int .i64 i ∧ ∀ j, j < i → (ls[j]?.getD []).length ≤ 512) (fun s3 => k - (intOf s3).toNat)
  case atStart => exact ⟨0, Nat.zero_le _, rfl, fun j hj => absurd hj (Nat.not_lt_zero _)⟩
  case round =>
    obtain ⟨i, hi, rfl, hp⟩ := hrel
    have HP : Sl _ := ⟨hp⟩
    clear hp
    by_cases hik : i < k
    · have hc := HC.out i hik
      obtain ⟨A, n, c, hvi, hu, hnc, hcm⟩ := HV.out i hik
      rw [hvi] at hc
      have hlen := hu.len
      clear hvi hu
      unfold maxLen at hcm
      by_cases h5 : n ≤ 512
      · have H5 : Sl _ := ⟨hlen⟩
        clear hlen
        go_wp2_with fail
        refine ⟨⟨i + 1, hik, by go_num, fun j hj => ?_⟩, by simp [intOf]; omega⟩
        rcases Nat.lt_or_ge j i with h1 | h1
        · exact HP.out j h1
        · obtain rfl : j = i := by omega
          rw [H5.out]; exact h5
      · have hx : badE ls = 3 := by
          rw [HB.out, if_pos]
          rw [List.any_eq_true]
          exact ⟨i, List.mem_range.2 hik, by simp; omega⟩
        have HX : Sl _ := ⟨hx⟩
        clear hx hlen
        go_wp2_with fail
        go_ret
        exact ⟨by rw [HX.out]; rfl, rfl⟩
    · have hno : (List.range k).any (fun i => decide (512 < (ls[i]?.getD []).length)) = false := by
        rw [List.any_eq_false]
        intro j hj
        have := HP.out j (by have := List.mem_range.1 hj; omega)
        simp; omega
      have HNO : Sl _ := ⟨hno⟩
      clear hno
      go_wp2_with fail
      go_loop [4] (fun s4 => ∃ i : Nat, i ≤ k ∧ s4 = .int .i64 i ∧ ∀ j, j < i → validL (ls[j]?.getD []) = true) (fun s4 => k - (intOf s4).toNat)
      case atStart => exact ⟨0, Nat.zero_le _, rfl, fun j hj => absurd hj (Nat.not_lt_zero _)⟩
      case round =>
        clear hik hi
        obtain ⟨i, hi, rfl, hp⟩ := hrel
        have HQ : Sl _ := ⟨hp⟩
        clear hp
        by_cases hik : i < k
        · have hc := HC.out i hik
          obtain ⟨A, n, c, hvi, hu, hnc, hcm⟩ := HV.out i hik
          rw [hvi] at hc
          have hval := rValid_any A n c _ w hu hnc hcm
          clear hvi hu
          rcases hvl : validL (ls[i]?.getD []) with _ | _
          · have hx : badE ls = 2 := by
              rw [HB.out, HNO.out, if_neg (by simp), if_pos]
              rw [List.any_eq_true]
              exact ⟨i, List.mem_range.2 hik, by simp [hvl]⟩
            rw [hvl] at hval
            have HX : Sl _ := ⟨hx⟩
            have HVA : Sl _ := ⟨hval⟩
            clear hx hval hvl hcm
            go_wp2_with fail
            refine HVA.out.mono ?_; rintro e w' ⟨rfl, rfl⟩
            go_wp2_with fail
            go_ret
            exact ⟨by rw [HX.out]; rfl, rfl⟩
          · rw [hvl] at hval
            have HVA : Sl _ := ⟨hval⟩
            have HVL : Sl _ := ⟨hvl⟩
            clear hval hvl hcm
            go_wp2_with fail
            refine HVA.out.mono ?_; rintro e w' ⟨rfl, rfl⟩
            go_wp2_with fail
            refine ⟨⟨i + 1, hik, by go_num, fun j hj => ?_⟩, by simp [intOf]; omega⟩
            rcases Nat.lt_or_ge j i with h1 | h1
            · exact HQ.out j h1
            · obtain rfl : j = i := by omega
              exact HVL.out
        · have hx : badE ls = 0 := by
            rw [HB.out, HNO.out, if_neg (by simp), if_neg]
            rw [Bool.not_eq_true, List.any_eq_false]
            intro j hj
            have := HQ.out j (by have := List.mem_range.1 hj; omega)
            simp [this]
          have HX : Sl _ := ⟨hx⟩
          clear hx
          go_wp2_with fail
          go_ret
          exact ⟨by rw [HX.out]; rfl, rfl⟩

theorem rbad1 (A : Option Addr) (n c : Nat) (l : List Nat) (w : World) (T : TypeId) (h : Arg w A n c l) :
    Calls Tryd.prog 59 #[.slice (some ⟨w.heap.size, 0, none⟩) 1 1] (w.alloc (.cells #[.slice A n c] T)) fun e w' => e = .returned (.int .i64 (badE [l])) ∧ w.alloc (.cells #[.slice A n c] T) = w' := by
  have ha := h.alloc (.cells #[.slice A n c] T)
  refine rbad_any _ 1 1 (fun i => .slice A n c) [l] _ rfl (by decide) (fun i hi => ?_) (fun i hi => ?_)
  · obtain rfl : i = 0 := by omega
    simp [Addr.add]
  · obtain rfl : i = 0 := by omega
    exact ⟨A, n, c, rfl, ha.1, ha.2⟩
theorem rbad2 (A B : Option Addr) (n m c d : Nat) (la lb : List Nat) (w : World) (T : TypeId) (ha : Arg w A n c la) (hb : Arg w B m d lb) :
    Calls Tryd.prog 59 #[.slice (some ⟨w.heap.size, 0, none⟩) 2 2] (w.alloc (.cells #[.slice A n c, .slice B m d] T)) fun e w' => e = .returned (.int .i64 (badE [la, lb])) ∧ w.alloc (.cells #[.slice A n c, .slice B m d] T) = w' := by
  have ha := ha.alloc (.cells #[.slice A n c, .slice B m d] T)
  have hb := hb.alloc (.cells #[.slice A n c, .slice B m d] T)
  refine rbad_any _ 2 2 (fun i => if i = 0 then .slice A n c else .slice B m d) [la, lb] _ rfl (by decide) (fun i hi => ?_) (fun i hi => ?_)
  · match i, hi with
    | 0, _ => simp [Addr.add]
    | 1, _ => simp [Addr.add]
  · match i, hi with
    | 0, _ => exact ⟨A, n, c, rfl, ha.1, ha.2⟩
    | 1, _ => exact ⟨B, m, d, rfl, hb.1, hb.2⟩

set_option maxHeartbeats 400000 in
theorem fit_any (A : Option Addr) (n c x : Nat) (w : World) (h : Arg w A n c (limbs x)) :
    Calls Tryd.prog 79 #[.slice A n c] w fun e w' => NatRes (fitS x).1 (fitS x).2 e w' ∧ w = w' := by
  have hl := h.1.len
  by_cases h5 : n ≤ 512
  · have e : fitS x = (limbs x, 0) := by simp [fitS, hl, h5]
    rw [e]
    have H : Sl _ := ⟨h⟩
    have HL : Sl _ := ⟨hl⟩
    clear h hl e
    go_enter Tryd.func79, Tryd.ntmps79
    go_wp2_with fail
    go_ret2
    refine ⟨⟨A, c, ?_, ?_, H.out.2.2, ?_⟩, rfl⟩
    · rw [HL.out]; rfl
    · rw [HL.out]; exact H.out.2.1
    · rw [HL.out]; exact H.out.1
  · have e : fitS x = ([], 3) := by simp [fitS, hl, h5]
    rw [e]
    have hnc := h.2
    unfold maxLen at hnc
    obtain ⟨hnc1, hnc2⟩ := hnc
    clear e h hl
    go_enter Tryd.func79, Tryd.ntmps79
    go_wp2_with fail
    go_ret2
    exact ⟨⟨none, 0, rfl, by simp, by decide, U_nil _ _⟩, rfl⟩

set_option maxHeartbeats 800000 in
/-- the reference's Order -/
theorem order_any (A B : Option Addr) (n m c d : Nat) (la lb : List Nat) (w : World) (ha : U w A n la) (hb : U w B m lb) (hn : n ≤ 4294967295) (hm : m ≤ 4294967295) :
    Calls Tryd.prog 77 #[.slice A n c, .slice B m d] w fun e w' => e = .returned (.int .i64 (cmpN (valOf la) (valOf lb))) ∧ w = w' := by
  have hla := ha.len
  have hlb := hb.len
  have HA : Sl _ := ⟨ha⟩
  have HB : Sl _ := ⟨hb⟩
  have HLA : Sl _ := ⟨hla⟩
  have HLB : Sl _ := ⟨hlb⟩
  clear ha hb hla hlb
  obtain ⟨N, hN⟩ : ∃ N : Nat, N = max n m := ⟨_, rfl⟩
  have hmax : max (n : Int) (m : Int) = (N : Int) := by omega
  have h1 : n ≤ N := by omega
  have h2 : m ≤ N := by omega
  have h3 : N ≤ 4294967295 := by omega
  clear hN
  go_enter Tryd.func77, Tryd.ntmps77
  go_wp2_with fail
  go_loop [5] (fun s5 => ∃ i : Nat, i ≤ N ∧ s5 = .int .i64 ((i : Int) - 1) ∧ ∀ j, i ≤ j → lim la j = lim lb j) (fun s5 => (intOf s5 + 1).toNat)
  case atStart => exact ⟨N, Nat.le_refl _, by first | rfl | (rw [hmax]) | exact int_eq (by omega), fun j hj => by rw [lim_out (by rw [HLA.out]; omega), lim_out (by rw [HLB.out]; omega)]⟩
  case round =>
    obtain ⟨i, hi, rfl, hp⟩ := hrel
    have HP : Sl _ := ⟨hp⟩
    clear hp
    rcases i with _ | i
    · have e : cmpN (valOf la) (valOf lb) = 0 := by rw [val_eq_all (fun j => HP.out j (Nat.zero_le _))]; exact cmpN_eq _
      have E : Sl _ := ⟨e⟩
      clear e
      go_wp2_with fail
      go_ret
      exact ⟨by rw [E.out]; rfl, rfl⟩
    · have ca := limb_any A n c la i w HA.out (by omega) (by omega)
      have cb := limb_any B m d lb i w HB.out (by omega) (by omega)
      have CA : Sl _ := ⟨ca⟩
      have CB : Sl _ := ⟨cb⟩
      clear ca cb
      have ei : (((i + 1 : Nat) : Int) - 1) = (i : Int) := by omega
      rcases Nat.lt_trichotomy (lim la i) (lim lb i) with g | g | g
      · have e : cmpN (valOf la) (valOf lb) = -1 := cmpN_lt (val_lt_top HA.out.2 g (fun j hj => HP.out j hj))
        have E : Sl _ := ⟨e⟩
        clear e
        go_wp2_with fail
        refine CA.out.mono ?_; rintro e w' ⟨rfl, rfl⟩
        go_wp2_with fail
        refine CB.out.mono ?_; rintro e w' ⟨rfl, rfl⟩
        go_wp2_with fail
        go_ret
        exact ⟨by rw [E.out]; rfl, rfl⟩
      · have G : Sl _ := ⟨g⟩
        rw [← g] at CB
        clear g
        go_wp2_with fail
        refine CA.out.mono ?_; rintro e w' ⟨rfl, rfl⟩
        go_wp2_with fail
        refine CB.out.mono ?_; rintro e w' ⟨rfl, rfl⟩
        go_wp2_with fail
        refine CA.out.mono ?_; rintro e w' ⟨rfl, rfl⟩
        go_wp2_with fail
        refine CB.out.mono ?_; rintro e w' ⟨rfl, rfl⟩
        go_wp2_with fail
        refine ⟨⟨i, by omega, by first | rfl | exact int_eq (by omega), fun j hj => ?_⟩, by simp [intOf]; try omega⟩
        rcases Nat.lt_or_ge i j with q | q
        · exact HP.out j q
        · obtain rfl : j = i := by omega
          exact G.out
      · have e : cmpN (valOf la) (valOf lb) = 1 := cmpN_gt (val_lt_top HB.out.2 g (fun j hj => (HP.out j hj).symm))
        have E : Sl _ := ⟨e⟩
        clear e
        go_wp2_with fail
        refine CA.out.mono ?_; rintro e w' ⟨rfl, rfl⟩
        go_wp2_with fail
        refine CB.out.mono ?_; rintro e w' ⟨rfl, rfl⟩
        go_wp2_with fail
        refine CA.out.mono ?_; rintro e w' ⟨rfl, rfl⟩
        go_wp2_with fail
        refine CB.out.mono ?_; rintro e w' ⟨rfl, rfl⟩
        go_wp2_with fail
        go_ret
        exact ⟨by rw [E.out]; rfl, rfl⟩
end Go.Proofs.YtgjbaamhpapeeaaDoor
