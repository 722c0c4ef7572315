/- The reference: limb, Valid, bad, fit, Order, Plus, Minus, Times. The reference: Plus, Minus, Times. The reference: Minus, Times. The reference: Add, Sub, Mul, Small; package wide: Small, Valid. Small and Valid, of the reference and of package wide. -/
import Derived.Test.YtgjbaamhpapeeaaGreatDoorWideN
import Derived.Test.YtgjbaamhpapeeaaGreatDoorNatV
import Derived.Test.YtgjbaamhpapeeaaGreatDoorLawA
namespace Go.Proofs.YtgjbaamhpapeeaaGreatDoor
set_option linter.unusedSimpArgs false
open Go.RowKit
set_option linter.unusedVariables false

set_option maxHeartbeats 400000 in
/-- the reference's limb -/
theorem limb_any (A : Option Addr) (n c : Nat) (l : List Nat) (i : Nat) (w : World) (h : U w A n l) (hn : n ≤ 4294967296) (hi : i ≤ 4294967296) :
    Calls Tryz.prog 67 #[.slice A n c, .int .i64 i] w fun e w' => e = .returned (.int .u64 (lim l i)) ∧ w = w' := by
  by_cases hin : i < n
  · obtain ⟨ad, rfl, hb, hcell⟩ := h.cell (k := i) hin
    have hlt := h.lt i
    unfold LB at hlt
    have e : lim l i = l[i]?.getD 0 := rfl
    rw [e]
    go_enter Tryz.func67, Tryz.ntmps67
    go_wp2_with fail
    go_ret
    exact ⟨ret_int (by omega), rfl⟩
  · have e : lim l i = 0 := lim_out (by rw [h.len]; omega)
    rw [e]
    go_enter Tryz.func67, Tryz.ntmps67
    go_wp2_with fail
    go_ret
    exact ⟨rfl, rfl⟩

set_option maxHeartbeats 400000 in
/-- the reference's Valid -/
theorem rValid_any (A : Option Addr) (n c : Nat) (l : List Nat) (w : World) (h : U w A n l) (hc : n ≤ c) (hm : c ≤ maxLen) :
    Calls Tryz.prog 28 #[.slice A n c] w fun e w' => e = .returned (.bool (validL l)) ∧ w = w' := by
  have hl := h.len
  unfold maxLen at hm
  by_cases h5 : n ≤ 512
  · rcases n with _ | n
    · go_enter Tryz.func28, Tryz.ntmps28
      go_wp2
      go_ret
      have e : l = [] := List.eq_nil_of_length_eq_zero hl
      subst e
      exact ⟨rfl, rfl⟩
    · obtain ⟨ad, rfl, hb, hcell⟩ := h.cell (k := n) (by omega)
      have HL := Lib.hid hl; clear hl
      have g0 : (((n : Int) + 1) == 0) = false := by rw [beq_eq_false_iff_ne]; omega
      have g1 : (n : Int) + 1 ≤ 512 := by omega
      set_option maxRecDepth 10000 in
      go_enter Tryz.func28, Tryz.ntmps28
      go_wp2
      go_ret
      refine ⟨?_, rfl⟩
      show Ending.returned (.bool ((↑(l[n]?.getD 0) : Int) != 0)) = _
      have hl := HL.out
      rw [validL_succ hl h5]
      congr 2
      generalize l[n]?.getD 0 = x
      cases x <;> simp <;> omega
  · have h5' : decide (n ≤ 512) = false := by simp; omega
    go_enter Tryz.func28, Tryz.ntmps28
    go_wp2
    go_ret
    refine ⟨?_, rfl⟩
    show Ending.returned (.bool false) = _
    simp [validL, hl, h5]

set_option maxHeartbeats 800000 in
/-- the reference's bad -/
theorem rbad_any (ad : Addr) (k c : Nat) (vs : Nat → Value) (ls : List (List Nat)) (w : World) (hk : ls.length = k) (hk2 : k ≤ 4294967296) (hcell : ∀ i, i < k → w.cell? (ad.add i) = some (vs i))
    (hv : ∀ i, i < k → ∃ A n c, vs i = .slice A n c ∧ U w A n (ls[i]?.getD []) ∧ n ≤ c ∧ c ≤ maxLen) :
    Calls Tryz.prog 57 #[.slice (some ad) k c] w fun e w' => e = .returned (.int .i64 (badE ls)) ∧ w = w' := by
  have HC : Sl _ := ⟨hcell⟩
  have HV : Sl _ := ⟨hv⟩
  have e1 := any_idx hk (fun l => decide (512 < l.length))
  have e2 := any_idx hk (fun l => !validL l)
  have hbad : badE ls = if ls.any (fun l => decide (512 < l.length)) then 3 else if ls.any (fun l => !validL l) then 2 else 0 := rfl
  rw [← e1, ← e2] at hbad
  have HB : Sl _ := ⟨hbad⟩
  clear hcell hv e1 e2 hbad
  go_enter Tryz.func57, Tryz.ntmps57
  go_wp2_with fail
  go_loop [3] (fun s3 => ∃ i : Nat, i ≤ k ∧ s3 = .int .i64 i ∧ ∀ j, j < i → (ls[j]?.getD []).length ≤ 512) (fun s3 => k - (intOf s3).toNat)
  case atStart => exact ⟨0, Nat.zero_le _, rfl, fun j hj => absurd hj (Nat.not_lt_zero _)⟩
  case round =>
    obtain ⟨i, hi, rfl, hp⟩ := hrel
    have HP : Sl _ := ⟨hp⟩
    clear hp
    by_cases hik : i < k
    · have hc := HC.out i hik
      obtain ⟨A, n, c, hvi, hu, hnc, hcm⟩ := HV.out i hik
      rw [hvi] at hc
      have hlen := hu.len
      clear hvi hu
      unfold maxLen at hcm
      by_cases h5 : n ≤ 512
      · have H5 : Sl _ := ⟨hlen⟩
        clear hlen
        go_wp2_with fail
        refine ⟨⟨i + 1, hik, by go_num, fun j hj => ?_⟩, by simp [intOf]; omega⟩
        rcases Nat.lt_or_ge j i with h1 | h1
        · exact HP.out j h1
        · obtain rfl : j = i := by omega
          rw [H5.out]; exact h5
      · have hx : badE ls = 3 := by
          rw [HB.out, if_pos]
          rw [List.any_eq_true]
          exact ⟨i, List.mem_range.2 hik, by simp; omega⟩
        have HX : Sl _ := ⟨hx⟩
        clear hx hlen
        go_wp2_with fail
        go_ret
        exact ⟨by rw [HX.out]; rfl, rfl⟩
    · have hno : (List.range k).any (fun i => decide (512 < (ls[i]?.getD []).length)) = false := by
        rw [List.any_eq_false]
        intro j hj
        have := HP.out j (by have := List.mem_range.1 hj; omega)
        simp; omega
      have HNO : Sl _ := ⟨hno⟩
      clear hno
      go_wp2_with fail
      go_loop [4] (fun s4 => ∃ i : Nat, i ≤ k ∧ s4 = .int .i64 i ∧ ∀ j, j < i → validL (ls[j]?.getD []) = true) (fun s4 => k - (intOf s4).toNat)
      case atStart => exact ⟨0, Nat.zero_le _, rfl, fun j hj => absurd hj (Nat.not_lt_zero _)⟩
      case round =>
        clear hik hi
        obtain ⟨i, hi, rfl, hp⟩ := hrel
        have HQ : Sl _ := ⟨hp⟩
        clear hp
        by_cases hik : i < k
        · have hc := HC.out i hik
          obtain ⟨A, n, c, hvi, hu, hnc, hcm⟩ := HV.out i hik
          rw [hvi] at hc
          have hval := rValid_any A n c _ w hu hnc hcm
          clear hvi hu
          rcases hvl : validL (ls[i]?.getD []) with _ | _
          · have hx : badE ls = 2 := by
              rw [HB.out, HNO.out, if_neg (by simp), if_pos]
              rw [List.any_eq_true]
              exact ⟨i, List.mem_range.2 hik, by simp [hvl]⟩
            rw [hvl] at hval
            have HX : Sl _ := ⟨hx⟩
            have HVA : Sl _ := ⟨hval⟩
            clear hx hval hvl hcm
            go_wp2_with fail
            refine HVA.out.mono ?_; rintro e w' ⟨rfl, rfl⟩
            go_wp2_with fail
            go_ret
            exact ⟨by rw [HX.out]; rfl, rfl⟩
          · rw [hvl] at hval
            have HVA : Sl _ := ⟨hval⟩
            have HVL : Sl _ := ⟨hvl⟩
            clear hval hvl hcm
            go_wp2_with fail
            refine HVA.out.mono ?_; rintro e w' ⟨rfl, rfl⟩
            go_wp2_with fail
            refine ⟨⟨i + 1, hik, by go_num, fun j hj => ?_⟩, by simp [intOf]; omega⟩
            rcases Nat.lt_or_ge j i with h1 | h1
            · exact HQ.out j h1
            · obtain rfl : j = i := by omega
              exact HVL.out
        · have hx : badE ls = 0 := by
            rw [HB.out, HNO.out, if_neg (by simp), if_neg]
            rw [Bool.not_eq_true, List.any_eq_false]
            intro j hj
            have := HQ.out j (by have := List.mem_range.1 hj; omega)
            simp [this]
          have HX : Sl _ := ⟨hx⟩
          clear hx
          go_wp2_with fail
          go_ret
          exact ⟨by rw [HX.out]; rfl, rfl⟩

theorem rbad1 (A : Option Addr) (n c : Nat) (l : List Nat) (w : World) (T : TypeId) (h : Arg w A n c l) :
    Calls Tryz.prog 57 #[.slice (some ⟨w.heap.size, 0, none⟩) 1 1] (w.alloc (.cells #[.slice A n c] T)) fun e w' => e = .returned (.int .i64 (badE [l])) ∧ w.alloc (.cells #[.slice A n c] T) = w' := by
  have ha := h.alloc (.cells #[.slice A n c] T)
  refine rbad_any _ 1 1 (fun i => .slice A n c) [l] _ rfl (by decide) (fun i hi => ?_) (fun i hi => ?_)
  · obtain rfl : i = 0 := by omega
    simp [Addr.add]
  · obtain rfl : i = 0 := by omega
    exact ⟨A, n, c, rfl, ha.1, ha.2⟩
theorem rbad2 (A B : Option Addr) (n m c d : Nat) (la lb : List Nat) (w : World) (T : TypeId) (ha : Arg w A n c la) (hb : Arg w B m d lb) :
    Calls Tryz.prog 57 #[.slice (some ⟨w.heap.size, 0, none⟩) 2 2] (w.alloc (.cells #[.slice A n c, .slice B m d] T)) fun e w' => e = .returned (.int .i64 (badE [la, lb])) ∧ w.alloc (.cells #[.slice A n c, .slice B m d] T) = w' := by
  have ha := ha.alloc (.cells #[.slice A n c, .slice B m d] T)
  have hb := hb.alloc (.cells #[.slice A n c, .slice B m d] T)
  refine rbad_any _ 2 2 (fun i => if i = 0 then .slice A n c else .slice B m d) [la, lb] _ rfl (by decide) (fun i hi => ?_) (fun i hi => ?_)
  · match i, hi with
    | 0, _ => simp [Addr.add]
    | 1, _ => simp [Addr.add]
  · match i, hi with
    | 0, _ => exact ⟨A, n, c, rfl, ha.1, ha.2⟩
    | 1, _ => exact ⟨B, m, d, rfl, hb.1, hb.2⟩

set_option maxHeartbeats 800000 in
/-- the reference's Order -/
theorem order_any (A B : Option Addr) (n m c d : Nat) (la lb : List Nat) (w : World) (ha : U w A n la) (hb : U w B m lb) (hn : n ≤ 4294967295) (hm : m ≤ 4294967295) :
    Calls Tryz.prog 42 #[.slice A n c, .slice B m d] w fun e w' => e = .returned (.int .i64 (cmpN (valOf la) (valOf lb))) ∧ w = w' := by
  have hla := ha.len
  have hlb := hb.len
  have HA : Sl _ := ⟨ha⟩
  have HB : Sl _ := ⟨hb⟩
  have HLA : Sl _ := ⟨hla⟩
  have HLB : Sl _ := ⟨hlb⟩
  clear ha hb hla hlb
  obtain ⟨N, hN⟩ : ∃ N : Nat, N = max n m := ⟨_, rfl⟩
  have hmax : max (n : Int) (m : Int) = (N : Int) := by omega
  have h1 : n ≤ N := by omega
  have h2 : m ≤ N := by omega
  have h3 : N ≤ 4294967295 := by omega
  clear hN
  go_enter Tryz.func42, Tryz.ntmps42
  go_wp2_with fail
  go_loop [5] (fun s5 => ∃ i : Nat, i ≤ N ∧ s5 = .int .i64 ((i : Int) - 1) ∧ ∀ j, i ≤ j → lim la j = lim lb j) (fun s5 => (intOf s5 + 1).toNat)
  case atStart => exact ⟨N, Nat.le_refl _, by first | rfl | (rw [hmax]) | exact int_eq (by omega), fun j hj => by rw [lim_out (by rw [HLA.out]; omega), lim_out (by rw [HLB.out]; omega)]⟩
  case round =>
    obtain ⟨i, hi, rfl, hp⟩ := hrel
    have HP : Sl _ := ⟨hp⟩
    clear hp
    rcases i with _ | i
    · have e : cmpN (valOf la) (valOf lb) = 0 := by rw [val_eq_all (fun j => HP.out j (Nat.zero_le _))]; exact cmpN_eq _
      have E : Sl _ := ⟨e⟩
      clear e
      go_wp2_with fail
      go_ret
      exact ⟨by rw [E.out]; rfl, rfl⟩
    · have ca := limb_any A n c la i w HA.out (by omega) (by omega)
      have cb := limb_any B m d lb i w HB.out (by omega) (by omega)
      have CA : Sl _ := ⟨ca⟩
      have CB : Sl _ := ⟨cb⟩
      clear ca cb
      have ei : (((i + 1 : Nat) : Int) - 1) = (i : Int) := by omega
      rcases Nat.lt_trichotomy (lim la i) (lim lb i) with g | g | g
      · have e : cmpN (valOf la) (valOf lb) = -1 := cmpN_lt (val_lt_top HA.out.2 g (fun j hj => HP.out j hj))
        have E : Sl _ := ⟨e⟩
        clear e
        go_wp2_with fail
        refine CA.out.mono ?_; rintro e w' ⟨rfl, rfl⟩
        go_wp2_with fail
        refine CB.out.mono ?_; rintro e w' ⟨rfl, rfl⟩
        go_wp2_with fail
        go_ret
        exact ⟨by rw [E.out]; rfl, rfl⟩
      · have G : Sl _ := ⟨g⟩
        rw [← g] at CB
        clear g
        go_wp2_with fail
        refine CA.out.mono ?_; rintro e w' ⟨rfl, rfl⟩
        go_wp2_with fail
        refine CB.out.mono ?_; rintro e w' ⟨rfl, rfl⟩
        go_wp2_with fail
        refine CA.out.mono ?_; rintro e w' ⟨rfl, rfl⟩
        go_wp2_with fail
        refine CB.out.mono ?_; rintro e w' ⟨rfl, rfl⟩
        go_wp2_with fail
        refine ⟨⟨i, by omega, by first | rfl | exact int_eq (by omega), fun j hj => ?_⟩, by simp [intOf]; try omega⟩
        rcases Nat.lt_or_ge i j with q | q
        · exact HP.out j q
        · obtain rfl : j = i := by omega
          exact G.out
      · have e : cmpN (valOf la) (valOf lb) = 1 := cmpN_gt (val_lt_top HB.out.2 g (fun j hj => (HP.out j hj).symm))
        have E : Sl _ := ⟨e⟩
        clear e
        go_wp2_with fail
        refine CA.out.mono ?_; rintro e w' ⟨rfl, rfl⟩
        go_wp2_with fail
        refine CB.out.mono ?_; rintro e w' ⟨rfl, rfl⟩
        go_wp2_with fail
        refine CA.out.mono ?_; rintro e w' ⟨rfl, rfl⟩
        go_wp2_with fail
        refine CB.out.mono ?_; rintro e w' ⟨rfl, rfl⟩
        go_wp2_with fail
        go_ret
        exact ⟨by rw [E.out]; rfl, rfl⟩
end Go.Proofs.YtgjbaamhpapeeaaGreatDoor
namespace Go.Proofs.YtgjbaamhpapeeaaGreatDoor
set_option linter.unusedSimpArgs false
open Go.RowKit
set_option linter.unusedVariables false

theorem U_int1 (w : World) (x : Nat) (a : Int) (ha : a = x) (hx : x < LB) (t : TypeId) : U (w.alloc (.cells #[.int .u32 a] t)) (some ⟨w.heap.size, 0, none⟩) 1 [x] := by
  subst ha; exact U_one w x hx t
theorem lim_small {l : List Nat} (h : ∀ x ∈ l, x < LB) (i : Nat) : ((lim l i : Nat) : Int) < 4294967296 := by
  have := lim_lt h i; unfold LB at this; omega
theorem one_lv (r : Nat) : ∀ u ∈ [r].map lv, u.oneCell' = true := by intro u hu; simp [lv] at hu; subst hu; rfl
theorem all_snoc {o : List Nat} {r : Nat} (h : ∀ x ∈ o, x < LB) (hr : r < LB) : ∀ x ∈ o ++ [r], x < LB := by
  intro x hx
  rcases List.mem_append.1 hx with h1 | h1
  · exact h x h1
  · simp at h1; omega
theorem Limbs.trim_own {w : World} {base : Nat} {e : TypeId} {v : Value} {n : Nat} {o : List Nat} (h : w.ownsRow base e 1 v n (o.map lv)) (hl : o.length = n) (ho : ∀ x ∈ o, x < LB) (hn : n ≤ 4294967297) : ∃ A c, v = .slice A n c ∧ n ≤ c ∧ c ≤ maxLen ∧ U w A n o := by
  obtain ⟨A, c, he, h1, h2, h3⟩ := Limbs.of_own h hl ho
  rw [hl] at he h1 h3
  injection he with he
  exact ⟨A, c, he, h1, h2, h3⟩

set_option maxHeartbeats 1600000 in
set_option maxRecDepth 100000 in
/-- the reference's Plus -/
theorem rplus_any (A B : Option Addr) (n m c d : Nat) (la lb : List Nat) (w : World) (ha : U w A n la) (hb : U w B m lb) (hn : n ≤ 1000000) (hm : m ≤ 1000000) :
    Calls Tryz.prog 41 #[.slice A n c, .slice B m d] w fun e w' => Limbs (limbs (valOf la + valOf lb)) e w' ∧ Below w.heap.size w w' := by
  obtain ⟨i0, hi0, hz0, hz1, hz2⟩ := info_parts info32
  have HI : Sl _ := ⟨And.intro hi0 (And.intro hz0 (And.intro hz1 hz2))⟩
  clear hi0 hz0 hz1 hz2
  have HA : Sl _ := ⟨ha⟩
  have HB : Sl _ := ⟨hb⟩
  clear ha hb
  obtain ⟨N, hN⟩ : ∃ N : Nat, N = max n m := ⟨_, rfl⟩
  have hmax : max (n : Int) (m : Int) = (N : Int) := by omega
  have h1 : n ≤ N := by omega
  have h2 : m ≤ N := by omega
  have h3 : N ≤ 1000000 := by omega
  clear hN
  go_enter Tryz.func41, Tryz.ntmps41
  go_wp2_with fail
  go_loopw [5, 6, 7] (fun s5 s6 s7 wr => ∃ (i cy : Nat) (o : List Nat), i ≤ N + 1 ∧ s6 = .int .u64 cy ∧ s7 = .int .i64 i ∧ cy ≤ 1 ∧ Sl (o.length = i ∧ valOf o + cy * LB ^ i = valOf (la.take i) + valOf (lb.take i) ∧ (∀ x ∈ o, x < LB) ∧ wr.ownsRow w.heap.size 49 1 s5 i (o.map lv)) ∧ Below w.heap.size w wr) (fun _ _ s7 _ => N + 1 - (intOf s7).toNat)
  case atStart => exact ⟨0, 0, [], Nat.zero_le _, rfl, rfl, by omega, ⟨rfl, by simp [valOf], by simp, World.ownsRow_nil _ _ _ _⟩, Below.refl _ _⟩
  case round =>
    obtain ⟨i, cy, o, hi, rfl, rfl, hcy, HO, hB⟩ := hrel
    by_cases hin : i < N + 1
    · have ca := limb_any A n c la i wr (HA.out.below hB) (by omega) (by omega)
      have cb := limb_any B m d lb i wr (HB.out.below hB) (by omega) (by omega)
      have hx := lim_small HA.out.2 i
      have hy := lim_small HB.out.2 i
      have CA : Sl _ := ⟨ca⟩
      have CB : Sl _ := ⟨cb⟩
      have HX : Sl _ := ⟨hx⟩
      have HY : Sl _ := ⟨hy⟩
      clear ca cb hx hy
      go_wp2_with fail
      refine CA.out.mono ?_; rintro e w' ⟨rfl, rfl⟩
      go_wp2_with fail
      refine CB.out.mono ?_; rintro e w' ⟨rfl, rfl⟩
      have hs := plus_step (x := lim la i) (y := lim lb i) HO.out.2.1
      rw [← valOf_take_lim, ← valOf_take_lim] at hs
      have HS : Sl _ := ⟨hs⟩
      clear hs CA CB
      generalize lim la i = x at *
      generalize lim lb i = y at *
      have hr : (x + y + cy) % LB < LB := Nat.mod_lt _ LB_pos
      have HR : Sl _ := ⟨hr⟩
      clear hr
      have hcr : ((((x : Int) + (y : Int) + (cy : Int)) % 4294967296)) = (((x + y + cy) % LB : Nat) : Int) := by unfold LB; omega
      have hcq : ((((x : Int) + (y : Int) + (cy : Int)) / 4294967296)) = (((x + y + cy) / LB : Nat) : Int) := by unfold LB; omega
      have hq1 : (x + y + cy) / LB ≤ 1 := by have := HX.out; have := HY.out; unfold LB; omega
      generalize (x + y + cy) % LB = r at *
      generalize (x + y + cy) / LB = q at *
      have HOA := HO.out.2.2.2.alloc (.cells #[.int .u32 (r : Int)] 49)
      go_wp2_with (at_builtin; go_loud (refine wpList_append_any _ rfl (.tmp 28) (.tmp 32) _ rfl w.heap.size 49 i0 _ 1 4 Tryz.underlying23 HI.out.1 HI.out.2.1 HI.out.2.2.1 HI.out.2.2.2 rfl (by decide) _ i _ rfl HOA _ (some ⟨wr.heap.size, 0, none⟩) 1 1 ([r].map lv) rfl (U_one wr r HR.out _).1 (one_lv r) (by unfold maxLen; omega) (by omega) (Nat.le_trans hB.size (by simp)) ?_; intro v1 w3 hown1 hg1 hat1))
      have hBa := hB.alloc hB.size (.cells #[.int .u32 (r : Int)] 49)
      have hown := HO.out.2.2.2.lt
      have hB3 := hBa.grown hg1 (Nat.le_trans hB.size (by simp)) (fun k hk => (hown k hk).1)
      refine ⟨⟨i + 1, q, o ++ [r], hin, ?_, by go_num, hq1, ⟨by rw [List.length_append, HO.out.1]; rfl, ?_, all_snoc HO.out.2.2.1 HR.out, ?_⟩, hB3⟩, by simp [intOf]; try omega⟩
      · first | rfl | exact int_eq (by omega)
      · rw [valOf_snoc, HO.out.1]; exact HS.out
      · rw [List.map_append]; exact hown1
    · obtain rfl : i = N + 1 := by omega
      obtain ⟨A', c', rfl, k1, k2, k3⟩ := Limbs.trim_own HO.out.2.2.2 HO.out.1 HO.out.2.2.1 (by omega)
      have hs := plus_end HA.out.2 HB.out.2 (by rw [HA.out.len]; exact h1) (by rw [HB.out.len]; exact h2) HO.out.2.1
      have ht := rtrim_any A' (N+1) c' o wr k3 (by omega) k1 k2
      rw [trimN_limbs HO.out.2.2.1, hs] at ht
      have HT : Sl _ := ⟨ht⟩
      clear hs ht k1 k2 k3
      go_wp2_with fail
      refine HT.out.mono ?_; rintro e w' ⟨⟨A2, c2, rfl, g1, g2, g3⟩, hb⟩
      go_wp2_with fail
      go_ret
      exact ⟨⟨A2, c2, rfl, g1, g2, g3⟩, hB.trans (hb.mono hB.size)⟩
end Go.Proofs.YtgjbaamhpapeeaaGreatDoor
namespace Go.Proofs.YtgjbaamhpapeeaaGreatDoor
set_option linter.unusedSimpArgs false
open Go.RowKit
set_option linter.unusedVariables false

set_option maxHeartbeats 1600000 in
set_option maxRecDepth 100000 in
/-- the reference's Minus -/
theorem rminus_any (A B : Option Addr) (n m c d : Nat) (la lb : List Nat) (w : World) (ha : U w A n la) (hb : U w B m lb) (hn : n ≤ 1000000) (hm : m ≤ 1000000) (hab : valOf lb ≤ valOf la) :
    Calls Tryz.prog 43 #[.slice A n c, .slice B m d] w fun e w' => Limbs (limbs (valOf la - valOf lb)) e w' ∧ Below w.heap.size w w' := by
  obtain ⟨i0, hi0, hz0, hz1, hz2⟩ := info_parts info32
  have HI : Sl _ := ⟨And.intro hi0 (And.intro hz0 (And.intro hz1 hz2))⟩
  clear hi0 hz0 hz1 hz2
  have HA : Sl _ := ⟨ha⟩
  have HB : Sl _ := ⟨hb⟩
  have HAB : Sl _ := ⟨hab⟩
  clear ha hb hab
  go_enter Tryz.func43, Tryz.ntmps43
  go_wp2_with fail
  go_loopw [5, 6, 7] (fun s5 s6 s7 wr => ∃ (i cy : Nat) (o : List Nat), i ≤ n ∧ s6 = .int .u64 cy ∧ s7 = .int .i64 i ∧ cy ≤ 1 ∧ Sl (o.length = i ∧ valOf o + valOf (lb.take i) = valOf (la.take i) + cy * LB ^ i ∧ (∀ x ∈ o, x < LB) ∧ wr.ownsRow w.heap.size 49 1 s5 i (o.map lv)) ∧ Below w.heap.size w wr) (fun _ _ s7 _ => n - (intOf s7).toNat)
  case atStart => exact ⟨0, 0, [], Nat.zero_le _, rfl, rfl, by omega, ⟨rfl, by simp [valOf], by simp, World.ownsRow_nil _ _ _ _⟩, Below.refl _ _⟩
  case round =>
    obtain ⟨i, cy, o, hi, rfl, rfl, hcy, HO, hB⟩ := hrel
    by_cases hin : i < n
    · have ca := limb_any A n c la i wr (HA.out.below hB) (by omega) (by omega)
      have cb := limb_any B m d lb i wr (HB.out.below hB) (by omega) (by omega)
      have hx := lim_small HA.out.2 i
      have hy := lim_small HB.out.2 i
      have hs := minus_step' (x := lim la i) (y := lim lb i) HO.out.2.1 hcy (lim_lt HA.out.2 i) (lim_lt HB.out.2 i)
      rw [← valOf_take_lim, ← valOf_take_lim] at hs
      have HS : Sl _ := ⟨hs.1⟩
      clear hs
      generalize lim la i = x at *
      generalize lim lb i = y at *
      have CA : Sl _ := ⟨ca⟩
      have CB : Sl _ := ⟨cb⟩
      clear ca cb
      have hr : (LB + x - y - cy) % LB < LB := Nat.mod_lt _ LB_pos
      have HR : Sl _ := ⟨hr⟩
      clear hr
      have hcr : ((4294967296 + (x : Int) - (y : Int) - (cy : Int)) % 4294967296) = (((LB + x - y - cy) % LB : Nat) : Int) := by unfold LB; omega
      have hcq : ((4294967296 + (x : Int) - (y : Int) - (cy : Int)) / 4294967296) = (((LB + x - y - cy) / LB : Nat) : Int) := by unfold LB; omega
      have hq1 : (LB + x - y - cy) / LB ≤ 1 := by unfold LB; omega
      generalize (LB + x - y - cy) % LB = r at *
      generalize (LB + x - y - cy) / LB = q at *
      go_wp2_with fail
      refine CA.out.mono ?_; rintro e w' ⟨rfl, rfl⟩
      go_wp2_with fail
      refine CB.out.mono ?_; rintro e w' ⟨rfl, rfl⟩
      have HOA := HO.out.2.2.2.alloc (.cells #[.int .u32 (r : Int)] 49)
      go_wp2_with (at_builtin; go_loud (refine wpList_append_any _ rfl (.tmp 25) (.tmp 29) _ rfl w.heap.size 49 i0 _ 1 4 Tryz.underlying23 HI.out.1 HI.out.2.1 HI.out.2.2.1 HI.out.2.2.2 rfl (by decide) _ i _ rfl HOA _ (some ⟨wr.heap.size, 0, none⟩) 1 1 ([r].map lv) rfl (U_one wr r HR.out _).1 (one_lv r) (by unfold maxLen; omega) (by omega) (Nat.le_trans hB.size (by simp)) ?_; intro v1 w3 hown1 hg1 hat1))
      have hBa := hB.alloc hB.size (.cells #[.int .u32 (r : Int)] 49)
      have hown := HO.out.2.2.2.lt
      have hB3 := hBa.grown hg1 (Nat.le_trans hB.size (by simp)) (fun k hk => (hown k hk).1)
      refine ⟨⟨i + 1, 1 - q, o ++ [r], hin, ?_, by go_num, by omega, ⟨by rw [List.length_append, HO.out.1]; rfl, ?_, all_snoc HO.out.2.2.1 HR.out, ?_⟩, hB3⟩, by simp [intOf]; try omega⟩
      · first | rfl | exact int_eq (by omega)
      · rw [valOf_snoc, HO.out.1]; exact HS.out
      · rw [List.map_append]; exact hown1
    · obtain rfl : i = n := by omega
      obtain ⟨A', c', rfl, k1, k2, k3⟩ := Limbs.trim_own HO.out.2.2.2 HO.out.1 HO.out.2.2.1 (by omega)
      have hs := minus_end HA.out.2 HO.out.2.2.1 HA.out.len HO.out.1 HAB.out HO.out.2.1
      have ht := rtrim_any A' i c' o wr k3 (by omega) k1 k2
      rw [trimN_limbs HO.out.2.2.1, hs] at ht
      have HT : Sl _ := ⟨ht⟩
      clear hs ht k1 k2 k3
      go_wp2_with fail
      refine HT.out.mono ?_; rintro e w' ⟨⟨A2, c2, rfl, g1, g2, g3⟩, hb⟩
      go_wp2_with fail
      go_ret
      exact ⟨⟨A2, c2, rfl, g1, g2, g3⟩, hB.trans (hb.mono hB.size)⟩

theorem snoc0_lim (l : List Nat) (m k : Nat) (hl : l.length = m) (hk : k ≤ m) : lim l k = (l ++ [0])[k]?.getD 0 := by
  unfold lim
  rcases Nat.lt_or_ge k m with h | h
  · rw [List.getElem?_append_left (by omega)]
  · obtain rfl : k = m := by omega
    rw [List.getElem?_eq_none (by omega), List.getElem?_append_right (by omega)]
    simp [hl]

theorem quo_v (v : Nat) (h : v < 18446744073709551616) : IntKind.u64.wrap ((v : Int).tdiv 4294967296) = ((v / LB : Nat) : Int) := by
  rw [Int.tdiv_eq_ediv_of_nonneg (by omega), wrap_u64 _ (by omega) (by omega)]; unfold LB; omega
theorem rem_v (v : Nat) (h : v < 18446744073709551616) : (v : Int).tmod 4294967296 % 4294967296 = ((v % LB : Nat) : Int) := by
  rw [Int.tmod_eq_emod_of_nonneg (by omega)]; unfold LB; omega
theorem limb_u64 {x : Nat} (h : ((x : Nat) : Int) < 4294967296) : IntKind.u64.wrap (x : Int) = x := wrap_u64 _ (by omega) (by omega)
theorem three_lt (o x y q : Nat) (ho : o < LB) (hx : x < LB) (hy : y < LB) (hq : q < LB) : o + x * y + q < 18446744073709551616 := by
  have h := mul_lt_LB x y hx hy
  unfold LB at ho hq
  omega

set_option maxHeartbeats 1600000 in
set_option maxRecDepth 100000 in
/-- the reference's Times -/
theorem rtimes_any (A B : Option Addr) (n m c d : Nat) (la lb : List Nat) (w : World) (ha : U w A n la) (hb : U w B m lb) (hn : n ≤ 1000000) (hm : m ≤ 1000000) :
    Calls Tryz.prog 39 #[.slice A n c, .slice B m d] w fun e w' => Limbs (limbs (valOf la * valOf lb)) e w' ∧ Below w.heap.size w w' := by
  have HLA : Sl _ := ⟨ha.len⟩
  have HLB : Sl _ := ⟨hb.len⟩
  have HA : Sl _ := ⟨ha⟩
  have HB : Sl _ := ⟨hb⟩
  clear ha hb
  have hmk := run_make_row' (P := Tryz.prog) 23 49 (.int .u32 0) 4 Tryz.underlying23 info32 rfl .i64 .i64 (n+m+1) (by omega) (by omega)
  simp only [Int.natCast_add, Int.natCast_one] at hmk
  go_enter Tryz.func39, Tryz.ntmps39
  go_wp2_with fail
  clear hmk
  go_loopw [6] (fun s6 wr => ∃ (i : Nat) (O : List Nat), i ≤ n ∧ s6 = .int .i64 i ∧ Sl (TOut la lb (n+1) m i O ∧ Out wr w.heap.size (n+m+1) O) ∧ Below w.heap.size w wr) (fun s6 _ => n - (intOf s6).toNat)
  case atStart =>
    refine ⟨0, List.replicate (n+1+m) 0, Nat.zero_le _, rfl, ⟨TOut.start _ _ _ _, ?_⟩, (Below.refl _ _).alloc (Nat.le_refl _) _⟩
    have e : n + 1 + m = n + m + 1 := by omega
    rw [e]
    exact Out.zeros _ _
  case round =>
    obtain ⟨i, O, hi, rfl, HO, hB⟩ := hrel
    obtain ⟨wo, rfl⟩ : ∃ wo : World, wo = wr := ⟨_, rfl⟩
    by_cases hin : i < n
    · go_wp2_with fail
      go_loopw [7, 8] (fun s7 s8 wr => ∃ (k q : Nat) (O : List Nat), k ≤ m + 1 ∧ s7 = .int .u64 q ∧ s8 = .int .i64 k ∧ Sl ((k ≤ m ∧ TIn la lb (n+1) m i k O q ∨ k = m + 1 ∧ q = 0 ∧ TOut la lb (n+1) m (i+1) O) ∧ Out wr w.heap.size (n+m+1) O) ∧ Below w.heap.size w wr) (fun _ s8 _ => m + 1 - (intOf s8).toNat)
      case atStart => exact ⟨0, 0, O, Nat.zero_le _, rfl, rfl, ⟨.inl ⟨Nat.zero_le _, HO.out.1.enter⟩, HO.out.2⟩, hB⟩
      case round =>
        clear HO hB
        obtain ⟨k, q, O, hk, rfl, rfl, HO, hB⟩ := hrel
        by_cases hkm : k < m + 1
        · have hT : TIn la lb (n+1) m i k O q := by
            rcases HO.out.1 with ⟨_, h⟩ | ⟨h, _⟩
            · exact h
            · omega
          have HT : Sl _ := ⟨hT⟩
          have hq : (q : Int) < 4294967296 := by have := hT.cq; unfold LB at this; omega
          clear hT
          have ca := limb_any A n c la i wr.drew ((HA.out.below hB).drewN 1) (by omega) (by omega)
          have cb := limb_any B m d lb k wr.drew ((HB.out.below hB).drewN 1) (by omega) (by omega)
          have hx := lim_small HA.out.2 i
          have hy := lim_small HB.out.2 k
          have hc0 := HO.out.2.cellAt (i := i + k) (by omega)
          have hf0 := HO.out.2.1.frozen (i + k)
          have ho : ((O[i+k]?.getD 0 : Nat) : Int) < 4294967296 := by have := HO.out.2.limb (i+k); unfold LB at this; omega
          have hlx := lim_lt HA.out.2 i
          have hly := lim_lt HB.out.2 k
          have hlo := HO.out.2.limb (i+k)
          have hwr := wrap_three (O[i+k]?.getD 0) (lim la i) (lim lb k) q hlo hlx hly HT.out.cq
          have HNX : Sl (∃ O', Sl ((k + 1 ≤ m ∧ TIn la lb (n+1) m i (k+1) O' ((O[i+k]?.getD 0 + lim la i * lim lb k + q) / LB) ∨ k + 1 = m + 1 ∧ ((O[i+k]?.getD 0 + lim la i * lim lb k + q) / LB) = 0 ∧ TOut la lb (n+1) m (i+1) O')) ∧ O' = O.set (i+k) ((O[i+k]?.getD 0 + lim la i * lim lb k + q) % LB)) := by
            refine ⟨⟨_, ⟨?_⟩, rfl⟩⟩
            rcases Nat.lt_or_ge k m with h | h
            · exact .inl ⟨h, HT.out.step (by omega) h HLB.out hlx hly hlo⟩
            · obtain rfl : k = m := by omega
              have e0 : lim lb k = 0 := lim_out (by rw [HLB.out]; exact Nat.le_refl _)
              have e1 : O[i+k]?.getD 0 = 0 := HT.out.zero (i+k) (Nat.le_refl _)
              rw [e0, e1, Nat.mul_zero, Nat.zero_add, Nat.mod_eq_of_lt HT.out.cq, Nat.div_eq_of_lt HT.out.cq]
              exact .inr ⟨rfl, rfl, HT.out.done' (by omega) (by rw [HLA.out]; exact hin) HLB.out⟩
          have CA : Sl _ := ⟨ca⟩
          have CB : Sl _ := ⟨cb⟩
          have HR : Sl _ := ⟨Nat.mod_lt (O[i+k]?.getD 0 + lim la i * lim lb k + q) LB_pos⟩
          have HWR : Sl _ := ⟨hwr⟩
          have HV : Sl _ := ⟨three_lt (O[i+k]?.getD 0) (lim la i) (lim lb k) q hlo hlx hly HT.out.cq⟩
          have HX : Sl _ := ⟨hx⟩
          have HY : Sl _ := ⟨hy⟩
          have HOO : Sl _ := ⟨ho⟩
          have HQ : Sl _ := ⟨hq⟩
          clear ca cb hlx hly hlo hwr hx hy ho hq
          go_wp2_with fail
          have hidx0 : 0 ≤ (i : Int) + (k : Int) := by omega
          have hidx1 : (i : Int) + (k : Int) < (n : Int) + (m : Int) + 1 := by omega
          have hidx2 : IntKind.i64.wrap ((i : Int) + (k : Int)) = ((i + k : Nat) : Int) := by rw [IntKind.wrap_i64]; omega
          have hidx3 : ((i : Int) + (k : Int)).toNat = i + k := by omega
          go_region_with (first
            | (go_at_call 67; (with_reducible refine CA.out.mono ?_); rintro e w' ⟨rfl, rfl⟩)
            | (go_at_call 67; (with_reducible refine CB.out.mono ?_); rintro e w' ⟨rfl, rfl⟩))
          all_goals (
            go_wp2_with fail
            obtain ⟨O', hO1, hO2⟩ := HNX.out
            subst hO2
            refine ⟨⟨k + 1, _, _, hkm, int_eq ?_, by go_num, ⟨hO1.out, (HO.out.2.drewN _).put (by have := HT.out.len; omega) (by omega) ?_ HR.out⟩, (below_drewN hB _).setCell (Nat.le_refl _) _⟩, by simp [intOf]; try omega⟩
            · rw [limb_u64 HOO.out, HWR.out]; exact quo_v _ HV.out
            · rw [limb_u64 HOO.out, HWR.out]; exact rem_v _ HV.out)
        · obtain rfl : k = m + 1 := by omega
          have hT : TOut la lb (n+1) m (i+1) O := by
            rcases HO.out.1 with ⟨h, _⟩ | ⟨_, _, h⟩
            · omega
            · exact h
          have HT : Sl _ := ⟨hT⟩
          clear hT
          go_wp2_with fail
          exact ⟨⟨i + 1, O, hin, by go_num, ⟨HT.out, HO.out.2⟩, hB⟩, by simp [intOf]; try omega⟩
    · obtain rfl : i = n := by omega
      have hlen : O.length = i + m + 1 := by have := HO.out.1.len; omega
      have hU := HO.out.2.U hlen
      have ht := rtrim_any _ _ (i+m+1) O wo hU (by omega) (Nat.le_refl _) (by unfold maxLen; omega)
      rw [trimN_limbs hU.2, HO.out.1.val, List.take_of_length_le (by rw [HLA.out]; exact Nat.le_refl _)] at ht
      have HT : Sl _ := ⟨ht⟩
      clear ht hU hlen
      go_wp2_with fail
      refine HT.out.mono ?_; rintro e w' ⟨⟨A2, c2, rfl, g1, g2, g3⟩, hb⟩
      go_wp2_with fail
      go_ret
      exact ⟨⟨A2, c2, rfl, g1, g2, g3⟩, hB.trans (hb.mono hB.size)⟩
end Go.Proofs.YtgjbaamhpapeeaaGreatDoor
namespace Go.Proofs.YtgjbaamhpapeeaaGreatDoor
set_option linter.unusedSimpArgs false
open Go.RowKit
set_option linter.unusedVariables false

theorem val_len {l : List Nat} (hl : ∀ x ∈ l, x < LB) (h5 : l.length ≤ 512) {x : Nat} (hx : x ≤ valOf l) : (limbs x).length ≤ 512 := by
  have h1 := valOf_lt l hl
  exact Nat.le_trans (limbs_len_le (Nat.lt_of_le_of_lt hx h1)) h5
end Go.Proofs.YtgjbaamhpapeeaaGreatDoor
namespace Go.Proofs.YtgjbaamhpapeeaaGreatDoor
set_option linter.unusedSimpArgs false
open Go.RowKit
set_option linter.unusedVariables false

def smallS (la : List Nat) : Nat × Int := if badE [la] = 0 then (if 2 < la.length then (0, 7) else (valOf la, 0)) else (0, badE [la])
theorem small_or0 {T x : Nat} (hT : T < LB ^ 0) (hx : x < LB) : bits .or .u64 (T : Int) (IntKind.u64.wrap (IntKind.u64.wrap (x : Int))) = ((T + LB ^ 0 * x : Nat) : Int) := by
  have hT0 : T = 0 := by simpa using hT
  subst hT0
  have hx' : x < 4294967296 := hx
  rw [wrap_u64 (x : Int) (by omega) (by omega), wrap_u64 (x : Int) (by omega) (by omega), or_u64 _ _ (by omega) (by omega)]
  simp
theorem small_or1 {T x : Nat} (hT : T < LB ^ 1) (hx : x < LB) : bits .or .u64 (T : Int) (IntKind.u64.wrap (IntKind.u64.wrap (x : Int) * 4294967296)) = ((T + LB ^ 1 * x : Nat) : Int) := by
  rw [Nat.pow_one] at hT ⊢
  have hx' : x < 4294967296 := hx
  have hT' : T < 4294967296 := hT
  have e0 : (x : Int) * 4294967296 = ((x * 4294967296 : Nat) : Int) := by omega
  rw [wrap_u64 (x : Int) (by omega) (by omega), e0, wrap_u64 _ (by omega) (by omega), or_u64 _ _ (by omega) (by omega), or_add 32 T _ (by rw [← LB_two]; exact hT) (by rw [← LB_two]; exact Nat.dvd_mul_left _ _), Nat.mul_comm LB]
  rfl
theorem small_val {l : List Nat} (h : l.length ≤ 2) : valOf l = lim l 1 * 4294967296 + lim l 0 := by
  match l, h with
  | [], _ => simp [valOf, lim]
  | [x], _ => simp [valOf, lim]
  | [x, y], _ => simp [valOf, lim, LB]; omega

end Go.Proofs.YtgjbaamhpapeeaaGreatDoor
