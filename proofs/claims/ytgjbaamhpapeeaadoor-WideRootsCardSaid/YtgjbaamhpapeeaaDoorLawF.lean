/- The reference: Minus, Times. -/
import Derived.Test.YtgjbaamhpapeeaaDoorLawE
namespace Go.Proofs.YtgjbaamhpapeeaaDoor
set_option linter.unusedSimpArgs false
open Go.RowKit
set_option linter.unusedVariables false

set_option maxHeartbeats 1600000 in
set_option maxRecDepth 100000 in
/-- the reference's Minus -/
theorem rminus_any (A B : Option Addr) (n m c d : Nat) (la lb : List Nat) (w : World) (ha : U w A n la) (hb : U w B m lb) (hn : n ≤ 1000000) (hm : m ≤ 1000000) (hab : valOf lb ≤ valOf la) :
    Calls Tryd.prog 82 #[.slice A n c, .slice B m d] w fun e w' => Limbs (limbs (valOf la - valOf lb)) e w' ∧ Below w.heap.size w w' := by
  obtain ⟨i0, hi0, hz0, hz1, hz2⟩ := info_parts info32
  have HI : Sl _ := ⟨And.intro hi0 (And.intro hz0 (And.intro hz1 hz2))⟩
  clear hi0 hz0 hz1 hz2
  have HA : Sl _ := ⟨ha⟩
  have HB : Sl _ := ⟨hb⟩
  have HAB : Sl _ := ⟨hab⟩
  clear ha hb hab
  go_enter Tryd.func82, Tryd.ntmps82
  go_wp2_with fail
  go_loopw [5, 6, 7] (fun s5 s6 s7 wr => ∃ (i cy : Nat) (o : List Nat), i ≤ n ∧ s6 = .int .u64 cy ∧ s7 = .int .i64 i ∧ cy ≤ 1 ∧ Sl (o.length = i ∧ valOf o + valOf (lb.take i) = valOf (la.take i) + cy * LB ^ i ∧ (∀ x ∈ o, x < LB) ∧ wr.ownsRow w.heap.size 59 1 s5 i (o.map lv)) ∧ Below w.heap.size w wr) (fun _ _ s7 _ => n - (intOf s7).toNat)
  case atStart => exact ⟨0, 0, [], Nat.zero_le _, rfl, rfl, by omega, ⟨rfl, by simp [valOf], by simp, World.ownsRow_nil _ _ _ _⟩, Below.refl _ _⟩
  case round =>
    obtain ⟨i, cy, o, hi, rfl, rfl, hcy, HO, hB⟩ := hrel
    by_cases hin : i < n
    · have ca := limb_any A n c la i wr (HA.out.below hB) (by omega) (by omega)
      have cb := limb_any B m d lb i wr (HB.out.below hB) (by omega) (by omega)
      have hx := lim_small HA.out.2 i
      have hy := lim_small HB.out.2 i
      have hs := minus_step' (x := lim la i) (y := lim lb i) HO.out.2.1 hcy (lim_lt HA.out.2 i) (lim_lt HB.out.2 i)
      rw [← valOf_take_lim, ← valOf_take_lim] at hs
      have HS : Sl _ := ⟨hs.1⟩
      clear hs
      generalize lim la i = x at *
      generalize lim lb i = y at *
      have CA : Sl _ := ⟨ca⟩
      have CB : Sl _ := ⟨cb⟩
      clear ca cb
      have hr : (LB + x - y - cy) % LB < LB := Nat.mod_lt _ LB_pos
      have HR : Sl _ := ⟨hr⟩
      clear hr
      have hcr : ((4294967296 + (x : Int) - (y : Int) - (cy : Int)) % 4294967296) = (((LB + x - y - cy) % LB : Nat) : Int) := by unfold LB; omega
      have hcq : ((4294967296 + (x : Int) - (y : Int) - (cy : Int)) / 4294967296) = (((LB + x - y - cy) / LB : Nat) : Int) := by unfold LB; omega
      have hq1 : (LB + x - y - cy) / LB ≤ 1 := by unfold LB; omega
      generalize (LB + x - y - cy) % LB = r at *
      generalize (LB + x - y - cy) / LB = q at *
      go_wp2_with fail
      refine CA.out.mono ?_; rintro e w' ⟨rfl, rfl⟩
      go_wp2_with fail
      refine CB.out.mono ?_; rintro e w' ⟨rfl, rfl⟩
      have HOA := HO.out.2.2.2.alloc (.cells #[.int .u32 (r : Int)] 59)
      go_wp2_with (at_builtin; go_loud (refine wpList_append_any _ rfl (.tmp 25) (.tmp 29) _ rfl w.heap.size 59 i0 _ 1 4 Tryd.underlying23 HI.out.1 HI.out.2.1 HI.out.2.2.1 HI.out.2.2.2 rfl (by decide) _ i _ rfl HOA _ (some ⟨wr.heap.size, 0, none⟩) 1 1 ([r].map lv) rfl (U_one wr r HR.out _).1 (one_lv r) (by unfold maxLen; omega) (by omega) (Nat.le_trans hB.size (by simp)) ?_; intro v1 w3 hown1 hg1 hat1))
      have hBa := hB.alloc hB.size (.cells #[.int .u32 (r : Int)] 59)
      have hown := HO.out.2.2.2.lt
      have hB3 := hBa.grown hg1 (Nat.le_trans hB.size (by simp)) (fun k hk => (hown k hk).1)
      refine ⟨⟨i + 1, 1 - q, o ++ [r], hin, ?_, by go_num, by omega, ⟨by rw [List.length_append, HO.out.1]; rfl, ?_, all_snoc HO.out.2.2.1 HR.out, ?_⟩, hB3⟩, by simp [intOf]; try omega⟩
      · first | rfl | exact int_eq (by omega)
      · rw [valOf_snoc, HO.out.1]; exact HS.out
      · rw [List.map_append]; exact hown1
    · obtain rfl : i = n := by omega
      obtain ⟨A', c', rfl, k1, k2, k3⟩ := Limbs.trim_own HO.out.2.2.2 HO.out.1 HO.out.2.2.1 (by omega)
      have hs := minus_end HA.out.2 HO.out.2.2.1 HA.out.len HO.out.1 HAB.out HO.out.2.1
      have ht := rtrim_any A' i c' o wr k3 (by omega) k1 k2
      rw [trimN_limbs HO.out.2.2.1, hs] at ht
      have HT : Sl _ := ⟨ht⟩
      clear hs ht k1 k2 k3
      go_wp2_with fail
      refine HT.out.mono ?_; rintro e w' ⟨⟨A2, c2, rfl, g1, g2, g3⟩, hb⟩
      go_wp2_with fail
      go_ret
      exact ⟨⟨A2, c2, rfl, g1, g2, g3⟩, hB.trans (hb.mono hB.size)⟩

theorem snoc0_lim (l : List Nat) (m k : Nat) (hl : l.length = m) (hk : k ≤ m) : lim l k = (l ++ [0])[k]?.getD 0 := by
  unfold lim
  rcases Nat.lt_or_ge k m with h | h
  · rw [List.getElem?_append_left (by omega)]
  · obtain rfl : k = m := by omega
    rw [List.getElem?_eq_none (by omega), List.getElem?_append_right (by omega)]
    simp [hl]

theorem quo_v (v : Nat) (h : v < 18446744073709551616) : IntKind.u64.wrap ((v : Int).tdiv 4294967296) = ((v / LB : Nat) : Int) := by
  rw [Int.tdiv_eq_ediv_of_nonneg (by omega), wrap_u64 _ (by omega) (by omega)]; unfold LB; omega
theorem rem_v (v : Nat) (h : v < 18446744073709551616) : (v : Int).tmod 4294967296 % 4294967296 = ((v % LB : Nat) : Int) := by
  rw [Int.tmod_eq_emod_of_nonneg (by omega)]; unfold LB; omega
theorem limb_u64 {x : Nat} (h : ((x : Nat) : Int) < 4294967296) : IntKind.u64.wrap (x : Int) = x := wrap_u64 _ (by omega) (by omega)
theorem three_lt (o x y q : Nat) (ho : o < LB) (hx : x < LB) (hy : y < LB) (hq : q < LB) : o + x * y + q < 18446744073709551616 := by
  have h := mul_lt_LB x y hx hy
  unfold LB at ho hq
  omega

set_option maxHeartbeats 1600000 in
set_option maxRecDepth 100000 in
/-- the reference's Times -/
theorem rtimes_any (A B : Option Addr) (n m c d : Nat) (la lb : List Nat) (w : World) (ha : U w A n la) (hb : U w B m lb) (hn : n ≤ 1000000) (hm : m ≤ 1000000) :
    Calls Tryd.prog 84 #[.slice A n c, .slice B m d] w fun e w' => Limbs (limbs (valOf la * valOf lb)) e w' ∧ Below w.heap.size w w' := by
  have HLA : Sl _ := ⟨ha.len⟩
  have HLB : Sl _ := ⟨hb.len⟩
  have HA : Sl _ := ⟨ha⟩
  have HB : Sl _ := ⟨hb⟩
  clear ha hb
  have hmk := run_make_row' (P := Tryd.prog) 23 59 (.int .u32 0) 4 Tryd.underlying23 info32 rfl .i64 .i64 (n+m+1) (by omega) (by omega)
  simp only [Int.natCast_add, Int.natCast_one] at hmk
  go_enter Tryd.func84, Tryd.ntmps84
  go_wp2_with fail
  clear hmk
  go_loopw [6] (fun s6 wr => ∃ (i : Nat) (O : List Nat), i ≤ n ∧ s6 = .int .i64 i ∧ Sl (TOut la lb (n+1) m i O ∧ Out wr w.heap.size (n+m+1) O) ∧ Below w.heap.size w wr) (fun s6 _ => n - (intOf s6).toNat)
  case atStart =>
    refine ⟨0, List.replicate (n+1+m) 0, Nat.zero_le _, rfl, ⟨TOut.start _ _ _ _, ?_⟩, (Below.refl _ _).alloc (Nat.le_refl _) _⟩
    have e : n + 1 + m = n + m + 1 := by omega
    rw [e]
    exact Out.zeros _ _
  case round =>
    obtain ⟨i, O, hi, rfl, HO, hB⟩ := hrel
    obtain ⟨wo, rfl⟩ : ∃ wo : World, wo = wr := ⟨_, rfl⟩
    by_cases hin : i < n
    · go_wp2_with fail
      go_loopw [7, 8] (fun s7 s8 wr => ∃ (k q : Nat) (O : List Nat), k ≤ m + 1 ∧ s7 = .int .u64 q ∧ s8 = .int .i64 k ∧ Sl ((k ≤ m ∧ TIn la lb (n+1) m i k O q ∨ k = m + 1 ∧ q = 0 ∧ TOut la lb (n+1) m (i+1) O) ∧ Out wr w.heap.size (n+m+1) O) ∧ Below w.heap.size w wr) (fun _ s8 _ => m + 1 - (intOf s8).toNat)
      case atStart => exact ⟨0, 0, O, Nat.zero_le _, rfl, rfl, ⟨.inl ⟨Nat.zero_le _, HO.out.1.enter⟩, HO.out.2⟩, hB⟩
      case round =>
        clear HO hB
        obtain ⟨k, q, O, hk, rfl, rfl, HO, hB⟩ := hrel
        by_cases hkm : k < m + 1
        · have hT : TIn la lb (n+1) m i k O q := by
            rcases HO.out.1 with ⟨_, h⟩ | ⟨h, _⟩
            · exact h
            · omega
          have HT : Sl _ := ⟨hT⟩
          have hq : (q : Int) < 4294967296 := by have := hT.cq; unfold LB at this; omega
          clear hT
          have ca := limb_any A n c la i wr.drew ((HA.out.below hB).drewN 1) (by omega) (by omega)
          have cb := limb_any B m d lb k wr.drew ((HB.out.below hB).drewN 1) (by omega) (by omega)
          have hx := lim_small HA.out.2 i
          have hy := lim_small HB.out.2 k
          have hc0 := HO.out.2.cellAt (i := i + k) (by omega)
          have hf0 := HO.out.2.1.frozen (i + k)
          have ho : ((O[i+k]?.getD 0 : Nat) : Int) < 4294967296 := by have := HO.out.2.limb (i+k); unfold LB at this; omega
          have hlx := lim_lt HA.out.2 i
          have hly := lim_lt HB.out.2 k
          have hlo := HO.out.2.limb (i+k)
          have hwr := wrap_three (O[i+k]?.getD 0) (lim la i) (lim lb k) q hlo hlx hly HT.out.cq
          have HNX : Sl (∃ O', Sl ((k + 1 ≤ m ∧ TIn la lb (n+1) m i (k+1) O' ((O[i+k]?.getD 0 + lim la i * lim lb k + q) / LB) ∨ k + 1 = m + 1 ∧ ((O[i+k]?.getD 0 + lim la i * lim lb k + q) / LB) = 0 ∧ TOut la lb (n+1) m (i+1) O')) ∧ O' = O.set (i+k) ((O[i+k]?.getD 0 + lim la i * lim lb k + q) % LB)) := by
            refine ⟨⟨_, ⟨?_⟩, rfl⟩⟩
            rcases Nat.lt_or_ge k m with h | h
            · exact .inl ⟨h, HT.out.step (by omega) h HLB.out hlx hly hlo⟩
            · obtain rfl : k = m := by omega
              have e0 : lim lb k = 0 := lim_out (by rw [HLB.out]; exact Nat.le_refl _)
              have e1 : O[i+k]?.getD 0 = 0 := HT.out.zero (i+k) (Nat.le_refl _)
              rw [e0, e1, Nat.mul_zero, Nat.zero_add, Nat.mod_eq_of_lt HT.out.cq, Nat.div_eq_of_lt HT.out.cq]
              exact .inr ⟨rfl, rfl, HT.out.done' (by omega) (by rw [HLA.out]; exact hin) HLB.out⟩
          have CA : Sl _ := ⟨ca⟩
          have CB : Sl _ := ⟨cb⟩
          have HR : Sl _ := ⟨Nat.mod_lt (O[i+k]?.getD 0 + lim la i * lim lb k + q) LB_pos⟩
          have HWR : Sl _ := ⟨hwr⟩
          have HV : Sl _ := ⟨three_lt (O[i+k]?.getD 0) (lim la i) (lim lb k) q hlo hlx hly HT.out.cq⟩
          have HX : Sl _ := ⟨hx⟩
          have HY : Sl _ := ⟨hy⟩
          have HOO : Sl _ := ⟨ho⟩
          have HQ : Sl _ := ⟨hq⟩
          clear ca cb hlx hly hlo hwr hx hy ho hq
          go_wp2_with fail
          have hidx0 : 0 ≤ (i : Int) + (k : Int) := by omega
          have hidx1 : (i : Int) + (k : Int) < (n : Int) + (m : Int) + 1 := by omega
          have hidx2 : IntKind.i64.wrap ((i : Int) + (k : Int)) = ((i + k : Nat) : Int) := by rw [IntKind.wrap_i64]; omega
          have hidx3 : ((i : Int) + (k : Int)).toNat = i + k := by omega
          go_region_with (first
            | (go_at_call 70; (with_reducible refine CA.out.mono ?_); rintro e w' ⟨rfl, rfl⟩)
            | (go_at_call 70; (with_reducible refine CB.out.mono ?_); rintro e w' ⟨rfl, rfl⟩))
          all_goals (
            go_wp2_with fail
            obtain ⟨O', hO1, hO2⟩ := HNX.out
            subst hO2
            refine ⟨⟨k + 1, _, _, hkm, int_eq ?_, by go_num, ⟨hO1.out, (HO.out.2.drewN _).put (by have := HT.out.len; omega) (by omega) ?_ HR.out⟩, (below_drewN hB _).setCell (Nat.le_refl _) _⟩, by simp [intOf]; try omega⟩
            · rw [limb_u64 HOO.out, HWR.out]; exact quo_v _ HV.out
            · rw [limb_u64 HOO.out, HWR.out]; exact rem_v _ HV.out)
        · obtain rfl : k = m + 1 := by omega
          have hT : TOut la lb (n+1) m (i+1) O := by
            rcases HO.out.1 with ⟨h, _⟩ | ⟨_, _, h⟩
            · omega
            · exact h
          have HT : Sl _ := ⟨hT⟩
          clear hT
          go_wp2_with fail
          exact ⟨⟨i + 1, O, hin, by go_num, ⟨HT.out, HO.out.2⟩, hB⟩, by simp [intOf]; try omega⟩
    · obtain rfl : i = n := by omega
      have hlen : O.length = i + m + 1 := by have := HO.out.1.len; omega
      have hU := HO.out.2.U hlen
      have ht := rtrim_any _ _ (i+m+1) O wo hU (by omega) (Nat.le_refl _) (by unfold maxLen; omega)
      rw [trimN_limbs hU.2, HO.out.1.val, List.take_of_length_le (by rw [HLA.out]; exact Nat.le_refl _)] at ht
      have HT : Sl _ := ⟨ht⟩
      clear ht hU hlen
      go_wp2_with fail
      refine HT.out.mono ?_; rintro e w' ⟨⟨A2, c2, rfl, g1, g2, g3⟩, hb⟩
      go_wp2_with fail
      go_ret
      exact ⟨⟨A2, c2, rfl, g1, g2, g3⟩, hB.trans (hb.mono hB.size)⟩
end Go.Proofs.YtgjbaamhpapeeaaDoor
