/- The reference's trim and Of; the law's same, quo. -/
import Derived.Test.YtgjbaamhpapeeaaGreatDoorWideN
namespace Go.Proofs.YtgjbaamhpapeeaaGreatDoor
set_option linter.unusedSimpArgs false
open Go.RowKit
set_option linter.unusedVariables false

set_option maxHeartbeats 400000 in
/-- the reference's trim -/
theorem rtrim_any (A : Option Addr) (n c : Nat) (l : List Nat) (w : World) (h : U w A n l) (hn : n ≤ 4294967296) (hc : n ≤ c) (hm : c ≤ maxLen) :
    Calls Tryz.prog 58 #[.slice A n c] w fun e w' => Limbs (trimN l) e w' ∧ Below w.heap.size w w' := by
  obtain ⟨i0, hi0, hz0, hz1, hz2⟩ := info_parts info32
  have hl := h.len
  unfold maxLen at hm
  have HL : Sl _ := ⟨hl⟩
  clear hl
  have HI : Sl _ := ⟨And.intro hi0 (And.intro hz0 (And.intro hz1 hz2))⟩
  clear hi0 hz0 hz1 hz2
  go_enter Tryz.func58, Tryz.ntmps58
  go_wp2
  go_loop [3] (fun v => ∃ k : Nat, k ≤ n ∧ v = .int .i64 k ∧ trimN (l.take k) = trimN l) (fun v => (intOf v).toNat)
  case atStart => exact ⟨n, Nat.le_refl _, rfl, by rw [List.take_of_length_le (by rw [HL.out]; exact Nat.le_refl _)]⟩
  case round =>
    obtain ⟨k, hk, rfl, ht⟩ := hrel
    have HT : Sl _ := ⟨ht⟩
    clear ht
    by_cases hgo : ∃ j, k = j + 1 ∧ l[j]?.getD 0 = 0
    · obtain ⟨j, rfl, hz⟩ := hgo
      obtain ⟨ad, rfl, hb, hcell⟩ := h.cell (k := j) (by omega)
      rw [hz] at hcell
      have HZ : Sl _ := ⟨hz⟩
      clear hz
      have ej : (((j + 1 : Nat) : Int) - 1) = (j : Int) := by omega
      go_wp2
      exact ⟨⟨j, by omega, by first | rfl | exact int_eq (by omega), by rw [← HT.out, take_trim0 l j (by rw [HL.out]; omega) HZ.out]⟩, by simp [intOf]; try omega⟩
    · have hend : trimN l = l.take k := by
        rcases k with _ | j
        · rw [← HT.out]; simp [trimN_nil]
        · rw [← HT.out, take_trim1 l j (by rw [HL.out]; omega) (fun h0 => hgo ⟨j, rfl, h0⟩)]
      have hU := h.take hk
      have HU : Sl _ := ⟨hU⟩
      have HE : Sl _ := ⟨hend⟩
      have hone : ∀ u ∈ (l.take k).map lv, u.oneCell' = true := by intro u hu; obtain ⟨x, _, rfl⟩ := List.mem_map.1 hu; rfl
      have hcon : k = 0 ∨ ∃ j ad, k = j + 1 ∧ A = some ad ∧ w.cell? (ad.add j) = some (.int .u32 (l[j]?.getD 0 : Nat)) ∧ (((l[j]?.getD 0 : Nat) : Int) == 0) = false := by
        rcases k with _ | j
        · exact .inl rfl
        · obtain ⟨ad, rfl, hb, hcell⟩ := h.cell (k := j) (by omega)
          exact .inr ⟨j, ad, rfl, rfl, hcell, by rw [beq_eq_false_iff_ne]; intro h0; exact hgo ⟨j, rfl, by omega⟩⟩
      clear hend hU hgo
      rcases hcon with rfl | ⟨j, ad, rfl, rfl, hcell, hz⟩
      all_goals (
        go_wp2_with (at_builtin; go_loud (refine wpList_append_any _ rfl (.tmp 18) (.tmp 21) _ rfl w.heap.size 49 i0 _ 1 4 Tryz.underlying23 HI.out.1 HI.out.2.1 HI.out.2.2.1 HI.out.2.2.2 rfl (by decide) (.slice (some ⟨w.heap.size, 0, none⟩) 0 0) 0 [] rfl (World.ownsRow_made w #[] 0 (Nat.le_refl _) (by decide) rfl) w.heap.size _ _ c _ rfl (HU.out.1.alloc (Nat.le_refl _) _) hone (by simp only [maxLen]; omega) (by omega) (by simp) ?_; intro v1 w1 hown1 hg1 hat1))
        go_ret
        have hg : Below w.heap.size w w1 := ((Below.refl _ _).alloc (Nat.le_refl _) _).grown hg1 (by simp) (fun k hk => by simp [Value.ownBlock] at hk; omega)
        rw [HE.out]
        exact ⟨Limbs.of_own (by simpa using hown1) HU.out.len HU.out.2, hg⟩)

set_option maxHeartbeats 400000 in
/-- the reference's Of -/
theorem rOf_any (x : Nat) (w : World) (hx : x < LB * LB) :
    Calls Tryz.prog 51 #[.int .u64 x] w fun e w' => Limbs (limbs x) e w' ∧ Below w.heap.size w w' := by
  have hx' : (x:Int) < 18446744073709551616 := by unfold LB at hx; omega
  have HT : Sl _ := ⟨of_limbs x hx⟩
  have hm : x % LB < LB := Nat.mod_lt _ LB_pos
  have hd : x / LB < LB := Nat.div_lt_of_lt_mul hx
  have HM : Sl _ := ⟨hm⟩
  have HD : Sl _ := ⟨hd⟩
  have E1 : Sl (∀ y : Nat, ((y : Int) % 4294967296) = ((y % LB : Nat) : Int)) := ⟨fun y => by simp [LB]⟩
  have E2 : Sl (∀ y : Nat, ((y : Int) / 4294967296) = ((y / LB : Nat) : Int)) := ⟨fun y => by simp [LB]⟩
  clear hm hd hx
  go_enter Tryz.func51, Tryz.ntmps51
  go_wp2_with fail
  refine (rtrim_any _ 2 2 [x % LB, x / LB] _ (U_two w (x % LB) (x / LB) _ _ (E1.out x) (E2.out x) HM.out HD.out _) (by decide) (by decide) (by decide)).mono ?_; rintro e w' ⟨⟨A, c, rfl, h1, h2, h3⟩, hb⟩
  go_wp2_with fail
  go_ret
  rw [HT.out] at h1 h3 ⊢
  exact ⟨⟨A, c, rfl, h1, h2, h3⟩, ((Below.refl _ _).alloc (Nat.le_refl _) _).trans (hb.mono (by simp))⟩

set_option maxHeartbeats 400000 in
/-- the law's same -/
theorem same_any (A B : Option Addr) (n m c d : Nat) (la lb : List Nat) (w : World) (ha : U w A n la) (hb : U w B m lb) (hn : n ≤ 4294967296) (hm : m ≤ 4294967296) :
    Calls Tryz.prog 23 #[.slice A n c, .slice B m d] w fun e w' => e = .returned (.bool (decide (la = lb))) ∧ ∃ q, w' = w.drewN q := by
  have hna := ha.len
  have hnb := hb.len
  by_cases hnm : n = m
  · subst hnm
    have HNA : Sl _ := ⟨hna⟩
    have HNB : Sl _ := ⟨hnb⟩
    clear hna hnb
    go_enter Tryz.func23, Tryz.ntmps23
    go_wp2
    go_loopw [5] (fun s5 wr => ∃ (i q : Nat), i ≤ n ∧ s5 = .int .i64 i ∧ (∀ j, j < i → la[j]?.getD 0 = lb[j]?.getD 0) ∧ wr = w.drewN q) (fun s5 _ => n - (intOf s5).toNat)
    case atStart => exact ⟨0, 0, Nat.zero_le _, rfl, fun j hj => absurd hj (Nat.not_lt_zero _), rfl⟩
    case round =>
      obtain ⟨i, q, hi, rfl, hp, rfl⟩ := hrel
      have HP : Sl _ := ⟨hp⟩
      clear hp
      by_cases hin : i < n
      · obtain ⟨ad, rfl, _, hca⟩ := ha.cell (k := i) hin
        obtain ⟨bd, rfl, _, hcb⟩ := hb.cell (k := i) hin
        by_cases he : la[i]?.getD 0 = lb[i]?.getD 0
        · have hne : (((la[i]?.getD 0 : Nat) : Int) == ((lb[i]?.getD 0 : Nat) : Int)) = true := by rw [he]; simp
          have HE : Sl _ := ⟨he⟩
          rw [← he] at hcb
          clear he hne
          go_wp2_with fail
          go_quiet (fail)
          go_wp2_with fail
          refine ⟨⟨i + 1, _, hin, by go_num, fun j hj => ?_, rfl⟩, by simp [intOf]; try omega⟩
          rcases Nat.lt_or_ge j i with h1 | h1
          · exact HP.out j h1
          · obtain rfl : j = i := by omega
            exact HE.out
        · have hne : (((la[i]?.getD 0 : Nat) : Int) == ((lb[i]?.getD 0 : Nat) : Int)) = false := by rw [beq_eq_false_iff_ne]; omega
          have HE : Sl (la ≠ lb) := ⟨fun h => he (by rw [h])⟩
          clear he
          go_wp2_with fail
          go_quiet (fail)
          go_wp2_with fail
          go_ret
          exact ⟨by rw [decide_eq_false HE.out]; rfl, _, by first | rfl | exact drew2 _ _ _⟩
      · go_wp2_with fail
        go_ret
        have he : la = lb := by
          apply List.ext_getElem (by rw [HNA.out, HNB.out])
          intro j h1 h2
          have := HP.out j (by rw [HNA.out] at h1; omega)
          rwa [List.getElem?_eq_getElem h1, List.getElem?_eq_getElem h2] at this
        exact ⟨by rw [decide_eq_true he]; rfl, _, rfl⟩
  · have hd : (((n : Int) == (m : Int))) = false := by rw [beq_eq_false_iff_ne]; omega
    have he : la ≠ lb := fun h => hnm (by rw [← hna, ← hnb, h])
    have HE : Sl _ := ⟨he⟩
    clear hna hnb he hnm
    go_enter Tryz.func23, Tryz.ntmps23
    go_wp2
    go_ret
    exact ⟨by rw [decide_eq_false HE.out]; rfl, 0, rfl⟩
end Go.Proofs.YtgjbaamhpapeeaaGreatDoor
