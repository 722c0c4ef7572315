/- Fractions: the reference's badq. -/
import Derived.Test.YtgjbaamhpapeeaaGreatDoorLawZ
namespace Go.Proofs.YtgjbaamhpapeeaaGreatDoor
open Go.RowKit
set_option linter.unusedVariables false
set_option linter.unusedSimpArgs false

set_option maxHeartbeats 1600000 in
set_option maxRecDepth 100000 in
theorem rbadq_any (g k c : Nat) (qs : Nat → QV) (w : World) (hk : k ≤ 1000) (hQ : QCells w g k qs) (hok : ∀ i, i < k → (qs i).ok w) :
    Calls Tryz.prog 38 #[.slice (some ⟨g, 0, none⟩) k c] w fun e w' => e = .returned (.int .i64 (checkQ qs k)) ∧ Below w.heap.size w w' := by
  have HQ : Sl _ := ⟨hQ⟩
  have HK : Sl _ := ⟨hok⟩
  have hch : checkQ qs k = if (List.range k).any (fun i => (qs i).long) then 3 else if (List.range k).any (fun i => !(qs i).proper) then 2 else 0 := rfl
  have HB : Sl _ := ⟨hch⟩
  clear hQ hok hch
  go_enter Tryz.func38, Tryz.ntmps38
  go_wp2_with fail
  go_loop [3] (fun s3 => ∃ i : Nat, i ≤ k ∧ s3 = .int .i64 i ∧ ∀ j, j < i → (qs j).long = false) (fun s3 => k - (intOf s3).toNat)
  case atStart => exact ⟨0, Nat.zero_le _, rfl, fun j hj => absurd hj (Nat.not_lt_zero _)⟩
  case round =>
    obtain ⟨i, hi, rfl, hp⟩ := hrel
    have HP : Sl _ := ⟨hp⟩
    clear hp
    by_cases hik : i < k
    · obtain ⟨x0, x1, x2⟩ := HQ.out.cells hik
      have hq := HK.out i hik
      have hna := hq.num.1.len
      have hnb := hq.den.1.len
      have hn1 := hq.num.2
      have hn2 := hq.den.2
      unfold maxLen at hn1 hn2
      obtain ⟨b1, b2⟩ := hn1
      obtain ⟨b3, b4⟩ := hn2
      have hlg : (qs i).long = (decide (512 < (qs i).n) || decide (512 < (qs i).m)) := by unfold QV.long; rw [hna, hnb]
      generalize (qs i).n = n at *
      generalize (qs i).m = m at *
      have HLG : Sl _ := ⟨hlg⟩
      clear hq hna hnb hlg
      have ha1 : (⟨g, 0, none⟩ : Addr).add (i * 3) = ⟨g, i * 3, none⟩ := by simp [Addr.add]; try omega
      by_cases h1 : 512 < n
      · have hx : checkQ qs k = 3 := by
          rw [HB.out, if_pos]
          rw [List.any_eq_true]
          exact ⟨i, List.mem_range.2 hik, by rw [HLG.out]; simp [h1]⟩
        have HX : Sl _ := ⟨hx⟩
        clear hx
        go_wp2_with fail
        go_ret
        exact ⟨by rw [HX.out]; rfl, Below.refl _ _⟩
      · by_cases h2 : 512 < m
        · have hx : checkQ qs k = 3 := by
            rw [HB.out, if_pos]
            rw [List.any_eq_true]
            exact ⟨i, List.mem_range.2 hik, by rw [HLG.out]; simp [h2]⟩
          have HX : Sl _ := ⟨hx⟩
          clear hx
          go_wp2_with fail
          go_ret
          exact ⟨by rw [HX.out]; rfl, Below.refl _ _⟩
        · go_wp2_with fail
          refine ⟨⟨i + 1, hik, by go_num, fun j hj => ?_⟩, by simp [intOf]; omega⟩
          rcases Nat.lt_or_ge j i with h3 | h3
          · exact HP.out j h3
          · obtain rfl : j = i := by omega
            rw [HLG.out]; simp; omega
    · have hno : (List.range k).any (fun i => (qs i).long) = false := by
        rw [List.any_eq_false]
        intro j hj
        have := HP.out j (by have := List.mem_range.1 hj; omega)
        simp [this]
      have HNO : Sl _ := ⟨hno⟩
      clear hno
      go_wp2_with fail
      go_loopw [4] (fun s4 wr => ∃ i : Nat, i ≤ k ∧ s4 = .int .i64 i ∧ (∀ j, j < i → (qs j).proper = true) ∧ Below w.heap.size w wr) (fun s4 _ => k - (intOf s4).toNat)
      case atStart => exact ⟨0, Nat.zero_le _, rfl, fun j hj => absurd hj (Nat.not_lt_zero _), Below.refl _ _⟩
      case round =>
        clear hik hi
        obtain ⟨i, hi, rfl, hp, hB⟩ := hrel
        have HQQ : Sl _ := ⟨hp⟩
        clear hp
        by_cases hik : i < k
        · obtain ⟨x0, x1, x2⟩ := (HQ.out.below hB).cells hik
          have hq := (HK.out i hik).below hB
          have hpr := rProper_any (qs i).neg (qs i).A (qs i).B (qs i).n (qs i).m (qs i).c (qs i).d (qs i).la (qs i).lb wr hq.num hq.den
          unfold qv at hpr
          have hpd : (qs i).proper = properS (qs i).neg (qs i).la (qs i).lb := rfl
          rw [← hpd] at hpr
          rcases hvl : (qs i).proper with _ | _
          · have hx : checkQ qs k = 2 := by
              rw [HB.out, HNO.out, if_neg (by simp), if_pos]
              rw [List.any_eq_true]
              exact ⟨i, List.mem_range.2 hik, by simp [hvl]⟩
            rw [hvl] at hpr
            have HX : Sl _ := ⟨hx⟩
            have HPR : Sl _ := ⟨hpr⟩
            clear hx hpr hvl hpd hq
            go_wp2_with fail
            refine HPR.out.mono ?_; rintro e w2 ⟨rfl, hb2⟩
            go_wp2_with fail
            go_ret
            exact ⟨by rw [HX.out]; rfl, hB.trans (hb2.mono hB.size)⟩
          · rw [hvl] at hpr
            have HPR : Sl _ := ⟨hpr⟩
            have HVL : Sl _ := ⟨hvl⟩
            clear hpr hvl hpd hq
            go_wp2_with fail
            refine HPR.out.mono ?_; rintro e w2 ⟨rfl, hb2⟩
            go_wp2_with fail
            refine ⟨⟨i + 1, hik, by go_num, fun j hj => ?_, hB.trans (hb2.mono hB.size)⟩, by simp [intOf]; omega⟩
            rcases Nat.lt_or_ge j i with h1 | h1
            · exact HQQ.out j h1
            · obtain rfl : j = i := by omega
              exact HVL.out
        · have hx : checkQ qs k = 0 := by
            rw [HB.out, HNO.out, if_neg (by simp), if_neg]
            rw [Bool.not_eq_true, List.any_eq_false]
            intro j hj
            have := HQQ.out j (by have := List.mem_range.1 hj; omega)
            simp [this]
          have HX : Sl _ := ⟨hx⟩
          clear hx
          go_wp2_with fail
          go_ret
          exact ⟨by rw [HX.out]; rfl, hB⟩
end Go.Proofs.YtgjbaamhpapeeaaGreatDoor
