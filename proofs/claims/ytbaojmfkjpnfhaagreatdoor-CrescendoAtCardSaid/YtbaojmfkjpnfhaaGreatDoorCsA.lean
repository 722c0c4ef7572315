/- Package words: letter, digit, Name; package spec: within. -/
import Derived.Test.YtbaojmfkjpnfhaaGreatDoorBase
namespace Go.Proofs.YtbaojmfkjpnfhaaGreatDoor
set_option linter.unusedSimpArgs false
open Go.RowKit
set_option linter.unusedVariables false

/-- is it a letter? (a byte as a number) -/
def ltrI (z : Int) : Bool := decide (97 ≤ bits .or .u8 z 32) && decide (bits .or .u8 z 32 ≤ 122)
def digI (z : Int) : Bool := decide (48 ≤ z) && decide (z ≤ 57)
theorem letter_any (z : Int) (w : World) : Calls Tryz.prog 197 #[.int .u8 z] w fun e w' => e = .returned (.bool (ltrI z)) ∧ w' = w := by
  obtain ⟨y, hy⟩ : ∃ y, bits .or .u8 z 32 = y := ⟨_, rfl⟩
  have HC : Sl (ltrI z = (decide (97 ≤ y) && decide (y ≤ 122))) := ⟨by unfold ltrI; rw [hy]⟩
  by_cases h : 97 ≤ y
  · have hb : decide (97 ≤ y) = true := decide_eq_true h
    rw [hb] at HC
    go_enter Tryz.func197, Tryz.ntmps197
    go_wp2_with fail
    go_ret
    exact ⟨by first | rfl | (rw [HC.out]; simp), rfl⟩
  · have hb : decide (97 ≤ y) = false := decide_eq_false h
    rw [hb] at HC
    go_enter Tryz.func197, Tryz.ntmps197
    go_wp2_with fail
    go_ret
    exact ⟨by first | rfl | (rw [HC.out]; rfl), rfl⟩
theorem digit_any (z : Int) (w : World) : Calls Tryz.prog 198 #[.int .u8 z] w fun e w' => e = .returned (.bool (digI z)) ∧ w' = w := by
  by_cases h : 48 ≤ z
  · have hb : decide (48 ≤ z) = true := decide_eq_true h
    have HC : Sl (digI z = decide (z ≤ 57)) := ⟨by unfold digI; rw [hb]; rfl⟩
    go_enter Tryz.func198, Tryz.ntmps198
    go_wp2_with fail
    go_ret
    exact ⟨by first | rfl | (rw [HC.out]; rfl), rfl⟩
  · have hb : decide (48 ≤ z) = false := decide_eq_false h
    have HC : Sl (digI z = false) := ⟨by unfold digI; rw [hb]; rfl⟩
    go_enter Tryz.func198, Tryz.ntmps198
    go_wp2_with fail
    go_ret
    exact ⟨by first | rfl | (rw [HC.out]; rfl), rfl⟩
theorem within_any (a b c : Int) (w : World) : Calls Tryz.prog 159 #[.int .i64 a, .int .i64 b, .int .i64 c] w fun e w' => e = .returned (.bool (decide (b ≤ a) && decide (a ≤ c))) ∧ w' = w := by
  by_cases h : b ≤ a
  · have hb : decide (b ≤ a) = true := decide_eq_true h
    have HC : Sl ((decide (b ≤ a) && decide (a ≤ c)) = decide (a ≤ c)) := ⟨by rw [hb]; rfl⟩
    go_enter Tryz.func159, Tryz.ntmps159
    go_wp2_with fail
    go_ret
    exact ⟨by first | rfl | (rw [HC.out]; rfl), rfl⟩
  · have hb : decide (b ≤ a) = false := decide_eq_false h
    have HC : Sl ((decide (b ≤ a) && decide (a ≤ c)) = false) := ⟨by rw [hb]; rfl⟩
    go_enter Tryz.func159, Tryz.ntmps159
    go_wp2_with fail
    go_ret
    exact ⟨by first | rfl | (rw [HC.out]; rfl), rfl⟩
/-- may this byte stand there in a name? -/
def nmC (i : Nat) (z : Int) : Bool := ltrI z || (!decide (i = 0) && (decide (z = 95) || digI z))
/-- is it a name? -/
def nmB (s : ByteArray) : Bool := (List.range s.size).all (fun i => nmC i ((s.data.toList.getD i 0).toNat : Int)) && (decide (1 ≤ s.size) && decide (s.size ≤ 16))
theorem nmC_byte {s : ByteArray} {i : Nat} (h : i < s.size) : s.data.toList.getD i 0 = s[i] := by
  rw [List.getD, List.getElem?_eq_getElem (by rw [Array.length_toList]; exact h)]
  rfl
/-- the bytes before k are good -/
theorem nm_bad {s : ByteArray} {k : Nat} (h : k < s.size) (hb : nmC k ((s[k].toNat : Nat) : Int) = false) : nmB s = false := by
  unfold nmB
  rw [Bool.and_eq_false_iff]
  refine .inl ?_
  rw [List.all_eq_false]
  exact ⟨k, List.mem_range.2 h, by rw [nmC_byte h, hb]; decide⟩
theorem nm_end {s : ByteArray} (h : ∀ k (hk : k < s.size), nmC k ((s[k].toNat : Nat) : Int) = true) : nmB s = (decide (1 ≤ s.size) && decide (s.size ≤ 16)) := by
  unfold nmB
  have : (List.range s.size).all (fun i => nmC i ((s.data.toList.getD i 0).toNat : Int)) = true := List.all_eq_true.2 fun k hk => by
    have hk := List.mem_range.1 hk
    rw [nmC_byte hk]; exact h k hk
  rw [this, Bool.true_and]
set_option maxHeartbeats 1600000 in
theorem name_any (s : ByteArray) (hs : s.size ≤ maxLen) (w : World) : Calls Tryz.prog 161 #[.string s] w fun e w' => e = .returned (.bool (nmB s)) ∧ w' = w := by
  unfold maxLen at hs
  go_enter Tryz.func161, Tryz.ntmps161
  go_wp2_with fail
  go_loopw [7] (fun s7 wr => ∃ k : Nat, k ≤ s.size ∧ s7 = .int .i64 k ∧ Sl (∀ j (hj : j < s.size), j < k → nmC j ((s[j].toNat : Nat) : Int) = true) ∧ wr = w) (fun s7 _ => s.size - (RowKit.intOf s7).toNat)
  case atStart => exact ⟨0, Nat.zero_le _, rfl, ⟨fun j _ h => absurd h (Nat.not_lt_zero _)⟩, rfl⟩
  case round =>
    obtain ⟨k, hk, rfl, HG, rfl⟩ := hrel
    by_cases hlt : k < s.size
    · have hkI : decide ((k : Int) < (s.size : Int)) = true := decide_eq_true (by omega)
      have hkI2 : (k : Int) < (s.size : Int) := by omega
      obtain ⟨z, hz⟩ : ∃ z : Int, ((s[k].toNat : Nat) : Int) = z := ⟨_, rfl⟩
      have HLT : Sl _ := ⟨letter_any z wr⟩
      have HDG : Sl _ := ⟨digit_any z wr⟩
      have HZ : Sl _ := ⟨hz⟩
      have HN : Sl (nmC k z = (ltrI z || (!decide (k = 0) && (decide (z = 95) || digI z)))) := ⟨rfl⟩
      have HBAD : Sl (nmC k z = false → nmB s = false) := ⟨fun h => nm_bad hlt (by rw [hz]; exact h)⟩
      have HNX : Sl (nmC k z = true → ∀ j (hj : j < s.size), j < k + 1 → nmC j ((s[j].toNat : Nat) : Int) = true) := ⟨fun h j hj hjk => by
        rcases Nat.lt_or_ge j k with h1 | h1
        · exact HG.out j hj h1
        · obtain rfl : j = k := by omega
          rw [hz]; exact h⟩
      go_wp2_with fail
      refine HLT.out.mono ?_; rintro e w1 ⟨rfl, rfl⟩
      cases hl : ltrI z with
      | true =>
        have HY : Sl (nmC k z = true) := ⟨by rw [HN.out, hl]; rfl⟩
        clear hl
        go_wp2_with fail
        exact ⟨⟨k + 1, hlt, by go_num, ⟨HNX.out HY.out⟩, by trivial⟩, by simp [RowKit.intOf]; omega⟩
      | false =>
        have HN2 : Sl (nmC k z = (!decide (k = 0) && (decide (z = 95) || digI z))) := ⟨by rw [HN.out, hl]; rfl⟩
        clear hl
        by_cases hk0 : k = 0
        · have q0 : ((k : Int) == 0) = true := by rw [beq_iff_eq]; omega
          have HBD : Sl (nmB s = false) := ⟨HBAD.out (by rw [HN2.out, decide_eq_true hk0]; rfl)⟩
          clear hk0
          go_wp2_with fail
          (try simp only [Exit.inBlock, Exit.then])
          go_ret
          exact ⟨by first | rfl | (rw [HBD.out]; rfl), rfl⟩
        · have q0 : ((k : Int) == 0) = false := by rw [beq_eq_false_iff_ne]; omega
          have HN3 : Sl (nmC k z = (decide (z = 95) || digI z)) := ⟨by rw [HN2.out, decide_eq_false hk0]; rfl⟩
          by_cases h95 : z = 95
          · have q9 : (z != 95) = false := by rw [bne_eq_false_iff_eq]; exact h95
            have HY : Sl (nmC k z = true) := ⟨by rw [HN3.out, decide_eq_true h95]; rfl⟩
            clear h95
            go_wp2_with fail
            exact ⟨⟨k + 1, hlt, by go_num, ⟨HNX.out HY.out⟩, by trivial⟩, by simp [RowKit.intOf]; omega⟩
          · have q9 : (z != 95) = true := by rw [bne_iff_ne]; exact h95
            have HN4 : Sl (nmC k z = digI z) := ⟨by rw [HN3.out, decide_eq_false h95]; rfl⟩
            clear h95
            go_wp2_with fail
            refine HDG.out.mono ?_; rintro e w2 ⟨rfl, rfl⟩
            cases hd : digI z with
            | true =>
              have HY : Sl (nmC k z = true) := ⟨by rw [HN4.out, hd]⟩
              clear hd
              go_wp2_with fail
              exact ⟨⟨k + 1, hlt, by go_num, ⟨HNX.out HY.out⟩, by trivial⟩, by simp [RowKit.intOf]; omega⟩
            | false =>
              have HBD : Sl (nmB s = false) := ⟨HBAD.out (by rw [HN4.out, hd])⟩
              clear hd
              go_wp2_with fail
              (try simp only [Exit.inBlock, Exit.then])
              go_ret
              exact ⟨by first | rfl | (rw [HBD.out]; rfl), rfl⟩
    · have hkI : decide ((k : Int) < (s.size : Int)) = false := decide_eq_false (by omega)
      have HE : Sl _ := ⟨nm_end (s := s) fun j hj => HG.out j hj (by omega)⟩
      by_cases h1 : 1 ≤ s.size
      · have q1 : decide (1 ≤ (s.size : Int)) = true := decide_eq_true (by omega)
        have HR : Sl (nmB s = decide ((s.size : Int) ≤ 16)) := ⟨by
          rw [HE.out, decide_eq_true h1, Bool.true_and]
          by_cases h2 : s.size ≤ 16
          · rw [decide_eq_true h2, decide_eq_true (by omega)]
          · rw [decide_eq_false h2, decide_eq_false (by omega)]⟩
        go_wp2_with fail
        go_ret
        exact ⟨by first | rfl | (rw [HR.out]; rfl), rfl⟩
      · have q1 : decide (1 ≤ (s.size : Int)) = false := decide_eq_false (by omega)
        have HR : Sl (nmB s = false) := ⟨by rw [HE.out, decide_eq_false h1]; rfl⟩
        go_wp2_with fail
        go_ret
        exact ⟨by first | rfl | (rw [HR.out]; rfl), rfl⟩
end Go.Proofs.YtbaojmfkjpnfhaaGreatDoor
