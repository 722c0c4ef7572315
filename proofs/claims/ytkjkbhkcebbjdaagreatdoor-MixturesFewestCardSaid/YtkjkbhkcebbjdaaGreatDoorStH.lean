/- The reference of chapter 11: lowerings. -/
import Derived.Test.YtkjkbhkcebbjdaaGreatDoorMzH
import Derived.Test.YtkjkbhkcebbjdaaGreatDoorMyG
namespace Go.Proofs.YtkjkbhkcebbjdaaGreatDoor
set_option linter.unusedSimpArgs false
open Go.RowKit
set_option linter.unusedVariables false

def lC (p : Lw) : List Value := [.int .i64 (p.1 : Int), .int .i64 p.2]
/-- the first t lowerings of a rank -/
def lwP (i : Nat) (c : Int) (t : Nat) : List Lw := (List.range t).map fun (t : Nat) => (i, c + 12 * (t : Int))
theorem lwP_all (i : Nat) (c tp : Int) : lwP i c (lwN c tp) = lwI i c tp := rfl
theorem lwP_succ (i : Nat) (c : Int) (t : Nat) : lwP i c (t + 1) = lwP i c t ++ [(i, c + 12 * (t : Int))] := by
  unfold lwP; rw [List.range_succ, List.map_append]; rfl
theorem lwP_len (i : Nat) (c : Int) (t : Nat) : (lwP i c t).length = t := by unfold lwP; simp
theorem lwN_lt (c tp : Int) (t : Nat) : t < lwN c tp ↔ c + 12 * (t : Int) ≤ tp := by
  unfold lwN; split <;> omega
theorem lwN_17 {c tp : Int} (hc : -71 ≤ c) (ht : tp ≤ 127) : lwN c tp ≤ 17 := by
  unfold lwN; split <;> omega
theorem lwA_len {l : List Int} {most tp : Int} (h0 : 0 ≤ most) (ht : tp ≤ 127) : ∀ k, (∀ j, j < k → -24 ≤ gt l j ∧ gt l j ≤ 72) → (lwA l most tp k).length ≤ 17 * k
  | 0, _ => Nat.le_refl _
  | k+1, h => by
    have h1 := lwA_len (l := l) h0 ht k (fun j hj => h j (by omega))
    have h2 := h k (by omega)
    rw [lwA, List.length_append, ← lwP_all, lwP_len]
    have := lwN_17 (c := most - gt l k + 1) (tp := tp) (by omega) ht
    omega
theorem infoRLow : ∃ (i : TypeInfo) (z : Value), Tryz.prog.info? 80 = some i ∧ i.zero = some z ∧ i.size = 2 ∧ i.bytes = 16 ∧ z.cells.size = 2 := by
  have h : (Tryz.prog.info? 80).isSome = true := by kernel_rfl
  obtain ⟨i, hi⟩ := Option.isSome_iff_exists.1 h
  have h1 : (Tryz.prog.info? 80).bind (·.zero) = some (.agg #[.int .i64 0, .int .i64 0]) := by kernel_rfl
  have h2 : (Tryz.prog.info? 80).map (·.size) = some 2 := by kernel_rfl
  have h3 : (Tryz.prog.info? 80).map (·.bytes) = some 16 := by kernel_rfl
  rw [hi] at h1 h2 h3
  exact ⟨i, _, hi, by simpa using h1, by simpa using h2, by simpa using h3, rfl⟩
set_option maxHeartbeats 6400000 in
set_option maxRecDepth 100000 in
theorem rlow_any (tp most : Int) (A : Option Addr) (n c : Nat) (l : List Int) (w : World) (hl : II w A n l) (hn : n ≤ 8) (hz : ∀ j, j < n → -24 ≤ gt l j ∧ gt l j ≤ 72) (hm : 0 ≤ most ∧ most ≤ 139) (ht : 0 ≤ tp ∧ tp ≤ 127) :
    Calls Tryz.prog 37 #[.int .i64 tp, .slice A n c, .int .i64 most] w fun e w' => (∃ v, e = .returned v ∧ w'.ownsRow w.heap.size 80 2 v (lwA l most tp n).length ((lwA l most tp n).flatMap lC)) ∧ Below w.heap.size w w' := by
  obtain ⟨i2, z2, hi0, hz0, hz1, hz2, hz3⟩ := infoRLow
  have HI : Sl _ := ⟨And.intro hi0 (And.intro hz0 (And.intro hz1 (And.intro hz2 hz3)))⟩
  clear hi0 hz0 hz1 hz2 hz3
  have HL : Sl _ := ⟨hl⟩
  have HZ : Sl _ := ⟨hz⟩
  clear hl hz
  obtain ⟨hm0, hm1⟩ := hm
  obtain ⟨ht0, ht1⟩ := ht
  go_enter Tryz.func37, Tryz.ntmps37
  go_wp2_with fail
  go_loopw [7, 8, 9] (fun s7 s8 s9 wr => ∃ (k : Nat) (v v9 : Value), k ≤ n ∧ s8 = .int .i64 k ∧ v = s7 ∧ s9 = v9 ∧ Sl (wr.ownsRow w.heap.size 80 2 v (lwA l most tp k).length ((lwA l most tp k).flatMap lC) ∧ Below w.heap.size w wr)) (fun _ s8 _ _ => n - (RowKit.intOf s8).toNat)
  case atStart => exact ⟨0, _, _, Nat.zero_le _, rfl, rfl, rfl, ⟨World.ownsRow_nil _ _ _ _, Below.refl _ _⟩⟩
  case round =>
    obtain ⟨k, v, v9, hk, rfl, rfl, rfl, HK⟩ := hrel
    by_cases hkn : k < n
    · have hkI : (k : Int) < (n : Int) := by omega
      obtain ⟨ad, had, _, ck⟩ := (HL.out.below HK.out.2).cell (j := k) hkn
      have hzk := HZ.out k hkn
      have HLN : Sl ((lwA l most tp k).length ≤ 17 * k) := ⟨lwA_len hm0 ht1 k (fun j hj => HZ.out j (by omega))⟩
      obtain ⟨z, hz⟩ : ∃ z, gt l k = z := ⟨_, rfl⟩
      rw [hz] at ck hzk
      obtain ⟨cc, hcc⟩ : ∃ cc, most - z + 1 = cc := ⟨_, rfl⟩
      have hcb : -71 ≤ cc ∧ cc ≤ 164 := by omega
      have HA1 : Sl (lwA l most tp (k + 1) = lwA l most tp k ++ lwI k cc tp) := ⟨by rw [lwA, hz, hcc]⟩
      have hw1 : IntKind.i64.wrap (most - z) = most - z := by rw [IntKind.wrap_i64]; omega
      have hw2 : IntKind.i64.wrap cc = cc := by rw [IntKind.wrap_i64]; omega
      have HN17 : Sl (lwN cc tp ≤ 17) := ⟨lwN_17 hcb.1 ht1⟩
      subst had
      clear hz
      go_wp2_with fail
      go_loopw [7, 9] (fun s7 s9 wq => ∃ (t : Nat) (v : Value), t ≤ lwN cc tp ∧ s9 = .int .i64 (cc + 12 * (t : Int)) ∧ v = s7 ∧ Sl (wq.ownsRow w.heap.size 80 2 v (lwA l most tp k ++ lwP k cc t).length ((lwA l most tp k ++ lwP k cc t).flatMap lC) ∧ Below w.heap.size w wq)) (fun _ s9 _ => (tp + 12 - RowKit.intOf s9).toNat)
      case atStart => exact ⟨0, _, Nat.zero_le _, by go_num, rfl, ⟨by unfold lwP; simpa using HK.out.1, HK.out.2⟩⟩
      case round =>
        clear HK ck
        obtain ⟨t, v, htn, rfl, rfl, HK⟩ := hrel
        have ht17 := HN17.out
        obtain ⟨du, hdu⟩ : ∃ du, cc + 12 * (t : Int) = du := ⟨_, rfl⟩
        have HDU : Sl _ := ⟨hdu⟩
        by_cases htl : t < lwN cc tp
        · have hle : du ≤ tp := by rw [← hdu]; exact (lwN_lt cc tp t).1 htl
          have hled : decide (du ≤ tp) = true := decide_eq_true hle
          have HPS : Sl (lwP k cc (t + 1) = lwP k cc t ++ [(k, du)]) := ⟨by rw [lwP_succ, hdu]⟩
          have hdb : -71 ≤ du := by omega
          obtain ⟨nd, hnd⟩ : ∃ nd, (lwA l most tp k ++ lwP k cc t).length = nd := ⟨_, rfl⟩
          have hnd2 : nd ≤ 200 := by rw [← hnd, List.length_append, lwP_len]; have := HLN.out; omega
          have HND : Sl _ := ⟨hnd⟩
          have hko := HK.out.1
          rw [hnd] at hko
          have HKO : Sl _ := ⟨hko⟩
          rw [hdu]
          clear hnd hko htn
          have hwd : IntKind.i64.wrap (du + 12) = du + 12 := by rw [IntKind.wrap_i64]; omega
          clear hdu
          go_wp2_with (at_builtin; go_loud (refine wpList_append_any _ rfl (.tmp 28) (.tmp 32) _ rfl w.heap.size 80 i2 z2 2 16 Tryz.underlying77 HI.out.1 HI.out.2.1 HI.out.2.2.1 HI.out.2.2.2.1 HI.out.2.2.2.2 (by decide) v nd _ rfl (xown_alloc HKO.out _) _ (some ⟨wr.heap.size, 0, none⟩) 1 1 [.int .i64 (k : Int), .int .i64 du] rfl (xreadsN wr _ [.int .i64 (k : Int), .int .i64 du] 2 rfl) (by intro u hu; simp at hu; rcases hu with rfl | rfl <;> rfl) (by unfold maxLen; omega) (by omega) (by have := HK.out.2.size; simp; omega) ?_; rintro v6 w6 hown hg hat; have XQ : Sl (w6.ownsRow w.heap.size 80 2 v6 (lwA l most tp k ++ lwP k cc (t + 1)).length ((lwA l most tp k ++ lwP k cc (t + 1)).flatMap lC)) := ⟨by rw [HPS.out, ← List.append_assoc, List.flatMap_append, List.length_append, HND.out]; exact hown⟩; have HLN2 : Sl (Below w.heap.size w w6) := ⟨xbelow_grown HK.out.2 HK.out.2.size HKO.out hg⟩; clear hown hg hat))
          exact ⟨⟨t + 1, v6, htl, by have := HDU.out; congr 1; omega, rfl, ⟨XQ.out, HLN2.out⟩⟩, by simp [RowKit.intOf]; omega⟩
        · have hgt : ¬ du ≤ tp := by rw [← hdu]; exact fun h => htl ((lwN_lt cc tp t).2 h)
          have hgtd : decide (du ≤ tp) = false := decide_eq_false hgt
          have het : t = lwN cc tp := by omega
          have HQ : Sl (wr.ownsRow w.heap.size 80 2 v (lwA l most tp (k + 1)).length ((lwA l most tp (k + 1)).flatMap lC) ∧ Below w.heap.size w wr) := ⟨by
            rw [HA1.out, ← lwP_all, ← het]; exact HK.out⟩
          rw [hdu]
          clear het HK hdu htl htn
          go_wp2_with fail
          exact ⟨⟨k + 1, v, _, hkn, by go_num, rfl, rfl, HQ⟩, by simp [RowKit.intOf]; omega⟩
    · obtain rfl : k = n := by omega
      go_wp2_with fail
      go_ret
      exact ⟨⟨v, rfl, HK.out.1⟩, HK.out.2⟩
end Go.Proofs.YtkjkbhkcebbjdaaGreatDoor
