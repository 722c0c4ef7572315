/- Package mixtures: check's test of long rows, compass, last. -/
import Derived.Test.YtafadpaljanghaaGreatDoorMyJ
namespace Go.Proofs.YtafadpaljanghaaGreatDoor
set_option linter.unusedSimpArgs false
open Go.RowKit
set_option linter.unusedVariables false

theorem check1_any (fr : Int) (A : Option Addr) (n c : Nat) (w : World) : Calls Tryz.prog 69 #[.agg #[.int .i64 fr, .slice A n c]] w fun e w' => e = .returned (.bool (decide (8 < n))) ∧ Below w.heap.size w w' := by
  have hu : Below w.heap.size w (w.alloc (.cells #[.int .i64 fr, .slice A n c] 59)) := (Below.refl _ _).alloc (Nat.le_refl _) _
  have HU : Sl _ := ⟨hu⟩
  clear hu
  have he : decide (8 < n) = decide (8 < (n : Int)) := by
    rw [Bool.eq_iff_iff, decide_eq_true_iff, decide_eq_true_iff]; omega
  rw [he]
  clear he
  go_enter Tryz.func69, Tryz.ntmps69
  go_wp2_with fail
  go_ret
  exact ⟨rfl, HU.out⟩
/-- the cells of a break, as the walk asks for them -/
theorem MX.cells2 {w : World} {A : Option Addr} {n : Nat} {L : List Bk} (h : MX w A n L) {i : Nat} {b : Bk} (hi : L[i]? = some b) :
    ∃ ad, A = some ad ∧ ad.block < w.heap.size ∧ w.cell? (ad.add (i * 2)) = some (.int .i64 b.fr) ∧ w.cell? ⟨(ad.add (i * 2)).block, (ad.add (i * 2)).off + 1, none⟩ = some (.slice b.A b.n b.c) := by
  obtain ⟨ad, e, hb, e1, e2⟩ := h.cells hi
  refine ⟨ad, e, hb, e1, ?_⟩
  have e3 : (ad.add (i * 2)).add 1 = ⟨(ad.add (i * 2)).block, (ad.add (i * 2)).off + 1, none⟩ := by
    generalize ad.add (i * 2) = a1
    simp [Addr.add]
  rw [← add_of_add, e3] at e2
  exact e2
set_option maxHeartbeats 1600000 in
set_option maxRecDepth 100000 in
theorem idxLong_any (A : Option Addr) (n c : Nat) (L : List Bk) (w : World) (hl : MX w A n L) (hn : n < 4611686018427387904) : Calls Tryz.prog 91 #[.slice A n c, .func (.func 69) #[] #[]] w fun e w' => (∃ z : Int, e = .returned (.int .i64 z) ∧ (0 ≤ z ↔ ∃ b ∈ L, 8 < b.n)) ∧ Below w.heap.size w w' := by
  have hrun : ∀ (args : Array Value) (w : World), (callFunc 69 args).run Tryz.prog w = .ok (.enter 69 args) w := fun a w => by go_simp
  have HL : Sl _ := ⟨hl⟩
  clear hl
  go_enter Tryz.func91, Tryz.ntmps91
  go_wp2_with fail
  go_loopw [5, 8] (fun s5 s8 wr => ∃ (k : Nat) (v5 : Value), k ≤ n ∧ s8 = .int .i64 k ∧ s5 = v5 ∧ Sl ((∀ j b, j < k → L[j]? = some b → b.n ≤ 8) ∧ Below w.heap.size w wr)) (fun _ s8 _ => n - (RowKit.intOf s8).toNat)
  case atStart => exact ⟨0, _, Nat.zero_le _, rfl, rfl, ⟨fun j b hj => absurd hj (Nat.not_lt_zero _), Below.refl _ _⟩⟩
  case round =>
    obtain ⟨k, v5, hk, rfl, rfl, HK⟩ := hrel
    by_cases hkn : k < n
    · obtain ⟨b, hb⟩ : ∃ b, L[k]? = some b := ⟨_, List.getElem?_eq_getElem (by rw [HL.out.len]; exact hkn)⟩
      obtain ⟨ad, rfl, hab, c1, c2⟩ := (HL.out.below HK.out.2).cells2 hb
      have hlt : (k : Int) < (n : Int) := by omega
      obtain ⟨fr, BA, bn, bc, bl⟩ := b
      simp only [] at c1 c2
      have HB : Sl _ := ⟨hb⟩
      clear hb
      have HO : Sl _ := ⟨check1_any fr BA bn bc wr⟩
      obtain ⟨r, hr⟩ : ∃ r, decide (8 < bn) = r := ⟨_, rfl⟩
      rw [hr] at HO
      have HR : Sl _ := ⟨hr⟩
      clear hr
      go_wp2_with fail
      refine HO.out.mono ?_; rintro e w1 ⟨rfl, hbw⟩
      have HBW : Sl _ := ⟨HK.out.2.trans (hbw.mono HK.out.2.size)⟩
      clear hbw
      cases r
      · go_wp2_with fail
        refine ⟨⟨k + 1, _, hkn, by go_num, rfl, ⟨fun j b hj hjb => ?_, HBW.out⟩⟩, by simp [RowKit.intOf]; omega⟩
        rcases Nat.lt_or_ge j k with h | h
        · exact HK.out.1 j b h hjb
        · rw [show j = k by omega, HB.out] at hjb
          injection hjb with hjb
          have := of_decide_eq_false HR.out
          rw [← hjb]
          show bn ≤ 8
          omega
      · go_wp2_with fail
        go_ret
        exact ⟨⟨_, rfl, ⟨fun _ => ⟨_, List.mem_of_getElem? HB.out, of_decide_eq_true HR.out⟩, fun _ => by omega⟩⟩, HBW.out⟩
    · obtain rfl : k = n := by omega
      go_wp2_with fail
      go_ret
      refine ⟨⟨-1, rfl, ⟨fun h => absurd h (by decide), fun ⟨b, hb, h8⟩ => ?_⟩⟩, HK.out.2⟩
      obtain ⟨j, hj⟩ := List.mem_iff_getElem?.1 hb
      have hjl : j < L.length := by
        rcases Nat.lt_or_ge j L.length with a | a
        · exact a
        · rw [List.getElem?_eq_none a] at hj; cases hj
      have := HK.out.1 j b (by rw [HL.out.len] at hjl; exact hjl) hj
      omega
theorem hasLong_any (A : Option Addr) (n c : Nat) (L : List Bk) (w : World) (hl : MX w A n L) (hn : n < 4611686018427387904) (r : Bool) (hr : r = true ↔ ∃ b ∈ L, 8 < b.n) : Calls Tryz.prog 68 #[.slice A n c, .func (.func 69) #[] #[]] w fun e w' => e = .returned (.bool r) ∧ Below w.heap.size w w' := by
  have HI : Sl _ := ⟨idxLong_any A n c L w hl hn⟩
  have HR : Sl _ := ⟨hr⟩
  clear hl hr
  go_enter Tryz.func68, Tryz.ntmps68
  go_wp2_with fail
  refine HI.out.mono ?_; rintro e w1 ⟨⟨z, rfl, hz⟩, hb⟩
  have HV : Sl (r = decide (0 ≤ z)) := ⟨by rw [Bool.eq_iff_iff, decide_eq_true_iff]; exact HR.out.trans hz.symm⟩
  clear hz
  go_wp2_with fail
  go_ret
  exact ⟨by rw [HV.out]; rfl, hb⟩
end Go.Proofs.YtafadpaljanghaaGreatDoor
