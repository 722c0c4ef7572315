/- Package slices: BinarySearchFunc over the breaks of a mixture. -/
import Derived.Test.YtafadpaljanghaaGreatDoorMyQ
import Derived.Test.YtafadpaljanghaaGreatDoorShelD
namespace Go.Proofs.YtafadpaljanghaaGreatDoor
set_option linter.unusedSimpArgs false
open Go.RowKit
set_option linter.unusedVariables false

theorem cmpi_lt (x y : Int) : Lib.compareInt x y < 0 ↔ x < y := by
  unfold Lib.compareInt; split
  · constructor <;> intro h <;> first | assumption | decide
  · split
    · constructor
      · intro h; exact absurd h (by decide)
      · intro h; omega
    · constructor
      · intro h; exact absurd h (by decide)
      · intro h; omega
theorem cmpi_eq (x y : Int) : Lib.compareInt x y = 0 ↔ x = y := by
  unfold Lib.compareInt; split
  · constructor
    · intro h; exact absurd h (by decide)
    · intro h; omega
  · split
    · constructor
      · intro h; exact absurd h (by decide)
      · intro h; omega
    · constructor
      · intro h; omega
      · intro h; rfl
theorem row1_any (fr : Int) (A : Option Addr) (n c : Nat) (key : Int) (w : World) : Calls Tryz.prog 44 #[.agg #[.int .i64 fr, .slice A n c], .int .i64 key] w fun e w' => e = .returned (.int .i64 (Lib.compareInt fr key)) ∧ Below w.heap.size w w' := by
  have HU : Sl (Below w.heap.size w (w.alloc (.cells #[.int .i64 fr, .slice A n c] 59))) := ⟨(Below.refl _ _).alloc (Nat.le_refl _) _⟩
  have HC : Sl _ := ⟨fun W : World => Tryz.cmp_Compare_int fr key W⟩
  obtain ⟨r, hr⟩ : ∃ r, Lib.compareInt fr key = r := ⟨_, rfl⟩
  rw [hr] at HC ⊢
  clear hr
  go_enter Tryz.func44, Tryz.ntmps44
  go_wp2_with fail
  refine (HC.out _).mono ?_; rintro e w1 ⟨rfl, rfl⟩
  go_wp2_with fail
  go_ret
  exact ⟨rfl, HU.out⟩
/-- what the search tells -/
def BsR (L : List Bk) (n : Nat) (key : Int) (e : Ending) : Prop := ∃ (z : Nat) (f : Bool), e = .returned (.tuple #[.int .i64 z, .bool f]) ∧ z ≤ n ∧ (∀ j b, j < z → L[j]? = some b → b.fr < key) ∧ (∀ j b, z ≤ j → L[j]? = some b → key ≤ b.fr) ∧ (f = true ↔ ∃ b, L[z]? = some b ∧ b.fr = key)
set_option maxHeartbeats 6400000 in
set_option maxRecDepth 100000 in
theorem bsf_any (A : Option Addr) (n c : Nat) (L : List Bk) (key : Int) (w : World) (hM : MX w A n L) (hn : n ≤ 12) (hmono : ∀ (i j : Nat) (p q : Bk), i ≤ j → L[i]? = some p → L[j]? = some q → p.fr ≤ q.fr) :
    Calls Tryz.prog 43 #[.slice A n c, .int .i64 key, .func (.func 44) #[] #[]] w fun e w' => BsR L n key e ∧ Below w.heap.size w w' := by
  have hrun : ∀ (args : Array Value) (w : World), (callFunc 44 args).run Tryz.prog w = .ok (.enter 44 args) w := fun a w => by go_simp
  have HM : Sl _ := ⟨hM⟩
  have HL : Sl (L.length = n) := ⟨hM.len⟩
  have HE : Sl (∀ (t : Nat) (b : Bk), n ≤ t → L[t]? = some b → key ≤ b.fr) := ⟨fun t b h hb => by rw [List.getElem?_eq_none (by rw [HL.out]; exact h)] at hb; cases hb⟩
  have HO : Sl _ := ⟨hmono⟩
  clear hM hmono
  go_enter Tryz.func43, Tryz.ntmps43
  go_wp2_with fail
  go_loopw [9, 10, 11] (fun s9 s10 s11 wr => ∃ (i j : Nat) (v11 : Value), s9 = .int .i64 i ∧ s10 = .int .i64 j ∧ s11 = v11 ∧ i ≤ j ∧ j ≤ n ∧ Sl ((∀ t b, t < i → L[t]? = some b → b.fr < key) ∧ (∀ t b, j ≤ t → L[t]? = some b → key ≤ b.fr) ∧ Below w.heap.size w wr)) (fun s9 s10 _ _ => (RowKit.intOf s10).toNat - (RowKit.intOf s9).toNat)
  case atStart => exact ⟨0, n, _, rfl, rfl, rfl, Nat.zero_le _, Nat.le_refl _, ⟨fun t b h => absurd h (Nat.not_lt_zero _), HE.out, Below.refl _ _⟩⟩
  case round =>
    obtain ⟨i, j, v11, rfl, rfl, rfl, hij, hjn, HK⟩ := hrel
    by_cases hlt : i < j
    · obtain ⟨h, hh⟩ : ∃ h, (i + j) / 2 = h := ⟨_, rfl⟩
      have hhi : i ≤ h ∧ h < j := by omega
      have hhI : ((i : Int) + (j : Int)) / 2 = (h : Int) := by omega
      obtain ⟨bk, hbk⟩ : ∃ bk, L[h]? = some bk := ⟨_, List.getElem?_eq_getElem (by rw [HL.out]; omega)⟩
      obtain ⟨ad, rfl, hab, e1, e2⟩ := (HM.out.below HK.out.2.2).cells2 hbk
      have hltI : (i : Int) < (j : Int) := by omega
      have hhn : (h : Int) < (n : Int) := by omega
      have HB : Sl _ := ⟨hbk⟩
      clear hbk
      obtain ⟨fr, BA, bn, bc, bl⟩ := bk
      simp only [] at e1 e2
      have HC : Sl _ := ⟨row1_any fr BA bn bc key wr⟩
      have hcl := cmpi_lt fr key
      obtain ⟨r, hr⟩ : ∃ r, Lib.compareInt fr key = r := ⟨_, rfl⟩
      rw [hr] at HC hcl
      have HCL : Sl _ := ⟨hcl⟩
      have HH : Sl _ := ⟨hh⟩
      clear hcl hr hh
      go_wp2_with fail
      refine HC.out.mono ?_; rintro e w1 ⟨rfl, hb⟩
      have HBW : Sl (Below w.heap.size w w1) := ⟨HK.out.2.2.trans (hb.mono HK.out.2.2.size)⟩
      clear hb HC hhI
      by_cases hr0 : r < 0
      · have hrd : decide (r < 0) = true := decide_eq_true hr0
        have hh12 : h ≤ 12 := by omega
        go_wp2_with fail
        refine ⟨⟨h + 1, j, _, by go_num, rfl, rfl, by omega, hjn, ⟨fun t b ht hb => ?_, HK.out.2.1, HBW.out⟩⟩, by simp [RowKit.intOf]; omega⟩
        have := HO.out t h b _ (by omega) hb HB.out
        have := HCL.out.1 hr0
        show b.fr < key
        exact Int.lt_of_le_of_lt (HO.out t h b _ (by omega) hb HB.out) (HCL.out.1 hr0)
      · have hrd : decide (r < 0) = false := decide_eq_false hr0
        go_wp2_with fail
        refine ⟨⟨i, h, _, rfl, rfl, rfl, by omega, by omega, ⟨HK.out.1, fun t b ht hb => ?_, HBW.out⟩⟩, by simp [RowKit.intOf]; omega⟩
        have h1 := HO.out h t _ b ht HB.out hb
        have h2 : ¬ fr < key := fun h => by have := HCL.out.2 h; omega
        simp only [] at h1
        omega
    · obtain rfl : i = j := by omega
      by_cases hin : i < n
      · obtain ⟨bk, hbk⟩ : ∃ bk, L[i]? = some bk := ⟨_, List.getElem?_eq_getElem (by rw [HL.out]; omega)⟩
        obtain ⟨ad, rfl, hab, e1, e2⟩ := (HM.out.below HK.out.2.2).cells2 hbk
        have hinI : (i : Int) < (n : Int) := by omega
        have hind : decide ((i : Int) < (n : Int)) = true := decide_eq_true hinI
        have HB : Sl _ := ⟨hbk⟩
        clear hbk
        obtain ⟨fr, BA, bn, bc, bl⟩ := bk
        simp only [] at e1 e2
        have HC : Sl _ := ⟨row1_any fr BA bn bc key wr⟩
        have hce := cmpi_eq fr key
        obtain ⟨r, hr⟩ : ∃ r, Lib.compareInt fr key = r := ⟨_, rfl⟩
        rw [hr] at HC hce
        have HCE : Sl _ := ⟨hce⟩
        clear hce hr
        go_wp2_with fail
        refine HC.out.mono ?_; rintro e w1 ⟨rfl, hb⟩
        have HBW : Sl (Below w.heap.size w w1) := ⟨HK.out.2.2.trans (hb.mono HK.out.2.2.size)⟩
        clear hb HC
        go_wp2_with fail
        go_ret2
        refine ⟨⟨i, r == 0, rfl, by omega, HK.out.1, HK.out.2.1, ?_⟩, HBW.out⟩
        rw [beq_iff_eq, HCE.out]
        constructor
        · intro h; exact ⟨_, HB.out, h⟩
        · rintro ⟨b, h1, h2⟩
          rw [HB.out] at h1
          injection h1 with h1
          rw [← h1] at h2; exact h2
      · have hinI : ¬ (i : Int) < (n : Int) := by omega
        have hind : decide ((i : Int) < (n : Int)) = false := decide_eq_false hinI
        go_wp2_with fail
        go_ret2
        refine ⟨⟨i, false, rfl, by omega, HK.out.1, HK.out.2.1, ?_⟩, HK.out.2.2⟩
        constructor
        · intro h; cases h
        · rintro ⟨b, h1, h2⟩
          rw [List.getElem?_eq_none (by rw [HL.out]; omega)] at h1; cases h1
end Go.Proofs.YtafadpaljanghaaGreatDoor
