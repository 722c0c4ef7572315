/- Package ratios: Of of any numbers; Sign; Cents. -/
import Derived.Test.YtalodfjplegibaaGreatDoorRatJ
import Derived.Test.YtalodfjplegibaaGreatDoorRatF
import Derived.Test.YtalodfjplegibaaGreatDoorMixN
namespace Go.Proofs.YtalodfjplegibaaGreatDoor
set_option linter.unusedSimpArgs false
open Go.RowKit
set_option linter.unusedVariables false

set_option maxHeartbeats 3200000 in
set_option maxRecDepth 100000 in
theorem ROf_any (a b : Int) (w : World) (hT : PrT w) : Calls Tryz.prog 13 #[.int .i64 a, .int .i64 b] w fun e w' => OfRes e (ofS a b) ∧ Below w.heap.size w w' := by
  by_cases h : okN a ∧ okN b
  · obtain ⟨x, rfl⟩ := Int.eq_ofNat_of_zero_le (show 0 ≤ a by have := h.1.1; omega)
    obtain ⟨y, rfl⟩ := Int.eq_ofNat_of_zero_le (show 0 ≤ b by have := h.2.1; omega)
    have h1 := h.1.1
    have h2 := h.1.2
    have h3 := h.2.1
    have h4 := h.2.2
    refine Of_good x y w (by omega) (by omega) (by omega) (by omega) hT _ ?_
    unfold ofS
    rw [if_pos h]
    simp only [Int.natAbs_natCast]
  · have hs : Sl (ofS a b = (RVzero, 2)) := ⟨by unfold ofS; rw [if_neg h]⟩
    have hu := (Below.refl w.heap.size w).alloc (Nat.le_refl _) (.cells RVzero.cells 24)
    have X4 := Blk.new w 24 RVzero.cells
    rw [RVzero_cells] at hu X4
    have HU : Sl _ := ⟨And.intro hu X4⟩
    clear hu X4
    obtain ⟨t, ht⟩ : ∃ t, ofS a b = t := ⟨_, rfl⟩
    rw [ht] at hs ⊢
    clear ht
    have hcase : (decide (a < 1) || decide (1000000000000 < a) || decide (b < 1) || decide (1000000000000 < b)) = true := by
      unfold okN at h
      simp only [Bool.or_eq_true, decide_eq_true_eq]
      omega
    clear h
    by_cases g1 : a < 1
    · clear hcase
      go_enter Tryz.func13, Tryz.ntmps13
      go_wp2_with fail
      refine bodyPost_ret (results_rowR rfl _ _ w.heap.size _ _ _ rfl HU.out.2 Tryz.underlying24 rfl (by kernel_rfl)) rfl ?_
      exact ⟨by rw [hs.out]; rfl, HU.out.1⟩
    · by_cases g2 : 1000000000000 < a
      · clear hcase
        go_enter Tryz.func13, Tryz.ntmps13
        go_wp2_with fail
        refine bodyPost_ret (results_rowR rfl _ _ w.heap.size _ _ _ rfl HU.out.2 Tryz.underlying24 rfl (by kernel_rfl)) rfl ?_
        exact ⟨by rw [hs.out]; rfl, HU.out.1⟩
      · by_cases g3 : b < 1
        · clear hcase
          go_enter Tryz.func13, Tryz.ntmps13
          go_wp2_with fail
          refine bodyPost_ret (results_rowR rfl _ _ w.heap.size _ _ _ rfl HU.out.2 Tryz.underlying24 rfl (by kernel_rfl)) rfl ?_
          exact ⟨by rw [hs.out]; rfl, HU.out.1⟩
        · have g4 : 1000000000000 < b := by
            simp only [Bool.or_eq_true, decide_eq_true_eq] at hcase
            omega
          clear hcase
          go_enter Tryz.func13, Tryz.ntmps13
          go_wp2_with fail
          refine bodyPost_ret (results_rowR rfl _ _ w.heap.size _ _ _ rfl HU.out.2 Tryz.underlying24 rfl (by kernel_rfl)) rfl ?_
          exact ⟨by rw [hs.out]; rfl, HU.out.1⟩
/-- the public Sign, where the program's sign is known -/
theorem Sign_any (A : Option Addr) (n c : Nat) (l : List (Nat × Int)) (s : Int) (w : World) (hl : TR w A n l) (hok : okT l) (hs : SignTo l s) :
    Calls Tryz.prog 10 #[.slice A n c] w fun e w' => e = .returned (.tuple #[.int .i64 s, .int .i64 0]) ∧ Below w.heap.size w w' := by
  have HC : Sl _ := ⟨rcheck_ok A n c l w hl hok⟩
  have HS : Sl _ := ⟨hs⟩
  have HL : Sl _ := ⟨hl⟩
  clear hl hok hs
  go_enter Tryz.func10, Tryz.ntmps10
  go_wp2_with fail
  refine HC.out.mono ?_; rintro e w1 ⟨rfl, hb1⟩
  go_wp2_with fail
  refine (HS.out A n c w1 (HL.out.below hb1)).mono ?_; rintro e w2 ⟨rfl, hb2⟩
  go_wp2_with fail
  go_ret2
  exact ⟨rfl, hb1.trans (hb2.mono hb1.size)⟩
theorem mem_termsN (r : RV) : ∀ i, i ≤ 6 → ∀ x ∈ termsN r i, ∃ j, j < i ∧ x = (prime j, r.num j)
  | 0, _, x, hx => by cases hx
  | i+1, hi, x, hx => by
    rw [termsN] at hx
    split at hx
    · obtain ⟨j, h1, h2⟩ := mem_termsN r i (by omega) x hx
      exact ⟨j, by omega, h2⟩
    · rw [List.mem_append] at hx
      rcases hx with hx | hx
      · obtain ⟨j, h1, h2⟩ := mem_termsN r i (by omega) x hx
        exact ⟨j, by omega, h2⟩
      · simp only [List.mem_singleton] at hx
        exact ⟨i, by omega, hx⟩
/-- the products that Floor looks at for a ratio -/
theorem ok6_atM {r : RV} (h : ∀ i, i < 6 → inR (r.num i)) {s den m : Int} (hs : 1 ≤ s ∧ s ≤ 10000000) (hd : 1 ≤ den ∧ den ≤ 1000) (hm : -1000000000000 ≤ m ∧ m ≤ 1000000000001) : ok6 (atM (termsN r 6) s den m) := by
  refine ⟨?_, fun x hx => ?_⟩
  · unfold atM scaled
    rw [List.length_append, List.length_map]
    have := termsN_len r 6
    simp; omega
  · unfold atM at hx
    rw [List.mem_append] at hx
    rcases hx with hx | hx
    · unfold scaled at hx
      obtain ⟨y, hy, rfl⟩ := List.mem_map.1 hx
      obtain ⟨j, hj, rfl⟩ := mem_termsN r 6 (Nat.le_refl _) y hy
      refine ⟨prime_mem hj, ?_⟩
      show (r.num j * s).natAbs ≤ _
      rw [Int.natAbs_mul]
      have h1 := (h j hj).1
      have h2 := (h j hj).2
      have h5 : (r.num j).natAbs * s.natAbs ≤ 100000 * 10000000 := Nat.mul_le_mul (by omega) (by omega)
      omega
    · simp only [List.mem_singleton] at hx
      subst hx
      refine ⟨by show 2 ∈ primes6; decide, ?_⟩
      show (-m * den).natAbs ≤ _
      rw [Int.natAbs_mul, Int.natAbs_neg]
      have h5 : m.natAbs * den.natAbs ≤ 1000000000001 * 1000 := Nat.mul_le_mul (by omega) (by omega)
      omega
theorem okT_terms {r : RV} (h : ∀ i, i < 6 → inR (r.num i)) : okT (termsN r 6) := by
  refine ⟨by have := termsN_len r 6; omega, fun x hx => ?_⟩
  obtain ⟨j, hj, rfl⟩ := mem_termsN r 6 (Nat.le_refl _) x hx
  have h1 := (h j hj).1
  have h2 := (h j hj).2
  have h3 := prime_two hj
  exact ⟨by show 1 ≤ prime j; omega, by show prime j ≤ _; omega, by show -1000000000 ≤ r.num j; omega, by show r.num j ≤ 1000000000; omega⟩
/-- the sign of a ratio's power, divided by a power of 2 -/
def sgR (r : RV) (s m : Int) : Int := sgn (atM (termsN r 6) s r.d m)
/-- what Cents returns -/
def CentsRes (e : Ending) (r : RV) : Prop :=
  (checkS r ≠ 0 → e = .returned (.tuple #[.int .i64 0, .bool false, .int .i64 (checkS r)])) ∧
  (checkS r = 0 → FloorRes (termsN r 6) 1200000 r.d (sgR r 1200000) e)
set_option maxHeartbeats 1600000 in
set_option maxRecDepth 100000 in
theorem Cents_any (r : RV) (w : World) (hT : PrT w) : Calls Tryz.prog 33 #[.agg r.cells] w fun e w' => CentsRes e r ∧ Below w.heap.size w w' := by
  have hu := (Below.refl w.heap.size w).alloc (Nat.le_refl _) (.cells r.cells 24)
  have HT : Sl _ := ⟨Terms_any r (w.alloc (.cells r.cells 24)) (hT.below hu)⟩
  have HU : Sl _ := ⟨hu⟩
  unfold RV.cells at *
  clear hu hT
  obtain ⟨er, her⟩ : ∃ er, checkS r = er := ⟨_, rfl⟩
  have HE : Sl _ := ⟨her⟩
  clear her
  go_enter Tryz.func33, Tryz.ntmps33
  go_wp2_with fail
  refine HT.out.mono ?_; rintro e w1 ⟨⟨k1, k2⟩, hb⟩
  have hB1 := HU.out.trans (hb.mono HU.out.size)
  by_cases h0 : er = 0
  · have hc0 : checkS r = 0 := HE.out.trans h0
    obtain ⟨A, n, c, rfl, hTR⟩ := k2 hc0
    obtain ⟨hd, hin, _⟩ := checkS_ok hc0
    have hF := Floor_any A n c (termsN r 6) r.d 1200000 (sgR r 1200000) w1 hTR (okT_terms hin) hd.1 hd.2 (by decide) (by decide) (fun m h1 h2 => sign_any _ (ok6_atM hin ⟨by decide, by decide⟩ hd ⟨h1, h2⟩))
    have HF : Sl _ := ⟨hF⟩
    have HC0 : Sl _ := ⟨hc0⟩
    clear k1 k2 hc0 hTR hd hin hF
    go_wp2_with fail
    refine HF.out.mono ?_; rintro e w2 ⟨hr, hb2⟩
    obtain ⟨m, b, er2, rfl⟩ : ∃ m b er2, e = .returned (.tuple #[.int .i64 m, .bool b, .int .i64 er2]) := by
      unfold FloorRes at hr
      split at hr
      · exact ⟨_, _, _, hr⟩
      · obtain ⟨m, _, _, _, _, h⟩ := hr
        exact ⟨_, _, _, h⟩
    have HR : Sl _ := ⟨hr⟩
    clear hr
    go_wp2_with fail
    go_ret3
    exact ⟨⟨fun h => absurd HC0.out h, fun _ => HR.out⟩, hB1.trans (hb2.mono hB1.size)⟩
  · have hc0 : checkS r ≠ 0 := fun h => h0 (HE.out.symm.trans h)
    obtain rfl := k1 hc0
    rw [HE.out]
    clear k1 k2
    go_wp2_with fail
    go_ret3
    exact ⟨⟨fun _ => by rw [HE.out]; rfl, fun h => absurd h hc0⟩, hB1⟩
end Go.Proofs.YtalodfjplegibaaGreatDoor
