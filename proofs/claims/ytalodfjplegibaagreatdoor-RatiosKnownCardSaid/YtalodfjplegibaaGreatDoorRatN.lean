/- Chapter 04: what some calls return: the laws' own look at the program (awake). Chapter 04: the laws' own look at the program (awake). -/
import Derived.Test.YtalodfjplegibaaGreatDoorRatK
namespace Go.Proofs.YtalodfjplegibaaGreatDoor
set_option linter.unusedSimpArgs false
open Go.RowKit
set_option linter.unusedVariables false

theorem sgn_nonneg (l : List (Nat × Int)) : 0 ≤ sgn l ↔ down l ≤ up l := by
  unfold sgn
  by_cases h : down l < up l
  · rw [if_pos h]; exact ⟨fun _ => Nat.le_of_lt h, fun _ => by decide⟩
  · rw [if_neg h]
    by_cases h2 : up l < down l
    · rw [if_pos h2]; exact ⟨fun h => absurd h (by decide), fun h => by omega⟩
    · rw [if_neg h2]; exact ⟨fun _ => by omega, fun _ => by decide⟩
/-- 3/2 to the power of s against powers of 2 -/
theorem sgn_fifth {s t : Nat} (hs : 0 < s) (hst : s ≤ t) (h1 : 2 ^ t ≤ 3 ^ s) (h2 : 3 ^ s < 2 ^ (t + 1)) (m : Int) : 0 ≤ sgn [(2, -(s : Int)), (3, (s : Int)), (2, -m * 1)] ↔ m ≤ (t : Int) - s := by
  rw [sgn_nonneg, Int.mul_one]
  have e1 : ¬ (0 : Int) ≤ -(s : Int) := by omega
  have e2 : (0 : Int) ≤ (s : Int) := by omega
  have n1 : (-(s : Int)).natAbs = s := by omega
  have n2 : (s : Int).natAbs = s := by omega
  by_cases h : m ≤ 0
  · obtain ⟨k, rfl⟩ : ∃ k : Nat, m = -(k : Int) := ⟨m.natAbs, by omega⟩
    have e3 : (0 : Int) ≤ - -(k : Int) := by omega
    have n3 : (- -(k : Int)).natAbs = k := by omega
    simp only [up, down, if_neg e1, if_pos e2, if_pos e3, n1, n2, n3, Nat.mul_one]
    have hp : 1 ≤ 2 ^ k := Nat.pow_pos (by decide)
    have h3 : 2 ^ s ≤ 2 ^ t := Nat.pow_le_pow_right (by decide) hst
    have h4 : 3 ^ s * 1 ≤ 3 ^ s * 2 ^ k := Nat.mul_le_mul_left _ hp
    exact ⟨fun _ => by omega, fun _ => by omega⟩
  · obtain ⟨k, rfl⟩ := Int.eq_ofNat_of_zero_le (show 0 ≤ m by omega)
    have e3 : ¬ (0 : Int) ≤ -(k : Int) := by omega
    have n3 : (-(k : Int)).natAbs = k := by omega
    simp only [Int.ofNat_eq_natCast, up, down, if_neg e1, if_pos e2, if_neg e3, n1, n2, n3, Nat.mul_one]
    rw [← Nat.pow_add]
    constructor
    · intro h5
      rcases Nat.lt_or_ge t (s + k) with h6 | h6
      · have := Nat.pow_le_pow_right (n := 2) (by decide) (show t + 1 ≤ s + k from h6)
        omega
      · omega
    · intro h5
      have := Nat.pow_le_pow_right (n := 2) (by decide) (show s + k ≤ t by omega)
      omega
theorem updown_fifth {s t : Nat} (hs : 0 < s) (hst : s ≤ t) (h3 : ¬ 3 ^ s = 2 ^ t) (h4 : s < t) : ¬ up [(2, -(s : Int)), (3, (s : Int)), (2, -((t : Int) - s) * 1)] = down [(2, -(s : Int)), (3, (s : Int)), (2, -((t : Int) - s) * 1)] := by
  rw [Int.mul_one]
  obtain ⟨k, rfl⟩ : ∃ k, t = s + k := ⟨t - s, by omega⟩
  have e0 : ((s + k : Nat) : Int) - s = (k : Int) := by omega
  have e1 : ¬ (0 : Int) ≤ -(s : Int) := by omega
  have e2 : (0 : Int) ≤ (s : Int) := by omega
  have e3 : ¬ (0 : Int) ≤ -(k : Int) := by omega
  have n1 : (-(s : Int)).natAbs = s := by omega
  have n2 : (s : Int).natAbs = s := by omega
  have n3 : (-(k : Int)).natAbs = k := by omega
  rw [e0]
  simp only [up, down, if_neg e1, if_pos e2, if_neg e3, n1, n2, n3, Nat.mul_one]
  rw [← Nat.pow_add]
  exact h3
def powTest (s t : Nat) : Bool := Nat.ble (2 ^ t) (3 ^ s) && (Nat.ble (3 ^ s + 1) (2 ^ (t + 1)) && !(Nat.beq (3 ^ s) (2 ^ t)))
def fifthS : Nat := 1200000
def fifthT : Nat := 1901955
theorem pow_fifth : powTest fifthS fifthT = true := by decide +kernel
def fifth : RV := ⟨-1, 1, 0, 0, 0, 0, 1⟩
theorem check_fifth : checkS fifth = 0 := by
  unfold checkS
  rw [if_neg (by decide), if_pos, if_pos (by decide +kernel)]
  intro i hi
  have h6 : i = 0 ∨ i = 1 ∨ i = 2 ∨ i = 3 ∨ i = 4 ∨ i = 5 := by omega
  rcases h6 with rfl | rfl | rfl | rfl | rfl | rfl <;> decide
theorem of_fifth : ofS 3 2 = (fifth, 0) := by
  unfold ofS
  have h1 : stripN (3 : Int).natAbs 6 = stripN (2 : Int).natAbs 6 := by decide +kernel
  have h2 : ∀ j, j < 6 → ofF (3 : Int).natAbs (2 : Int).natAbs 6 j = fifth.num j := by
    intro i hi
    have h6 : i = 0 ∨ i = 1 ∨ i = 2 ∨ i = 3 ∨ i = 4 ∨ i = 5 := by omega
    rcases h6 with rfl | rfl | rfl | rfl | rfl | rfl <;> decide +kernel
  rw [if_pos ⟨⟨by decide, by decide⟩, ⟨by decide, by decide⟩⟩, if_pos h1, RV.of_congr 1 h2]
  rfl
theorem terms_fifth : termsN fifth 6 = [(2, -1), (3, 1)] := by decide
theorem pow_facts (s t : Nat) (h : powTest s t = true) : 2 ^ t ≤ 3 ^ s ∧ 3 ^ s < 2 ^ (t + 1) ∧ ¬ 3 ^ s = 2 ^ t := by
  unfold powTest at h
  rw [Bool.and_eq_true, Bool.and_eq_true, Bool.not_eq_true'] at h
  exact ⟨Nat.le_of_ble_eq_true h.1, Nat.le_of_ble_eq_true h.2.1, Nat.ne_of_beq_eq_false h.2.2⟩
attribute [local irreducible] FloorRes
theorem cents_key (s t : Nat) (hs : (s : Int) = 1200000) (ht : (t : Int) = 1901955) (hp : 2 ^ t ≤ 3 ^ s ∧ 3 ^ s < 2 ^ (t + 1) ∧ ¬ 3 ^ s = 2 ^ t) {e : Ending} (h : CentsRes e fifth) : e = .returned (.tuple #[.int .i64 701955, .bool false, .int .i64 0]) := by
  unfold CentsRes at h
  have h1 := h.2 check_fifth
  clear h
  generalize hm1 : fifth.d = dd at h1
  obtain rfl : dd = 1 := hm1.symm
  clear hm1
  have ha : ∀ m, atM (termsN fifth 6) 1200000 1 m = [(2, -(s : Int)), (3, (s : Int)), (2, -m * 1)] := fun m => by rw [terms_fifth, hs]; rfl
  have hsg : ∀ m, 0 ≤ sgR fifth 1200000 m ↔ m ≤ 701955 := fun m => by
    show 0 ≤ sgn (atM (termsN fifth 6) 1200000 1 m) ↔ _
    rw [ha m, sgn_fifth (by omega) (by omega) hp.1 hp.2.1 m]
    exact ⟨fun h => by omega, fun h => by omega⟩
  have hud : decide (up (atM (termsN fifth 6) 1200000 1 701955) = down (atM (termsN fifth 6) 1200000 1 701955)) = false := by
    rw [ha]
    have := updown_fifth (s := s) (t := t) (by omega) (by omega) hp.2.2 (by omega)
    rw [show (t : Int) - s = 701955 by omega] at this
    exact decide_eq_false this
  unfold FloorRes at h1
  have g0 := hsg (-1000000000000)
  have g9 := hsg 1000000000001
  rw [if_neg (by omega)] at h1
  obtain ⟨m, _, _, g1, g2, rfl⟩ := h1
  rw [hsg] at g1
  have g3 := hsg (m + 1)
  obtain rfl : m = 701955 := by omega
  rw [hud]
theorem cents_fifth {e : Ending} (h : CentsRes e fifth) : e = .returned (.tuple #[.int .i64 701955, .bool false, .int .i64 0]) :=
  cents_key fifthS fifthT rfl rfl (pow_facts fifthS fifthT pow_fifth) h
end Go.Proofs.YtalodfjplegibaaGreatDoor
namespace Go.Proofs.YtalodfjplegibaaGreatDoor
set_option linter.unusedSimpArgs false
open Go.RowKit
set_option linter.unusedVariables false

/-- a product that is 1, which the quick bounds do not show -/
theorem sign_zero (l : List (Nat × Int)) (hg : Good l) (ho : okE l) (h1 : up l = down l) (h2 : guessF l = none) : SignTo l 0 := by
  intro A n c w hl
  have hn : n ≤ 17 := by rw [← hl.1]; exact ho.1
  have hG := guess_any A n c l w hl (by omega) hg
  rw [h2] at hG
  have HG : Sl _ := ⟨hG⟩
  have HO : Sl (∀ W : World, TR W A n l → Calls Tryz.prog 39 #[.slice A n c] W fun e w' => e = .returned (.bool true) ∧ Below W.heap.size W w') := ⟨fun W hT => by
    have := one_any A n c l W hT ho
    rw [decide_eq_true h1] at this
    exact this⟩
  have HL : Sl _ := ⟨hl⟩
  clear hG hl hg ho h1 h2
  go_enter Tryz.func35, Tryz.ntmps35
  go_wp2_with fail
  refine HG.out.mono ?_; rintro e w1 ⟨rfl, hb⟩
  have hT1 := HL.out.below hb
  go_wp2_with fail
  refine (HO.out w1 hT1).mono ?_; rintro e w2 ⟨rfl, hb2⟩
  go_wp2_with fail
  go_ret
  exact ⟨rfl, hb.trans (hb2.mono hb.size)⟩
theorem QK_4 : QK 4 := QK_of (k := 2) (c := true) (by decide) (by decide) (by decide +kernel) (by decide) (by decide +kernel) (by decide +kernel) (by decide +kernel)
theorem QK_88 : QK 8 := QK_of (k := 3) (c := true) (by decide) (by decide) (by decide +kernel) (by decide) (by decide +kernel) (by decide +kernel) (by decide +kernel)
theorem sign_84 : SignTo [(8, 2), (4, -3)] 0 := by
  refine sign_zero _ ⟨fun x hx => ?_, fun x hx => ?_, fun x hx => ?_⟩ ⟨by decide, fun x hx => ?_⟩ (by decide) (by decide +kernel) <;> (simp only [List.mem_cons, List.not_mem_nil, or_false] at hx; rcases hx with rfl | rfl)
  · exact QK_88
  · exact QK_4
  · decide
  · decide
  · decide +kernel
  · decide +kernel
  · decide
  · decide
theorem sign_comma : SignTo [(3, 12), (2, -19)] 1 := by
  have h := sign_any [(3, 12), (2, -19)] ⟨by decide, fun x hx => by
    simp only [List.mem_cons, List.not_mem_nil, or_false] at hx
    rcases hx with rfl | rfl <;> decide⟩
  have e : sgn [(3, 12), (2, -19)] = 1 := by decide
  rw [e] at h
  exact h
theorem TR_two (W : World) (a c : Nat) (b d : Int) : TR (W.alloc (.cells #[.int .i64 (a : Int), .int .i64 b, .int .i64 (c : Int), .int .i64 d] 35)) (some ⟨W.heap.size, 0, none⟩) 2 [(a, b), (c, d)] := by
  refine ⟨rfl, rfl, fun _ => ⟨_, rfl, by simp, fun j u hj => ?_⟩⟩
  have hb := Blk.new W 35 #[.int .i64 (a : Int), .int .i64 b, .int .i64 (c : Int), .int .i64 d]
  have e : (⟨W.heap.size, 0, none⟩ : Addr).add j = ⟨W.heap.size, j, none⟩ := by
    unfold Addr.add
    by_cases h : j = 0
    · subst h; simp
    · simp [h]
  rw [e, hb.cell]
  simpa using hj
theorem results_cell1 {P : Program} {fn : Func} {p : Tmp} {ty : TypeId} (h : fn.results = #[.cell p ty]) (tmps : Array Value) (w : World) (g : Nat) (t : TypeId) (cs : Array Value) (d : TypeDesc)
    (hp : tmps.getD p undef = .pointer (some ⟨g, 0, none⟩)) (hg : Blk w g t cs)
    (hu : P.underlying ty = some d) (hd : (match d with | .struct _ | .array _ _ => true | _ => false) = true) (hi : (P.info? ty).map (·.size) = some cs.size) :
    (results fn tmps).run P w = .ok (.agg cs) w := by
  have h1 := run_loadVar_row w g t ty cs (0, 0) d hg hu hd hi
  have hp2 : tmps[p]?.getD undef = .pointer (some ⟨g, 0, none⟩) := by simpa using hp
  simp [results, h, hp2, asAddr, h1, Result.andThen]
set_option maxHeartbeats 1600000 in
set_option maxRecDepth 100000 in
theorem rof_any (a b : Int) (w : World) (hT : PrT w) : Calls Tryz.prog 15 #[.int .i64 a, .int .i64 b] w fun e w' => e = .returned (.agg (ofS a b).1.cells) ∧ Below w.heap.size w w' := by
  have hu := (Below.refl w.heap.size w).alloc (Nat.le_refl _) (.cells RVzero.cells 24)
  have X4 := Blk.new w 24 RVzero.cells
  have HO : Sl _ := ⟨ROf_any a b (w.alloc (.cells RVzero.cells 24)) (hT.below hu)⟩
  have HU : Sl _ := ⟨And.intro hu X4⟩
  clear hu X4 hT
  obtain ⟨⟨r, er⟩, hs⟩ : ∃ s, ofS a b = s := ⟨_, rfl⟩
  rw [hs] at HO ⊢
  clear hs
  unfold OfRes at HO
  rw [RVzero_cells] at HU HO
  unfold RV.cells at *
  simp only [] at *
  go_enter Tryz.func15, Tryz.ntmps15
  go_wp2_with fail
  generalize w.alloc (.cells #[.int .i64 0, .int .i64 0, .int .i64 0, .int .i64 0, .int .i64 0, .int .i64 0, .int .i64 0] 24) = w0 at *
  refine HO.out.mono ?_; rintro e w1 ⟨rfl, hb⟩
  have X2 := (HU.out.2.below hb HU.out.2.lt).alloc (.cells #[.int .i64 r.n0, .int .i64 r.n1, .int .i64 r.n2, .int .i64 r.n3, .int .i64 r.n4, .int .i64 r.n5, .int .i64 r.d] 24)
  have hB2 := (HU.out.1.trans (hb.mono HU.out.1.size)).alloc (Nat.le_trans HU.out.1.size hb.size) (.cells #[.int .i64 r.n0, .int .i64 r.n1, .int .i64 r.n2, .int .i64 r.n3, .int .i64 r.n4, .int .i64 r.n5, .int .i64 r.d] 24)
  have x0 := X2.cell 0
  have f0 := X2.frozen 0
  have x1 := X2.cell 1
  have f1 := X2.frozen 1
  have x2 := X2.cell 2
  have f2 := X2.frozen 2
  have x3 := X2.cell 3
  have f3 := X2.frozen 3
  have x4 := X2.cell 4
  have f4 := X2.frozen 4
  have x5 := X2.cell 5
  have f5 := X2.frozen 5
  have x6 := X2.cell 6
  have f6 := X2.frozen 6
  simp at x0 x1 x2 x3 x4 x5 x6
  have HX : Sl _ := ⟨And.intro X2 hB2⟩
  clear X2 hB2 HO
  go_wp2_with fail
  refine bodyPost_ret (results_cell1 rfl _ _ w.heap.size _ _ _ rfl (HX.out.1.seven _ _ _ _ _ _ _) Tryz.underlying24 rfl (by kernel_rfl)) rfl ?_
  exact ⟨rfl, below_seven HX.out.2 (Nat.le_refl _) _ _ _ _ _ _ _⟩
set_option maxHeartbeats 3200000 in
set_option maxRecDepth 100000 in
/-- the laws' own look at the program -/
theorem awake4_any (w : World) (hT : PrT w) : Calls Tryz.prog 9 #[] w fun e w' => e = .returned (.bool true) ∧ Below w.heap.size w w' := by
  have okA : okT [(3, 12), (2, -19)] := ⟨by decide, fun x hx => by
    simp only [List.mem_cons, List.not_mem_nil, or_false] at hx
    rcases hx with rfl | rfl <;> decide⟩
  have okB : okT [(8, 2), (4, -3)] := ⟨by decide, fun x hx => by
    simp only [List.mem_cons, List.not_mem_nil, or_false] at hx
    rcases hx with rfl | rfl <;> decide⟩
  have HA : Sl _ := ⟨fun W : World => Sign_any _ 2 2 _ 1 _ (TR_two W 3 2 12 (-19)) okA sign_comma⟩
  have HB : Sl _ := ⟨fun W : World => Sign_any _ 2 2 _ 0 _ (TR_two W 8 4 2 (-3)) okB sign_84⟩
  have HO : Sl (∀ W : World, PrT W → Calls Tryz.prog 15 #[.int .i64 3, .int .i64 2] W fun e w' => e = .returned (.agg fifth.cells) ∧ Below W.heap.size W w') := ⟨fun W h => by
    have := rof_any 3 2 W h
    rw [of_fifth] at this
    exact this⟩
  have HC : Sl (∀ W : World, PrT W → Calls Tryz.prog 33 #[.agg fifth.cells] W fun e w' => e = .returned (.tuple #[.int .i64 701955, .bool false, .int .i64 0]) ∧ Below W.heap.size W w') := ⟨fun W h => (Cents_any fifth W h).mono fun e w' h2 => ⟨cents_fifth h2.1, h2.2⟩⟩
  have HT : Sl _ := ⟨hT⟩
  clear hT okA okB
  have ef : fifth.cells = #[.int .i64 (-1), .int .i64 1, .int .i64 0, .int .i64 0, .int .i64 0, .int .i64 0, .int .i64 1] := rfl
  rw [ef] at HO HC
  clear ef
  have hu1 := (Below.refl w.heap.size w).alloc (Nat.le_refl _) (.cells #[.int .i64 3, .int .i64 12, .int .i64 2, .int .i64 (-19)] 35)
  go_enter Tryz.func9, Tryz.ntmps9
  go_wp2_with fail
  refine (HA.out w).mono ?_; rintro e w1 ⟨rfl, hb1⟩
  have u1 := hu1.trans (hb1.mono hu1.size)
  have hu2 := u1.alloc u1.size (.cells #[.int .i64 8, .int .i64 2, .int .i64 4, .int .i64 (-3)] 35)
  go_wp2_with fail
  refine (HB.out w1).mono ?_; rintro e w2 ⟨rfl, hb2⟩
  have u2 := hu2.trans (hb2.mono hu2.size)
  clear hu1 hu2 hb1 hb2 u1
  go_wp2_with fail
  refine (HO.out w2 (HT.out.below u2)).mono ?_; rintro e w3 ⟨rfl, hb3⟩
  have u3 := u2.trans (hb3.mono u2.size)
  go_wp2_with fail
  refine (HC.out w3 (HT.out.below u3)).mono ?_; rintro e w4 ⟨rfl, hb4⟩
  have u4 := u3.trans (hb4.mono u3.size)
  go_wp2_with fail
  go_ret
  exact ⟨rfl, u4⟩
end Go.Proofs.YtalodfjplegibaaGreatDoor
