/- Cmp of package ratios, and of the reference of chapter 04. (Printed by gencmp.py.) made of great numbers, program and reference; Floor finds one number; Cents of the reference. (Printed by genordb.py from RatX, MulC, RatK.) Fold of package ratios, and of the reference of chapter 04. (Printed by genfold.py.) Chapter 04: the law RatiosOrders: the walk. (Printed by genorders.py.) -/
import Derived.Test.YtalodfjplegibaaGreatDoorRefQ
import Derived.Test.YtalodfjplegibaaGreatDoorRatZ
import Derived.Test.YtalodfjplegibaaGreatDoorRatO
import Derived.Test.YtalodfjplegibaaGreatDoorRatK
import Derived.Test.YtalodfjplegibaaGreatDoorMulC
import Derived.Test.YtalodfjplegibaaGreatDoorRatN
import Derived.Test.YtalodfjplegibaaGreatDoorRatU
namespace Go.Proofs.YtalodfjplegibaaGreatDoor
set_option linter.unusedSimpArgs false
open Go.RowKit
set_option linter.unusedVariables false

/-- the terms that Cmp looks at -/
def cmpT (a b : RV) : Nat → List (Nat × Int)
  | 0 => []
  | i+1 => cmpT a b i ++ [(prime i, a.num i * b.d - b.num i * a.d)]
theorem cmpT_len (a b : RV) : ∀ i, (cmpT a b i).length = i
  | 0 => rfl
  | i+1 => by rw [cmpT, List.length_append, cmpT_len a b i]; rfl
theorem cmpT_mem (a b : RV) : ∀ i, i ≤ 6 → ∀ x ∈ cmpT a b i, ∃ j, j < i ∧ x = (prime j, a.num j * b.d - b.num j * a.d)
  | 0, _, x, hx => by simp [cmpT] at hx
  | i+1, hi, x, hx => by
    rw [cmpT, List.mem_append] at hx
    rcases hx with hx | hx
    · obtain ⟨j, hj, e⟩ := cmpT_mem a b i (by omega) x hx
      exact ⟨j, by omega, e⟩
    · simp only [List.mem_singleton] at hx
      exact ⟨i, Nat.lt_succ_self _, hx⟩
theorem cmpT_ok {a b : RV} (ha : checkS a = 0) (hb : checkS b = 0) : ok6 (cmpT a b 6) := by
  obtain ⟨a1, a2, _⟩ := checkS_ok ha
  obtain ⟨b1, b2, _⟩ := checkS_ok hb
  refine ⟨by rw [cmpT_len]; decide, fun x hx => ?_⟩
  obtain ⟨j, hj, rfl⟩ := cmpT_mem a b 6 (Nat.le_refl _) x hx
  refine ⟨prime_mem hj, ?_⟩
  have p1 := inR_mul (a2 j hj) b1.1 b1.2
  have p2 := inR_mul (b2 j hj) a1.1 a1.2
  show (a.num j * b.d - b.num j * a.d).natAbs ≤ _
  omega
open Classical in
/-- what Cmp returns -/
noncomputable def ordC (a b : RV) : Int × Int := if firstE (checkS a) (checkS b) = 0 then (sgn (cmpT a b 6), 0) else (0, firstE (checkS a) (checkS b))
theorem ordC_ok {a b : RV} (h : firstE (checkS a) (checkS b) = 0) : ordC a b = (sgn (cmpT a b 6), 0) := by unfold ordC; rw [if_pos h]
theorem ordC_err {a b : RV} (h : firstE (checkS a) (checkS b) ≠ 0) : ordC a b = (0, firstE (checkS a) (checkS b)) := by unfold ordC; rw [if_neg h]
end Go.Proofs.YtalodfjplegibaaGreatDoor
namespace Go.Proofs.YtalodfjplegibaaGreatDoor
set_option linter.unusedSimpArgs false
open Go.RowKit
set_option linter.unusedVariables false

theorem sgn_ge {l : List (Nat × Int)} : 0 ≤ sgn l ↔ down l ≤ up l := by
  unfold sgn
  split
  · exact ⟨fun _ => by omega, fun _ => by decide⟩
  · split
    · exact ⟨fun h => absurd h (by decide), fun h => by omega⟩
    · exact ⟨fun _ => by omega, fun _ => by decide⟩
theorem up_two (x : Int) : ∀ l : List (Nat × Int), up (l ++ [(2, x)]) = up l * 2 ^ x.toNat
  | [] => by
    rw [List.nil_append, up, up]
    split
    · rw [show x.toNat = x.natAbs by omega, Nat.mul_comm]; rfl
    · rw [show x.toNat = 0 by omega]; rfl
  | (n, k) :: l => by
    rw [List.cons_append, up, up_two x l, up]
    split
    · rw [Nat.mul_assoc]
    · rfl
theorem down_two (x : Int) : ∀ l : List (Nat × Int), down (l ++ [(2, x)]) = down l * 2 ^ (-x).toNat
  | [] => by
    rw [List.nil_append, down, down]
    split
    · rw [show (-x).toNat = 0 by omega]; rfl
    · rw [show (-x).toNat = x.natAbs by omega, Nat.mul_comm]; rfl
  | (n, k) :: l => by
    rw [List.cons_append, down, down_two x l, down]
    split
    · rfl
    · rw [Nat.mul_assoc]
theorem atM_anti {l : List (Nat × Int)} {s den m m' : Int} (hd : 1 ≤ den) (h : m ≤ m') (hs : 0 ≤ sgn (atM l s den m')) : 0 ≤ sgn (atM l s den m) := by
  rw [sgn_ge] at hs ⊢
  unfold atM at hs ⊢
  rw [up_two, down_two] at hs ⊢
  have hmm : m * den ≤ m' * den := Int.mul_le_mul_of_nonneg_right h (by omega)
  rw [Int.neg_mul] at hs ⊢
  rw [Int.neg_neg] at hs ⊢
  generalize m * den = y at *
  generalize m' * den = y' at *
  calc down (scaled l s) * 2 ^ y.toNat ≤ down (scaled l s) * 2 ^ y'.toNat := Nat.mul_le_mul_left _ (Nat.pow_le_pow_right (by decide) (by omega))
    _ ≤ up (scaled l s) * 2 ^ (-y').toNat := hs
    _ ≤ up (scaled l s) * 2 ^ (-y).toNat := Nat.mul_le_mul_left _ (Nat.pow_le_pow_right (by decide) (by omega))
theorem FloorRes_det {l : List (Nat × Int)} {s den : Int} (hd : 1 ≤ den) {e e' : Ending} (h : FloorRes l s den (fun m => sgn (atM l s den m)) e) (h' : FloorRes l s den (fun m => sgn (atM l s den m)) e') : e = e' := by
  unfold FloorRes at h h'
  split at h
  · rename_i hc
    rw [if_pos hc] at h'
    rw [h, h']
  · rename_i hc
    rw [if_neg hc] at h'
    obtain ⟨m, _, _, h1, h2, rfl⟩ := h
    obtain ⟨m', _, _, h3, h4, rfl⟩ := h'
    have h2 : sgn (atM l s den (m + 1)) < 0 := h2
    have h4 : sgn (atM l s den (m' + 1)) < 0 := h4
    have hle : ¬ m + 1 ≤ m' := fun hlt => by have := atM_anti hd hlt h3; omega
    have hle' : ¬ m' + 1 ≤ m := fun hlt => by have := atM_anti hd hlt h1; omega
    obtain rfl : m = m' := by omega
    rfl
theorem CentsRes_det {r : RV} {e e' : Ending} (h : CentsRes e r) (h' : CentsRes e' r) : e = e' := by
  by_cases h0 : checkS r = 0
  · exact FloorRes_det (checkS_ok h0).1.1 (h.2 h0) (h'.2 h0)
  · rw [h.1 h0, h'.1 h0]
theorem FloorRes_shape {l : List (Nat × Int)} {s den : Int} {sg : Int → Int} {e : Ending} (h : FloorRes l s den sg e) : ∃ k b er, e = .returned (.tuple #[.int .i64 k, .bool b, .int .i64 er]) ∧ -1000000000000 ≤ k ∧ k ≤ 1000000000000 := by
  unfold FloorRes at h
  split at h
  · exact ⟨0, false, 7, h, by decide, by decide⟩
  · obtain ⟨m, h1, h2, _, _, h⟩ := h
    exact ⟨m, _, 0, h, h1, by omega⟩
theorem CentsRes_shape {r : RV} {e : Ending} (h : CentsRes e r) : ∃ k b er, e = .returned (.tuple #[.int .i64 k, .bool b, .int .i64 er]) := by
  by_cases h0 : checkS r = 0
  · obtain ⟨k, b, er, h, _⟩ := FloorRes_shape (h.2 h0)
    exact ⟨k, b, er, h⟩
  · exact ⟨0, false, checkS r, h.1 h0⟩
set_option maxHeartbeats 3200000 in
set_option maxRecDepth 100000 in
theorem rmade_big (r : RV) (w : World) (h1 : 1 ≤ r.d) (h2 : r.d ≤ 1000000) (h3 : ∀ i, i < 6 → -2000000000000000 ≤ r.num i ∧ r.num i ≤ 2000000000000000) :
    Calls Tryz.prog 28 #[.agg r.nums, .int .i64 r.d] w fun e w' => OfRes e (madeS r) ∧ Below w.heap.size w w' := by
  obtain ⟨s, hs⟩ : ∃ s, madeS r = s := ⟨_, rfl⟩
  rw [hs]
  have HSS : Sl _ := ⟨hs⟩
  clear hs
  have hu := ((Below.refl w.heap.size w).alloc (Nat.le_refl _) (.cells r.nums 22)).alloc (by simp) (.cells RVzero.cells 24)
  have X0 := (Blk.new w 22 r.nums).alloc (.cells RVzero.cells 24)
  have X1 := Blk.new (w.alloc (.cells r.nums 22)) 24 RVzero.cells
  rw [show (w.alloc (.cells r.nums 22)).heap.size = w.heap.size + 1 by simp] at X1
  have hidx := fun (W : World) (i : Nat) (hi : i < 6) => index6 W r hi
  unfold RV.nums at *
  rw [RVzero_cells] at hu X0 X1
  have HU : Sl _ := ⟨And.intro hu (And.intro X0 X1)⟩
  clear hu X0 X1
  have H3 : Sl _ := ⟨h3⟩
  have HC : Sl _ := ⟨fun W : World => rcheckR_any (mkR r) W⟩
  clear h3
  go_enter Tryz.func28, Tryz.ntmps28
  go_wp2_with fail
  generalize (w.alloc (.cells #[.int .i64 r.n0, .int .i64 r.n1, .int .i64 r.n2, .int .i64 r.n3, .int .i64 r.n4, .int .i64 r.n5] 22)).alloc (.cells #[.int .i64 0, .int .i64 0, .int .i64 0, .int .i64 0, .int .i64 0, .int .i64 0, .int .i64 0] 24) = w0 at *
  go_loopw [6, 14] (fun s6 s14 wr => ∃ i : Nat, i ≤ 6 ∧ s14 = .int .i64 i ∧ s6 = .int .i64 (r.gcd i : Nat) ∧ Sl (Below w.heap.size w wr ∧ Blk wr w.heap.size 22 #[.int .i64 r.n0, .int .i64 r.n1, .int .i64 r.n2, .int .i64 r.n3, .int .i64 r.n4, .int .i64 r.n5] ∧ Blk wr (w.heap.size + 1) 24 #[.int .i64 0, .int .i64 0, .int .i64 0, .int .i64 0, .int .i64 0, .int .i64 0, .int .i64 0])) (fun _ s14 _ => 6 - (RowKit.intOf s14).toNat)
  case atStart => exact ⟨0, by decide, rfl, ret_val (by show r.d = ((r.d.natAbs : Nat) : Int); omega), ⟨HU.out⟩⟩
  case round =>
    clear HU
    obtain ⟨i, hi, rfl, rfl, HR⟩ := hrel
    by_cases hi6 : i < 6
    · have hix := fun W : World => hidx W i hi6
      obtain ⟨z, hz⟩ : ∃ z, r.num i = z := ⟨_, rfl⟩
      obtain ⟨g, hg⟩ : ∃ g, r.gcd i = g := ⟨_, rfl⟩
      obtain ⟨g', hg'⟩ : ∃ g', r.gcd (i + 1) = g' := ⟨_, rfl⟩
      rw [hz] at hix
      have hgp := RV.gcd_pos (r := r) (by omega) i
      rw [hg] at hgp
      have hgd : Nat.gcd g z.natAbs = g' := by rw [← hg', ← hg, ← hz]; rfl
      have hzb := H3.out i hi6
      rw [hz] at hzb
      rw [hg]
      have HZ : Sl _ := ⟨And.intro hz (And.intro hg hg')⟩
      clear hidx hz hg hg'
      have HS : Sl _ := ⟨fun W : World => rsize_any z W (by omega) (by omega)⟩
      have HG : Sl _ := ⟨fun W : World => rgcd_any g z.natAbs W (by omega) (by omega)⟩
      rw [hgd] at HG
      clear hgd hgp hzb
      generalize z.natAbs = za at *
      go_wp2_with fail
      refine (HS.out _).mono ?_; rintro e w1 ⟨rfl, rfl⟩
      go_wp2_with fail
      refine (HG.out _).mono ?_; rintro e w2 ⟨rfl, dn, rfl⟩
      go_wp2_with fail
      refine ⟨⟨i + 1, hi6, by go_num, ret_val (by rw [HZ.out.2.2]), ⟨below_drewN HR.out.1 dn, HR.out.2.1.below (below_drewN (Below.refl _ _) dn) HR.out.2.1.lt, HR.out.2.2.below (below_drewN (Below.refl _ _) dn) HR.out.2.2.lt⟩⟩, by simp [RowKit.intOf]; omega⟩
    · obtain rfl : i = 6 := by omega
      clear hi6 hi
      have hgp := (RV.gcd_pos (r := r) (by omega) 6)
      obtain ⟨g, hg⟩ : ∃ g, r.gcd 6 = g := ⟨_, rfl⟩
      rw [hg] at hgp ⊢
      have hgz : ¬ (g : Int) = 0 := by omega
      obtain ⟨dd, hdd⟩ : ∃ dd, r.d.tdiv (g : Int) = dd := ⟨_, rfl⟩
      have hddb : 1 ≤ dd ∧ dd ≤ 1000000 := by
        have e := tdiv_abs (z := r.d) hgp.1 (by rw [← hg]; exact (RV.gcd_dvd r 6).1)
        rw [hdd] at e
        have p : 0 ≤ dd := by rw [← hdd]; exact Int.tdiv_nonneg (by omega) (by omega)
        have l := Nat.le_mul_of_pos_right dd.natAbs hgp.1
        refine ⟨?_, by omega⟩
        rcases Int.lt_or_le 0 dd with h | h
        · omega
        · rw [show dd = 0 by omega] at e
          simp at e
          omega
      obtain ⟨hdd1, hdd2⟩ := hddb
      have q0 := fun ob => (HR.out.2.1.alloc ob).cell 0
      have q1 := fun ob => (HR.out.2.1.alloc ob).cell 1
      have q2 := fun ob => (HR.out.2.1.alloc ob).cell 2
      have q3 := fun ob => (HR.out.2.1.alloc ob).cell 3
      have q4 := fun ob => (HR.out.2.1.alloc ob).cell 4
      have q5 := fun ob => (HR.out.2.1.alloc ob).cell 5
      simp at q0 q1 q2 q3 q4 q5
      have hlt := HR.out.2.2.lt
      have hB := HR.out.1.alloc (by omega) (.cells #[.int .i64 0, .int .i64 0, .int .i64 0, .int .i64 0, .int .i64 0, .int .i64 0, .int .i64 dd] 24)
      have Y1 := HR.out.2.2.alloc (.cells #[.int .i64 0, .int .i64 0, .int .i64 0, .int .i64 0, .int .i64 0, .int .i64 0, .int .i64 dd] 24)
      have Y2 := Blk.new wr 24 #[.int .i64 0, .int .i64 0, .int .i64 0, .int .i64 0, .int .i64 0, .int .i64 0, .int .i64 dd]
      have H2 : Sl _ := ⟨And.intro hB (And.intro Y1 Y2)⟩
      have HL : Sl _ := ⟨And.intro hlt hgp⟩
      have HG : Sl _ := ⟨And.intro hg hdd⟩
      clear hlt hB Y1 Y2 hgp hg
      go_wp2_with fail
      clear q0 q1 q2 q3 q4 q5 HR
      generalize hg7 : wr.heap.size = g7 at *
      generalize wr.alloc (.cells #[.int .i64 0, .int .i64 0, .int .i64 0, .int .i64 0, .int .i64 0, .int .i64 0, .int .i64 dd] 24) = w2 at *
      clear hg7
      go_loopw [27] (fun s27 wq => ∃ i : Nat, i ≤ 6 ∧ s27 = .int .i64 i ∧ Sl (Below w.heap.size w wq ∧ Blk wq (w.heap.size + 1) 24 #[.int .i64 0, .int .i64 0, .int .i64 0, .int .i64 0, .int .i64 0, .int .i64 0, .int .i64 0] ∧ Blk wq g7 24 (RV.of (fun j => if j < i then (r.num j).tdiv (g : Int) else 0) dd).cells)) (fun s27 _ => 6 - (RowKit.intOf s27).toNat)
      case atStart => exact ⟨0, by decide, rfl, ⟨H2.out⟩⟩
      case round =>
        obtain ⟨i, hi, rfl, HI⟩ := hrel
        by_cases hi6 : i < 6
        · have hix := fun W : World => hidx W i hi6
          obtain ⟨z, hz⟩ : ∃ z, r.num i = z := ⟨_, rfl⟩
          rw [hz] at hix
          obtain ⟨y, hy⟩ : ∃ y, z.tdiv (g : Int) = y := ⟨_, rfl⟩
          have hyb : -2000000000000000 ≤ y ∧ y ≤ 2000000000000000 := by
            have hb := H3.out i hi6
            rw [hz] at hb
            have e := tdiv_abs (z := z) HL.out.2.1 (by rw [← HG.out.1, ← hz]; exact (RV.gcd_dvd r 6).2 i hi6)
            rw [hy] at e
            have l := Nat.le_mul_of_pos_right y.natAbs HL.out.2.1
            omega
          obtain ⟨hy1, hy2⟩ := hyb
          have hfz : wr.frozen? ⟨g7, i, none⟩ = false := HI.out.2.2.frozen i
          have hcell : wr.cell? ⟨g7, i, none⟩ = some (.int .i64 0) := by
            rw [HI.out.2.2.cell, RV.of_cell _ _ hi6, if_neg (Nat.lt_irrefl _)]
          have hP := HI.out.2.2.set_ i (.int .i64 y)
          rw [RV.of_set _ _ _ hi6, RV.of_congr dd (fun j hj => (?_ : _ = if j < i + 1 then (r.num j).tdiv (g : Int) else 0))] at hP
          rotate_left
          · by_cases h : j = i
            · rw [if_pos h, if_pos (by omega), h, hz, hy]
            · rw [if_neg h]
              by_cases h2 : j < i
              · rw [if_pos h2, if_pos (by omega)]
              · rw [if_neg h2, if_neg (by omega)]
          have hne : w.heap.size + 1 ≠ g7 := by have := HL.out.1; omega
          have HN : Sl _ := ⟨And.intro (HI.out.1.setCell (p := ⟨g7, i, none⟩) (by have := HL.out.1; show w.heap.size ≤ g7; omega) (.int .i64 y)) (And.intro (HI.out.2.1.far (p := ⟨g7, i, none⟩) hne (.int .i64 y)) hP)⟩
          have HFZ : Sl _ := ⟨hfz⟩
          clear hP hne hidx HI
          go_wp2_with fail
          refine ⟨?_, by simp [RowKit.intOf]; omega⟩
          repeat (first | exact ⟨i + 1, hi6, by go_num, HN⟩ | exact ⟨⟨i + 1, hi6, by go_num, HN⟩, rfl⟩ | exact ⟨i + 1, ⟨hi6, by go_num, HN⟩, rfl⟩ | apply Exists.intro)
        · obtain rfl : i = 6 := by omega
          clear hi6 hi hidx
          have hmk : RV.of (fun j => if j < 6 then (r.num j).tdiv (g : Int) else 0) dd = mkR r := by
            unfold mkR; rw [HG.out.1, HG.out.2]; exact RV.of_congr dd (fun j hj => if_pos hj)
          have Y2 := HI.out.2.2
          rw [hmk] at Y2
          have hk := madeS_check r h1
          rw [HSS.out] at hk
          generalize mkR r = q at *
          unfold RV.cells at Y2 HC
          have hB := HI.out.1
          have Y1 := HI.out.2.1
          have x0 := Y2.cell 0
          have x1 := Y2.cell 1
          have x2 := Y2.cell 2
          have x3 := Y2.cell 3
          have x4 := Y2.cell 4
          have x5 := Y2.cell 5
          have x6 := Y2.cell 6
          simp at x0 x1 x2 x3 x4 x5 x6
          have H5 : Sl _ := ⟨And.intro hB (And.intro Y1 Y2)⟩
          have HK : Sl _ := ⟨hk⟩
          clear hk hB Y1 Y2 HI H2 hmk HG
          go_wp2_with fail
          refine (HC.out wr).mono ?_; rintro e w3 ⟨rfl, hb3⟩
          clear x0 x1 x2 x3 x4 x5 x6
          have Y1 := H5.out.2.1.below hb3 H5.out.2.1.lt
          have Y2 := H5.out.2.2.below hb3 H5.out.2.2.lt
          have hB := H5.out.1.trans (hb3.mono H5.out.1.size)
          have x0 := Y2.cell 0
          have x1 := Y2.cell 1
          have x2 := Y2.cell 2
          have x3 := Y2.cell 3
          have x4 := Y2.cell 4
          have x5 := Y2.cell 5
          have x6 := Y2.cell 6
          simp at x0 x1 x2 x3 x4 x5 x6
          have d0 := Y1.cell 0
          have d1 := Y1.cell 1
          have d2 := Y1.cell 2
          have d3 := Y1.cell 3
          have d4 := Y1.cell 4
          have d5 := Y1.cell 5
          have d6 := Y1.cell 6
          simp at d0 d1 d2 d3 d4 d5 d6
          have f0 := Y1.frozen 0
          have f1 := Y1.frozen 1
          have f2 := Y1.frozen 2
          have f3 := Y1.frozen 3
          have f4 := Y1.frozen 4
          have f5 := Y1.frozen 5
          have f6 := Y1.frozen 6
          have HFIN : Sl _ := ⟨And.intro hB Y1⟩
          clear hB Y1 Y2 H5 hb3 HC
          obtain ⟨c, hc⟩ : ∃ c, checkS q = c := ⟨_, rfl⟩
          rw [hc] at HK ⊢
          by_cases h0 : c = 0
          · subst h0
            have HZR : Sl (s = (q, 0)) := ⟨HK.out.1 rfl⟩
            go_wp2_with fail
            refine bodyPost_ret (results_rowR rfl _ _ (w.heap.size + 1) _ _ _ rfl (HFIN.out.2.seven _ _ _ _ _ _ _) Tryz.underlying24 rfl (by kernel_rfl)) rfl ?_
            exact ⟨by rw [HZR.out]; rfl, below_seven HFIN.out.1 (Nat.le_succ _) _ _ _ _ _ _ _⟩
          · have hcz : (c == 0) = false := by rw [beq_eq_false_iff_ne]; exact h0
            have HZR : Sl (s = (RVzero, 7)) := ⟨HK.out.2 h0⟩
            go_wp2_with fail
            refine bodyPost_ret (results_rowR rfl _ _ (w.heap.size + 1) _ _ _ rfl (HFIN.out.2.seven _ _ _ _ _ _ _) Tryz.underlying24 rfl (by kernel_rfl)) rfl ?_
            exact ⟨by rw [HZR.out]; rfl, below_seven HFIN.out.1 (Nat.le_succ _) _ _ _ _ _ _ _⟩
set_option maxHeartbeats 6400000 in
set_option maxRecDepth 100000 in
theorem r4made_big (r : RV) (w : World) (h1 : 1 ≤ r.d) (h2 : r.d ≤ 1000000) (h3 : ∀ i, i < 6 → -2000000000000000 ≤ r.num i ∧ r.num i ≤ 2000000000000000) :
    Calls Tryz.prog 73 #[.agg r.nums, .int .i64 r.d] w fun e w' => OfRes e (madeS r) ∧ Below w.heap.size w w' := by
  obtain ⟨s, hs⟩ : ∃ s, madeS r = s := ⟨_, rfl⟩
  rw [hs]
  have HSS : Sl _ := ⟨hs⟩
  clear hs
  have hu := ((Below.refl w.heap.size w).alloc (Nat.le_refl _) (.cells r.nums 67)).alloc (by simp) (.cells RVzero.cells 24)
  have X0 := (Blk.new w 67 r.nums).alloc (.cells RVzero.cells 24)
  have X1 := Blk.new (w.alloc (.cells r.nums 67)) 24 RVzero.cells
  rw [show (w.alloc (.cells r.nums 67)).heap.size = w.heap.size + 1 by simp] at X1
  rw [RVzero_cells] at hu X0 X1
  have hnu : r.nums = #[.int .i64 r.n0, .int .i64 r.n1, .int .i64 r.n2, .int .i64 r.n3, .int .i64 r.n4, .int .i64 r.n5] := rfl
  rw [hnu] at hu X0 X1 ⊢
  have HNU : Sl _ := ⟨hnu⟩
  have HU : Sl _ := ⟨And.intro hu (And.intro X0 X1)⟩
  clear hu X0 X1 hnu
  have H3 : Sl _ := ⟨h3⟩
  clear h3
  go_enter Tryz.func73, Tryz.ntmps73
  go_wp2_with fail
  generalize (w.alloc (.cells #[.int .i64 r.n0, .int .i64 r.n1, .int .i64 r.n2, .int .i64 r.n3, .int .i64 r.n4, .int .i64 r.n5] 67)).alloc (.cells #[.int .i64 0, .int .i64 0, .int .i64 0, .int .i64 0, .int .i64 0, .int .i64 0, .int .i64 0] 24) = w0 at *
  rw [← HNU.out] at HU
  go_loopw [6, 7] (fun s6 s7 wr => ∃ i : Nat, i ≤ 6 ∧ s7 = .int .i64 i ∧ s6 = .int .i64 (r.gcd i : Nat) ∧ Sl (Below w.heap.size w wr ∧ Blk wr w.heap.size 67 r.nums ∧ Blk wr (w.heap.size + 1) 24 #[.int .i64 0, .int .i64 0, .int .i64 0, .int .i64 0, .int .i64 0, .int .i64 0, .int .i64 0])) (fun _ s7 _ => 6 - (RowKit.intOf s7).toNat)
  case atStart => exact ⟨0, by decide, rfl, ret_val (by show r.d = ((r.d.natAbs : Nat) : Int); omega), ⟨HU.out⟩⟩
  case round =>
    clear HU
    obtain ⟨i, hi, rfl, rfl, HR⟩ := hrel
    by_cases hi6 : i < 6
    · obtain ⟨z, hz⟩ : ∃ z, r.num i = z := ⟨_, rfl⟩
      have hc : wr.cell? ⟨w.heap.size, i, none⟩ = some (.int .i64 z) := by rw [HR.out.2.1.cell, RV.ncell r hi6, hz]
      obtain ⟨g, hg⟩ : ∃ g, r.gcd i = g := ⟨_, rfl⟩
      obtain ⟨g', hg'⟩ : ∃ g', r.gcd (i + 1) = g' := ⟨_, rfl⟩
      have hgp := RV.gcd_pos (r := r) (by omega) i
      rw [hg] at hgp
      have hgd : Nat.gcd g z.natAbs = g' := by rw [← hg', ← hg, ← hz]; rfl
      have hzb := H3.out i hi6
      rw [hz] at hzb
      obtain ⟨hz1, hz2⟩ := hzb
      rw [hg]
      have HZ : Sl _ := ⟨And.intro hz (And.intro hg hg')⟩
      clear hz hg hg'
      have hwz : IntKind.i64.wrap (-z) = -z := by rw [IntKind.wrap_i64]; omega
      rcases Decidable.em (0 ≤ z) with h0 | h0
      · have hm1 : max z (-z) = z := by omega
        have hm2 : ¬ z < -z := by omega
        have hm3 : -z ≤ z := by omega
        have VA : Sl (∀ q, Calls Tryz.prog 23 #[.int .i64 g, .int .i64 z] (wr.drewN q) fun e w'' => e = .returned (.int .i64 g') ∧ ∃ m, w'' = wr.drewN m) := ⟨fun q => by
          have h := r4gcd_any g z.natAbs (wr.drewN q) (by omega) (by omega)
          rw [hgd, show ((z.natAbs : Nat) : Int) = z by omega] at h
          exact h.mono fun e w'' h => ⟨h.1, by obtain ⟨m, hm⟩ := h.2; exact ⟨q + m, by rw [hm, drew2]⟩⟩⟩
        clear hgd hgp
        go_wp2_with fail
        go_quiet ((go_at_call 23; (with_reducible exact VA.out _)))
        go_wp2_with fail
        exact ⟨⟨i + 1, hi6, by go_num, ret_val (by rw [HZ.out.2.2]), ⟨below_drewN HR.out.1 _, HR.out.2.1.drewN _, HR.out.2.2.drewN _⟩⟩, by simp [RowKit.intOf]; omega⟩
      · have hm1 : max z (-z) = -z := by omega
        have hm3 : z < -z := by omega
        have VA : Sl (∀ q, Calls Tryz.prog 23 #[.int .i64 g, .int .i64 (-z)] (wr.drewN q) fun e w'' => e = .returned (.int .i64 g') ∧ ∃ m, w'' = wr.drewN m) := ⟨fun q => by
          have h := r4gcd_any g z.natAbs (wr.drewN q) (by omega) (by omega)
          rw [hgd, show ((z.natAbs : Nat) : Int) = (-z) by omega] at h
          exact h.mono fun e w'' h => ⟨h.1, by obtain ⟨m, hm⟩ := h.2; exact ⟨q + m, by rw [hm, drew2]⟩⟩⟩
        clear hgd hgp
        go_wp2_with fail
        go_quiet ((go_at_call 23; (with_reducible exact VA.out _)))
        go_wp2_with fail
        exact ⟨⟨i + 1, hi6, by go_num, ret_val (by rw [HZ.out.2.2]), ⟨below_drewN HR.out.1 _, HR.out.2.1.drewN _, HR.out.2.2.drewN _⟩⟩, by simp [RowKit.intOf]; omega⟩
    · obtain rfl : i = 6 := by omega
      clear hi6 hi
      have hgp := (RV.gcd_pos (r := r) (by omega) 6)
      obtain ⟨g, hg⟩ : ∃ g, r.gcd 6 = g := ⟨_, rfl⟩
      have hbig := mkR_big (r := r)
      have hout := fun i hi => mkR_out (r := r) (i := i) hi
      have hin := mkR_in (r := r)
      have hdv := fun i (hi : i < 6) => (RV.gcd_dvd r 6).2 i hi
      have hdd0 := (RV.gcd_dvd r 6).1
      rw [hg] at hgp hbig hout hin hdv hdd0 ⊢
      rw [HSS.out] at hbig hin
      have hout : ∀ i, i < 6 → ¬ inR ((r.num i).tdiv (g : Nat)) → s = (RVzero, 7) := fun i hi h => by rw [← HSS.out]; exact hout i hi h
      have hgz : ¬ (g : Int) = 0 := by omega
      obtain ⟨dd, hdd⟩ : ∃ dd, r.d.tdiv (g : Int) = dd := ⟨_, rfl⟩
      have hddb : 0 ≤ dd ∧ dd ≤ 1000000 := by
        have e := tdiv_abs (z := r.d) hgp.1 hdd0
        rw [hdd] at e
        have p : 0 ≤ dd := by rw [← hdd]; exact Int.tdiv_nonneg (by omega) (by omega)
        have l := Nat.le_mul_of_pos_right dd.natAbs hgp.1
        omega
      obtain ⟨hdd1, hdd2⟩ := hddb
      have hmkr : mkR r = RV.of (fun j => (r.num j).tdiv (g : Int)) dd := by unfold mkR; rw [hg, hdd]
      rw [hdd] at hbig hin
      have HP : Sl _ := ⟨And.intro hbig (And.intro hout (And.intro hin (And.intro hdv (And.intro hmkr hgp))))⟩
      have hB := HR.out.1.alloc (HR.out.1.size) (.cells #[.int .i64 0, .int .i64 0, .int .i64 0, .int .i64 0, .int .i64 0, .int .i64 0, .int .i64 0] 24)
      have Y0 := HR.out.2.1.alloc (.cells #[.int .i64 0, .int .i64 0, .int .i64 0, .int .i64 0, .int .i64 0, .int .i64 0, .int .i64 0] 24)
      have Y1 := HR.out.2.2.alloc (.cells #[.int .i64 0, .int .i64 0, .int .i64 0, .int .i64 0, .int .i64 0, .int .i64 0, .int .i64 0] 24)
      have Y2 := Blk.new wr 24 #[.int .i64 0, .int .i64 0, .int .i64 0, .int .i64 0, .int .i64 0, .int .i64 0, .int .i64 0]
      have H8 : Sl _ := ⟨And.intro hB (And.intro Y0 (And.intro Y1 (And.intro Y2 HR.out.2.2.lt)))⟩
      clear hbig hout hin hdv hmkr hgp hdd0 hg hB Y0 Y1 Y2
      rcases Decidable.em (1000 < dd) with hbg | hbg
      · have HZR : Sl (s = (RVzero, 7)) := ⟨HP.out.1 hbg⟩
        clear HP
        have e0 := fun ob => (HR.out.2.2.alloc ob).cell 0
        have e1 := fun ob => (HR.out.2.2.alloc ob).cell 1
        have e2 := fun ob => (HR.out.2.2.alloc ob).cell 2
        have e3 := fun ob => (HR.out.2.2.alloc ob).cell 3
        have e4 := fun ob => (HR.out.2.2.alloc ob).cell 4
        have e5 := fun ob => (HR.out.2.2.alloc ob).cell 5
        have e6 := fun ob => (HR.out.2.2.alloc ob).cell 6
        simp at e0 e1 e2 e3 e4 e5 e6
        have f0 := fun ob => (HR.out.2.2.alloc ob).frozen 0
        have f1 := fun ob => (HR.out.2.2.alloc ob).frozen 1
        have f2 := fun ob => (HR.out.2.2.alloc ob).frozen 2
        have f3 := fun ob => (HR.out.2.2.alloc ob).frozen 3
        have f4 := fun ob => (HR.out.2.2.alloc ob).frozen 4
        have f5 := fun ob => (HR.out.2.2.alloc ob).frozen 5
        have f6 := fun ob => (HR.out.2.2.alloc ob).frozen 6
        clear HR
        go_wp2_with fail
        refine bodyPost_ret (results_rowR rfl _ _ (w.heap.size + 1) _ _ _ rfl (H8.out.2.2.1.seven _ _ _ _ _ _ _) Tryz.underlying24 rfl (by kernel_rfl)) rfl ?_
        exact ⟨by rw [HZR.out]; rfl, below_seven H8.out.1 (Nat.le_succ _) _ _ _ _ _ _ _⟩
      · clear HR
        go_wp2_with fail
        generalize hg8 : wr.heap.size = g8 at *
        generalize wr.alloc (.cells #[.int .i64 0, .int .i64 0, .int .i64 0, .int .i64 0, .int .i64 0, .int .i64 0, .int .i64 0] 24) = w2 at *
        clear hg8
        go_loopw [9] (fun s9 wq => ∃ i : Nat, i ≤ 6 ∧ s9 = .int .i64 i ∧ Sl (Below w.heap.size w wq ∧ Blk wq w.heap.size 67 r.nums ∧ Blk wq (w.heap.size + 1) 24 #[.int .i64 0, .int .i64 0, .int .i64 0, .int .i64 0, .int .i64 0, .int .i64 0, .int .i64 0] ∧ Blk wq g8 24 (RV.of (fun j => if j < i then (r.num j).tdiv (g : Int) else 0) 0).cells ∧ ∀ j, j < i → inR ((r.num j).tdiv (g : Int)))) (fun s9 _ => 6 - (RowKit.intOf s9).toNat)
        case atStart => exact ⟨0, by decide, rfl, ⟨H8.out.1, H8.out.2.1, H8.out.2.2.1, H8.out.2.2.2.1, fun j hj => absurd hj (Nat.not_lt_zero _)⟩⟩
        case round =>
          obtain ⟨i, hi, rfl, HI⟩ := hrel
          by_cases hi6 : i < 6
          · obtain ⟨z, hz⟩ : ∃ z, r.num i = z := ⟨_, rfl⟩
            have hc : wr.cell? ⟨w.heap.size, i, none⟩ = some (.int .i64 z) := by rw [HI.out.2.1.cell, RV.ncell r hi6, hz]
            obtain ⟨y, hy⟩ : ∃ y, z.tdiv (g : Int) = y := ⟨_, rfl⟩
            have hyb : -2000000000000000 ≤ y ∧ y ≤ 2000000000000000 := by
              have hb := H3.out i hi6
              rw [hz] at hb
              have e := tdiv_abs (z := z) HP.out.2.2.2.2.2.1 (by rw [← hz]; exact HP.out.2.2.2.1 i hi6)
              rw [hy] at e
              have l := Nat.le_mul_of_pos_right y.natAbs HP.out.2.2.2.2.2.1
              omega
            obtain ⟨hy1, hy2⟩ := hyb
            have HZY : Sl _ := ⟨And.intro hz hy⟩
            rcases Decidable.em (y < -100000) with hlo | hlo
            · have HZR : Sl (s = (RVzero, 7)) := ⟨HP.out.2.1 i hi6 (by rw [hz, hy]; unfold inR; omega)⟩
              have d0 := HI.out.2.2.1.cell 0
              have d1 := HI.out.2.2.1.cell 1
              have d2 := HI.out.2.2.1.cell 2
              have d3 := HI.out.2.2.1.cell 3
              have d4 := HI.out.2.2.1.cell 4
              have d5 := HI.out.2.2.1.cell 5
              have d6 := HI.out.2.2.1.cell 6
              simp at d0 d1 d2 d3 d4 d5 d6
              have f0 := HI.out.2.2.1.frozen 0
              have f1 := HI.out.2.2.1.frozen 1
              have f2 := HI.out.2.2.1.frozen 2
              have f3 := HI.out.2.2.1.frozen 3
              have f4 := HI.out.2.2.1.frozen 4
              have f5 := HI.out.2.2.1.frozen 5
              have f6 := HI.out.2.2.1.frozen 6
              clear hz
              go_wp2_with fail
              refine bodyPost_ret (results_rowR rfl _ _ (w.heap.size + 1) _ _ _ rfl (HI.out.2.2.1.seven _ _ _ _ _ _ _) Tryz.underlying24 rfl (by kernel_rfl)) rfl ?_
              exact ⟨by rw [HZR.out]; rfl, below_seven HI.out.1 (Nat.le_succ _) _ _ _ _ _ _ _⟩
            · rcases Decidable.em (100000 < y) with hhi | hhi
              · have HZR : Sl (s = (RVzero, 7)) := ⟨HP.out.2.1 i hi6 (by rw [hz, hy]; unfold inR; omega)⟩
                have d0 := HI.out.2.2.1.cell 0
                have d1 := HI.out.2.2.1.cell 1
                have d2 := HI.out.2.2.1.cell 2
                have d3 := HI.out.2.2.1.cell 3
                have d4 := HI.out.2.2.1.cell 4
                have d5 := HI.out.2.2.1.cell 5
                have d6 := HI.out.2.2.1.cell 6
                simp at d0 d1 d2 d3 d4 d5 d6
                have f0 := HI.out.2.2.1.frozen 0
                have f1 := HI.out.2.2.1.frozen 1
                have f2 := HI.out.2.2.1.frozen 2
                have f3 := HI.out.2.2.1.frozen 3
                have f4 := HI.out.2.2.1.frozen 4
                have f5 := HI.out.2.2.1.frozen 5
                have f6 := HI.out.2.2.1.frozen 6
                clear hz
                go_wp2_with fail
                refine bodyPost_ret (results_rowR rfl _ _ (w.heap.size + 1) _ _ _ rfl (HI.out.2.2.1.seven _ _ _ _ _ _ _) Tryz.underlying24 rfl (by kernel_rfl)) rfl ?_
                exact ⟨by rw [HZR.out]; rfl, below_seven HI.out.1 (Nat.le_succ _) _ _ _ _ _ _ _⟩
              · have hfz : wr.frozen? ⟨g8, i, none⟩ = false := HI.out.2.2.2.1.frozen i
                have hcell : wr.cell? ⟨g8, i, none⟩ = some (.int .i64 0) := by
                  rw [HI.out.2.2.2.1.cell, RV.of_cell _ _ hi6, if_neg (Nat.lt_irrefl _)]
                have hP := HI.out.2.2.2.1.set_ i (.int .i64 y)
                rw [RV.of_set _ _ _ hi6, RV.of_congr 0 (fun j hj => (?_ : _ = if j < i + 1 then (r.num j).tdiv (g : Int) else 0))] at hP
                rotate_left
                · by_cases h : j = i
                  · rw [if_pos h, if_pos (by omega), h, hz, hy]
                  · rw [if_neg h]
                    by_cases h2 : j < i
                    · rw [if_pos h2, if_pos (by omega)]
                    · rw [if_neg h2, if_neg (by omega)]
                have hne0 : w.heap.size ≠ g8 := by have := H8.out.2.2.2.2; omega
                have hne1 : w.heap.size + 1 ≠ g8 := by have := H8.out.2.2.2.2; omega
                have hinn : ∀ j, j < i + 1 → inR ((r.num j).tdiv (g : Int)) := fun j hj => by
                  rcases Nat.lt_or_ge j i with h | h
                  · exact HI.out.2.2.2.2 j h
                  · have : j = i := by omega
                    rw [this, hz, hy]; exact ⟨by omega, by omega⟩
                have HN : Sl _ := ⟨And.intro (HI.out.1.setCell (p := ⟨g8, i, none⟩) (by show w.heap.size ≤ g8; have := H8.out.2.2.2.2; omega) (.int .i64 y)) (And.intro (HI.out.2.1.far (p := ⟨g8, i, none⟩) hne0 (.int .i64 y)) (And.intro (HI.out.2.2.1.far (p := ⟨g8, i, none⟩) hne1 (.int .i64 y)) (And.intro hP hinn)))⟩
                clear hP hne0 hne1 hinn hz HI
                go_wp2_with fail
                refine ⟨?_, by simp [RowKit.intOf]; omega⟩
                repeat (first | exact ⟨i + 1, hi6, by go_num, HN⟩ | exact ⟨⟨i + 1, hi6, by go_num, HN⟩, rfl⟩ | exact ⟨i + 1, ⟨hi6, by go_num, HN⟩, rfl⟩ | apply Exists.intro)
          · obtain rfl : i = 6 := by omega
            clear hi6 hi
            have hmk : RV.of (fun j => if j < 6 then (r.num j).tdiv (g : Int) else 0) 0 = RV.of (fun j => (r.num j).tdiv (g : Int)) 0 := RV.of_congr 0 (fun j hj => if_pos hj)
            have HZR : Sl (s = (mkR r, 0)) := ⟨HP.out.2.2.1 (by omega) HI.out.2.2.2.2⟩
            have Y8 := HI.out.2.2.2.1
            rw [hmk] at Y8
            obtain ⟨q, hq⟩ : ∃ q, mkR r = q := ⟨_, rfl⟩
            have hqq : RV.of (fun j => (r.num j).tdiv (g : Int)) dd = q := by rw [← HP.out.2.2.2.2.1, hq]
            have hcs : (RV.of (fun j => (r.num j).tdiv (g : Int)) 0).cells = #[.int .i64 q.n0, .int .i64 q.n1, .int .i64 q.n2, .int .i64 q.n3, .int .i64 q.n4, .int .i64 q.n5, .int .i64 0] := by rw [← hqq]; rfl
            have hqd : q.d = dd := by rw [← hqq]; rfl
            rw [hcs] at Y8
            rw [hq] at HZR
            have hlt8 := H8.out.2.2.2.2
            have hne1 : w.heap.size + 1 ≠ g8 := by omega
            have Y8d : Blk (wr.setCell ⟨g8, 6, none⟩ (.int .i64 dd)) g8 24 #[.int .i64 q.n0, .int .i64 q.n1, .int .i64 q.n2, .int .i64 q.n3, .int .i64 q.n4, .int .i64 q.n5, .int .i64 dd] := Y8.set_ 6 (.int .i64 dd)
            have Y1d := HI.out.2.2.1.far (p := ⟨g8, 6, none⟩) hne1 (.int .i64 dd)
            have hBd := HI.out.1.setCell (p := ⟨g8, 6, none⟩) (by show w.heap.size ≤ g8; omega) (.int .i64 dd)
            have c6 := Y8.cell 6
            simp at c6
            have z6 := Y8.frozen 6
            have HQ : Sl _ := ⟨And.intro Y8d (And.intro Y1d (And.intro hBd hqd))⟩
            clear hmk hqq hcs Y8 Y8d Y1d hBd hqd hq HI HP H8 hlt8
            go_upto_region 17 with (fail)
            generalize wr.setCell ⟨g8, 6, none⟩ (.int .i64 dd) = w5 at *
            have Y8 := HQ.out.1
            rw [← HQ.out.2.2.2] at Y8
            have x0 := Y8.cell 0
            have x1 := Y8.cell 1
            have x2 := Y8.cell 2
            have x3 := Y8.cell 3
            have x4 := Y8.cell 4
            have x5 := Y8.cell 5
            have x6 := Y8.cell 6
            simp at x0 x1 x2 x3 x4 x5 x6
            have d0 := HQ.out.2.1.cell 0
            have d1 := HQ.out.2.1.cell 1
            have d2 := HQ.out.2.1.cell 2
            have d3 := HQ.out.2.1.cell 3
            have d4 := HQ.out.2.1.cell 4
            have d5 := HQ.out.2.1.cell 5
            have d6 := HQ.out.2.1.cell 6
            simp at d0 d1 d2 d3 d4 d5 d6
            have f0 := HQ.out.2.1.frozen 0
            have f1 := HQ.out.2.1.frozen 1
            have f2 := HQ.out.2.1.frozen 2
            have f3 := HQ.out.2.1.frozen 3
            have f4 := HQ.out.2.1.frozen 4
            have f5 := HQ.out.2.1.frozen 5
            have f6 := HQ.out.2.1.frozen 6
            clear c6 z6 Y8
            go_wp2_with fail
            refine bodyPost_ret (results_rowR rfl _ _ (w.heap.size + 1) _ _ _ rfl (HQ.out.2.1.seven _ _ _ _ _ _ _) Tryz.underlying24 rfl (by kernel_rfl)) rfl ?_
            exact ⟨by rw [HZR.out]; rfl, below_seven HQ.out.2.2.1 (Nat.le_succ _) _ _ _ _ _ _ _⟩
end Go.Proofs.YtalodfjplegibaaGreatDoor
namespace Go.Proofs.YtalodfjplegibaaGreatDoor
set_option linter.unusedSimpArgs false
open Go.RowKit
set_option linter.unusedVariables false

/-- a ratio without k octaves -/
def foldR (r : RV) (k : Int) : RV := RV.of (fun j => if j = 0 then r.num j - k * r.d else r.num j) r.d
open Classical in
/-- what Fold returns -/
noncomputable def foldS (r : RV) (k : Int) : RV × Int × Int := if checkS r = 0 then (if (madeS (foldR r k)).2 = 0 then ((madeS (foldR r k)).1, k, 0) else (RVzero, 0, (madeS (foldR r k)).2)) else (RVzero, 0, checkS r)
theorem foldS_err {r : RV} {k : Int} (h : checkS r ≠ 0) : foldS r k = (RVzero, 0, checkS r) := by unfold foldS; rw [if_neg h]
theorem foldS_ok {r : RV} {k : Int} (h : checkS r = 0) (h2 : (madeS (foldR r k)).2 = 0) : foldS r k = ((madeS (foldR r k)).1, k, 0) := by unfold foldS; rw [if_pos h, if_pos h2]
theorem foldS_out {r : RV} {k : Int} (h : checkS r = 0) (h2 : (madeS (foldR r k)).2 ≠ 0) : foldS r k = (RVzero, 0, (madeS (foldR r k)).2) := by unfold foldS; rw [if_pos h, if_neg h2]
theorem madeS_zero {r : RV} (h : (madeS r).2 ≠ 0) : (madeS r).1 = RVzero := by
  unfold madeS at h ⊢
  split at h
  · exact absurd rfl h
  · rename_i hc
    rw [if_neg hc]
def FoldRes (e : Ending) (s : RV × Int × Int) : Prop := e = .returned (.tuple #[.agg s.1.cells, .int .i64 s.2.1, .int .i64 s.2.2])
theorem foldR_good {r : RV} {k : Int} (h : checkS r = 0) (h1 : -1000000000000 ≤ k) (h2 : k ≤ 1000000000000) : 1 ≤ (foldR r k).d ∧ (foldR r k).d ≤ 1000000 ∧ ∀ i, i < 6 → -2000000000000000 ≤ (foldR r k).num i ∧ (foldR r k).num i ≤ 2000000000000000 := by
  obtain ⟨a1, a2, _⟩ := checkS_ok h
  have hd : (foldR r k).d = r.d := rfl
  refine ⟨by omega, by omega, fun i hi => ?_⟩
  have hn : (foldR r k).num i = if i = 0 then r.num i - k * r.d else r.num i := RV.of_num _ _ hi
  have hk : (k * r.d).natAbs ≤ 1000000000000 * 1000 := by
    rw [Int.natAbs_mul]
    exact Nat.mul_le_mul (by omega) (by omega)
  have l := a2 i hi
  have l1 := l.1
  have l2 := l.2
  rw [hn]
  generalize k * r.d = y at *
  split <;> omega
theorem results_rowR3 {P : Program} {fn : Func} {p u v : Tmp} {ty : TypeId} (h : fn.results = #[.cell p ty, .tmp u, .tmp v]) (tmps : Array Value) (w : World) (g : Nat) (t : TypeId) (cs : Array Value) (d : TypeDesc)
    (hp : tmps.getD p undef = .pointer (some ⟨g, 0, none⟩)) (hg : Blk w g t cs)
    (hu : P.underlying ty = some d) (hd : (match d with | .struct _ | .array _ _ => true | _ => false) = true) (hi : (P.info? ty).map (·.size) = some cs.size) :
    (results fn tmps).run P w = .ok (.tuple #[.agg cs, tmps.getD u undef, tmps.getD v undef]) w := by
  have h1 := run_loadVar_row w g t ty cs (0, 0) d hg hu hd hi
  have hp2 : tmps[p]?.getD undef = .pointer (some ⟨g, 0, none⟩) := by simpa using hp
  simp [results, h, hp2, asAddr, h1, Result.andThen]
set_option maxHeartbeats 6400000 in
set_option maxRecDepth 100000 in
theorem vFold_any (r : RV) (k : Int) (w : World) (hT : PrT w) (hk : checkS r = 0 → ∀ e, FloorRes (termsN r 6) 1 r.d (sgR r 1) e → ∃ b er, e = .returned (.tuple #[.int .i64 k, .bool b, .int .i64 er])) (hk1 : -1000000000000 ≤ k) (hk2 : k ≤ 1000000000000) :
    Calls Tryz.prog 43 #[.agg r.cells] w fun e w' => FoldRes e (foldS r k) ∧ Below w.heap.size w w' := by
  obtain ⟨s, hs⟩ : ∃ s, foldS r k = s := ⟨_, rfl⟩
  rw [hs]
  have HSS : Sl _ := ⟨hs⟩
  clear hs
  have hu := ((Below.refl w.heap.size w).alloc (Nat.le_refl _) (.cells r.cells 24)).alloc (by simp) (.cells RVzero.cells 24)
  have X0 := (Blk.new w 24 r.cells).alloc (.cells RVzero.cells 24)
  have X1 := Blk.new (w.alloc (.cells r.cells 24)) 24 RVzero.cells
  rw [show (w.alloc (.cells r.cells 24)).heap.size = w.heap.size + 1 by simp] at X1
  rw [RVzero_cells] at hu X0 X1
  have hca : r.cells = #[.int .i64 r.n0, .int .i64 r.n1, .int .i64 r.n2, .int .i64 r.n3, .int .i64 r.n4, .int .i64 r.n5, .int .i64 r.d] := rfl
  have HTM : Sl _ := ⟨Terms_any r ((w.alloc (.cells r.cells 24)).alloc (.cells #[.int .i64 0, .int .i64 0, .int .i64 0, .int .i64 0, .int .i64 0, .int .i64 0, .int .i64 0] 24)) (hT.below hu)⟩
  rw [hca] at HTM hu X0 X1 ⊢
  have HCE : Sl _ := ⟨hca⟩
  have HKK : Sl _ := ⟨hk⟩
  have x0 := X0.cell 0
  have x1 := X0.cell 1
  have x2 := X0.cell 2
  have x3 := X0.cell 3
  have x4 := X0.cell 4
  have x5 := X0.cell 5
  have x6 := X0.cell 6
  simp at x0 x1 x2 x3 x4 x5 x6
  have HU : Sl _ := ⟨And.intro hu (And.intro X0 X1)⟩
  clear hu X0 X1 hca hk hT
  obtain ⟨c, hc⟩ : ∃ c, checkS r = c := ⟨_, rfl⟩
  have HK : Sl _ := ⟨hc⟩
  go_enter Tryz.func43, Tryz.ntmps43
  go_wp2_with fail
  clear x0 x1 x2 x3 x4 x5 x6
  generalize (w.alloc (.cells #[.int .i64 r.n0, .int .i64 r.n1, .int .i64 r.n2, .int .i64 r.n3, .int .i64 r.n4, .int .i64 r.n5, .int .i64 r.d] 24)).alloc (.cells #[.int .i64 0, .int .i64 0, .int .i64 0, .int .i64 0, .int .i64 0, .int .i64 0, .int .i64 0] 24) = w0 at *
  refine HTM.out.mono ?_; rintro e w1 ⟨⟨j1, j2⟩, hb1⟩
  have hB := HU.out.1.trans (hb1.mono HU.out.1.size)
  have Xa := HU.out.2.1.below hb1 HU.out.2.1.lt
  have Z := HU.out.2.2.below hb1 HU.out.2.2.lt
  rw [← HCE.out] at Xa
  have HW : Sl _ := ⟨And.intro hB (And.intro Xa Z)⟩
  clear hB Xa Z hb1 HU HTM
  by_cases h0 : c = 0
  · have hc0 : checkS r = 0 := HK.out.trans h0
    obtain ⟨A, n, cc, rfl, hTR⟩ := j2 hc0
    obtain ⟨hd, hin, _⟩ := checkS_ok hc0
    have HF : Sl _ := ⟨Floor_any A n cc (termsN r 6) r.d 1 (sgR r 1) w1 hTR (okT_terms hin) hd.1 hd.2 (by decide) (by decide) (fun m h1 h2 => sign_any _ (ok6_atM hin ⟨by decide, by decide⟩ hd ⟨h1, h2⟩))⟩
    have hgood := foldR_good hc0 hk1 hk2
    have HKO : Sl _ := ⟨And.intro hgood (And.intro (HKK.out hc0) hc0)⟩
    have hkd : (k * r.d).natAbs ≤ 1000000000000 * 1000 := by
      rw [Int.natAbs_mul]
      exact Nat.mul_le_mul (by omega) (by omega)
    have hn0 := hin 0 (by decide)
    obtain ⟨y, hy⟩ : ∃ y, k * r.d = y := ⟨_, rfl⟩
    rw [hy] at hkd
    have hn01 : -100000 ≤ r.n0 := hn0.1
    have hn02 : r.n0 ≤ 100000 := hn0.2
    obtain ⟨x, hx⟩ : ∃ x, r.n0 - y = x := ⟨_, rfl⟩
    have hwy : IntKind.i64.wrap y = y := by rw [IntKind.wrap_i64]; omega
    have hwx : IntKind.i64.wrap x = x := by rw [IntKind.wrap_i64]; omega
    have hwk : IntKind.i64.wrap k = k := by rw [IntKind.wrap_i64]; omega
    obtain ⟨q, hq⟩ : ∃ q, foldR r k = q := ⟨_, rfl⟩
    have hqn : (#[.int .i64 x, .int .i64 r.n1, .int .i64 r.n2, .int .i64 r.n3, .int .i64 r.n4, .int .i64 r.n5] : Array Value) = q.nums := by
      rw [← hq, ← hx, ← hy]; rfl
    have hqd : q.d = r.d := by rw [← hq]; rfl
    have hM := fun W : World => rmade_big (foldR r k) W HKO.out.1.1 HKO.out.1.2.1 HKO.out.1.2.2
    have hfo : (madeS (foldR r k)).2 = 0 → s = ((madeS (foldR r k)).1, k, 0) := fun h => by rw [← HSS.out]; exact foldS_ok hc0 h
    have hfe : (madeS (foldR r k)).2 ≠ 0 → s = (RVzero, 0, (madeS (foldR r k)).2) ∧ (madeS (foldR r k)).1 = RVzero := fun h => ⟨by rw [← HSS.out]; exact foldS_out hc0 h, madeS_zero h⟩
    obtain ⟨⟨p, ep⟩, hp⟩ : ∃ z, madeS (foldR r k) = z := ⟨_, rfl⟩
    rw [hp] at hM hfo hfe
    rw [hq] at hM
    rw [← hqn, hqd] at hM
    simp only [] at hfo hfe
    unfold OfRes RV.cells at hM
    have HM : Sl _ := ⟨hM⟩
    have HFO : Sl _ := ⟨And.intro hfo hfe⟩
    clear hc j1 j2 hTR hin hgood hkd hn0 hM hfo hfe hp hq hqn hqd HSS HKK hn01 hn02 HK
    subst h0
    go_wp2_with fail
    refine HF.out.mono ?_; rintro e w2 ⟨hfr, hb2⟩
    obtain ⟨b, er, rfl⟩ := HKO.out.2.1 e hfr
    clear hfr
    have hB := HW.out.1.trans (hb2.mono HW.out.1.size)
    have Xa := HW.out.2.1.below hb2 HW.out.2.1.lt
    have Z := HW.out.2.2.below hb2 HW.out.2.2.lt
    rw [HCE.out] at Xa
    have x0 := Xa.cell 0
    have x6 := Xa.cell 6
    simp at x0 x6
    have f0 := Xa.frozen 0
    have Xs : Blk (w2.setCell ⟨w.heap.size, 0, none⟩ (.int .i64 x)) w.heap.size 24 #[.int .i64 x, .int .i64 r.n1, .int .i64 r.n2, .int .i64 r.n3, .int .i64 r.n4, .int .i64 r.n5, .int .i64 r.d] := Xa.set_ 0 (.int .i64 x)
    have HX : Sl _ := ⟨And.intro (hB.setCell (p := ⟨w.heap.size, 0, none⟩) (Nat.le_refl _) (.int .i64 x)) (And.intro Xs (Z.far (p := ⟨w.heap.size, 0, none⟩) (by show w.heap.size + 1 ≠ w.heap.size; omega) (.int .i64 x)))⟩
    clear hB Xa Z Xs hb2 HW HF
    go_upto_region 6 with (fail)
    generalize w2.setCell ⟨w.heap.size, 0, none⟩ (.int .i64 x) = w3 at *
    clear x0 x6 f0
    have x0 := HX.out.2.1.cell 0
    have x1 := HX.out.2.1.cell 1
    have x2 := HX.out.2.1.cell 2
    have x3 := HX.out.2.1.cell 3
    have x4 := HX.out.2.1.cell 4
    have x5 := HX.out.2.1.cell 5
    have x6 := HX.out.2.1.cell 6
    simp at x0 x1 x2 x3 x4 x5 x6
    go_wp2_with fail
    clear x0 x1 x2 x3 x4 x5 x6
    refine (HM.out _).mono ?_; rintro e w4 ⟨rfl, hb4⟩
    have Z := HX.out.2.2.below hb4 HX.out.2.2.lt
    have d0 := Z.cell 0
    have d1 := Z.cell 1
    have d2 := Z.cell 2
    have d3 := Z.cell 3
    have d4 := Z.cell 4
    have d5 := Z.cell 5
    have d6 := Z.cell 6
    simp at d0 d1 d2 d3 d4 d5 d6
    have f0 := Z.frozen 0
    have f1 := Z.frozen 1
    have f2 := Z.frozen 2
    have f3 := Z.frozen 3
    have f4 := Z.frozen 4
    have f5 := Z.frozen 5
    have f6 := Z.frozen 6
    have HS : Sl _ := ⟨And.intro (below_seven (HX.out.1.trans (hb4.mono HX.out.1.size)) (Nat.le_succ _) (.int .i64 p.n0) (.int .i64 p.n1) (.int .i64 p.n2) (.int .i64 p.n3) (.int .i64 p.n4) (.int .i64 p.n5) (.int .i64 p.d)) (Z.seven (.int .i64 p.n0) (.int .i64 p.n1) (.int .i64 p.n2) (.int .i64 p.n3) (.int .i64 p.n4) (.int .i64 p.n5) (.int .i64 p.d))⟩
    clear Z hb4 HX HM
    go_upto_region 7 with (fail)
    generalize ((((((w4.setCell ⟨w.heap.size + 1, 0, none⟩ (.int .i64 p.n0)).setCell ⟨w.heap.size + 1, 1, none⟩ (.int .i64 p.n1)).setCell ⟨w.heap.size + 1, 2, none⟩ (.int .i64 p.n2)).setCell ⟨w.heap.size + 1, 3, none⟩ (.int .i64 p.n3)).setCell ⟨w.heap.size + 1, 4, none⟩ (.int .i64 p.n4)).setCell ⟨w.heap.size + 1, 5, none⟩ (.int .i64 p.n5)).setCell ⟨w.heap.size + 1, 6, none⟩ (.int .i64 p.d) = w5 at *
    clear d0 d1 d2 d3 d4 d5 d6 f0 f1 f2 f3 f4 f5 f6
    have d0 := HS.out.2.cell 0
    have d1 := HS.out.2.cell 1
    have d2 := HS.out.2.cell 2
    have d3 := HS.out.2.cell 3
    have d4 := HS.out.2.cell 4
    have d5 := HS.out.2.cell 5
    have d6 := HS.out.2.cell 6
    simp at d0 d1 d2 d3 d4 d5 d6
    have f0 := HS.out.2.frozen 0
    have f1 := HS.out.2.frozen 1
    have f2 := HS.out.2.frozen 2
    have f3 := HS.out.2.frozen 3
    have f4 := HS.out.2.frozen 4
    have f5 := HS.out.2.frozen 5
    have f6 := HS.out.2.frozen 6
    by_cases he : ep = 0
    · subst he
      have HZR : Sl _ := ⟨HFO.out.1 rfl⟩
      go_wp2_with fail
      refine bodyPost_ret (results_rowR3 rfl _ _ (w.heap.size + 1) _ _ _ rfl (HS.out.2.seven _ _ _ _ _ _ _) Tryz.underlying24 rfl (by kernel_rfl)) rfl ?_
      exact ⟨by rw [HZR.out]; rfl, below_seven HS.out.1 (Nat.le_succ _) _ _ _ _ _ _ _⟩
    · have hez : (ep != 0) = true := by rw [bne_iff_ne]; exact he
      have HZR : Sl _ := ⟨(HFO.out.2 he).1⟩
      go_wp2_with fail
      refine bodyPost_ret (results_rowR3 rfl _ _ (w.heap.size + 1) _ _ _ rfl (HS.out.2.seven _ _ _ _ _ _ _) Tryz.underlying24 rfl (by kernel_rfl)) rfl ?_
      exact ⟨by rw [HZR.out]; rfl, below_seven HS.out.1 (Nat.le_succ _) _ _ _ _ _ _ _⟩
  · have hc0 : checkS r ≠ 0 := fun h => h0 (HK.out.symm.trans h)
    obtain rfl := j1 hc0
    rw [HK.out]
    have HZR : Sl (s = (RVzero, 0, c)) := ⟨by rw [← HSS.out, foldS_err hc0, HK.out]⟩
    have hcz : (c != 0) = true := by rw [bne_iff_ne]; exact h0
    clear hc hc0 j1 j2 HKK
    have d0 := HW.out.2.2.cell 0
    have d1 := HW.out.2.2.cell 1
    have d2 := HW.out.2.2.cell 2
    have d3 := HW.out.2.2.cell 3
    have d4 := HW.out.2.2.cell 4
    have d5 := HW.out.2.2.cell 5
    have d6 := HW.out.2.2.cell 6
    simp at d0 d1 d2 d3 d4 d5 d6
    have f0 := HW.out.2.2.frozen 0
    have f1 := HW.out.2.2.frozen 1
    have f2 := HW.out.2.2.frozen 2
    have f3 := HW.out.2.2.frozen 3
    have f4 := HW.out.2.2.frozen 4
    have f5 := HW.out.2.2.frozen 5
    have f6 := HW.out.2.2.frozen 6
    go_wp2_with fail
    refine bodyPost_ret (results_rowR3 rfl _ _ (w.heap.size + 1) _ _ _ rfl (HW.out.2.2.seven _ _ _ _ _ _ _) Tryz.underlying24 rfl (by kernel_rfl)) rfl ?_
    exact ⟨by rw [HZR.out]; rfl, below_seven HW.out.1 (Nat.le_succ _) _ _ _ _ _ _ _⟩
end Go.Proofs.YtalodfjplegibaaGreatDoor
namespace Go.Proofs.YtalodfjplegibaaGreatDoor
set_option linter.unusedSimpArgs false
open Go.RowKit
set_option linter.unusedVariables false

theorem fold_k (r : RV) : ∃ k : Int, -1000000000000 ≤ k ∧ k ≤ 1000000000000 ∧ (checkS r = 0 → ∀ e, FloorRes (termsN r 6) 1 r.d (sgR r 1) e → ∃ b er, e = .returned (.tuple #[.int .i64 k, .bool b, .int .i64 er])) := by
  by_cases h : checkS r = 0 ∧ ∃ e, FloorRes (termsN r 6) 1 r.d (sgR r 1) e
  · obtain ⟨h0, e, he⟩ := h
    obtain ⟨k, b, er, rfl, h1, h2⟩ := FloorRes_shape he
    exact ⟨k, h1, h2, fun _ e' he' => ⟨b, er, FloorRes_det (checkS_ok h0).1.1 he' he⟩⟩
  · exact ⟨0, by decide, by decide, fun h0 e he => absurd ⟨h0, e, he⟩ h⟩
end Go.Proofs.YtalodfjplegibaaGreatDoor
