/- The reference of chapter 04: made. (Printed by genmade.py.) -/
import Derived.Test.YtgmpipimancnhaaGreatDoorZtxAb
import Derived.Test.YtgmpipimancnhaaGreatDoorRatZ
import Derived.Test.YtgmpipimancnhaaGreatDoorRatK
import Derived.Test.YtgmpipimancnhaaGreatDoorRatU
import Derived.Test.YtgmpipimancnhaaGreatDoorRatW
import Derived.Test.YtgmpipimancnhaaGreatDoorNrA
import Derived.Deep.RegionHeld3
namespace Go.Proofs.YtgmpipimancnhaaGreatDoor
set_option linter.unusedSimpArgs false
open Go.RowKit
set_option linter.unusedVariables false
end Go.Proofs.YtgmpipimancnhaaGreatDoor
namespace Go.Proofs.YtgmpipimancnhaaGreatDoor
set_option linter.unusedSimpArgs false
open Go.RowKit
set_option linter.unusedVariables false
end Go.Proofs.YtgmpipimancnhaaGreatDoor
namespace Go.Proofs.YtgmpipimancnhaaGreatDoor
set_option linter.unusedSimpArgs false
open Go.RowKit
set_option linter.unusedVariables false
theorem sgn_ge {l : List (Nat × Int)} : 0 ≤ sgn l ↔ down l ≤ up l := by
  unfold sgn
  split
  · exact ⟨fun _ => by omega, fun _ => by decide⟩
  · split
    · exact ⟨fun h => absurd h (by decide), fun h => by omega⟩
    · exact ⟨fun _ => by omega, fun _ => by decide⟩
theorem up_two (x : Int) : ∀ l : List (Nat × Int), up (l ++ [(2, x)]) = up l * 2 ^ x.toNat
  | [] => by
    rw [List.nil_append, up, up]
    split
    · rw [show x.toNat = x.natAbs by omega, Nat.mul_comm]; rfl
    · rw [show x.toNat = 0 by omega]; rfl
  | (n, k) :: l => by
    rw [List.cons_append, up, up_two x l, up]
    split
    · rw [Nat.mul_assoc]
    · rfl
theorem down_two (x : Int) : ∀ l : List (Nat × Int), down (l ++ [(2, x)]) = down l * 2 ^ (-x).toNat
  | [] => by
    rw [List.nil_append, down, down]
    split
    · rw [show (-x).toNat = 0 by omega]; rfl
    · rw [show (-x).toNat = x.natAbs by omega, Nat.mul_comm]; rfl
  | (n, k) :: l => by
    rw [List.cons_append, down, down_two x l, down]
    split
    · rfl
    · rw [Nat.mul_assoc]
theorem atM_anti {l : List (Nat × Int)} {s den m m' : Int} (hd : 1 ≤ den) (h : m ≤ m') (hs : 0 ≤ sgn (atM l s den m')) : 0 ≤ sgn (atM l s den m) := by
  rw [sgn_ge] at hs ⊢; unfold atM at hs ⊢; rw [up_two, down_two] at hs ⊢; have hmm : m * den ≤ m' * den := Int.mul_le_mul_of_nonneg_right h (by omega); rw [Int.neg_mul] at hs ⊢; rw [Int.neg_neg] at hs ⊢; generalize m * den = y at *
  generalize m' * den = y' at *
  calc down (scaled l s) * 2 ^ y.toNat ≤ down (scaled l s) * 2 ^ y'.toNat := Nat.mul_le_mul_left _ (Nat.pow_le_pow_right (by decide) (by omega))
    _ ≤ up (scaled l s) * 2 ^ (-y').toNat := hs
    _ ≤ up (scaled l s) * 2 ^ (-y).toNat := Nat.mul_le_mul_left _ (Nat.pow_le_pow_right (by decide) (by omega))
theorem FloorRes_det {l : List (Nat × Int)} {s den : Int} (hd : 1 ≤ den) {e e' : Ending} (h : FloorRes l s den (fun m => sgn (atM l s den m)) e) (h' : FloorRes l s den (fun m => sgn (atM l s den m)) e') : e = e' := by
  unfold FloorRes at h h'
  split at h
  · rename_i hc; rw [if_pos hc] at h'; rw [h, h']
  · rename_i hc; rw [if_neg hc] at h'; obtain ⟨m, _, _, h1, h2, rfl⟩ := h; obtain ⟨m', _, _, h3, h4, rfl⟩ := h'; have h2 : sgn (atM l s den (m + 1)) < 0 := h2; have h4 : sgn (atM l s den (m' + 1)) < 0 := h4; have hle : ¬ m + 1 ≤ m' := fun hlt => by have := atM_anti hd hlt h3; omega
    have hle' : ¬ m' + 1 ≤ m := fun hlt => by have := atM_anti hd hlt h1; omega
    obtain rfl : m = m' := (by omega); rfl
theorem FloorRes_shape {l : List (Nat × Int)} {s den : Int} {sg : Int → Int} {e : Ending} (h : FloorRes l s den sg e) : ∃ k b er, e = .returned (.tuple #[.int .i64 k, .bool b, .int .i64 er]) ∧ -1000000000000 ≤ k ∧ k ≤ 1000000000000 := by
  unfold FloorRes at h
  split at h
  · exact ⟨0, false, 7, h, by decide, by decide⟩
  · obtain ⟨m, h1, h2, _, _, h⟩ := h; exact ⟨m, _, 0, h, h1, by omega⟩
set_option maxHeartbeats 3200000 in
set_option maxRecDepth 100000 in
theorem rmade_big (r : RV) (w : World) (h1 : 1 ≤ r.d) (h2 : r.d ≤ 1000000) (h3 : ∀ i, i < 6 → -2000000000000000 ≤ r.num i ∧ r.num i ≤ 2000000000000000) :
    Calls Tryz.prog 100 #[.agg r.nums, .int .i64 r.d] w fun e w' => OfRes e (madeS r) ∧ Below w.heap.size w w' := by
  obtain ⟨s, hs⟩ : ∃ s, madeS r = s := ⟨_, rfl⟩; rw [hs]; have HSS : Sl _ := ⟨hs⟩; clear hs; have hu := ((Below.refl w.heap.size w).alloc (Nat.le_refl _) (.cells r.nums 67)).alloc (by simp) (.cells RVzero.cells 69); have X0 := (Blk.new w 67 r.nums).alloc (.cells RVzero.cells 69); have X1 := Blk.new (w.alloc (.cells r.nums 67)) 69 RVzero.cells; rw [show (w.alloc (.cells r.nums 67)).heap.size = w.heap.size + 1 by simp] at X1; have hidx := fun (W : World) (i : Nat) (hi : i < 6) => index6 W r hi
  unfold RV.nums at *
  rw [RVzero_cells] at hu X0 X1; have HU : Sl _ := ⟨And.intro hu (And.intro X0 X1)⟩; clear hu X0 X1; have H3 : Sl _ := ⟨h3⟩; have HC : Sl _ := ⟨fun W : World => rcheckR_any (mkR r) W⟩; clear h3; go_enter Tryz.func100, Tryz.ntmps100; go_wp2_with fail; generalize (w.alloc (.cells #[.int .i64 r.n0, .int .i64 r.n1, .int .i64 r.n2, .int .i64 r.n3, .int .i64 r.n4, .int .i64 r.n5] 67)).alloc (.cells #[.int .i64 0, .int .i64 0, .int .i64 0, .int .i64 0, .int .i64 0, .int .i64 0, .int .i64 0] 69) = w0 at *
  go_loopw [6, 14] (fun s6 s14 wr => ∃ i : Nat, i ≤ 6 ∧ s14 = .int .i64 i ∧ s6 = .int .i64 (r.gcd i : Nat) ∧ Sl (Below w.heap.size w wr ∧ Blk wr w.heap.size 67 #[.int .i64 r.n0, .int .i64 r.n1, .int .i64 r.n2, .int .i64 r.n3, .int .i64 r.n4, .int .i64 r.n5] ∧ Blk wr (w.heap.size + 1) 69 #[.int .i64 0, .int .i64 0, .int .i64 0, .int .i64 0, .int .i64 0, .int .i64 0, .int .i64 0])) (fun _ s14 _ => 6 - (RowKit.intOf s14).toNat)
  case atStart => exact ⟨0, by decide, rfl, ret_val (by show r.d = ((r.d.natAbs : Nat) : Int); omega), ⟨HU.out⟩⟩
  case round =>
    clear HU; obtain ⟨i, hi, rfl, rfl, HR⟩ := hrel
    by_cases hi6 : i < 6
    · have hix := fun W : World => hidx W i hi6
      obtain ⟨z, hz⟩ : ∃ z, r.num i = z := ⟨_, rfl⟩; obtain ⟨g, hg⟩ : ∃ g, r.gcd i = g := ⟨_, rfl⟩; obtain ⟨g', hg'⟩ : ∃ g', r.gcd (i + 1) = g' := ⟨_, rfl⟩; rw [hz] at hix; have hgp := RV.gcd_pos (r := r) (by omega) i; rw [hg] at hgp; have hgd : Nat.gcd g z.natAbs = g' := (by rw [← hg', ← hg, ← hz]; rfl); have hzb := H3.out i hi6; rw [hz] at hzb; rw [hg]; have HZ : Sl _ := ⟨And.intro hz (And.intro hg hg')⟩; clear hidx hz hg hg'; have HS : Sl _ := ⟨fun W : World => rsize_any z W (by omega) (by omega)⟩; have HG : Sl _ := ⟨fun W : World => rgcd_any g z.natAbs W (by omega) (by omega)⟩; rw [hgd] at HG; clear hgd hgp hzb; generalize z.natAbs = za at *
      go_wp2_with fail; refine (HS.out _).mono ?_; rintro e w1 ⟨rfl, rfl⟩; go_wp2_with fail; refine (HG.out _).mono ?_; rintro e w2 ⟨rfl, dn, rfl⟩; go_wp2_with fail; refine ⟨⟨i + 1, hi6, by go_num, ret_val (by rw [HZ.out.2.2]), ⟨below_drewN HR.out.1 dn, HR.out.2.1.below (below_drewN (Below.refl _ _) dn) HR.out.2.1.lt, HR.out.2.2.below (below_drewN (Below.refl _ _) dn) HR.out.2.2.lt⟩⟩, by simp [RowKit.intOf]; omega⟩
    · obtain rfl : i = 6 := (by omega); clear hi6 hi; have hgp := (RV.gcd_pos (r := r) (by omega) 6); obtain ⟨g, hg⟩ : ∃ g, r.gcd 6 = g := ⟨_, rfl⟩; rw [hg] at hgp ⊢; have hgz : ¬ (g : Int) = 0 := (by omega); obtain ⟨dd, hdd⟩ : ∃ dd, r.d.tdiv (g : Int) = dd := ⟨_, rfl⟩
      have hddb : 1 ≤ dd ∧ dd ≤ 1000000 := by
        have e := tdiv_abs (z := r.d) hgp.1 (by rw [← hg]; exact (RV.gcd_dvd r 6).1); rw [hdd] at e; have p : 0 ≤ dd := (by rw [← hdd]; exact Int.tdiv_nonneg (by omega) (by omega)); have l := Nat.le_mul_of_pos_right dd.natAbs hgp.1; refine ⟨?_, by omega⟩; rcases Int.lt_or_le 0 dd with h | h
        · omega
        · rw [show dd = 0 by omega] at e; simp at e; omega
      obtain ⟨hdd1, hdd2⟩ := hddb; have q0 := fun ob => (HR.out.2.1.alloc ob).cell 0
      have q1 := fun ob => (HR.out.2.1.alloc ob).cell 1
      have q2 := fun ob => (HR.out.2.1.alloc ob).cell 2
      have q3 := fun ob => (HR.out.2.1.alloc ob).cell 3
      have q4 := fun ob => (HR.out.2.1.alloc ob).cell 4
      have q5 := fun ob => (HR.out.2.1.alloc ob).cell 5
      simp at q0 q1 q2 q3 q4 q5; have hlt := HR.out.2.2.lt; have hB := HR.out.1.alloc (by omega) (.cells #[.int .i64 0, .int .i64 0, .int .i64 0, .int .i64 0, .int .i64 0, .int .i64 0, .int .i64 dd] 69); have Y1 := HR.out.2.2.alloc (.cells #[.int .i64 0, .int .i64 0, .int .i64 0, .int .i64 0, .int .i64 0, .int .i64 0, .int .i64 dd] 69); have Y2 := Blk.new wr 69 #[.int .i64 0, .int .i64 0, .int .i64 0, .int .i64 0, .int .i64 0, .int .i64 0, .int .i64 dd]; have H2 : Sl _ := ⟨And.intro hB (And.intro Y1 Y2)⟩; have HL : Sl _ := ⟨And.intro hlt hgp⟩; have HG : Sl _ := ⟨And.intro hg hdd⟩; clear hlt hB Y1 Y2 hgp hg; go_wp2_with fail; clear q0 q1 q2 q3 q4 q5 HR; generalize hg7 : wr.heap.size = g7 at *
      generalize wr.alloc (.cells #[.int .i64 0, .int .i64 0, .int .i64 0, .int .i64 0, .int .i64 0, .int .i64 0, .int .i64 dd] 69) = w2 at *
      clear hg7
      go_loopw [27] (fun s27 wq => ∃ i : Nat, i ≤ 6 ∧ s27 = .int .i64 i ∧ Sl (Below w.heap.size w wq ∧ Blk wq (w.heap.size + 1) 69 #[.int .i64 0, .int .i64 0, .int .i64 0, .int .i64 0, .int .i64 0, .int .i64 0, .int .i64 0] ∧ Blk wq g7 69 (RV.of (fun j => if j < i then (r.num j).tdiv (g : Int) else 0) dd).cells)) (fun s27 _ => 6 - (RowKit.intOf s27).toNat)
      case atStart => exact ⟨0, by decide, rfl, ⟨H2.out⟩⟩
      case round =>
        obtain ⟨i, hi, rfl, HI⟩ := hrel
        by_cases hi6 : i < 6
        · have hix := fun W : World => hidx W i hi6
          obtain ⟨z, hz⟩ : ∃ z, r.num i = z := ⟨_, rfl⟩; rw [hz] at hix; obtain ⟨y, hy⟩ : ∃ y, z.tdiv (g : Int) = y := ⟨_, rfl⟩
          have hyb : -2000000000000000 ≤ y ∧ y ≤ 2000000000000000 := by
            have hb := H3.out i hi6; rw [hz] at hb; have e := tdiv_abs (z := z) HL.out.2.1 (by rw [← HG.out.1, ← hz]; exact (RV.gcd_dvd r 6).2 i hi6); rw [hy] at e; have l := Nat.le_mul_of_pos_right y.natAbs HL.out.2.1; omega
          obtain ⟨hy1, hy2⟩ := hyb; have hfz : wr.frozen? ⟨g7, i, none⟩ = false := HI.out.2.2.frozen i
          have hcell : wr.cell? ⟨g7, i, none⟩ = some (.int .i64 0) := by
            rw [HI.out.2.2.cell, RV.of_cell _ _ hi6, if_neg (Nat.lt_irrefl _)]
          have hP := HI.out.2.2.set_ i (.int .i64 y); rw [RV.of_set _ _ _ hi6, RV.of_congr dd (fun j hj => (?_ : _ = if j < i + 1 then (r.num j).tdiv (g : Int) else 0))] at hP
          rotate_left
          · by_cases h : j = i
            · rw [if_pos h, if_pos (by omega), h, hz, hy]
            · rw [if_neg h]
              by_cases h2 : j < i
              · rw [if_pos h2, if_pos (by omega)]
              · rw [if_neg h2, if_neg (by omega)]
          have hne : w.heap.size + 1 ≠ g7 := (by have := HL.out.1; omega); have HN : Sl _ := ⟨And.intro (HI.out.1.setCell (p := ⟨g7, i, none⟩) (by have := HL.out.1; show w.heap.size ≤ g7; omega) (.int .i64 y)) (And.intro (HI.out.2.1.far (p := ⟨g7, i, none⟩) hne (.int .i64 y)) hP)⟩; have HFZ : Sl _ := ⟨hfz⟩; clear hP hne hidx HI; go_wp2_with fail; refine ⟨?_, by simp [RowKit.intOf]; omega⟩
          repeat (first | exact ⟨i + 1, hi6, by go_num, HN⟩ | exact ⟨⟨i + 1, hi6, by go_num, HN⟩, rfl⟩ | exact ⟨i + 1, ⟨hi6, by go_num, HN⟩, rfl⟩ | apply Exists.intro)
        · obtain rfl : i = 6 := (by omega); clear hi6 hi hidx
          have hmk : RV.of (fun j => if j < 6 then (r.num j).tdiv (g : Int) else 0) dd = mkR r := by
            unfold mkR; rw [HG.out.1, HG.out.2]; exact RV.of_congr dd (fun j hj => if_pos hj)
          have Y2 := HI.out.2.2; rw [hmk] at Y2; have hk := madeS_check r h1; rw [HSS.out] at hk; generalize mkR r = q at *
          unfold RV.cells at Y2 HC; have hB := HI.out.1; have Y1 := HI.out.2.1; have x0 := Y2.cell 0; have x1 := Y2.cell 1; have x2 := Y2.cell 2; have x3 := Y2.cell 3; have x4 := Y2.cell 4; have x5 := Y2.cell 5; have x6 := Y2.cell 6; simp at x0 x1 x2 x3 x4 x5 x6; have H5 : Sl _ := ⟨And.intro hB (And.intro Y1 Y2)⟩; have HK : Sl _ := ⟨hk⟩; clear hk hB Y1 Y2 HI H2 hmk HG; go_wp2_with fail; refine (HC.out wr).mono ?_; rintro e w3 ⟨rfl, hb3⟩; clear x0 x1 x2 x3 x4 x5 x6; have Y1 := H5.out.2.1.below hb3 H5.out.2.1.lt; have Y2 := H5.out.2.2.below hb3 H5.out.2.2.lt; have hB := H5.out.1.trans (hb3.mono H5.out.1.size); have x0 := Y2.cell 0; have x1 := Y2.cell 1; have x2 := Y2.cell 2; have x3 := Y2.cell 3; have x4 := Y2.cell 4; have x5 := Y2.cell 5; have x6 := Y2.cell 6; simp at x0 x1 x2 x3 x4 x5 x6; have d0 := Y1.cell 0; have d1 := Y1.cell 1; have d2 := Y1.cell 2; have d3 := Y1.cell 3; have d4 := Y1.cell 4; have d5 := Y1.cell 5; have d6 := Y1.cell 6; simp at d0 d1 d2 d3 d4 d5 d6; have f0 := Y1.frozen 0; have f1 := Y1.frozen 1; have f2 := Y1.frozen 2; have f3 := Y1.frozen 3; have f4 := Y1.frozen 4; have f5 := Y1.frozen 5; have f6 := Y1.frozen 6; have HFIN : Sl _ := ⟨And.intro hB Y1⟩; clear hB Y1 Y2 H5 hb3 HC; obtain ⟨c, hc⟩ : ∃ c, checkS q = c := ⟨_, rfl⟩; rw [hc] at HK ⊢
          by_cases h0 : c = 0
          · subst h0; have HZR : Sl (s = (q, 0)) := ⟨HK.out.1 rfl⟩; go_wp2_with fail; refine bodyPost_ret (results_rowR rfl _ _ (w.heap.size + 1) _ _ _ rfl (HFIN.out.2.seven _ _ _ _ _ _ _) Tryz.underlying69 rfl (by kernel_rfl)) rfl ?_; exact ⟨by rw [HZR.out]; rfl, below_seven HFIN.out.1 (Nat.le_succ _) _ _ _ _ _ _ _⟩
          · have hcz : (c == 0) = false := (by rw [beq_eq_false_iff_ne]; exact h0); have HZR : Sl (s = (RVzero, 7)) := ⟨HK.out.2 h0⟩; go_wp2_with fail; refine bodyPost_ret (results_rowR rfl _ _ (w.heap.size + 1) _ _ _ rfl (HFIN.out.2.seven _ _ _ _ _ _ _) Tryz.underlying69 rfl (by kernel_rfl)) rfl ?_; exact ⟨by rw [HZR.out]; rfl, below_seven HFIN.out.1 (Nat.le_succ _) _ _ _ _ _ _ _⟩
end Go.Proofs.YtgmpipimancnhaaGreatDoor
namespace Go.Proofs.YtgmpipimancnhaaGreatDoor
set_option linter.unusedSimpArgs false
open Go.RowKit
set_option linter.unusedVariables false
def foldR (r : RV) (k : Int) : RV := RV.of (fun j => if j = 0 then r.num j - k * r.d else r.num j) r.d
open Classical in
noncomputable def foldS (r : RV) (k : Int) : RV × Int × Int := if checkS r = 0 then (if (madeS (foldR r k)).2 = 0 then ((madeS (foldR r k)).1, k, 0) else (RVzero, 0, (madeS (foldR r k)).2)) else (RVzero, 0, checkS r)
theorem foldS_err {r : RV} {k : Int} (h : checkS r ≠ 0) : foldS r k = (RVzero, 0, checkS r) := by unfold foldS; rw [if_neg h]
theorem foldS_ok {r : RV} {k : Int} (h : checkS r = 0) (h2 : (madeS (foldR r k)).2 = 0) : foldS r k = ((madeS (foldR r k)).1, k, 0) := by unfold foldS; rw [if_pos h, if_pos h2]
theorem foldS_out {r : RV} {k : Int} (h : checkS r = 0) (h2 : (madeS (foldR r k)).2 ≠ 0) : foldS r k = (RVzero, 0, (madeS (foldR r k)).2) := by unfold foldS; rw [if_pos h, if_neg h2]
theorem madeS_zero {r : RV} (h : (madeS r).2 ≠ 0) : (madeS r).1 = RVzero := by
  unfold madeS at h ⊢
  split at h
  · exact absurd rfl h
  · rename_i hc; rw [if_neg hc]
def FoldRes (e : Ending) (s : RV × Int × Int) : Prop := e = .returned (.tuple #[.agg s.1.cells, .int .i64 s.2.1, .int .i64 s.2.2])
theorem foldR_good {r : RV} {k : Int} (h : checkS r = 0) (h1 : -1000000000000 ≤ k) (h2 : k ≤ 1000000000000) : 1 ≤ (foldR r k).d ∧ (foldR r k).d ≤ 1000000 ∧ ∀ i, i < 6 → -2000000000000000 ≤ (foldR r k).num i ∧ (foldR r k).num i ≤ 2000000000000000 := by
  obtain ⟨a1, a2, _⟩ := checkS_ok h; have hd : (foldR r k).d = r.d := rfl; refine ⟨by omega, by omega, fun i hi => ?_⟩; have hn : (foldR r k).num i = if i = 0 then r.num i - k * r.d else r.num i := RV.of_num _ _ hi
  have hk : (k * r.d).natAbs ≤ 1000000000000 * 1000 := by
    rw [Int.natAbs_mul]; exact Nat.mul_le_mul (by omega) (by omega)
  have l := a2 i hi; have l1 := l.1; have l2 := l.2; rw [hn]; generalize k * r.d = y at *
  split <;> omega
theorem results_rowR3 {P : Program} {fn : Func} {p u v : Tmp} {ty : TypeId} (h : fn.results = #[.cell p ty, .tmp u, .tmp v]) (tmps : Array Value) (w : World) (g : Nat) (t : TypeId) (cs : Array Value) (d : TypeDesc)
    (hp : tmps.getD p undef = .pointer (some ⟨g, 0, none⟩)) (hg : Blk w g t cs)
    (hu : P.underlying ty = some d) (hd : (match d with | .struct _ | .array _ _ => true | _ => false) = true) (hi : (P.info? ty).map (·.size) = some cs.size) :
    (results fn tmps).run P w = .ok (.tuple #[.agg cs, tmps.getD u undef, tmps.getD v undef]) w := by
  have h1 := run_loadVar_row w g t ty cs (0, 0) d hg hu hd hi; have hp2 : tmps[p]?.getD undef = .pointer (some ⟨g, 0, none⟩) := (by simpa using hp); simp [results, h, hp2, asAddr, h1, Result.andThen]
set_option maxHeartbeats 6400000 in
set_option maxRecDepth 100000 in
theorem vFold_any (r : RV) (k : Int) (w : World) (hT : PrT w) (hk : checkS r = 0 → ∀ e, FloorRes (termsN r 6) 1 r.d (sgR r 1) e → ∃ b er, e = .returned (.tuple #[.int .i64 k, .bool b, .int .i64 er])) (hk1 : -1000000000000 ≤ k) (hk2 : k ≤ 1000000000000) :
    Calls Tryz.prog 85 #[.agg r.cells] w fun e w' => FoldRes e (foldS r k) ∧ Below w.heap.size w w' := by
  obtain ⟨s, hs⟩ : ∃ s, foldS r k = s := ⟨_, rfl⟩; rw [hs]; have HSS : Sl _ := ⟨hs⟩; clear hs; have hu := ((Below.refl w.heap.size w).alloc (Nat.le_refl _) (.cells r.cells 69)).alloc (by simp) (.cells RVzero.cells 69); have X0 := (Blk.new w 69 r.cells).alloc (.cells RVzero.cells 69); have X1 := Blk.new (w.alloc (.cells r.cells 69)) 69 RVzero.cells; rw [show (w.alloc (.cells r.cells 69)).heap.size = w.heap.size + 1 by simp] at X1; rw [RVzero_cells] at hu X0 X1; have hca : r.cells = #[.int .i64 r.n0, .int .i64 r.n1, .int .i64 r.n2, .int .i64 r.n3, .int .i64 r.n4, .int .i64 r.n5, .int .i64 r.d] := rfl; have HTM : Sl _ := ⟨Terms_any r ((w.alloc (.cells r.cells 69)).alloc (.cells #[.int .i64 0, .int .i64 0, .int .i64 0, .int .i64 0, .int .i64 0, .int .i64 0, .int .i64 0] 69)) (hT.below hu)⟩; rw [hca] at HTM hu X0 X1 ⊢; have HCE : Sl _ := ⟨hca⟩; have HKK : Sl _ := ⟨hk⟩; have x0 := X0.cell 0; have x1 := X0.cell 1; have x2 := X0.cell 2; have x3 := X0.cell 3; have x4 := X0.cell 4; have x5 := X0.cell 5; have x6 := X0.cell 6; simp at x0 x1 x2 x3 x4 x5 x6; have HU : Sl _ := ⟨And.intro hu (And.intro X0 X1)⟩; clear hu X0 X1 hca hk hT; obtain ⟨c, hc⟩ : ∃ c, checkS r = c := ⟨_, rfl⟩; have HK : Sl _ := ⟨hc⟩; go_enter Tryz.func85, Tryz.ntmps85; go_wp2_with fail; clear x0 x1 x2 x3 x4 x5 x6; generalize (w.alloc (.cells #[.int .i64 r.n0, .int .i64 r.n1, .int .i64 r.n2, .int .i64 r.n3, .int .i64 r.n4, .int .i64 r.n5, .int .i64 r.d] 69)).alloc (.cells #[.int .i64 0, .int .i64 0, .int .i64 0, .int .i64 0, .int .i64 0, .int .i64 0, .int .i64 0] 69) = w0 at *
  refine HTM.out.mono ?_; rintro e w1 ⟨⟨j1, j2⟩, hb1⟩; have hB := HU.out.1.trans (hb1.mono HU.out.1.size); have Xa := HU.out.2.1.below hb1 HU.out.2.1.lt; have Z := HU.out.2.2.below hb1 HU.out.2.2.lt; rw [← HCE.out] at Xa; have HW : Sl _ := ⟨And.intro hB (And.intro Xa Z)⟩; clear hB Xa Z hb1 HU HTM
  by_cases h0 : c = 0
  · have hc0 : checkS r = 0 := HK.out.trans h0; obtain ⟨A, n, cc, rfl, hTR⟩ := j2 hc0; obtain ⟨hd, hin, _⟩ := checkS_ok hc0; have HF : Sl _ := ⟨Floor_any A n cc (termsN r 6) r.d 1 (sgR r 1) w1 hTR (okT_terms hin) hd.1 hd.2 (by decide) (by decide) (fun m h1 h2 => sign_any _ (ok6_atM hin ⟨by decide, by decide⟩ hd ⟨h1, h2⟩))⟩; have hgood := foldR_good hc0 hk1 hk2; have HKO : Sl _ := ⟨And.intro hgood (And.intro (HKK.out hc0) hc0)⟩
    have hkd : (k * r.d).natAbs ≤ 1000000000000 * 1000 := by
      rw [Int.natAbs_mul]; exact Nat.mul_le_mul (by omega) (by omega)
    have hn0 := hin 0 (by decide); obtain ⟨y, hy⟩ : ∃ y, k * r.d = y := ⟨_, rfl⟩; rw [hy] at hkd; have hn01 : -100000 ≤ r.n0 := hn0.1; have hn02 : r.n0 ≤ 100000 := hn0.2; obtain ⟨x, hx⟩ : ∃ x, r.n0 - y = x := ⟨_, rfl⟩; have hwy : IntKind.i64.wrap y = y := (by rw [IntKind.wrap_i64]; omega); have hwx : IntKind.i64.wrap x = x := (by rw [IntKind.wrap_i64]; omega); have hwk : IntKind.i64.wrap k = k := (by rw [IntKind.wrap_i64]; omega); obtain ⟨q, hq⟩ : ∃ q, foldR r k = q := ⟨_, rfl⟩
    have hqn : (#[.int .i64 x, .int .i64 r.n1, .int .i64 r.n2, .int .i64 r.n3, .int .i64 r.n4, .int .i64 r.n5] : Array Value) = q.nums := by
      rw [← hq, ← hx, ← hy]; rfl
    have hqd : q.d = r.d := (by rw [← hq]; rfl); have hM := fun W : World => rmade_big (foldR r k) W HKO.out.1.1 HKO.out.1.2.1 HKO.out.1.2.2
    have hfo : (madeS (foldR r k)).2 = 0 → s = ((madeS (foldR r k)).1, k, 0) := fun h => by rw [← HSS.out]; exact foldS_ok hc0 h
    have hfe : (madeS (foldR r k)).2 ≠ 0 → s = (RVzero, 0, (madeS (foldR r k)).2) ∧ (madeS (foldR r k)).1 = RVzero := fun h => ⟨by rw [← HSS.out]; exact foldS_out hc0 h, madeS_zero h⟩
    obtain ⟨⟨p, ep⟩, hp⟩ : ∃ z, madeS (foldR r k) = z := ⟨_, rfl⟩; rw [hp] at hM hfo hfe; rw [hq] at hM; rw [← hqn, hqd] at hM; simp only [] at hfo hfe; unfold OfRes RV.cells at hM; have HM : Sl _ := ⟨hM⟩; have HFO : Sl _ := ⟨And.intro hfo hfe⟩; clear hc j1 j2 hTR hin hgood hkd hn0 hM hfo hfe hp hq hqn hqd HSS HKK hn01 hn02 HK; subst h0; go_wp2_with fail; refine HF.out.mono ?_; rintro e w2 ⟨hfr, hb2⟩; obtain ⟨b, er, rfl⟩ := HKO.out.2.1 e hfr; clear hfr; have hB := HW.out.1.trans (hb2.mono HW.out.1.size); have Xa := HW.out.2.1.below hb2 HW.out.2.1.lt; have Z := HW.out.2.2.below hb2 HW.out.2.2.lt; rw [HCE.out] at Xa; have x0 := Xa.cell 0; have x6 := Xa.cell 6; simp at x0 x6; have f0 := Xa.frozen 0; have Xs : Blk (w2.setCell ⟨w.heap.size, 0, none⟩ (.int .i64 x)) w.heap.size 69 #[.int .i64 x, .int .i64 r.n1, .int .i64 r.n2, .int .i64 r.n3, .int .i64 r.n4, .int .i64 r.n5, .int .i64 r.d] := Xa.set_ 0 (.int .i64 x); have HX : Sl _ := ⟨And.intro (hB.setCell (p := ⟨w.heap.size, 0, none⟩) (Nat.le_refl _) (.int .i64 x)) (And.intro Xs (Z.far (p := ⟨w.heap.size, 0, none⟩) (by show w.heap.size + 1 ≠ w.heap.size; omega) (.int .i64 x)))⟩; clear hB Xa Z Xs hb2 HW HF
    go_upto_region 6 with (fail)
    generalize w2.setCell ⟨w.heap.size, 0, none⟩ (.int .i64 x) = w3 at *
    clear x0 x6 f0; have x0 := HX.out.2.1.cell 0; have x1 := HX.out.2.1.cell 1; have x2 := HX.out.2.1.cell 2; have x3 := HX.out.2.1.cell 3; have x4 := HX.out.2.1.cell 4; have x5 := HX.out.2.1.cell 5; have x6 := HX.out.2.1.cell 6; simp at x0 x1 x2 x3 x4 x5 x6; go_wp2_with fail; clear x0 x1 x2 x3 x4 x5 x6; refine (HM.out _).mono ?_; rintro e w4 ⟨rfl, hb4⟩; have Z := HX.out.2.2.below hb4 HX.out.2.2.lt; have d0 := Z.cell 0; have d1 := Z.cell 1; have d2 := Z.cell 2; have d3 := Z.cell 3; have d4 := Z.cell 4; have d5 := Z.cell 5; have d6 := Z.cell 6; simp at d0 d1 d2 d3 d4 d5 d6; have f0 := Z.frozen 0; have f1 := Z.frozen 1; have f2 := Z.frozen 2; have f3 := Z.frozen 3; have f4 := Z.frozen 4; have f5 := Z.frozen 5; have f6 := Z.frozen 6; have HS : Sl _ := ⟨And.intro (below_seven (HX.out.1.trans (hb4.mono HX.out.1.size)) (Nat.le_succ _) (.int .i64 p.n0) (.int .i64 p.n1) (.int .i64 p.n2) (.int .i64 p.n3) (.int .i64 p.n4) (.int .i64 p.n5) (.int .i64 p.d)) (Z.seven (.int .i64 p.n0) (.int .i64 p.n1) (.int .i64 p.n2) (.int .i64 p.n3) (.int .i64 p.n4) (.int .i64 p.n5) (.int .i64 p.d))⟩; clear Z hb4 HX HM
    go_upto_region 7 with (fail)
    generalize ((((((w4.setCell ⟨w.heap.size + 1, 0, none⟩ (.int .i64 p.n0)).setCell ⟨w.heap.size + 1, 1, none⟩ (.int .i64 p.n1)).setCell ⟨w.heap.size + 1, 2, none⟩ (.int .i64 p.n2)).setCell ⟨w.heap.size + 1, 3, none⟩ (.int .i64 p.n3)).setCell ⟨w.heap.size + 1, 4, none⟩ (.int .i64 p.n4)).setCell ⟨w.heap.size + 1, 5, none⟩ (.int .i64 p.n5)).setCell ⟨w.heap.size + 1, 6, none⟩ (.int .i64 p.d) = w5 at *
    clear d0 d1 d2 d3 d4 d5 d6 f0 f1 f2 f3 f4 f5 f6; have d0 := HS.out.2.cell 0; have d1 := HS.out.2.cell 1; have d2 := HS.out.2.cell 2; have d3 := HS.out.2.cell 3; have d4 := HS.out.2.cell 4; have d5 := HS.out.2.cell 5; have d6 := HS.out.2.cell 6; simp at d0 d1 d2 d3 d4 d5 d6; have f0 := HS.out.2.frozen 0; have f1 := HS.out.2.frozen 1; have f2 := HS.out.2.frozen 2; have f3 := HS.out.2.frozen 3; have f4 := HS.out.2.frozen 4; have f5 := HS.out.2.frozen 5; have f6 := HS.out.2.frozen 6
    by_cases he : ep = 0
    · subst he; have HZR : Sl _ := ⟨HFO.out.1 rfl⟩; go_wp2_with fail; refine bodyPost_ret (results_rowR3 rfl _ _ (w.heap.size + 1) _ _ _ rfl (HS.out.2.seven _ _ _ _ _ _ _) Tryz.underlying69 rfl (by kernel_rfl)) rfl ?_; exact ⟨by rw [HZR.out]; rfl, below_seven HS.out.1 (Nat.le_succ _) _ _ _ _ _ _ _⟩
    · have hez : (ep != 0) = true := (by rw [bne_iff_ne]; exact he); have HZR : Sl _ := ⟨(HFO.out.2 he).1⟩; go_wp2_with fail; refine bodyPost_ret (results_rowR3 rfl _ _ (w.heap.size + 1) _ _ _ rfl (HS.out.2.seven _ _ _ _ _ _ _) Tryz.underlying69 rfl (by kernel_rfl)) rfl ?_; exact ⟨by rw [HZR.out]; rfl, below_seven HS.out.1 (Nat.le_succ _) _ _ _ _ _ _ _⟩
  · have hc0 : checkS r ≠ 0 := fun h => h0 (HK.out.symm.trans h)
    obtain rfl := j1 hc0; rw [HK.out]; have HZR : Sl (s = (RVzero, 0, c)) := ⟨by rw [← HSS.out, foldS_err hc0, HK.out]⟩; have hcz : (c != 0) = true := (by rw [bne_iff_ne]; exact h0); clear hc hc0 j1 j2 HKK; have d0 := HW.out.2.2.cell 0; have d1 := HW.out.2.2.cell 1; have d2 := HW.out.2.2.cell 2; have d3 := HW.out.2.2.cell 3; have d4 := HW.out.2.2.cell 4; have d5 := HW.out.2.2.cell 5; have d6 := HW.out.2.2.cell 6; simp at d0 d1 d2 d3 d4 d5 d6; have f0 := HW.out.2.2.frozen 0; have f1 := HW.out.2.2.frozen 1; have f2 := HW.out.2.2.frozen 2; have f3 := HW.out.2.2.frozen 3; have f4 := HW.out.2.2.frozen 4; have f5 := HW.out.2.2.frozen 5; have f6 := HW.out.2.2.frozen 6; go_wp2_with fail; refine bodyPost_ret (results_rowR3 rfl _ _ (w.heap.size + 1) _ _ _ rfl (HW.out.2.2.seven _ _ _ _ _ _ _) Tryz.underlying69 rfl (by kernel_rfl)) rfl ?_; exact ⟨by rw [HZR.out]; rfl, below_seven HW.out.1 (Nat.le_succ _) _ _ _ _ _ _ _⟩
end Go.Proofs.YtgmpipimancnhaaGreatDoor
namespace Go.Proofs.YtgmpipimancnhaaGreatDoor
set_option linter.unusedSimpArgs false
open Go.RowKit
set_option linter.unusedVariables false
end Go.Proofs.YtgmpipimancnhaaGreatDoor
namespace Go.Proofs.YtgmpipimancnhaaGreatDoor
set_option linter.unusedSimpArgs false
open Go.RowKit
set_option linter.unusedVariables false
set_option maxHeartbeats 3200000 in
set_option maxRecDepth 100000 in
theorem vMul_any (a b : RV) (w : World) : Calls Tryz.prog 86 #[.agg a.cells, .agg b.cells] w fun e w' => OfRes e (joinS a b 1) ∧ Below w.heap.size w w' := by
  have hu := (((Below.refl w.heap.size w).alloc (Nat.le_refl _) (.cells a.cells 69)).alloc (by simp) (.cells b.cells 69)).alloc (by simp; omega) (.cells RVzero.cells 69); have X0 := ((Blk.new w 69 a.cells).alloc (.cells b.cells 69)).alloc (.cells RVzero.cells 69); have X1 := (Blk.new (w.alloc (.cells a.cells 69)) 69 b.cells).alloc (.cells RVzero.cells 69); have X2 := Blk.new ((w.alloc (.cells a.cells 69)).alloc (.cells b.cells 69)) 69 RVzero.cells; rw [show (w.alloc (.cells a.cells 69)).heap.size = w.heap.size + 1 by simp] at X1; rw [show ((w.alloc (.cells a.cells 69)).alloc (.cells b.cells 69)).heap.size = w.heap.size + 1 + 1 by simp] at X2; have hJ := fun W : World => rjoined_any a b (1) (by decide) W
  obtain ⟨⟨r, er⟩, hs⟩ : ∃ s, joinS a b (1) = s := ⟨_, rfl⟩; rw [hs] at hJ ⊢; clear hs; unfold OfRes at hJ; rw [RVzero_cells] at hu X0 X1 X2; unfold RV.cells at *
  simp only [] at hJ; have HJ : Sl _ := ⟨hJ⟩; have x0 := X0.cell 0; have x1 := X0.cell 1; have x2 := X0.cell 2; have x3 := X0.cell 3; have x4 := X0.cell 4; have x5 := X0.cell 5; have x6 := X0.cell 6; simp at x0 x1 x2 x3 x4 x5 x6; have y0 := X1.cell 0; have y1 := X1.cell 1; have y2 := X1.cell 2; have y3 := X1.cell 3; have y4 := X1.cell 4; have y5 := X1.cell 5; have y6 := X1.cell 6; simp at y0 y1 y2 y3 y4 y5 y6; have HU : Sl _ := ⟨And.intro hu X2⟩; clear hu X0 X1 X2 hJ; go_enter Tryz.func86, Tryz.ntmps86; go_wp2_with fail; clear x0 x1 x2 x3 x4 x5 x6 y0 y1 y2 y3 y4 y5 y6; refine (HJ.out _).mono ?_; rintro e w3 ⟨rfl, hb3⟩; have hB := HU.out.1.trans (hb3.mono HU.out.1.size); have Z := HU.out.2.below hb3 HU.out.2.lt; have d0 := Z.cell 0; have d1 := Z.cell 1; have d2 := Z.cell 2; have d3 := Z.cell 3; have d4 := Z.cell 4; have d5 := Z.cell 5; have d6 := Z.cell 6; simp at d0 d1 d2 d3 d4 d5 d6; have f0 := Z.frozen 0; have f1 := Z.frozen 1; have f2 := Z.frozen 2; have f3 := Z.frozen 3; have f4 := Z.frozen 4; have f5 := Z.frozen 5; have f6 := Z.frozen 6; have HFIN : Sl _ := ⟨And.intro hB Z⟩; clear hB Z HJ hb3; go_wp2_with fail; refine bodyPost_ret (results_rowR rfl _ _ (w.heap.size + 1 + 1) _ _ _ rfl (HFIN.out.2.seven _ _ _ _ _ _ _) Tryz.underlying69 rfl (by kernel_rfl)) rfl ?_; exact ⟨rfl, below_seven HFIN.out.1 (by omega) _ _ _ _ _ _ _⟩
set_option maxHeartbeats 3200000 in
set_option maxRecDepth 100000 in
theorem vDiv_any (a b : RV) (w : World) : Calls Tryz.prog 90 #[.agg a.cells, .agg b.cells] w fun e w' => OfRes e (joinS a b (-1)) ∧ Below w.heap.size w w' := by
  have hu := (((Below.refl w.heap.size w).alloc (Nat.le_refl _) (.cells a.cells 69)).alloc (by simp) (.cells b.cells 69)).alloc (by simp; omega) (.cells RVzero.cells 69); have X0 := ((Blk.new w 69 a.cells).alloc (.cells b.cells 69)).alloc (.cells RVzero.cells 69); have X1 := (Blk.new (w.alloc (.cells a.cells 69)) 69 b.cells).alloc (.cells RVzero.cells 69); have X2 := Blk.new ((w.alloc (.cells a.cells 69)).alloc (.cells b.cells 69)) 69 RVzero.cells; rw [show (w.alloc (.cells a.cells 69)).heap.size = w.heap.size + 1 by simp] at X1; rw [show ((w.alloc (.cells a.cells 69)).alloc (.cells b.cells 69)).heap.size = w.heap.size + 1 + 1 by simp] at X2; have hJ := fun W : World => rjoined_any a b (-1) (by decide) W
  obtain ⟨⟨r, er⟩, hs⟩ : ∃ s, joinS a b (-1) = s := ⟨_, rfl⟩; rw [hs] at hJ ⊢; clear hs; unfold OfRes at hJ; rw [RVzero_cells] at hu X0 X1 X2; unfold RV.cells at *
  simp only [] at hJ; have HJ : Sl _ := ⟨hJ⟩; have x0 := X0.cell 0; have x1 := X0.cell 1; have x2 := X0.cell 2; have x3 := X0.cell 3; have x4 := X0.cell 4; have x5 := X0.cell 5; have x6 := X0.cell 6; simp at x0 x1 x2 x3 x4 x5 x6; have y0 := X1.cell 0; have y1 := X1.cell 1; have y2 := X1.cell 2; have y3 := X1.cell 3; have y4 := X1.cell 4; have y5 := X1.cell 5; have y6 := X1.cell 6; simp at y0 y1 y2 y3 y4 y5 y6; have HU : Sl _ := ⟨And.intro hu X2⟩; clear hu X0 X1 X2 hJ; go_enter Tryz.func90, Tryz.ntmps90; go_wp2_with fail; clear x0 x1 x2 x3 x4 x5 x6 y0 y1 y2 y3 y4 y5 y6; refine (HJ.out _).mono ?_; rintro e w3 ⟨rfl, hb3⟩; have hB := HU.out.1.trans (hb3.mono HU.out.1.size); have Z := HU.out.2.below hb3 HU.out.2.lt; have d0 := Z.cell 0; have d1 := Z.cell 1; have d2 := Z.cell 2; have d3 := Z.cell 3; have d4 := Z.cell 4; have d5 := Z.cell 5; have d6 := Z.cell 6; simp at d0 d1 d2 d3 d4 d5 d6; have f0 := Z.frozen 0; have f1 := Z.frozen 1; have f2 := Z.frozen 2; have f3 := Z.frozen 3; have f4 := Z.frozen 4; have f5 := Z.frozen 5; have f6 := Z.frozen 6; have HFIN : Sl _ := ⟨And.intro hB Z⟩; clear hB Z HJ hb3; go_wp2_with fail; refine bodyPost_ret (results_rowR rfl _ _ (w.heap.size + 1 + 1) _ _ _ rfl (HFIN.out.2.seven _ _ _ _ _ _ _) Tryz.underlying69 rfl (by kernel_rfl)) rfl ?_; exact ⟨rfl, below_seven HFIN.out.1 (by omega) _ _ _ _ _ _ _⟩
end Go.Proofs.YtgmpipimancnhaaGreatDoor
namespace Go.Proofs.YtgmpipimancnhaaGreatDoor
set_option linter.unusedSimpArgs false
set_option linter.unusedVariables false
theorem rmul_le {a b c d : Rat} (h1 : a ≤ b) (h2 : c ≤ d) (hc : 0 < c) (hb : 0 < b) : a * c ≤ b * d :=
  Rat.le_trans (Rat.mul_le_mul_of_nonneg_right h1 (Rat.le_of_lt hc)) (Rat.mul_le_mul_of_nonneg_left h2 (Rat.le_of_lt hb))
theorem rlt_of_le {a b c : Rat} (h1 : a < b) (h2 : b ≤ c) : a < c := Rat.not_le.1 fun h => Rat.not_le.2 h1 (Rat.le_trans h2 h)
theorem rlt_of_lt {a b c : Rat} (h1 : a ≤ b) (h2 : b < c) : a < c := Rat.not_le.1 fun h => Rat.not_le.2 h2 (Rat.le_trans h h1)
theorem rmul_lt {a b c d : Rat} (h1 : a < b) (h2 : c ≤ d) (hc : 0 < c) (hb : 0 < b) : a * c < b * d :=
  rlt_of_le (Rat.mul_lt_mul_of_pos_right h1 hc) (Rat.mul_le_mul_of_nonneg_left h2 (Rat.le_of_lt hb))
theorem rcancel {a b c : Rat} (hc : 0 < c) (h : a * c ≤ b * c) : a ≤ b := Rat.not_lt.1 fun hl => Rat.not_le.2 (Rat.mul_lt_mul_of_pos_right hl hc) h
theorem rcancel_lt {a b c : Rat} (hc : 0 < c) (h : a * c < b * c) : a < b := Rat.not_le.1 fun hl => Rat.not_lt.2 (Rat.mul_le_mul_of_nonneg_right hl (Rat.le_of_lt hc)) h
theorem two_ne : (2 : Rat) ≠ 0 := by decide
theorem two_pos : (0 : Rat) < 2 := by decide
theorem one_lt_two_pow : ∀ n : Nat, (1 : Rat) < 2 ^ (((n + 1 : Nat)) : Int)
  | 0 => by rw [Rat.zpow_natCast]; decide
  | n+1 => by
    have ih := one_lt_two_pow n; rw [show (((n + 1 + 1 : Nat)) : Int) = ((n + 1 : Nat) : Int) + 1 by omega, Rat.zpow_add two_ne, Rat.zpow_one]; have : (1 : Rat) * 1 < 2 ^ (((n + 1 : Nat)) : Int) * 2 := rmul_lt ih (by decide) (by decide) (Rat.zpow_pos two_pos)
    rwa [Rat.mul_one] at this
theorem two_lt {x y : Int} (h : x < y) : (2 : Rat) ^ x < 2 ^ y := by
  obtain ⟨n, hn⟩ : ∃ n : Nat, y = x + ((n + 1 : Nat) : Int) := ⟨(y - x - 1).toNat, by omega⟩; have h1 := one_lt_two_pow n; have h2 := Rat.mul_lt_mul_of_pos_left h1 (Rat.zpow_pos (n := x) two_pos); rw [hn, Rat.zpow_add two_ne]
  rwa [Rat.mul_one] at h2
theorem two_le {x y : Int} (h : x ≤ y) : (2 : Rat) ^ x ≤ 2 ^ y := by
  rcases Int.lt_or_eq_of_le h with h | rfl
  · exact Rat.le_of_lt (two_lt h)
  · exact Rat.le_refl
def pv (f : Nat → Int) : Nat → Rat
  | 0 => 1
  | i+1 => pv f i * ((prime i : Nat) : Rat) ^ (f i)
theorem prime_pos {i : Nat} (hi : i < 6) : (0 : Rat) < ((prime i : Nat) : Rat) := by
  have := (prime_two hi).1; exact Rat.natCast_pos.2 (by omega)
theorem pv_pos (f : Nat → Int) : ∀ i, i ≤ 6 → 0 < pv f i
  | 0, _ => by unfold pv; decide
  | i+1, hi => Rat.mul_pos (pv_pos f i (by omega)) (Rat.zpow_pos (prime_pos (by omega)))
theorem pv_congr {f g : Nat → Int} : ∀ i, (∀ j, j < i → f j = g j) → pv f i = pv g i
  | 0, _ => rfl
  | i+1, h => by rw [pv, pv, pv_congr i fun j hj => h j (by omega), h i (by omega)]
theorem pv_add (f g : Nat → Int) : ∀ i, i ≤ 6 → pv (fun j => f j + g j) i = pv f i * pv g i
  | 0, _ => by unfold pv; rw [Rat.mul_one]
  | i+1, hi => by
    rw [pv, pv, pv, pv_add f g i (by omega), Rat.zpow_add (Rat.ne_of_gt (prime_pos (by omega)))]; grind
theorem pv_zero : ∀ i, pv (fun _ => 0) i = 1
  | 0 => rfl
  | i+1 => by rw [pv, pv_zero i, Rat.zpow_zero, Rat.mul_one]
def TT (x : Int) (f : Nat → Int) : Prop := (2 : Rat) ^ x ≤ pv f 6
def SS (x : Int) (f : Nat → Int) : Prop := pv f 6 < (2 : Rat) ^ x
def QQ (x : Int) (f : Nat → Int) : Prop := pv f 6 = (2 : Rat) ^ x
theorem not_TT {x : Int} {f : Nat → Int} : ¬ TT x f ↔ SS x f := Rat.not_le
theorem not_SS {x : Int} {f : Nat → Int} : ¬ SS x f ↔ TT x f := Rat.not_lt
theorem TT.lt {x y : Int} {f : Nat → Int} (h : TT x f) (h2 : SS y f) : x < y := by
  rcases Int.lt_or_le x y with h0 | h0
  · exact h0
  · exact absurd (rlt_of_le h2 (two_le h0)) (Rat.not_lt.2 h)
theorem TT.add {x y : Int} {f g : Nat → Int} (h1 : TT x f) (h2 : TT y g) : TT (x + y) (fun j => f j + g j) := by
  unfold TT; rw [pv_add f g 6 (Nat.le_refl _), Rat.zpow_add two_ne]; exact rmul_le h1 h2 (Rat.zpow_pos two_pos) (pv_pos f 6 (Nat.le_refl _))
theorem SS.add {x y : Int} {f g : Nat → Int} (h1 : SS x f) (h2 : SS y g) : SS (x + y) (fun j => f j + g j) := by
  unfold SS; rw [pv_add f g 6 (Nat.le_refl _), Rat.zpow_add two_ne]; exact rmul_lt h1 (Rat.le_of_lt h2) (pv_pos g 6 (Nat.le_refl _)) (Rat.zpow_pos two_pos)
theorem QQ.add {x y : Int} {f g : Nat → Int} (h1 : QQ x f) (h2 : QQ y g) : QQ (x + y) (fun j => f j + g j) := by
  unfold QQ at *
  rw [pv_add f g 6 (Nat.le_refl _), Rat.zpow_add two_ne, h1, h2]
theorem TT.congr {x : Int} {f g : Nat → Int} (h : TT x f) (e : ∀ j, j < 6 → f j = g j) : TT x g := by unfold TT at *; rwa [← pv_congr 6 e]
theorem SS.congr {x : Int} {f g : Nat → Int} (h : SS x f) (e : ∀ j, j < 6 → f j = g j) : SS x g := by unfold SS at *; rwa [← pv_congr 6 e]
theorem QQ.congr {x : Int} {f g : Nat → Int} (h : QQ x f) (e : ∀ j, j < 6 → f j = g j) : QQ x g := by unfold QQ at *; rwa [← pv_congr 6 e]
theorem TT.scale {x : Int} {f : Nat → Int} (h : TT x f) : ∀ n : Nat, TT (x * n) (fun j => f j * n)
  | 0 => by
    unfold TT; simp only [Int.natCast_zero, Int.mul_zero]; rw [pv_zero, Rat.zpow_zero]; exact Rat.le_refl
  | n+1 => by
    have := (TT.scale h n).add h; rw [show x * ((n + 1 : Nat) : Int) = x * n + x by rw [Int.natCast_succ, Int.mul_add, Int.mul_one]]; exact this.congr fun j _ => by rw [Int.natCast_succ, Int.mul_add, Int.mul_one]
theorem SS.scale {x : Int} {f : Nat → Int} (h : SS x f) : ∀ n : Nat, SS (x * (n + 1 : Nat)) (fun j => f j * (n + 1 : Nat))
  | 0 => by simpa using h
  | n+1 => by
    have := (SS.scale h n).add h; rw [show x * ((n + 1 + 1 : Nat) : Int) = x * ((n + 1 : Nat) : Int) + x by rw [Int.natCast_succ (n + 1), Int.mul_add, Int.mul_one]]; exact this.congr fun j _ => by rw [Int.natCast_succ (n + 1), Int.mul_add, Int.mul_one]
theorem QQ.scale {x : Int} {f : Nat → Int} (h : QQ x f) : ∀ n : Nat, QQ (x * n) (fun j => f j * n)
  | 0 => by
    unfold QQ; simp only [Int.natCast_zero, Int.mul_zero]; rw [pv_zero, Rat.zpow_zero]
  | n+1 => by
    have := (QQ.scale h n).add h; rw [show x * ((n + 1 : Nat) : Int) = x * n + x by rw [Int.natCast_succ, Int.mul_add, Int.mul_one]]; exact this.congr fun j _ => by rw [Int.natCast_succ, Int.mul_add, Int.mul_one]
theorem SS.scale' {x : Int} {f : Nat → Int} (h : SS x f) {n : Nat} (hn : 0 < n) : SS (x * n) (fun j => f j * n) := by
  obtain ⟨m, rfl⟩ : ∃ m, n = m + 1 := ⟨n - 1, by omega⟩; exact h.scale m
theorem TT.unscale {x : Int} {f : Nat → Int} {n : Nat} (hn : 0 < n) (h : TT (x * n) (fun j => f j * n)) : TT x f :=
  not_SS.1 fun hs => not_SS.2 h (hs.scale' hn)
theorem SS.unscale {x : Int} {f : Nat → Int} {n : Nat} (h : SS (x * n) (fun j => f j * n)) : SS x f :=
  not_TT.1 fun ht => not_TT.2 h (ht.scale n)
def GG (x : Int) (f : Nat → Int) : Prop := (2 : Rat) ^ x < pv f 6
theorem GG.add {x y : Int} {f g : Nat → Int} (h1 : GG x f) (h2 : GG y g) : GG (x + y) (fun j => f j + g j) := by
  unfold GG; rw [pv_add f g 6 (Nat.le_refl _), Rat.zpow_add two_ne]; exact rmul_lt h1 (Rat.le_of_lt h2) (Rat.zpow_pos two_pos) (pv_pos f 6 (Nat.le_refl _))
theorem GG.congr {x : Int} {f g : Nat → Int} (h : GG x f) (e : ∀ j, j < 6 → f j = g j) : GG x g := by unfold GG at *; rwa [← pv_congr 6 e]
theorem GG.scale {x : Int} {f : Nat → Int} (h : GG x f) : ∀ n : Nat, GG (x * (n + 1 : Nat)) (fun j => f j * (n + 1 : Nat))
  | 0 => by simpa using h
  | n+1 => by
    have := (GG.scale h n).add h; rw [show x * ((n + 1 + 1 : Nat) : Int) = x * ((n + 1 : Nat) : Int) + x by rw [Int.natCast_succ (n + 1), Int.mul_add, Int.mul_one]]; exact this.congr fun j _ => by rw [Int.natCast_succ (n + 1), Int.mul_add, Int.mul_one]
theorem QQ.unscale {x : Int} {f : Nat → Int} {n : Nat} (hn : 0 < n) (h : QQ (x * n) (fun j => f j * n)) : QQ x f := by
  obtain ⟨m, rfl⟩ : ∃ m, n = m + 1 := ⟨n - 1, by omega⟩; have hT : TT x f := TT.unscale hn (show (2 : Rat) ^ _ ≤ _ by rw [h]; exact Rat.le_refl); refine Rat.le_antisymm (Rat.not_lt.1 fun hg => ?_) hT; have h2 : GG (x * ((m + 1 : Nat) : Int)) (fun j => f j * ((m + 1 : Nat) : Int)) := GG.scale hg m; unfold GG at h2; rw [h] at h2; exact Rat.lt_irrefl h2
def vl : List (Nat × Int) → Rat
  | [] => 1
  | (n, k) :: l => ((n : Nat) : Rat) ^ k * vl l
theorem vl_append : ∀ l m : List (Nat × Int), vl (l ++ m) = vl l * vl m
  | [], m => by rw [List.nil_append, vl]; grind
  | (n, k) :: l, m => by rw [List.cons_append, vl, vl, vl_append l m]; grind
theorem vl_up : ∀ {l : List (Nat × Int)}, (∀ x ∈ l, 0 < x.1) → vl l * ((down l : Nat) : Rat) = ((up l : Nat) : Rat)
  | [], _ => by unfold vl up down; rw [Rat.one_mul]
  | (n, k) :: l, h => by
    have ih := vl_up fun x hx => h x (List.mem_cons_of_mem _ hx)
    have hn : ((n : Nat) : Rat) ≠ 0 := Rat.ne_of_gt (Rat.natCast_pos.2 (h _ List.mem_cons_self)); rw [vl, up, down]
    split
    · rename_i h0; rw [Rat.natCast_mul, Rat.natCast_pow, ← Rat.zpow_natCast, show ((k.natAbs : Nat) : Int) = k by omega, ← ih]; grind
    · rename_i h0; rw [Rat.natCast_mul, Rat.natCast_pow, ← Rat.zpow_natCast, ← ih]
      have e : ((n : Nat) : Rat) ^ k * ((n : Nat) : Rat) ^ ((k.natAbs : Nat) : Int) = 1 := by
        rw [← Rat.zpow_add hn, show k + ((k.natAbs : Nat) : Int) = 0 by omega, Rat.zpow_zero]
      generalize ((n : Nat) : Rat) ^ k = a at *
      generalize ((n : Nat) : Rat) ^ ((k.natAbs : Nat) : Int) = b at *
      grind
theorem down_pos : ∀ {l : List (Nat × Int)}, (∀ x ∈ l, 0 < x.1) → 0 < down l
  | [], _ => by unfold down; decide
  | (n, k) :: l, h => by
    have ih := down_pos fun x hx => h x (List.mem_cons_of_mem _ hx)
    rw [down]
    split
    · exact ih
    · exact Nat.mul_pos (Nat.pow_pos (h _ List.mem_cons_self)) ih
theorem sgn_vl {l : List (Nat × Int)} (h : ∀ x ∈ l, 0 < x.1) : (0 ≤ sgn l ↔ 1 ≤ vl l) ∧ (sgn l ≤ 0 ↔ vl l ≤ 1) := by
  have h1 := vl_up h; have hd : (0 : Rat) < ((down l : Nat) : Rat) := Rat.natCast_pos.2 (down_pos h)
  have e1 : (1 : Rat) ≤ vl l ↔ down l ≤ up l := by
    rw [← Rat.natCast_le_natCast, ← h1]; exact ⟨fun g => by have := Rat.mul_le_mul_of_nonneg_right g (Rat.le_of_lt hd); rwa [Rat.one_mul] at this, fun g => rcancel hd (by rwa [Rat.one_mul])⟩
  have e2 : vl l ≤ 1 ↔ up l ≤ down l := by
    rw [← Rat.natCast_le_natCast, ← h1]; exact ⟨fun g => by have := Rat.mul_le_mul_of_nonneg_right g (Rat.le_of_lt hd); rwa [Rat.one_mul] at this, fun g => rcancel hd (by rwa [Rat.one_mul])⟩
  rw [e1, e2]; unfold sgn; constructor
  · split
    · exact ⟨fun _ => by omega, fun _ => by decide⟩
    · split
      · exact ⟨fun g => absurd g (by decide), fun g => by omega⟩
      · exact ⟨fun _ => by omega, fun _ => by decide⟩
  · split
    · exact ⟨fun g => absurd g (by decide), fun g => by omega⟩
    · split
      · exact ⟨fun _ => by omega, fun _ => by decide⟩
      · exact ⟨fun _ => by omega, fun _ => by decide⟩
end Go.Proofs.YtgmpipimancnhaaGreatDoor
namespace Go.Proofs.YtgmpipimancnhaaGreatDoor
set_option linter.unusedSimpArgs false
set_option linter.unusedVariables false
theorem vl_scaled (r : RV) (s : Int) : ∀ i, vl (scaled (termsN r i) s) = pv (fun j => r.num j * s) i
  | 0 => rfl
  | i+1 => by
    rw [termsN, pv, ← vl_scaled r s i]
    split
    · rename_i h; rw [h, Int.zero_mul, Rat.zpow_zero, Rat.mul_one]
    · rw [scaled_snoc, vl_append, vl, vl, Rat.mul_one]
theorem two_inv (x : Int) : (2 : Rat) ^ (-x) * 2 ^ x = 1 := by rw [← Rat.zpow_add two_ne, show -x + x = 0 by omega, Rat.zpow_zero]
theorem atM_pos (r : RV) (s den m : Int) : ∀ x ∈ atM (termsN r 6) s den m, 0 < x.1 := by
  intro x hx; unfold atM at hx; rw [List.mem_append] at hx; rcases hx with hx | hx
  · unfold scaled at hx; obtain ⟨y, hy, rfl⟩ := List.mem_map.1 hx; obtain ⟨j, hj, rfl⟩ := mem_termsN r 6 (Nat.le_refl _) y hy; have := (prime_two hj).1; show 0 < prime j; omega
  · simp only [List.mem_singleton] at hx; subst hx; show 0 < 2
    decide
theorem atM_vl (r : RV) (s den m : Int) : vl (atM (termsN r 6) s den m) * 2 ^ (m * den) = pv (fun j => r.num j * s) 6 := by
  unfold atM; rw [vl_append, vl_scaled, vl, vl, Rat.mul_one, Int.neg_mul]; have := two_inv (m * den); generalize pv (fun j => r.num j * s) 6 = p at *
  rw [Rat.mul_assoc]; show p * ((2 : Rat) ^ (-(m * den)) * 2 ^ (m * den)) = p; rw [this, Rat.mul_one]
theorem sgM_TT (r : RV) (s den m : Int) : 0 ≤ sgn (atM (termsN r 6) s den m) ↔ TT (m * den) (fun j => r.num j * s) := by
  rw [(sgn_vl (atM_pos r s den m)).1]; unfold TT; rw [← atM_vl r s den m]; have hp : (0 : Rat) < 2 ^ (m * den) := Rat.zpow_pos two_pos; exact ⟨fun g => by have := Rat.mul_le_mul_of_nonneg_right g (Rat.le_of_lt hp); rwa [Rat.one_mul] at this, fun g => rcancel hp (by rwa [Rat.one_mul])⟩
theorem sgM_SS (r : RV) (s den m : Int) : sgn (atM (termsN r 6) s den m) < 0 ↔ SS (m * den) (fun j => r.num j * s) := by
  rw [← not_TT, ← sgM_TT]; omega
theorem sgn_eq {l : List (Nat × Int)} : up l = down l ↔ sgn l = 0 := by
  refine ⟨sgn_one, fun h => ?_⟩; unfold sgn at h
  split at h
  · exact absurd h (by decide)
  · split at h
    · exact absurd h (by decide)
    · omega
theorem sgM_QQ (r : RV) (s den m : Int) : up (atM (termsN r 6) s den m) = down (atM (termsN r 6) s den m) ↔ QQ (m * den) (fun j => r.num j * s) := by
  rw [sgn_eq]; have h := sgn_vl (atM_pos r s den m); have hv := atM_vl r s den m
  have e : sgn (atM (termsN r 6) s den m) = 0 ↔ vl (atM (termsN r 6) s den m) = 1 := by
    constructor
    · intro g; exact Rat.le_antisymm (h.2.1 (by omega)) (h.1.1 (by omega))
    · intro g; have a := h.1.2 (by rw [g]; exact Rat.le_refl); have b := h.2.2 (by rw [g]; exact Rat.le_refl); omega
  rw [e]; unfold QQ; rw [← hv]; constructor
  · intro g; rw [g, Rat.one_mul]
  · intro g; have hp : (0 : Rat) < 2 ^ (m * den) := Rat.zpow_pos two_pos; exact Rat.le_antisymm (rcancel hp (by rw [g, Rat.one_mul]; exact Rat.le_refl)) (rcancel hp (by rw [g, Rat.one_mul]; exact Rat.le_refl))
structure Ce (r : RV) (m : Int) (b : Bool) : Prop where
  ok : checkS r = 0
  lo : TT (m * r.d) (fun j => r.num j * 1200000)
  hi : SS ((m + 1) * r.d) (fun j => r.num j * 1200000)
  ex : b = true ↔ QQ (m * r.d) (fun j => r.num j * 1200000)
theorem Ce.of {r : RV} {m er : Int} {b : Bool} (h : CentsRes (.returned (.tuple #[.int .i64 m, .bool b, .int .i64 er])) r) (he : er = 0) : Ce r m b := by
  by_cases h0 : checkS r = 0
  · have h1 := h.2 h0; unfold FloorRes at h1
    split at h1
    · injection h1 with h1
      injection h1 with h1
      simp at h1; omega
    · obtain ⟨m', _, _, g1, g2, h1⟩ := h1; injection h1 with h1
      injection h1 with h1
      simp at h1; obtain ⟨rfl, hb, _⟩ := h1; refine ⟨h0, (sgM_TT r 1200000 r.d m).1 g1, (sgM_SS r 1200000 r.d (m + 1)).1 g2, ?_⟩; rw [← sgM_QQ, hb]; exact decide_eq_true_iff
  · have h1 := h.1 h0; injection h1 with h1
    injection h1 with h1
    simp at h1; exact absurd (h1.2.2.symm.trans he) h0
end Go.Proofs.YtgmpipimancnhaaGreatDoor
namespace Go.Proofs.YtgmpipimancnhaaGreatDoor
set_option linter.unusedSimpArgs false
set_option linter.unusedVariables false
theorem QQ.tt {x : Int} {f : Nat → Int} (h : QQ x f) : TT x f := by unfold TT; rw [h]; exact Rat.le_refl
theorem QQ.neg {x : Int} {f : Nat → Int} (h : QQ x f) : QQ (-x) (fun j => -f j) := by
  unfold QQ at *
  have h1 := pv_add f (fun j => -f j) 6 (Nat.le_refl _); have h2 : pv (fun j => f j + -f j) 6 = 1 := (by rw [pv_congr (g := fun _ => 0) 6 (fun j _ => by show f j + -f j = 0; omega), pv_zero]); rw [h2, h] at h1; have h3 := two_inv x; have hp : (0 : Rat) < 2 ^ x := Rat.zpow_pos two_pos; refine Rat.le_antisymm (rcancel hp ?_) (rcancel hp ?_)
  · rw [h3, h1, Rat.mul_comm]; exact Rat.le_refl
  · rw [h3, h1, Rat.mul_comm]; exact Rat.le_refl
theorem SS.addQ {x y : Int} {f g : Nat → Int} (h1 : SS x f) (h2 : QQ y g) : SS (x + y) (fun j => f j + g j) := by
  unfold SS at *
  rw [pv_add f g 6 (Nat.le_refl _), Rat.zpow_add two_ne, h2]; exact Rat.mul_lt_mul_of_pos_right h1 (Rat.zpow_pos two_pos)
theorem TT.cast {x y : Int} {f g : Nat → Int} (h : TT x f) (e : x = y) (e2 : ∀ j, j < 6 → f j = g j) : TT y g := e ▸ h.congr e2
theorem SS.cast {x y : Int} {f g : Nat → Int} (h : SS x f) (e : x = y) (e2 : ∀ j, j < 6 → f j = g j) : SS y g := e ▸ h.congr e2
theorem QQ.cast {x y : Int} {f g : Nat → Int} (h : QQ x f) (e : x = y) (e2 : ∀ j, j < 6 → f j = g j) : QQ y g := e ▸ h.congr e2
theorem lt_of_mul_lt {a b d : Int} (hd : 1 ≤ d) (h : a * d < b * d) : a < b := by
  rcases Int.lt_or_le a b with g | g
  · exact g
  · exact absurd (Int.mul_le_mul_of_nonneg_right g (by omega : 0 ≤ d)) (by omega)
theorem oct_QQ (y : Int) : QQ y (fun j => if j = 0 then y else 0) := by
  unfold QQ
  have h : ∀ i, pv (fun j => if j = 0 then y else 0) (i + 1) = (2 : Rat) ^ y := by
    intro i
    induction i with
    | zero =>
      rw [pv, pv, if_pos rfl, Rat.one_mul]; rfl
    | succ i ih => rw [pv, ih, if_neg (by omega), Rat.zpow_zero, Rat.mul_one]
  exact h 5
end Go.Proofs.YtgmpipimancnhaaGreatDoor
namespace Go.Proofs.YtgmpipimancnhaaGreatDoor
set_option linter.unusedSimpArgs false
set_option linter.unusedVariables false
theorem prime_le {i : Nat} (hi : i < 6) (k : Int) (hk : k ≤ 100000) : ((prime i : Nat) : Rat) ^ k ≤ 2 ^ (400000 : Int) := by
  have hp := prime_two hi; rcases Int.lt_or_le k 0 with h | h
  · obtain ⟨n, rfl⟩ : ∃ n : Nat, k = -(n : Int) := ⟨k.natAbs, by omega⟩; have hne : ((prime i : Nat) : Rat) ≠ 0 := Rat.ne_of_gt (prime_pos hi); have e : ((prime i : Nat) : Rat) ^ (-(n : Int)) * ((prime i : Nat) : Rat) ^ (n : Int) = 1 := (by rw [← Rat.zpow_add hne, show -(n : Int) + (n : Int) = 0 by omega, Rat.zpow_zero])
    have h1 : (1 : Rat) ≤ ((prime i : Nat) : Rat) ^ (n : Int) := by
      rw [Rat.zpow_natCast, ← Rat.natCast_pow]; have : 1 ≤ prime i ^ n := Nat.pow_pos (by omega); exact Rat.natCast_le_natCast.2 this
    have h2 : ((prime i : Nat) : Rat) ^ (-(n : Int)) ≤ 1 := by
      have := Rat.mul_le_mul_of_nonneg_left h1 (Rat.le_of_lt (Rat.zpow_pos (n := -(n : Int)) (prime_pos hi)))
      rwa [Rat.mul_one, e] at this
    refine Rat.le_trans h2 ?_; have := two_le (x := 0) (y := 400000) (by decide)
    rwa [Rat.zpow_zero] at this
  · obtain ⟨n, rfl⟩ := Int.eq_ofNat_of_zero_le h
    have h1 : prime i ^ n ≤ 2 ^ (4 * n) := by
      rw [Nat.pow_mul]; exact Nat.pow_le_pow_left (by omega) n
    have h2 : ((prime i : Nat) : Rat) ^ (n : Int) ≤ 2 ^ ((4 * n : Nat) : Int) := by
      rw [Rat.zpow_natCast, ← Rat.natCast_pow, Rat.zpow_natCast]; have := Rat.natCast_le_natCast.2 h1
      rwa [Rat.natCast_pow 2] at this
    exact Rat.le_trans h2 (two_le (by omega))
theorem pv_le (f : Nat → Int) (h : ∀ j, j < 6 → f j ≤ 100000) : ∀ i, i ≤ 6 → pv f i ≤ 2 ^ ((400000 * i : Nat) : Int)
  | 0, _ => by rw [pv]; exact Rat.le_refl
  | i+1, hi => by
    rw [pv, show ((400000 * (i + 1) : Nat) : Int) = ((400000 * i : Nat) : Int) + 400000 by omega, Rat.zpow_add two_ne]; exact rmul_le (pv_le f h i (by omega)) (prime_le (by omega) _ (h i (by omega))) (Rat.zpow_pos (prime_pos (by omega))) (Rat.zpow_pos two_pos)
theorem TT.small {x : Int} {f : Nat → Int} (h : TT x f) (hf : ∀ j, j < 6 → f j ≤ 100000) : x ≤ 2400000 := by
  rcases Int.lt_or_le 2400000 x with g | g
  · exfalso; have h1 : (2 : Rat) ^ x ≤ 2 ^ (2400000 : Int) := Rat.le_trans h (pv_le f hf 6 (Nat.le_refl _)); exact Rat.not_lt.2 h1 (two_lt g)
  · exact g
theorem SS.small {x : Int} {f : Nat → Int} (h : SS x f) (hf : ∀ j, j < 6 → -100000 ≤ f j) : -2400000 < x := by
  rcases Int.lt_or_le (-2400000) x with g | g
  · exact g
  · exfalso; have h1 : pv (fun j => -f j) 6 ≤ 2 ^ (2400000 : Int) := pv_le (fun j => -f j) (fun j hj => by have := hf j hj; omega) 6 (Nat.le_refl _); have h2 := pv_add f (fun j => -f j) 6 (Nat.le_refl _); rw [pv_congr (g := fun _ => 0) 6 (fun j _ => by show f j + -f j = 0; omega), pv_zero] at h2; have h3 : pv f 6 < 2 ^ (-2400000 : Int) := rlt_of_le h (two_le g); have h4 := rmul_lt h3 h1 (pv_pos _ 6 (Nat.le_refl _)) (Rat.zpow_pos two_pos); rw [← h2, show (-2400000 : Int) = -(2400000 : Int) by rfl, two_inv] at h4; exact Rat.lt_irrefl h4
theorem floor_one {a : RV} (ha : checkS a = 0) {e : Ending} (h : FloorRes (termsN a 6) 1 a.d (sgR a 1) e) :
    ∃ k b, e = .returned (.tuple #[.int .i64 k, .bool b, .int .i64 0]) ∧ TT (k * a.d) (fun j => a.num j * 1) ∧ SS ((k + 1) * a.d) (fun j => a.num j * 1) := by
  obtain ⟨a1, a2, _⟩ := checkS_ok ha; unfold FloorRes at h
  split at h
  · rename_i hc; exfalso; rcases hc with hc | hc
    · have hs := ((sgM_TT a 1 a.d 1000000000001).1 hc).small (fun j hj => by have := (a2 j hj).2; omega); have := Int.mul_le_mul_of_nonneg_left a1.1 (by decide : (0 : Int) ≤ 1000000000001); omega
    · have hs := ((sgM_SS a 1 a.d (-1000000000000)).1 hc).small (fun j hj => by have := (a2 j hj).1; omega); have := Int.mul_le_mul_of_nonneg_left a1.1 (by decide : (0 : Int) ≤ 1000000000000); omega
  · obtain ⟨m, _, _, g1, g2, rfl⟩ := h; exact ⟨m, _, rfl, (sgM_TT a 1 a.d m).1 g1, (sgM_SS a 1 a.d (m + 1)).1 g2⟩
end Go.Proofs.YtgmpipimancnhaaGreatDoor
namespace Go.Proofs.YtgmpipimancnhaaGreatDoor
set_option linter.unusedSimpArgs false
open Go.RowKit
set_option linter.unusedVariables false
theorem CentsRes_bd {r : RV} {e : Ending} (h : CentsRes e r) : ∃ k b er, e = .returned (.tuple #[.int .i64 k, .bool b, .int .i64 er]) ∧ -1000000000000 ≤ k ∧ k ≤ 1000000000000 := by
  by_cases h0 : checkS r = 0
  · exact FloorRes_shape (h.2 h0)
  · exact ⟨0, false, checkS r, h.1 h0, by decide, by decide⟩
theorem floor_is (r : RV) (w : World) (hT : PrT w) (h : checkS r = 0) : ∃ e, FloorRes (termsN r 6) 1 r.d (sgR r 1) e := by
  obtain ⟨e, w1, _, ⟨k, hb⟩, _⟩ := Terms_any r w hT []; obtain ⟨A, n, c, _, hTR⟩ := k.2 h; obtain ⟨hd, hin, _⟩ := checkS_ok h; obtain ⟨e2, _, _, ⟨h2, _⟩, _⟩ := Floor_any A n c (termsN r 6) r.d 1 (sgR r 1) w1 hTR (okT_terms hin) hd.1 hd.2 (by decide) (by decide) (fun m h1 h2 => sign_any _ (ok6_atM hin ⟨by decide, by decide⟩ hd ⟨h1, h2⟩)) []; exact ⟨e2, h2⟩
theorem fold_kk (r : RV) (w : World) (hT : PrT w) : ∃ k : Int, -1000000000000 ≤ k ∧ k ≤ 1000000000000 ∧ (checkS r = 0 → ∀ e, FloorRes (termsN r 6) 1 r.d (sgR r 1) e → ∃ b er, e = .returned (.tuple #[.int .i64 k, .bool b, .int .i64 er])) ∧
    (checkS r = 0 → TT (k * r.d) (fun j => r.num j * 1) ∧ SS ((k + 1) * r.d) (fun j => r.num j * 1)) := by
  by_cases h0 : checkS r = 0
  · obtain ⟨e, he⟩ := floor_is r w hT h0; obtain ⟨k, b, er, rfl, h1, h2⟩ := FloorRes_shape he; refine ⟨k, h1, h2, fun _ e' he' => ⟨b, er, FloorRes_det (checkS_ok h0).1.1 he' he⟩, fun _ => ?_⟩; obtain ⟨k', b', hk, h3, h4⟩ := floor_one h0 he; injection hk with hk
    injection hk with hk
    simp at hk; obtain ⟨rfl, _⟩ := hk; exact ⟨h3, h4⟩
  · exact ⟨0, by decide, by decide, fun h => absurd h h0, fun h => absurd h h0⟩
end Go.Proofs.YtgmpipimancnhaaGreatDoor
namespace Go.Proofs.YtgmpipimancnhaaGreatDoor
set_option linter.unusedSimpArgs false
set_option linter.unusedVariables false
def fitsV (v : Nat → Int) (D : Int) : Prop := (1 ≤ D ∧ D ≤ 1000) ∧ ∀ j, j < 6 → -100000 ≤ v j ∧ v j ≤ 100000
theorem nr_ok {v : Nat → Int} {D : Int} (h : fitsV v D) : checkS (nr v D) = 0 := by
  obtain ⟨⟨h1, h2⟩, h3⟩ := h; obtain ⟨g, hg, e1, e2⟩ := nr_g v h1; have hp : 1 ≤ (nr v D).d := mkR_pos _ h1; have hg1 : (1 : Int) ≤ (g : Int) := (by omega); unfold checkS; rw [if_neg, if_pos, if_pos]
  · exact mkR_one _ h1
  · intro j hj; have h4 := e2 j hj; have h5 := h3 j hj; have h6 : ((nr v D).num j).natAbs * g = (v j).natAbs := (by rw [← h4, Int.natAbs_mul]; rfl); have h7 : ((nr v D).num j).natAbs ≤ (v j).natAbs := (by rw [← h6]; exact Nat.le_mul_of_pos_right _ hg); unfold inR; omega
  · have h4 : (nr v D).d * 1 ≤ (nr v D).d * (g : Int) := Int.mul_le_mul_of_nonneg_left hg1 (by omega); omega
theorem made_nr {R : RV} {v : Nat → Int} {D : Int} (h : fitsV v D) (hR : 1 ≤ R.d) (hc : ∀ j, j < 6 → R.num j * D = v j * R.d) : madeS R = (nr v D, 0) := by
  have e : mkR R = nr v D := mkR_cross hR h.1.1 fun j hj => by rw [RV.of_num _ _ hj]; exact hc j hj
  have := (madeS_check R hR).1 (by rw [e]; exact nr_ok h); rw [this, e]
theorem join_nr {u v z : Nat → Int} {D s : Int} (hu : fitsV u D) (hv : fitsV v D) (hz : fitsV z D) (he : ∀ j, j < 6 → z j = u j + s * v j) : joinS (nr u D) (nr v D) s = (nr z D, 0) := by
  unfold joinS; rw [if_pos (by unfold firstE; rw [if_pos (nr_ok hu), nr_ok hv])]; obtain ⟨g, hg, a1, a2⟩ := nr_g u hu.1.1; obtain ⟨g', hg', b1, b2⟩ := nr_g v hv.1.1; have p1 : 1 ≤ (nr u D).d := mkR_pos _ hu.1.1; have p2 : 1 ≤ (nr v D).d := mkR_pos _ hv.1.1; refine made_nr hz ?_ fun j hj => ?_
  · have := Int.mul_le_mul p1 p2 (by decide) (by omega : (0 : Int) ≤ (nr u D).d); show 1 ≤ (nr u D).d * (nr v D).d; omega
  · unfold joinR; rw [RV.of_num _ _ hj, RV.of_d, he j hj, ← a2 j hj, ← b2 j hj]; generalize (nr u D).num j = x at *
    generalize (nr v D).num j = y at *
    generalize (nr u D).d = c at *
    generalize (nr v D).d = d at *
    generalize (g : Int) = m at *
    generalize (g' : Int) = n at *
    rw [Int.add_mul, Int.add_mul]; have e1 : x * d * D = x * m * (c * d) := (by rw [← a1]; grind); have e2 : s * y * c * D = s * (y * n) * (c * d) := (by rw [← b1]; grind); rw [e1, e2]
theorem pow_nr {c z : Nat → Int} {n d D m : Int} (hc : fitsV c 1) (hz : fitsV z D) (hn : -1000 ≤ n ∧ n ≤ 1000) (hd : 1 ≤ d ∧ d ≤ 1000) (hD : D = d * m) (he : ∀ j, j < 6 → z j = c j * n * m) : powS (nr c 1) n d = (nr z D, 0) := by
  unfold powS; rw [if_pos (nr_ok hc), if_pos ⟨hn, ⟨by omega, hd.2⟩, by omega⟩]; obtain ⟨g, hg, a1, a2⟩ := nr_g c hc.1.1; have p1 : 1 ≤ (nr c 1).d := mkR_pos _ hc.1.1; unfold powR; rw [if_neg (by omega), if_neg (by omega)]; refine made_nr hz ?_ fun j hj => ?_
  · show 1 ≤ (nr c 1).d * d; have := Int.mul_le_mul p1 hd.1 (by decide) (by omega : (0 : Int) ≤ (nr c 1).d); omega
  · rw [RV.of_num _ _ hj, RV.of_d, he j hj, ← a2 j hj, hD]; generalize (nr c 1).num j = x at *
    generalize (nr c 1).d = y at *
    generalize (g : Int) = w at *
    have : x * w * n * m * (y * d) = x * n * m * d * (y * w) := (by grind); rw [this, a1]; grind
theorem fold_nr {u z : Nat → Int} {D k : Int} (hu : fitsV u D) (hz : fitsV z D) (he : ∀ j, j < 6 → z j = if j = 0 then u j - k * D else u j) : foldS (nr u D) k = (nr z D, k, 0) := by
  obtain ⟨g, hg, a1, a2⟩ := nr_g u hu.1.1; have p1 : 1 ≤ (nr u D).d := mkR_pos _ hu.1.1
  have hm : madeS (foldR (nr u D) k) = (nr z D, 0) := by
    refine made_nr hz p1 fun j hj => ?_
    unfold foldR; rw [RV.of_num _ _ hj, RV.of_d, he j hj]; generalize hx : (if j = 0 then u j - k * D else u j) = a
    have : (if j = 0 then (nr u D).num j - k * (nr u D).d else (nr u D).num j) * (g : Int) = a := by
      rw [← hx]
      split
      · rw [Int.sub_mul, a2 j hj, Int.mul_assoc, a1]
      · exact a2 j hj
    generalize (if j = 0 then (nr u D).num j - k * (nr u D).d else (nr u D).num j) = b at *
    rw [← this, ← a1]; grind
  rw [foldS_ok (nr_ok hu) (by rw [hm]), hm]
theorem TT_nr {u : Nat → Int} {D x : Int} (s : Int) (hD : 1 ≤ D) : TT (x * (nr u D).d) (fun j => (nr u D).num j * s) ↔ TT (x * D) (fun j => u j * s) := by
  obtain ⟨g, hg, a1, a2⟩ := nr_g u hD; have e : ∀ j, j < 6 → (nr u D).num j * s * (g : Int) = u j * s := fun j hj => by rw [Int.mul_right_comm, a2 j hj]
  constructor
  · intro h; exact (h.scale g).cast (by rw [Int.mul_assoc, a1]) e
  · intro h; exact TT.unscale hg (h.cast (by rw [Int.mul_assoc, a1]) fun j hj => (e j hj).symm)
theorem SS_nr {u : Nat → Int} {D x : Int} (s : Int) (hD : 1 ≤ D) : SS (x * (nr u D).d) (fun j => (nr u D).num j * s) ↔ SS (x * D) (fun j => u j * s) := by
  rw [← not_TT, ← not_TT, TT_nr s hD]
end Go.Proofs.YtgmpipimancnhaaGreatDoor
namespace Go.Proofs.YtgmpipimancnhaaGreatDoor
set_option linter.unusedSimpArgs false
set_option linter.unusedVariables false
def oct (x : Int) (j : Nat) : Int := if j = 0 then x else 0
def cmv (syn : Bool) (j : Nat) : Int :=
  if syn then (if j = 0 then -4 else if j = 1 then 4 else if j = 2 then -1 else 0) else (if j = 0 then -19 else if j = 1 then 12 else 0)
def b32 (j : Nat) : Int := if j = 0 then -1 else if j = 1 then 1 else 0
def bd (j : Nat) : Int := if j = 0 then 39 else if j = 1 then 25 else if j = 2 then 2 else 0
structure TP where
  syn : Bool
  w : Nat
  D : Int
  e : Nat → Int
structure TP.Ok (t : TP) : Prop where
  hw : t.w < 12
  hD : 1 ≤ t.D ∧ t.D ≤ 120
  he : ∀ k, k < 12 → -(2 * t.D) ≤ t.e k ∧ t.e k ≤ 2 * t.D
def TP.g (t : TP) (k j : Nat) : Int := if k = t.w then 0 else t.D * b32 j - t.e k * cmv t.syn j
def TP.G (t : TP) : Nat → Nat → Int
  | 0, _ => 0
  | n+1, j => t.G n j + t.g n j
theorem TP.Ok.g_bd {t : TP} (h : t.Ok) {k : Nat} (hk : k < 12) (j : Nat) : -(bd j * t.D) ≤ t.g k j ∧ t.g k j ≤ bd j * t.D := by
  obtain ⟨d1, d2⟩ := h.hD; obtain ⟨e1, e2⟩ := h.he k hk; unfold TP.g
  by_cases hw : k = t.w
  · rw [if_pos hw]; unfold bd
    split
    · omega
    · split
      · omega
      · split <;> omega
  · rw [if_neg hw]; unfold b32 cmv bd
    by_cases h0 : j = 0
    · rw [if_pos h0, if_pos h0, if_pos h0, if_pos h0]
      split <;> omega
    · by_cases h1 : j = 1
      · rw [if_neg h0, if_pos h1, if_neg h0, if_pos h1, if_neg h0, if_pos h1, if_neg h0, if_pos h1]
        split <;> omega
      · rw [if_neg h0, if_neg h1, if_neg h0, if_neg h1, if_neg h0, if_neg h1, if_neg h0, if_neg h1]
        split
        · split <;> omega
        · split <;> omega
theorem TP.Ok.G_bd {t : TP} (h : t.Ok) (j m : Nat) : ∀ d : Nat, m + d ≤ 12 → -((d : Int) * (bd j * t.D)) ≤ t.G (m + d) j - t.G m j ∧ t.G (m + d) j - t.G m j ≤ (d : Int) * (bd j * t.D)
  | 0, _ => by
    rw [Nat.add_zero]; omega
  | d+1, hd => by
    have ih := TP.Ok.G_bd h j m d (by omega); have hg := h.g_bd (k := m + d) (by omega) j; rw [← Nat.add_assoc, TP.G, show ((d + 1 : Nat) : Int) = (d : Int) + 1 by omega, Int.add_mul, Int.one_mul]; generalize (d : Int) * (bd j * t.D) = x at *
    omega
theorem bd_nonneg (j : Nat) {D : Int} (hD : 1 ≤ D) : 0 ≤ bd j * D := by
  unfold bd
  split
  · omega
  · split
    · omega
    · split <;> omega
theorem TP.Ok.G_le {t : TP} (h : t.Ok) (j : Nat) {m n : Nat} (hmn : m ≤ n) (hn : n ≤ 12) : -(((n - m : Nat) : Int) * (bd j * t.D)) ≤ t.G n j - t.G m j ∧ t.G n j - t.G m j ≤ ((n - m : Nat) : Int) * (bd j * t.D) := by
  have := h.G_bd j m (n - m) (by omega)
  rwa [show m + (n - m) = n by omega] at this
def TP.S (t : TP) (n j : Nat) : Int := if n ≤ t.w then t.G n j else oct (7 * t.D) j - (t.G 12 j - t.G n j)
def TP.rv (t : TP) (n j : Nat) : Int := oct (7 * t.D) j - t.G n j
def TP.f (t : TP) (k j : Nat) : Int := if k = t.w then t.rv 12 j else t.g k j
theorem TP.S_zero (t : TP) (j : Nat) : t.S 0 j = 0 := by unfold TP.S; rw [if_pos (Nat.zero_le _)]; rfl
theorem TP.S_succ (t : TP) (n j : Nat) : t.S (n + 1) j = t.S n j + t.f n j := by
  unfold TP.S TP.f TP.rv; have hg : t.G (n + 1) j = t.G n j + t.g n j := rfl; rcases Nat.lt_trichotomy n t.w with h | h | h
  · rw [if_pos (by omega), if_pos (by omega), if_neg (by omega), hg]
  · have : t.g n j = 0 := (by unfold TP.g; rw [if_pos h]); rw [if_neg (by omega), if_pos (by omega), if_pos h, hg, this]; omega
  · rw [if_neg (by omega), if_neg (by omega), if_neg (by omega), hg]; omega
theorem TP.Ok.diff {t : TP} (h : t.Ok) {a b : Nat} (ha : a ≤ 12) (hb : b ≤ 12) (j : Nat) : -(12 * (bd j * t.D) + oct (7 * t.D) j) ≤ t.S a j - t.S b j ∧ t.S a j - t.S b j ≤ 12 * (bd j * t.D) + oct (7 * t.D) j := by
  have hD := h.hD; have hn := bd_nonneg j hD.1; have ho : 0 ≤ oct (7 * t.D) j := (by unfold oct; split <;> omega); have mul : ∀ n : Nat, n ≤ 12 → ((n : Int) * (bd j * t.D) ≤ 12 * (bd j * t.D)) := fun n h => Int.mul_le_mul_of_nonneg_right (by omega) hn
  unfold TP.S
  by_cases h1 : a ≤ t.w
  · by_cases h2 : b ≤ t.w
    · rw [if_pos h1, if_pos h2]; rcases Nat.le_total a b with h3 | h3
      · have := h.G_le j h3 hb; have := mul (b - a) (by omega); omega
      · have := h.G_le j h3 ha; have := mul (a - b) (by omega); omega
    · rw [if_pos h1, if_neg h2]; have h3 := h.G_le j (m := 0) (n := a) (Nat.zero_le _) ha; have h4 := h.G_le j (m := b) (n := 12) hb (Nat.le_refl _); have h5 := mul (a + (12 - b)) (by omega); rw [show ((a + (12 - b) : Nat) : Int) = (a : Int) + ((12 - b : Nat) : Int) by omega, Int.add_mul] at h5; rw [show t.G 0 j = 0 from rfl, Nat.sub_zero] at h3; generalize (a : Int) * (bd j * t.D) = x at *
      generalize ((12 - b : Nat) : Int) * (bd j * t.D) = y at *
      omega
  · by_cases h2 : b ≤ t.w
    · rw [if_neg h1, if_pos h2]; have h3 := h.G_le j (m := 0) (n := b) (Nat.zero_le _) hb; have h4 := h.G_le j (m := a) (n := 12) ha (Nat.le_refl _); have h5 := mul (b + (12 - a)) (by omega); rw [show ((b + (12 - a) : Nat) : Int) = (b : Int) + ((12 - a : Nat) : Int) by omega, Int.add_mul] at h5; rw [show t.G 0 j = 0 from rfl, Nat.sub_zero] at h3; generalize (b : Int) * (bd j * t.D) = x at *
      generalize ((12 - a : Nat) : Int) * (bd j * t.D) = y at *
      omega
    · rw [if_neg h1, if_neg h2]; rcases Nat.le_total a b with h3 | h3
      · have := h.G_le j h3 hb; have := mul (b - a) (by omega); omega
      · have := h.G_le j h3 ha; have := mul (a - b) (by omega); omega
def small (z : Nat → Int) (D : Int) : Prop := ∀ j, -(12 * (bd j * D) + oct (7 * D) j) ≤ z j ∧ z j ≤ 12 * (bd j * D) + oct (7 * D) j
theorem small.fits {z : Nat → Int} {D : Int} (hD : 1 ≤ D ∧ D ≤ 120) (h : small z D) : fitsV z D := by
  refine ⟨⟨hD.1, by omega⟩, fun j _ => ?_⟩; have := h j; unfold bd oct at this
  split at this
  · omega
  · split at this
    · omega
    · split at this <;> omega
theorem TP.Ok.S_small {t : TP} (h : t.Ok) {n : Nat} (hn : n ≤ 12) : small (t.S n) t.D := fun j => by
  have := h.diff hn (Nat.zero_le 12) j
  rwa [t.S_zero, Int.sub_zero] at this
theorem TP.Ok.f_small {t : TP} (h : t.Ok) {n : Nat} (hn : n < 12) : small (t.f n) t.D := fun j => by
  have := h.diff (a := n + 1) (b := n) (by omega) (by omega) j
  rwa [t.S_succ, show t.S n j + t.f n j - t.S n j = t.f n j by omega] at this
theorem TP.Ok.rv_small {t : TP} (h : t.Ok) {n : Nat} (hn : n ≤ 12) : small (t.rv n) t.D := fun j => by
  have h3 := h.G_le j (m := 0) (n := n) (Nat.zero_le _) hn; have hnn := bd_nonneg j h.hD.1; have h5 : (n : Int) * (bd j * t.D) ≤ 12 * (bd j * t.D) := Int.mul_le_mul_of_nonneg_right (by omega) hnn; have ho : 0 ≤ oct (7 * t.D) j := (by unfold oct; (have := h.hD; split <;> omega)); rw [show t.G 0 j = 0 from rfl, Nat.sub_zero] at h3; unfold TP.rv; generalize (n : Int) * (bd j * t.D) = x at *
  omega
end Go.Proofs.YtgmpipimancnhaaGreatDoor
namespace Go.Proofs.YtgmpipimancnhaaGreatDoor
set_option linter.unusedSimpArgs false
set_option linter.unusedVariables false
theorem TT.mono {x y : Int} {f : Nat → Int} (h : TT y f) (hxy : x ≤ y) : TT x f := Rat.le_trans (two_le hxy) h
theorem SS.mono {x y : Int} {f : Nat → Int} (h : SS x f) (hxy : x ≤ y) : SS y f := rlt_of_le h (two_le hxy)
theorem find_floor (D : Int) (u : Nat → Int) : ∀ n : Nat, ∀ a : Int, TT (a * D) u → SS ((a + n) * D) u → ∃ k, TT (k * D) u ∧ SS ((k + 1) * D) u
  | 0, a, h1, h2 => by
    rw [show a + ((0 : Nat) : Int) = a by omega] at h2; exact absurd h1 (not_TT.2 h2)
  | n+1, a, h1, h2 => by
    by_cases h3 : SS ((a + 1) * D) u
    · exact ⟨a, h1, h3⟩
    · exact find_floor D u n (a + 1) (not_SS.1 h3) (by rwa [show a + 1 + (n : Int) = a + ((n + 1 : Nat) : Int) by omega])
theorem floor_ex {u : Nat → Int} {D : Int} (h : fitsV u D) : ∃ k, TT (k * D) u ∧ SS ((k + 1) * D) u := by
  have hD := h.1
  have lo : TT (-2400000 * D) u := by
    refine TT.mono (y := -2400000) ?_ (by omega); refine not_SS.1 fun hs => ?_
    have := hs.small (fun j hj => (h.2 j hj).1); omega
  have hi : SS (2400001 * D) u := by
    refine SS.mono (x := 2400001) ?_ (by omega); refine not_TT.1 fun ht => ?_
    have := ht.small (fun j hj => (h.2 j hj).2); omega
  exact find_floor D u 4800001 (-2400000) lo (by rwa [show (-2400000 : Int) + ((4800001 : Nat) : Int) = 2400001 by decide])
open Classical in
noncomputable def flo (u : Nat → Int) (D : Int) : Int := if h : ∃ k, TT (k * D) u ∧ SS ((k + 1) * D) u then Classical.choose h else 0
theorem flo_spec {u : Nat → Int} {D : Int} (h : fitsV u D) : TT (flo u D * D) u ∧ SS ((flo u D + 1) * D) u := by
  have he := floor_ex h; unfold flo; rw [dif_pos he]; exact Classical.choose_spec he
theorem flo_eq {u : Nat → Int} {D k : Int} (hD : 1 ≤ D) (h1 : TT (k * D) u) (h2 : SS ((k + 1) * D) u) : flo u D = k := by
  have he : ∃ k, TT (k * D) u ∧ SS ((k + 1) * D) u := ⟨k, h1, h2⟩; unfold flo; rw [dif_pos he]; obtain ⟨h3, h4⟩ := Classical.choose_spec he; have l1 := lt_of_mul_lt hD (h1.lt h4); have l2 := lt_of_mul_lt hD (h3.lt h2); omega
theorem prime_bits {i b : Nat} (hi : i < 6) (hb : prime i ≤ 2 ^ b) (k : Int) (K : Nat) (hk : k ≤ K) : ((prime i : Nat) : Rat) ^ k ≤ 2 ^ ((b * K : Nat) : Int) := by
  have hp := prime_two hi; rcases Int.lt_or_le k 0 with h | h
  · obtain ⟨n, rfl⟩ : ∃ n : Nat, k = -(n : Int) := ⟨k.natAbs, by omega⟩; have hne : ((prime i : Nat) : Rat) ≠ 0 := Rat.ne_of_gt (prime_pos hi); have e : ((prime i : Nat) : Rat) ^ (-(n : Int)) * ((prime i : Nat) : Rat) ^ (n : Int) = 1 := (by rw [← Rat.zpow_add hne, show -(n : Int) + (n : Int) = 0 by omega, Rat.zpow_zero])
    have h1 : (1 : Rat) ≤ ((prime i : Nat) : Rat) ^ (n : Int) := by
      rw [Rat.zpow_natCast, ← Rat.natCast_pow]; have : 1 ≤ prime i ^ n := Nat.pow_pos (by omega); exact Rat.natCast_le_natCast.2 this
    have h2 : ((prime i : Nat) : Rat) ^ (-(n : Int)) ≤ 1 := by
      have := Rat.mul_le_mul_of_nonneg_left h1 (Rat.le_of_lt (Rat.zpow_pos (n := -(n : Int)) (prime_pos hi)))
      rwa [Rat.mul_one, e] at this
    refine Rat.le_trans h2 ?_; have := two_le (x := 0) (y := ((b * K : Nat) : Int)) (by omega)
    rwa [Rat.zpow_zero] at this
  · obtain ⟨n, rfl⟩ := Int.eq_ofNat_of_zero_le h
    have h1 : prime i ^ n ≤ 2 ^ (b * K) := by
      refine Nat.le_trans (Nat.pow_le_pow_left hb n) ?_; rw [← Nat.pow_mul]; exact Nat.pow_le_pow_right (by decide) (Nat.mul_le_mul_left b (by omega))
    rw [Rat.zpow_natCast, ← Rat.natCast_pow, Rat.zpow_natCast]; have := Rat.natCast_le_natCast.2 h1
    rwa [Rat.natCast_pow 2] at this
theorem pv_bits {f : Nat → Int} {A B : Nat} (h1 : f 1 ≤ A) (h2 : f 2 ≤ B) (h0 : f 0 = 0) (h3 : f 3 = 0) (h4 : f 4 = 0) (h5 : f 5 = 0) : SS ((2 * A + 3 * B + 1 : Nat) : Int) f := by
  have e1 := prime_bits (i := 1) (b := 2) (by decide) (by decide) (f 1) A h1; have e2 := prime_bits (i := 2) (b := 3) (by decide) (by decide) (f 2) B h2
  have hp : pv f 6 = ((prime 1 : Nat) : Rat) ^ (f 1) * ((prime 2 : Nat) : Rat) ^ (f 2) := by
    simp only [pv]; rw [h0, h3, h4, h5, Rat.zpow_zero, Rat.zpow_zero, Rat.zpow_zero, Rat.zpow_zero, Rat.mul_one, Rat.mul_one, Rat.mul_one, Rat.mul_one, Rat.one_mul]
  unfold SS; rw [hp]; have h := rmul_le e1 e2 (Rat.zpow_pos (prime_pos (by decide))) (Rat.zpow_pos two_pos); refine rlt_of_lt h ?_; rw [← Rat.zpow_add two_ne]; exact two_lt (by omega)
theorem oct_is (x : Int) : QQ x (oct x) := oct_QQ x
structure tame (z : Nat → Int) (x : Int) : Prop where
  h1 : -37000 ≤ z 1 ∧ z 1 ≤ 37000
  h2 : -3500 ≤ z 2 ∧ z 2 ≤ 3500
  h3 : z 3 = 0 ∧ z 4 = 0 ∧ z 5 = 0
  lo : TT (-x) z
  hi : SS x z
theorem tame.fits {z : Nat → Int} {x D : Int} (h : tame z x) (hD : 1 ≤ D ∧ D ≤ 1000) (hx : x ≤ 2000) : fitsV z D := by
  obtain ⟨h1, h2, ⟨h3, h4, h5⟩, lo, hi⟩ := h; obtain ⟨y, hy⟩ : ∃ y : Nat → Int, y = fun j => if j = 0 then 0 else z j := ⟨_, rfl⟩
  have y1 : SS ((2 * 37000 + 3 * 3500 + 1 : Nat) : Int) y := by
    subst hy; exact pv_bits (A := 37000) (B := 3500) h1.2 h2.2 rfl h3 h4 h5
  have y2 : SS ((2 * 37000 + 3 * 3500 + 1 : Nat) : Int) (fun j => -y j) := by
    subst hy; refine pv_bits (A := 37000) (B := 3500) ?_ ?_ rfl ?_ ?_ ?_
    · show -z 1 ≤ _; omega
    · show -z 2 ≤ _; omega
    · show -z 3 = 0; omega
    · show -z 4 = 0; omega
    · show -z 5 = 0; omega
  have hz : ∀ j, j < 6 → y j + oct (z 0) j = z j := fun j _ => by
    subst hy; unfold oct; show (if j = 0 then 0 else z j) + (if j = 0 then z 0 else 0) = z j
    split
    · rename_i hj; subst hj; omega
    · omega
  have a1 := lo.lt ((y1.addQ (oct_is (z 0))).congr hz); have a2 := (oct_is (z 0)).tt.lt ((hi.add y2).congr (g := oct (z 0)) fun j hj => by have := hz j hj; omega); refine ⟨hD, fun j hj => ?_⟩; have hj6 : j = 0 ∨ j = 1 ∨ j = 2 ∨ j = 3 ∨ j = 4 ∨ j = 5 := (by omega); rcases hj6 with rfl | rfl | rfl | rfl | rfl | rfl <;> omega
noncomputable def fol (u : Nat → Int) (D : Int) (j : Nat) : Int := u j - oct (flo u D * D) j
theorem fol_range {u : Nat → Int} {D : Int} (h : fitsV u D) : TT 0 (fol u D) ∧ SS D (fol u D) := by
  obtain ⟨h1, h2⟩ := flo_spec h; have hE := (oct_is (flo u D * D)).neg; exact ⟨(h1.add hE.tt).cast (by omega) (fun j _ => by unfold fol; omega), (h2.addQ hE).cast (by rw [Int.add_mul, Int.one_mul]; omega) (fun j _ => by unfold fol; omega)⟩
theorem fol_same (u : Nat → Int) (D : Int) {j : Nat} (hj : j ≠ 0) : fol u D j = u j := by unfold fol oct; rw [if_neg hj]; omega
theorem sub_range {u v : Nat → Int} {D : Int} (u1 : TT 0 u) (u2 : SS D u) (v1 : TT 0 v) (v2 : SS D v) : TT (-D) (fun j => u j - v j) ∧ SS D (fun j => u j - v j) := by
  constructor
  · refine not_SS.1 fun h => not_TT.2 ((h.add v2).cast (by omega) (fun j _ => ?_)) u1
    show u j - v j + v j = u j; omega
  · refine not_TT.1 fun h => not_SS.2 ((h.add v1).cast (by omega) (fun j _ => ?_)) u2
    show u j - v j + v j = u j; omega
noncomputable def TP.n (t : TP) (k : Nat) : Nat → Int := fol (t.S k) t.D
theorem TP.Ok.n_range {t : TP} (h : t.Ok) {k : Nat} (hk : k ≤ 12) : TT 0 (t.n k) ∧ SS t.D (t.n k) := fol_range ((h.S_small hk).fits h.hD)
theorem TP.Ok.n_tame {t : TP} (h : t.Ok) {k : Nat} (hk : k ≤ 12) : tame (t.n k) t.D := by
  obtain ⟨r1, r2⟩ := h.n_range hk; have hs := h.S_small hk; have hD := h.hD; refine ⟨?_, ?_, ⟨?_, ?_, ?_⟩, r1.mono (by omega), r2⟩
  · have := hs 1; unfold TP.n; rw [fol_same _ _ (by decide)]; rw [show bd 1 = 25 from rfl, show oct (7 * t.D) 1 = 0 from rfl] at this; omega
  · have := hs 2; unfold TP.n; rw [fol_same _ _ (by decide)]; rw [show bd 2 = 2 from rfl, show oct (7 * t.D) 2 = 0 from rfl] at this; omega
  · have := hs 3; unfold TP.n; rw [fol_same _ _ (by decide)]; rw [show bd 3 = 0 from rfl, show oct (7 * t.D) 3 = 0 from rfl] at this; omega
  · have := hs 4; unfold TP.n; rw [fol_same _ _ (by decide)]; rw [show bd 4 = 0 from rfl, show oct (7 * t.D) 4 = 0 from rfl] at this; omega
  · have := hs 5; unfold TP.n; rw [fol_same _ _ (by decide)]; rw [show bd 5 = 0 from rfl, show oct (7 * t.D) 5 = 0 from rfl] at this; omega
noncomputable def TP.y (t : TP) (a b j : Nat) : Int := t.n b j - t.n a j
theorem TP.Ok.y_tame {t : TP} (h : t.Ok) {a b : Nat} (ha : a ≤ 12) (hb : b ≤ 12) : tame (t.y a b) t.D := by
  obtain ⟨a1, a2⟩ := h.n_range ha; obtain ⟨b1, b2⟩ := h.n_range hb; obtain ⟨r1, r2⟩ := sub_range b1 b2 a1 a2; have hD := h.hD; have hs := h.diff hb ha; refine ⟨?_, ?_, ⟨?_, ?_, ?_⟩, r1, r2⟩
  · have := hs 1; unfold TP.y TP.n; rw [fol_same _ _ (by decide), fol_same _ _ (by decide)]; rw [show bd 1 = 25 from rfl, show oct (7 * t.D) 1 = 0 from rfl] at this; omega
  · have := hs 2; unfold TP.y TP.n; rw [fol_same _ _ (by decide), fol_same _ _ (by decide)]; rw [show bd 2 = 2 from rfl, show oct (7 * t.D) 2 = 0 from rfl] at this; omega
  · have := hs 3; unfold TP.y TP.n; rw [fol_same _ _ (by decide), fol_same _ _ (by decide)]; rw [show bd 3 = 0 from rfl, show oct (7 * t.D) 3 = 0 from rfl] at this; omega
  · have := hs 4; unfold TP.y TP.n; rw [fol_same _ _ (by decide), fol_same _ _ (by decide)]; rw [show bd 4 = 0 from rfl, show oct (7 * t.D) 4 = 0 from rfl] at this; omega
  · have := hs 5; unfold TP.y TP.n; rw [fol_same _ _ (by decide), fol_same _ _ (by decide)]; rw [show bd 5 = 0 from rfl, show oct (7 * t.D) 5 = 0 from rfl] at this; omega
noncomputable def TP.b (t : TP) (a b : Nat) : Nat → Int := fol (t.y a b) t.D
theorem TP.Ok.b_range {t : TP} (h : t.Ok) {a b : Nat} (ha : a ≤ 12) (hb : b ≤ 12) : TT 0 (t.b a b) ∧ SS t.D (t.b a b) := fol_range ((h.y_tame ha hb).fits ⟨h.hD.1, by have := h.hD; omega⟩ (by have := h.hD; omega))
theorem TP.Ok.b_tame {t : TP} (h : t.Ok) {a b : Nat} (ha : a ≤ 12) (hb : b ≤ 12) : tame (t.b a b) t.D := by
  obtain ⟨r1, r2⟩ := h.b_range ha hb; obtain ⟨h1, h2, h3, _, _⟩ := h.y_tame ha hb; have hD := h.hD; refine ⟨?_, ?_, ⟨?_, ?_, ?_⟩, r1.mono (by omega), r2⟩
  · unfold TP.b; rw [fol_same _ _ (by decide)]; exact h1
  · unfold TP.b; rw [fol_same _ _ (by decide)]; exact h2
  · unfold TP.b; rw [fol_same _ _ (by decide)]; exact h3.1
  · unfold TP.b; rw [fol_same _ _ (by decide)]; exact h3.2.1
  · unfold TP.b; rw [fol_same _ _ (by decide)]; exact h3.2.2
end Go.Proofs.YtgmpipimancnhaaGreatDoor
namespace Go.Proofs.YtgmpipimancnhaaGreatDoor
set_option linter.unusedSimpArgs false
set_option linter.unusedVariables false
def pn (u : Nat → Nat) : Nat → Nat
  | 0 => 1
  | i+1 => pn u i * prime i ^ u i
theorem pn_pv (u : Nat → Nat) : ∀ i, pv (fun j => (u j : Int)) i = ((pn u i : Nat) : Rat)
  | 0 => rfl
  | i+1 => by rw [pv, pn, pn_pv u i, Rat.natCast_mul, Rat.natCast_pow, Rat.zpow_natCast]
theorem pv_frac {f : Nat → Int} {u d : Nat → Nat} (h : ∀ j, j < 6 → f j = (u j : Int) - (d j : Int)) : pv f 6 * ((pn d 6 : Nat) : Rat) = ((pn u 6 : Nat) : Rat) := by
  rw [← pn_pv, ← pn_pv, ← pv_add f _ 6 (Nat.le_refl _)]; exact pv_congr 6 fun j hj => by rw [h j hj]; omega
theorem two_frac {x : Int} {a b : Nat} (h : x = (a : Int) - b) : (2 : Rat) ^ x * ((2 ^ b : Nat) : Rat) = ((2 ^ a : Nat) : Rat) := by
  rw [Rat.natCast_pow, Rat.natCast_pow, ← Rat.zpow_natCast, ← Rat.zpow_natCast]; show (2 : Rat) ^ x * (2 : Rat) ^ (b : Int) = (2 : Rat) ^ (a : Int); rw [← Rat.zpow_add two_ne, h, show (a : Int) - b + b = a by omega]
theorem pn_pos (u : Nat → Nat) : ∀ i, i ≤ 6 → 0 < pn u i
  | 0, _ => Nat.one_pos
  | i+1, hi => Nat.mul_pos (pn_pos u i (by omega)) (Nat.pow_pos (by have := prime_two (i := i) (by omega); omega))
theorem TT_nat {x : Int} {f : Nat → Int} (a b : Nat) (u d : Nat → Nat) (hx : x = (a : Int) - b) (hf : ∀ j, j < 6 → f j = (u j : Int) - (d j : Int)) (h : 2 ^ a * pn d 6 ≤ 2 ^ b * pn u 6) : TT x f := by
  have h1 := pv_frac hf; have h2 := two_frac hx; have h3 : (((2 ^ a * pn d 6 : Nat)) : Rat) ≤ ((2 ^ b * pn u 6 : Nat) : Rat) := Rat.natCast_le_natCast.2 h; rw [Rat.natCast_mul, Rat.natCast_mul, ← h1, ← h2] at h3; have p1 : (0 : Rat) < ((2 ^ b : Nat) : Rat) := Rat.natCast_pos.2 (Nat.pow_pos (by decide)); have p2 : (0 : Rat) < ((pn d 6 : Nat) : Rat) := Rat.natCast_pos.2 (pn_pos d 6 (Nat.le_refl _)); unfold TT; refine rcancel p1 (rcancel p2 ?_); rw [Rat.mul_assoc (pv f 6), Rat.mul_comm ((2 ^ b : Nat) : Rat), ← Rat.mul_assoc, Rat.mul_comm (pv f 6 * _)]; exact h3
theorem SS_nat {x : Int} {f : Nat → Int} (a b : Nat) (u d : Nat → Nat) (hx : x = (a : Int) - b) (hf : ∀ j, j < 6 → f j = (u j : Int) - (d j : Int)) (h : 2 ^ b * pn u 6 < 2 ^ a * pn d 6) : SS x f := by
  have h1 := pv_frac hf; have h2 := two_frac hx; have h3 : (((2 ^ b * pn u 6 : Nat)) : Rat) < ((2 ^ a * pn d 6 : Nat) : Rat) := Rat.natCast_lt_natCast.2 h; rw [Rat.natCast_mul, Rat.natCast_mul, ← h1, ← h2] at h3; have p1 : (0 : Rat) < ((2 ^ b : Nat) : Rat) := Rat.natCast_pos.2 (Nat.pow_pos (by decide)); have p2 : (0 : Rat) < ((pn d 6 : Nat) : Rat) := Rat.natCast_pos.2 (pn_pos d 6 (Nat.le_refl _)); unfold SS; refine rcancel_lt p1 (rcancel_lt p2 ?_); rw [Rat.mul_assoc (pv f 6), Rat.mul_comm ((2 ^ b : Nat) : Rat), ← Rat.mul_assoc, Rat.mul_comm (pv f 6 * _)]; exact h3
theorem cents_lo {z : Nat → Int} {D m p : Int} {q : Nat} (hq : 0 < q) (h : TT p (fun j => z j * q)) (hc : m * D * q ≤ p * 1200000) : TT (m * D) (fun j => z j * 1200000) :=
  TT.unscale hq (((h.scale 1200000).mono (x := m * D * q) hc).congr fun j _ => by
    show z j * q * 1200000 = z j * 1200000 * q
    rw [Int.mul_right_comm])
theorem cents_hi {z : Nat → Int} {D m p : Int} {q : Nat} (h : SS p (fun j => z j * q)) (hc : p * 1200000 ≤ (m + 1) * D * q) : SS ((m + 1) * D) (fun j => z j * 1200000) :=
  SS.unscale (n := q) (((h.scale' (n := 1200000) (by decide)).mono (y := (m + 1) * D * q) hc).congr fun j _ => by
    show z j * q * 1200000 = z j * 1200000 * q
    rw [Int.mul_right_comm])
theorem Ce.is {u : Nat → Int} {D m m' : Int} {b : Bool} (hD : 1 ≤ D) (h : Ce (nr u D) m' b) (h1 : TT (m * D) (fun j => u j * 1200000)) (h2 : SS ((m + 1) * D) (fun j => u j * 1200000)) : m' = m := by
  have l1 := lt_of_mul_lt hD (((TT_nr 1200000 hD).1 h.lo).lt h2); have l2 := lt_of_mul_lt hD (h1.lt ((SS_nr 1200000 hD).1 h.hi)); omega
def mt : TP := ⟨true, 8, 4, fun k => if k = 8 then 0 else 1⟩
theorem mt_ok : mt.Ok := ⟨by decide, by decide, by decide⟩
def e3 (a b c : Nat) (j : Nat) : Nat := if j = 0 then a else if j = 1 then b else if j = 2 then c else 0
def v3 (a b c : Int) (j : Nat) : Int := if j = 0 then a else if j = 1 then b else if j = 2 then c else 0
theorem six {P : Nat → Prop} (h0 : P 0) (h1 : P 1) (h2 : P 2) (h3 : P 3) (h4 : P 4) (h5 : P 5) : ∀ j, j < 6 → P j := fun j hj => by
  have : j = 0 ∨ j = 1 ∨ j = 2 ∨ j = 3 ∨ j = 4 ∨ j = 5 := (by omega); rcases this with rfl | rfl | rfl | rfl | rfl | rfl <;> assumption
theorem flo_nat {u : Nat → Int} {D : Int} (k : Int) (a b c : Int) (h : ∀ j, j < 6 → u j = v3 a b c j) (hD : 1 ≤ D) (h1 : TT (k * D) (v3 a b c)) (h2 : SS ((k + 1) * D) (v3 a b c)) : flo u D = k :=
  flo_eq hD (h1.congr fun j hj => (h j hj).symm) (h2.congr fun j hj => (h j hj).symm)
theorem fol_v3 {u : Nat → Int} {D k a b c : Int} (h : ∀ j, j < 6 → u j = v3 a b c j) (hk : flo u D = k) : ∀ j, j < 6 → fol u D j = v3 (a - k * D) b c j := fun j hj => by
  unfold fol; rw [hk, h j hj]; unfold oct v3
  split
  · rfl
  · omega
theorem mt_n0_flo : flo (mt.S 0) mt.D = 0 :=
  flo_nat (0) (0) (0) (0) (by decide) (by decide) (TT_nat 0 0 (e3 0 0 0) (e3 0 0 0) (by decide) (by decide) (by decide +kernel)) (SS_nat 4 0 (e3 0 0 0) (e3 0 0 0) (by decide) (by decide) (by decide +kernel))
theorem mt_n0 : ∀ j, j < 6 → fol (mt.S 0) mt.D j = v3 (0) (0) (0) j := fol_v3 (a := 0) (b := 0) (c := 0) (by decide) mt_n0_flo
theorem mt_n1_flo : flo (mt.S 1) mt.D = 0 :=
  flo_nat (0) (0) (0) (1) (by decide) (by decide) (TT_nat 0 0 (e3 0 0 1) (e3 0 0 0) (by decide) (by decide) (by decide +kernel)) (SS_nat 4 0 (e3 0 0 1) (e3 0 0 0) (by decide) (by decide) (by decide +kernel))
theorem mt_n1 : ∀ j, j < 6 → fol (mt.S 1) mt.D j = v3 (0) (0) (1) j := fol_v3 (a := 0) (b := 0) (c := 1) (by decide) mt_n1_flo
theorem mt_n4_flo : flo (mt.S 4) mt.D = 2 :=
  flo_nat (2) (0) (0) (4) (by decide) (by decide) (TT_nat 8 0 (e3 0 0 4) (e3 0 0 0) (by decide) (by decide) (by decide +kernel)) (SS_nat 12 0 (e3 0 0 4) (e3 0 0 0) (by decide) (by decide) (by decide +kernel))
theorem mt_n4 : ∀ j, j < 6 → fol (mt.S 4) mt.D j = v3 (-8) (0) (4) j := fol_v3 (a := 0) (b := 0) (c := 4) (by decide) mt_n4_flo
theorem mt_n8_flo : flo (mt.S 8) mt.D = 4 :=
  flo_nat (4) (0) (0) (8) (by decide) (by decide) (TT_nat 16 0 (e3 0 0 8) (e3 0 0 0) (by decide) (by decide) (by decide +kernel)) (SS_nat 20 0 (e3 0 0 8) (e3 0 0 0) (by decide) (by decide) (by decide +kernel))
theorem mt_n8 : ∀ j, j < 6 → fol (mt.S 8) mt.D j = v3 (-16) (0) (8) j := fol_v3 (a := 0) (b := 0) (c := 8) (by decide) mt_n8_flo
theorem mt_n9_flo : flo (mt.S 9) mt.D = 5 :=
  flo_nat (5) (28) (0) (-3) (by decide) (by decide) (TT_nat 20 0 (e3 28 0 0) (e3 0 0 3) (by decide) (by decide) (by decide +kernel)) (SS_nat 24 0 (e3 28 0 0) (e3 0 0 3) (by decide) (by decide) (by decide +kernel))
theorem mt_n9 : ∀ j, j < 6 → fol (mt.S 9) mt.D j = v3 (8) (0) (-3) j := fol_v3 (a := 28) (b := 0) (c := -3) (by decide) mt_n9_flo
theorem mt_b80_flo : flo (mt.y 8 0) mt.D = -1 :=
  flo_nat (-1) (16) (0) (-8) (fun j hj => (by unfold TP.y TP.n; rw [mt_n0 j hj, mt_n8 j hj]; revert j; decide)) (by decide) (TT_nat 0 4 (e3 16 0 0) (e3 0 0 8) (by decide) (by decide) (by decide +kernel)) (SS_nat 0 0 (e3 16 0 0) (e3 0 0 8) (by decide) (by decide) (by decide +kernel))
theorem mt_b80 : ∀ j, j < 6 → fol (mt.y 8 0) mt.D j = v3 (20) (0) (-8) j := fol_v3 (a := 16) (b := 0) (c := -8) (fun j hj => (by unfold TP.y TP.n; rw [mt_n0 j hj, mt_n8 j hj]; revert j; decide)) mt_b80_flo
theorem mt_b89_flo : flo (mt.y 8 9) mt.D = -1 :=
  flo_nat (-1) (24) (0) (-11) (fun j hj => (by unfold TP.y TP.n; rw [mt_n9 j hj, mt_n8 j hj]; revert j; decide)) (by decide) (TT_nat 0 4 (e3 24 0 0) (e3 0 0 11) (by decide) (by decide) (by decide +kernel)) (SS_nat 0 0 (e3 24 0 0) (e3 0 0 11) (by decide) (by decide) (by decide +kernel))
theorem mt_b89 : ∀ j, j < 6 → fol (mt.y 8 9) mt.D j = v3 (28) (0) (-11) j := fol_v3 (a := 24) (b := 0) (c := -11) (fun j hj => (by unfold TP.y TP.n; rw [mt_n9 j hj, mt_n8 j hj]; revert j; decide)) mt_b89_flo
theorem mt_c4 {u : Nat → Int} (hu : ∀ j, j < 6 → u j = v3 (-8) (0) (4) j) {m : Int} {b : Bool} (h : Ce (nr u mt.D) m b) : m = 386313 := by
  have l := cents_lo (z := v3 (-8) (0) (4)) (D := mt.D) (m := 386313) (p := 1289) (q := 1001) (by decide) (TT_nat 1289 0 (e3 0 0 4004) (e3 8008 0 0) (by decide) (by decide) (by decide +kernel)) (by decide); have r := cents_hi (z := v3 (-8) (0) (4)) (D := mt.D) (m := 386313) (p := 2117) (q := 1644) (SS_nat 2117 0 (e3 0 0 6576) (e3 13152 0 0) (by decide) (by decide) (by decide +kernel)) (by decide); exact Ce.is (by decide) h (l.congr fun j hj => by rw [hu j hj]) (r.congr fun j hj => by rw [hu j hj])
theorem mt_c1 {u : Nat → Int} (hu : ∀ j, j < 6 → u j = v3 (0) (0) (1) j) {m : Int} {b : Bool} (h : Ce (nr u mt.D) m b) : m = 696578 := by
  have l := cents_lo (z := v3 (0) (0) (1)) (D := mt.D) (m := 696578) (p := 3325) (q := 1432) (by decide) (TT_nat 3325 0 (e3 0 0 1432) (e3 0 0 0) (by decide) (by decide) (by decide +kernel)) (by decide); have r := cents_hi (z := v3 (0) (0) (1)) (D := mt.D) (m := 696578) (p := 1493) (q := 643) (SS_nat 1493 0 (e3 0 0 643) (e3 0 0 0) (by decide) (by decide) (by decide +kernel)) (by decide); exact Ce.is (by decide) h (l.congr fun j hj => by rw [hu j hj]) (r.congr fun j hj => by rw [hu j hj])
theorem mt_third {u : Nat → Int} (hu : ∀ j, j < 6 → u j = v3 (28) (0) (-12) j) {m : Int} {b : Bool} (h : Ce (nr u mt.D) m b) : m = 41058 := by
  have l := cents_lo (z := v3 (28) (0) (-12)) (D := mt.D) (m := 41058) (p := 75) (q := 548) (by decide) (TT_nat 75 0 (e3 15344 0 0) (e3 0 0 6576) (by decide) (by decide) (by decide +kernel)) (by decide); have r := cents_hi (z := v3 (28) (0) (-12)) (D := mt.D) (m := 41058) (p := 137) (q := 1001) (SS_nat 137 0 (e3 28028 0 0) (e3 0 0 12012) (by decide) (by decide) (by decide +kernel)) (by decide); exact Ce.is (by decide) h (l.congr fun j hj => by rw [hu j hj]) (r.congr fun j hj => by rw [hu j hj])
theorem mt_fifth {u : Nat → Int} (hu : ∀ j, j < 6 → u j = v3 (32) (-4) (-11) j) {m : Int} {b : Bool} (h : Ce (nr u mt.D) m b) : m = 35682 := by
  have l := cents_lo (z := v3 (32) (-4) (-11)) (D := mt.D) (m := 35682) (p := 211) (q := 1774) (by decide) (TT_nat 211 0 (e3 56768 0 0) (e3 0 7096 19514) (by decide) (by decide) (by decide +kernel)) (by decide); have r := cents_hi (z := v3 (32) (-4) (-11)) (D := mt.D) (m := 35682) (p := 27) (q := 227) (SS_nat 27 0 (e3 7264 0 0) (e3 0 908 2497) (by decide) (by decide) (by decide +kernel)) (by decide); exact Ce.is (by decide) h (l.congr fun j hj => by rw [hu j hj]) (r.congr fun j hj => by rw [hu j hj])
end Go.Proofs.YtgmpipimancnhaaGreatDoor
namespace Go.Proofs.YtgmpipimancnhaaGreatDoor
set_option linter.unusedSimpArgs false
set_option linter.unusedVariables false
theorem nr_one (f : Nat → Int) : RV.of f 1 = nr f 1 := by
  have hg : (RV.of f 1).gcd 6 = 1 := Nat.eq_one_of_dvd_one ((RV.gcd_dvd (RV.of f 1) 6).1); unfold nr; refine RV.red_unique hg (mkR_one _ (Int.le_refl 1)) (Int.le_refl 1) (mkR_pos _ (Int.le_refl 1)) fun j hj => ?_
  have e1 := mkR_numg (RV.of f 1) hj; have e2 := mkR_dg (RV.of f 1); rw [hg] at e1 e2; rw [show ((1 : Nat) : Int) = 1 by rfl, Int.mul_one] at e1 e2; rw [e1, e2]
theorem nr_up (f : Nat → Int) {D : Int} (hD : 1 ≤ D) : nr f 1 = nr (fun j => f j * D) D := nr_cross (by decide) hD fun j _ => by rw [Int.mul_one]
theorem of_pyth : ofS 531441 524288 = (nr (v3 (-19) (12) (0)) 1, 0) := by
  have h1 : stripN (531441 : Int).natAbs 6 = stripN (524288 : Int).natAbs 6 := (by decide +kernel); have h2 : ∀ j, j < 6 → ofF (531441 : Int).natAbs (524288 : Int).natAbs 6 j = v3 (-19) (12) (0) j := six (by decide +kernel) (by decide +kernel) (by decide +kernel) (by decide +kernel) (by decide +kernel) (by decide +kernel); unfold ofS; rw [if_pos ⟨⟨by decide, by decide⟩, ⟨by decide, by decide⟩⟩, if_pos h1, RV.of_congr 1 h2, nr_one]
theorem of_synt : ofS 81 80 = (nr (v3 (-4) (4) (-1)) 1, 0) := by
  have h1 : stripN (81 : Int).natAbs 6 = stripN (80 : Int).natAbs 6 := (by decide +kernel); have h2 : ∀ j, j < 6 → ofF (81 : Int).natAbs (80 : Int).natAbs 6 j = v3 (-4) (4) (-1) j := six (by decide +kernel) (by decide +kernel) (by decide +kernel) (by decide +kernel) (by decide +kernel) (by decide +kernel); unfold ofS; rw [if_pos ⟨⟨by decide, by decide⟩, ⟨by decide, by decide⟩⟩, if_pos h1, RV.of_congr 1 h2, nr_one]
theorem of_seven : ofS 128 1 = (nr (v3 (7) (0) (0)) 1, 0) := by
  have h1 : stripN (128 : Int).natAbs 6 = stripN (1 : Int).natAbs 6 := (by decide +kernel); have h2 : ∀ j, j < 6 → ofF (128 : Int).natAbs (1 : Int).natAbs 6 j = v3 (7) (0) (0) j := six (by decide +kernel) (by decide +kernel) (by decide +kernel) (by decide +kernel) (by decide +kernel) (by decide +kernel); unfold ofS; rw [if_pos ⟨⟨by decide, by decide⟩, ⟨by decide, by decide⟩⟩, if_pos h1, RV.of_congr 1 h2, nr_one]
theorem of_fif : ofS 3 2 = (nr (v3 (-1) (1) (0)) 1, 0) := by
  have h1 : stripN (3 : Int).natAbs 6 = stripN (2 : Int).natAbs 6 := (by decide +kernel); have h2 : ∀ j, j < 6 → ofF (3 : Int).natAbs (2 : Int).natAbs 6 j = v3 (-1) (1) (0) j := six (by decide +kernel) (by decide +kernel) (by decide +kernel) (by decide +kernel) (by decide +kernel) (by decide +kernel); unfold ofS; rw [if_pos ⟨⟨by decide, by decide⟩, ⟨by decide, by decide⟩⟩, if_pos h1, RV.of_congr 1 h2, nr_one]
theorem of_thi : ofS 5 4 = (nr (v3 (-2) (0) (1)) 1, 0) := by
  have h1 : stripN (5 : Int).natAbs 6 = stripN (4 : Int).natAbs 6 := (by decide +kernel); have h2 : ∀ j, j < 6 → ofF (5 : Int).natAbs (4 : Int).natAbs 6 j = v3 (-2) (0) (1) j := six (by decide +kernel) (by decide +kernel) (by decide +kernel) (by decide +kernel) (by decide +kernel) (by decide +kernel); unfold ofS; rw [if_pos ⟨⟨by decide, by decide⟩, ⟨by decide, by decide⟩⟩, if_pos h1, RV.of_congr 1 h2, nr_one]
theorem of_one : ofS 1 1 = (nr (v3 (0) (0) (0)) 1, 0) := by
  have h1 : stripN (1 : Int).natAbs 6 = stripN (1 : Int).natAbs 6 := (by decide +kernel); have h2 : ∀ j, j < 6 → ofF (1 : Int).natAbs (1 : Int).natAbs 6 j = v3 (0) (0) (0) j := six (by decide +kernel) (by decide +kernel) (by decide +kernel) (by decide +kernel) (by decide +kernel) (by decide +kernel); unfold ofS; rw [if_pos ⟨⟨by decide, by decide⟩, ⟨by decide, by decide⟩⟩, if_pos h1, RV.of_congr 1 h2, nr_one]
end Go.Proofs.YtgmpipimancnhaaGreatDoor
namespace Go.Proofs.YtgmpipimancnhaaGreatDoor
set_option linter.unusedSimpArgs false
set_option linter.unusedVariables false
def TV.tp (t : TV) : TP := ⟨t.syn, t.wolf.toNat, (t.all 12 : Nat), fun k => t.num k * ((t.all 12 : Nat) / t.den k)⟩
theorem TV.tp_den {N : ByteArray → Bool} {t : TV} (h : t.chk N = 0) {k : Nat} (hk : k < 12) : t.tp.D = t.den k * ((t.all 12 : Nat) / t.den k) := by
  obtain ⟨_, h2, _, _, _, h6⟩ := TV.chk_ok h; have hd := TV.all_dvd h2 12 (Nat.le_refl _) h6 k hk; exact (Int.mul_ediv_cancel' (Int.natAbs_dvd.1 (Int.ofNat_dvd.2 hd))).symm
theorem TV.tp_ok {N : ByteArray → Bool} {t : TV} (h : t.chk N = 0) : t.tp.Ok := by
  obtain ⟨h1, h2, _, _, h5, h6⟩ := TV.chk_ok h; have hp := TV.all_pos h2 12 (Nat.le_refl _); refine ⟨?_, ?_, fun k hk => ?_⟩
  · show t.wolf.toNat < 12; omega
  · show 1 ≤ ((t.all 12 : Nat) : Int) ∧ ((t.all 12 : Nat) : Int) ≤ 120; omega
  · have hb := h2 k hk; have hD := TV.tp_den h hk; have hD0 : 1 ≤ t.tp.D := (by show 1 ≤ ((t.all 12 : Nat) : Int); omega); unfold TV.bad at hb; show -(2 * t.tp.D) ≤ t.num k * ((t.all 12 : Nat) / t.den k) ∧ t.num k * ((t.all 12 : Nat) / t.den k) ≤ 2 * t.tp.D; rw [hD]; rw [hD] at hD0; generalize ((t.all 12 : Nat) : Int) / t.den k = m at *
    have hm : 0 ≤ m := by
      rcases Int.lt_or_le m 0 with g | g
      · have := Int.mul_le_mul_of_nonneg_left (show m ≤ 0 by omega) (show 0 ≤ t.den k by omega); omega
      · exact g
    have l1 := Int.mul_le_mul_of_nonneg_right (show -2 * t.den k ≤ t.num k by omega) hm; have l2 := Int.mul_le_mul_of_nonneg_right (show t.num k ≤ 2 * t.den k by omega) hm; rw [Int.mul_assoc] at l1 l2; omega
def mtT : TV := ⟨"meantone".toUTF8, true, 8, fun k => if k = 8 then 0 else 1, fun k => if k = 8 then 1 else 4⟩
theorem mtT_all : mtT.all 12 = 4 := by decide +kernel
theorem mtT_chk : mtT.chk nameS = 0 := by
  have hn : nameS mtT.nm = true := (by decide +kernel); unfold TV.chk; rw [if_neg (by decide), if_neg, if_neg, if_neg (by rw [mtT_all]; decide)]
  · rw [hn]; rintro (h | ⟨i, hi, h⟩ | h)
    · exact absurd h (by decide)
    · refine h ?_; unfold TV.low mtT; show Nat.gcd (if i = 8 then (0 : Int) else 1).natAbs (if i = 8 then (1 : Int) else 4).natAbs = 1
      split <;> rfl
    · exact h (by decide)
  · rintro ⟨i, hi, h⟩; unfold TV.bad mtT at h; simp only [] at h
    split at h <;> omega
theorem mtT_tp : mtT.tp = mt := by
  unfold TV.tp mt; rw [mtT_all]; congr 1; funext k; show (if k = 8 then (0 : Int) else 1) * (((4 : Nat) : Int) / (if k = 8 then (1 : Int) else 4)) = if k = 8 then 0 else 1
  split <;> rfl
end Go.Proofs.YtgmpipimancnhaaGreatDoor
namespace Go.Proofs.YtgmpipimancnhaaGreatDoor
set_option linter.unusedSimpArgs false
set_option linter.unusedVariables false
theorem of_comma (syn : Bool) : (if syn then ofS 81 80 else ofS 531441 524288) = (nr (cmv syn) 1, 0) := by
  cases syn
  · show ofS 531441 524288 = _; rw [of_pyth]; exact congrArg (fun r : RV => (r, (0 : Int))) (nr_congr (by decide))
  · show ofS 81 80 = _; rw [of_synt]; exact congrArg (fun r : RV => (r, (0 : Int))) (nr_congr (by decide))
def TP.pt (t : TP) (k j : Nat) : Int := t.e k * cmv t.syn j
theorem cmv_bd (syn : Bool) : ∀ j, j < 6 → -19 ≤ cmv syn j ∧ cmv syn j ≤ 12 := by cases syn <;> decide
theorem TP.Ok.pt_fits {t : TP} (h : t.Ok) {k : Nat} (hk : k < 12) : fitsV (t.pt k) t.D := by
  have hD := h.hD; refine ⟨⟨hD.1, by omega⟩, fun j hj => ?_⟩; obtain ⟨e1, e2⟩ := h.he k hk; obtain ⟨c1, c2⟩ := cmv_bd t.syn j hj; unfold TP.pt
  have a : (t.e k * cmv t.syn j).natAbs ≤ 240 * 19 := by
    rw [Int.natAbs_mul]; exact Nat.mul_le_mul (by omega) (by omega)
  omega
theorem cmv_fits (syn : Bool) : fitsV (cmv syn) 1 := ⟨by decide, fun j hj => by have := cmv_bd syn j hj; omega⟩
theorem TV.part_pow {N : ByteArray → Bool} {t : TV} (h : t.chk N = 0) {k : Nat} (hk : k < 12) : powS (nr (cmv t.syn) 1) (t.num k) (t.den k) = (nr (t.tp.pt k) t.tp.D, 0) := by
  have hok := TV.tp_ok h; obtain ⟨_, h2, _, _, _, _⟩ := TV.chk_ok h; have hb := h2 k hk; unfold TV.bad at hb; refine pow_nr (m := (t.all 12 : Nat) / t.den k) (cmv_fits t.syn) (hok.pt_fits hk) ⟨by omega, by omega⟩ ⟨by omega, by omega⟩ (TV.tp_den h hk) fun j hj => ?_
  show t.num k * ((t.all 12 : Nat) / t.den k) * cmv t.syn j = cmv t.syn j * t.num k * ((t.all 12 : Nat) / t.den k); generalize ((t.all 12 : Nat) : Int) / t.den k = m; generalize cmv t.syn j = c; generalize t.num k = n; rw [Int.mul_comm, ← Int.mul_assoc]
theorem TP.Ok.g_fits {t : TP} (h : t.Ok) {k : Nat} (hk : k < 12) : fitsV (t.g k) t.D := by
  have hD := h.hD; refine ⟨⟨hD.1, by omega⟩, fun j hj => ?_⟩; have := h.g_bd hk j; unfold bd at this
  split at this
  · omega
  · split at this
    · omega
    · split at this <;> omega
theorem up_fits {f : Nat → Int} {D : Int} (hD : 1 ≤ D ∧ D ≤ 120) (hf : ∀ j, j < 6 → -100 ≤ f j ∧ f j ≤ 100) : fitsV (fun j => f j * D) D := by
  refine ⟨⟨hD.1, by omega⟩, fun j hj => ?_⟩
  have a : (f j * D).natAbs ≤ 100 * 120 := by
    rw [Int.natAbs_mul]; exact Nat.mul_le_mul (by have := hf j hj; omega) (by omega)
  show -100000 ≤ f j * D ∧ f j * D ≤ 100000; omega
theorem fif_up {D : Int} (hD : 1 ≤ D) : ofS 3 2 = (nr (fun j => b32 j * D) D, 0) := by
  rw [of_fif, nr_up _ hD]; refine congrArg (fun r : RV => (r, (0 : Int))) ?_
  exact nr_congr fun j hj => by
    have e : v3 (-1) 1 0 j = b32 j := (by revert j; decide); rw [e]
theorem b32_bd : ∀ j, j < 6 → -100 ≤ b32 j ∧ b32 j ≤ 100 := by decide
theorem TP.Ok.fifth_join {t : TP} (h : t.Ok) {k : Nat} (hk : k < 12) (hw : k ≠ t.w) : joinS (nr (fun j => b32 j * t.D) t.D) (nr (t.pt k) t.D) (-1) = (nr (t.g k) t.D, 0) :=
  join_nr (up_fits h.hD b32_bd) (h.pt_fits hk) (h.g_fits hk) fun j hj => by
    unfold TP.g TP.pt; rw [if_neg hw, Int.mul_comm t.D]; omega
theorem TP.Ok.rest_join {t : TP} (h : t.Ok) {k : Nat} (hk : k < 12) : joinS (nr (t.rv k) t.D) (nr (t.g k) t.D) (-1) = (nr (t.rv (k + 1)) t.D, 0) :=
  join_nr ((h.rv_small (by omega)).fits h.hD) (h.g_fits hk) ((h.rv_small (by omega)).fits h.hD) fun j hj => by
    unfold TP.rv; rw [TP.G]; omega
theorem TP.rest_wolf (t : TP) : nr (t.rv (t.w + 1)) t.D = nr (t.rv t.w) t.D := nr_congr fun j hj => by
  unfold TP.rv; rw [TP.G]; unfold TP.g; rw [if_pos rfl]; omega
theorem TP.Ok.seven {t : TP} (h : t.Ok) : ofS 128 1 = (nr (t.rv 0) t.D, 0) := by
  rw [of_seven, nr_up _ h.hD.1]; refine congrArg (fun r : RV => (r, (0 : Int))) ?_
  exact nr_congr fun j hj => by
    have e : v3 7 0 0 j = oct 7 j := (by revert j; decide); unfold TP.rv; rw [TP.G, e]; unfold oct
    split <;> omega
theorem TP.f_ne {t : TP} {k : Nat} (hw : k ≠ t.w) : t.f k = t.g k := by unfold TP.f; funext j; rw [if_neg hw]
theorem TP.f_w (t : TP) : t.f t.w = t.rv 12 := by unfold TP.f; funext j; rw [if_pos rfl]
theorem TP.Ok.f_fits {t : TP} (h : t.Ok) {k : Nat} (hk : k < 12) : fitsV (t.f k) t.D := (h.f_small hk).fits h.hD
theorem TP.Ok.S_fits {t : TP} (h : t.Ok) {k : Nat} (hk : k ≤ 12) : fitsV (t.S k) t.D := (h.S_small hk).fits h.hD
theorem TP.Ok.note_join {t : TP} (h : t.Ok) {k : Nat} (hk : k < 12) : joinS (nr (t.S k) t.D) (nr (t.f k) t.D) 1 = (nr (t.S (k + 1)) t.D, 0) :=
  join_nr (h.S_fits (by omega)) (h.f_fits hk) (h.S_fits (by omega)) fun j hj => by rw [TP.S_succ]; omega
theorem TP.Ok.one {t : TP} (h : t.Ok) : ofS 1 1 = (nr (t.S 0) t.D, 0) := by
  rw [of_one, nr_up _ h.hD.1]; refine congrArg (fun r : RV => (r, (0 : Int))) ?_
  exact nr_congr fun j hj => by
    have e : v3 0 0 0 j = 0 := (by revert j; decide); rw [TP.S_zero, e]; omega
theorem TP.Ok.n_fits {t : TP} (h : t.Ok) {k : Nat} (hk : k ≤ 12) : fitsV (t.n k) t.D := (h.n_tame hk).fits ⟨h.hD.1, by have := h.hD; omega⟩ (by have := h.hD; omega)
theorem TP.Ok.y_fits {t : TP} (h : t.Ok) {a b : Nat} (ha : a ≤ 12) (hb : b ≤ 12) : fitsV (t.y a b) t.D := (h.y_tame ha hb).fits ⟨h.hD.1, by have := h.hD; omega⟩ (by have := h.hD; omega)
theorem TP.Ok.b_fits {t : TP} (h : t.Ok) {a b : Nat} (ha : a ≤ 12) (hb : b ≤ 12) : fitsV (t.b a b) t.D := (h.b_tame ha hb).fits ⟨h.hD.1, by have := h.hD; omega⟩ (by have := h.hD; omega)
theorem TP.Ok.way_join {t : TP} (h : t.Ok) {a b : Nat} (ha : a ≤ 12) (hb : b ≤ 12) : joinS (nr (t.n b) t.D) (nr (t.n a) t.D) (-1) = (nr (t.y a b) t.D, 0) :=
  join_nr (h.n_fits hb) (h.n_fits ha) (h.y_fits ha hb) fun j hj => by unfold TP.y; omega
noncomputable def TP.x (t : TP) (p : Nat → Int) (a b j : Nat) : Int := t.b a b j - p j * t.D
theorem b32_rng {D : Int} (hD : 1 ≤ D) : TT 0 (fun j => b32 j * D) ∧ SS D (fun j => b32 j * D) := by
  obtain ⟨n, rfl⟩ : ∃ n : Nat, D = (n : Int) := ⟨D.toNat, by omega⟩; have h1 : TT 0 b32 := TT_nat 0 0 (fun j => if j = 1 then 1 else 0) (fun j => if j = 0 then 1 else 0) (by decide) (by decide) (by decide +kernel); have h2 : SS 1 b32 := SS_nat 1 0 (fun j => if j = 1 then 1 else 0) (fun j => if j = 0 then 1 else 0) (by decide) (by decide) (by decide +kernel); exact ⟨(h1.scale n).cast (by omega) fun _ _ => rfl, (h2.scale' (n := n) (by omega)).cast (by omega) fun _ _ => rfl⟩
def b54 (j : Nat) : Int := if j = 0 then -2 else if j = 2 then 1 else 0
theorem b54_rng {D : Int} (hD : 1 ≤ D) : TT 0 (fun j => b54 j * D) ∧ SS D (fun j => b54 j * D) := by
  obtain ⟨n, rfl⟩ : ∃ n : Nat, D = (n : Int) := ⟨D.toNat, by omega⟩; have h1 : TT 0 b54 := TT_nat 0 0 (fun j => if j = 2 then 1 else 0) (fun j => if j = 0 then 2 else 0) (by decide) (by decide) (by decide +kernel); have h2 : SS 1 b54 := SS_nat 1 0 (fun j => if j = 2 then 1 else 0) (fun j => if j = 0 then 2 else 0) (by decide) (by decide) (by decide +kernel); exact ⟨(h1.scale n).cast (by omega) fun _ _ => rfl, (h2.scale' (n := n) (by omega)).cast (by omega) fun _ _ => rfl⟩
theorem thi_up {D : Int} (hD : 1 ≤ D) : ofS 5 4 = (nr (fun j => b54 j * D) D, 0) := by
  rw [of_thi, nr_up _ hD]; refine congrArg (fun r : RV => (r, (0 : Int))) ?_
  exact nr_congr fun j hj => by
    have e : v3 (-2) 0 1 j = b54 j := (by revert j; decide); rw [e]
theorem b54_bd : ∀ j, j < 6 → -100 ≤ b54 j ∧ b54 j ≤ 100 := by decide
structure Pure (p : Nat → Int) : Prop where
  bd : ∀ j, j < 6 → -100 ≤ p j ∧ p j ≤ 100
  rng : ∀ D : Int, 1 ≤ D → TT 0 (fun j => p j * D) ∧ SS D (fun j => p j * D)
  z : p 3 = 0 ∧ p 4 = 0 ∧ p 5 = 0
  u : (-1 ≤ p 1 ∧ p 1 ≤ 1) ∧ -1 ≤ p 2 ∧ p 2 ≤ 1
theorem pure32 : Pure b32 := ⟨b32_bd, fun _ h => b32_rng h, by decide, by decide⟩
theorem pure54 : Pure b54 := ⟨b54_bd, fun _ h => b54_rng h, by decide, by decide⟩
theorem TP.Ok.x_rng {t : TP} (h : t.Ok) {p : Nat → Int} (hp : Pure p) {a b : Nat} (ha : a ≤ 12) (hb : b ≤ 12) : TT (-t.D) (t.x p a b) ∧ SS t.D (t.x p a b) := by
  obtain ⟨r1, r2⟩ := h.b_range ha hb; obtain ⟨p1, p2⟩ := hp.rng t.D h.hD.1; exact sub_range r1 r2 p1 p2
theorem TP.Ok.x_fits {t : TP} (h : t.Ok) {p : Nat → Int} (hp : Pure p) {a b : Nat} (ha : a ≤ 12) (hb : b ≤ 12) : fitsV (t.x p a b) t.D := by
  have hD := h.hD; refine ⟨⟨hD.1, by omega⟩, fun j hj => ?_⟩; have h1 := (h.b_fits ha hb).2 j hj; have h2 := (up_fits (f := p) hD hp.bd).2 j hj; obtain ⟨r1, r2⟩ := h.x_rng hp ha hb; have hbt := h.b_tame ha hb
  have tx : tame (t.x p a b) t.D := by
    refine ⟨?_, ?_, ⟨?_, ?_, ?_⟩, r1, r2⟩
    · have e1 : t.x p a b 1 = t.S b 1 - t.S a 1 - p 1 * t.D := by
        unfold TP.x TP.b; rw [fol_same _ _ (by decide)]; unfold TP.y TP.n; rw [fol_same _ _ (by decide), fol_same _ _ (by decide)]
      have d1 := h.diff hb ha 1; rw [show bd 1 = 25 from rfl, show oct (7 * t.D) 1 = 0 from rfl] at d1; have m1 := Int.mul_le_mul_of_nonneg_right hp.u.1.1 (show 0 ≤ t.D by omega); have m2 := Int.mul_le_mul_of_nonneg_right hp.u.1.2 (show 0 ≤ t.D by omega); rw [e1]; omega
    · have e1 : t.x p a b 2 = t.S b 2 - t.S a 2 - p 2 * t.D := by
        unfold TP.x TP.b; rw [fol_same _ _ (by decide)]; unfold TP.y TP.n; rw [fol_same _ _ (by decide), fol_same _ _ (by decide)]
      have d1 := h.diff hb ha 2; rw [show bd 2 = 2 from rfl, show oct (7 * t.D) 2 = 0 from rfl] at d1; have m1 := Int.mul_le_mul_of_nonneg_right hp.u.2.1 (show 0 ≤ t.D by omega); have m2 := Int.mul_le_mul_of_nonneg_right hp.u.2.2 (show 0 ≤ t.D by omega); rw [e1]; omega
    · unfold TP.x; rw [hbt.h3.1, hp.z.1]; omega
    · unfold TP.x; rw [hbt.h3.2.1, hp.z.2.1]; omega
    · unfold TP.x; rw [hbt.h3.2.2, hp.z.2.2]; omega
  exact (tx.fits ⟨hD.1, by omega⟩ (by omega)).2 j hj
theorem TP.Ok.x_join {t : TP} (h : t.Ok) {p : Nat → Int} (hp : Pure p) {a b : Nat} (ha : a ≤ 12) (hb : b ≤ 12) : joinS (nr (t.b a b) t.D) (nr (fun j => p j * t.D) t.D) (-1) = (nr (t.x p a b) t.D, 0) :=
  join_nr (h.b_fits ha hb) (up_fits h.hD hp.bd) (h.x_fits hp ha hb) fun j hj => by unfold TP.x; omega
end Go.Proofs.YtgmpipimancnhaaGreatDoor
namespace Go.Proofs.YtgmpipimancnhaaGreatDoor
set_option linter.unusedSimpArgs false
open Go.RowKit
set_option linter.unusedVariables false
end Go.Proofs.YtgmpipimancnhaaGreatDoor
namespace Go.Proofs.YtgmpipimancnhaaGreatDoor
set_option linter.unusedSimpArgs false
open Go.RowKit
set_option linter.unusedVariables false
theorem inR_mul2 {x m : Int} (hx : inR x) (h1 : -1000 ≤ m) (h2 : m ≤ 1000) : -100000000 ≤ x * m ∧ x * m ≤ 100000000 := by
  have hab : (x * m).natAbs ≤ 100000 * 1000 := by
    rw [Int.natAbs_mul]; exact Nat.mul_le_mul (by have := hx.1; have := hx.2; omega) (by omega)
  omega
theorem okP_cases (n d : Int) : okP n d ∨ (¬ okP n d ∧ (n < -1000 ∨ (¬ n < -1000 ∧ 1000 < n) ∨ (¬ n < -1000 ∧ ¬ 1000 < n ∧ d < -1000) ∨ (¬ n < -1000 ∧ ¬ 1000 < n ∧ ¬ d < -1000 ∧ 1000 < d) ∨ (¬ n < -1000 ∧ ¬ 1000 < n ∧ ¬ d < -1000 ∧ ¬ 1000 < d ∧ d = 0))) := by
  unfold okP; omega
set_option maxHeartbeats 6400000 in
set_option maxRecDepth 100000 in
theorem vPow_any (a : RV) (n d : Int) (w : World) : Calls Tryz.prog 84 #[.agg a.cells, .int .i64 n, .int .i64 d] w fun e w' => OfRes e (powS a n d) ∧ Below w.heap.size w w' := by
  have hu := ((Below.refl w.heap.size w).alloc (Nat.le_refl _) (.cells a.cells 69)).alloc (by simp) (.cells RVzero.cells 69); have X0 := (Blk.new w 69 a.cells).alloc (.cells RVzero.cells 69); have X1 := Blk.new (w.alloc (.cells a.cells 69)) 69 RVzero.cells; rw [show (w.alloc (.cells a.cells 69)).heap.size = w.heap.size + 1 by simp] at X1; rw [RVzero_cells] at hu X1 X0; have HC : Sl _ := ⟨fun W : World => rcheckR_any a W⟩; have hca : a.cells = #[.int .i64 a.n0, .int .i64 a.n1, .int .i64 a.n2, .int .i64 a.n3, .int .i64 a.n4, .int .i64 a.n5, .int .i64 a.d] := rfl; rw [hca] at HC hu X0 X1 ⊢; have HCE : Sl _ := ⟨hca⟩; have x0 := X0.cell 0; have x1 := X0.cell 1; have x2 := X0.cell 2; have x3 := X0.cell 3; have x4 := X0.cell 4; have x5 := X0.cell 5; have x6 := X0.cell 6; simp at x0 x1 x2 x3 x4 x5 x6; have HU : Sl _ := ⟨And.intro hu (And.intro X0 X1)⟩; clear hu X0 X1 hca; obtain ⟨s, hs⟩ : ∃ s, powS a n d = s := ⟨_, rfl⟩; rw [hs]; have HSS : Sl _ := ⟨hs⟩; obtain ⟨c, hc⟩ : ∃ c, checkS a = c := ⟨_, rfl⟩; rw [hc] at HC; have HK : Sl _ := ⟨hc⟩; clear hs hc; go_enter Tryz.func84, Tryz.ntmps84; go_wp2_with fail; clear x0 x1 x2 x3 x4 x5 x6; generalize (w.alloc (.cells #[.int .i64 a.n0, .int .i64 a.n1, .int .i64 a.n2, .int .i64 a.n3, .int .i64 a.n4, .int .i64 a.n5, .int .i64 a.d] 69)).alloc (.cells #[.int .i64 0, .int .i64 0, .int .i64 0, .int .i64 0, .int .i64 0, .int .i64 0, .int .i64 0] 69) = w0 at *
  refine (HC.out _).mono ?_; rintro e w1 ⟨rfl, hb1⟩; have hB := HU.out.1.trans (hb1.mono HU.out.1.size); have Xa := HU.out.2.1.below hb1 HU.out.2.1.lt; have Z := HU.out.2.2.below hb1 HU.out.2.2.lt; rw [← HCE.out] at Xa; have HW : Sl _ := ⟨And.intro hB (And.intro Xa Z)⟩; clear hB Xa Z hb1 HU HC
  by_cases h0 : c = 0
  · have hk := checkS_ok (HK.out.trans h0)
    have hsp : (okP n d → madeS (powR a n d) = s) ∧ (¬ okP n d → s = (RVzero, 2)) := by
      rw [← HSS.out]; unfold powS; rw [if_pos (HK.out.trans h0)]; exact ⟨fun h => by rw [if_pos h], fun h => by rw [if_neg h]⟩
    have HSP : Sl _ := ⟨hsp⟩; clear hsp HSS; subst h0; rcases okP_cases n d with hok | ⟨hno, hbad⟩
    · have hgood := powR_good HK.out hok; have hsj : madeS (powR a n d) = s := HSP.out.1 hok; have HG : Sl _ := ⟨And.intro hgood (And.intro hsj hk)⟩; clear hgood hsj hk HSP; obtain ⟨⟨hn1, hn2⟩, ⟨hd1, hd2⟩, hd0⟩ := hok; have hne : (d == 0) = false := (by rw [beq_eq_false_iff_ne]; exact hd0); have t1 : ¬ n < -1000 := (by omega); have t2 : ¬ 1000 < n := (by omega); have t3 : ¬ d < -1000 := (by omega); have t4 : ¬ 1000 < d := (by omega); rcases Decidable.em (d < 0) with hdn | hdn
      · have hpw : powR a n d = RV.of (fun j => a.num j * (-n)) (a.d * (-d)) := by
          unfold powR; simp only [hdn, if_true, if_false]
        obtain ⟨q, hq⟩ : ∃ q, powR a n d = q := ⟨_, rfl⟩; rw [hq] at HG hpw; have HPW : Sl _ := ⟨hpw.symm⟩; clear hpw hq; have hM1 : -1000 ≤ -n ∧ -n ≤ 1000 := (by omega); have hwM : IntKind.i64.wrap (-n) = -n := (by rw [IntKind.wrap_i64]; omega); have hwC : IntKind.i64.wrap (-d) = -d := (by rw [IntKind.wrap_i64]; omega); go_wp2_with fail; clear hwM hwC; generalize hMM : -n = M at *
        generalize hCC : -d = Cc at *
        go_loopw [41] (fun s41 wr => ∃ i : Nat, i ≤ 6 ∧ s41 = .int .i64 i ∧ Sl (Below w.heap.size w wr ∧ Blk wr w.heap.size 69 (RV.of (fun j => if j < i then a.num j * M else a.num j) a.d).cells ∧ Blk wr (w.heap.size + 1) 69 #[.int .i64 0, .int .i64 0, .int .i64 0, .int .i64 0, .int .i64 0, .int .i64 0, .int .i64 0])) (fun s41 _ => 6 - (RowKit.intOf s41).toNat)
        case atStart => exact ⟨0, by decide, rfl, ⟨HW.out.1, HW.out.2.1, HW.out.2.2⟩⟩
        case round =>
          clear HW; obtain ⟨i, hi, rfl, HI⟩ := hrel
          by_cases hi6 : i < 6
          · obtain ⟨z, hz⟩ : ∃ z, a.num i = z := ⟨_, rfl⟩; have cA : wr.cell? ⟨w.heap.size, i, none⟩ = some (.int .i64 z) := (by rw [HI.out.2.1.cell, RV.of_cell _ _ hi6, if_neg (Nat.lt_irrefl _), hz]); have hfz : wr.frozen? ⟨w.heap.size, i, none⟩ = false := HI.out.2.1.frozen i; have p1 := inR_mul2 (HG.out.2.2.2.1 i hi6) hM1.1 hM1.2; rw [hz] at p1; obtain ⟨P, hP⟩ : ∃ P, z * M = P := ⟨_, rfl⟩; rw [hP] at p1; obtain ⟨p1a, p1b⟩ := p1; have hwP : IntKind.i64.wrap P = P := (by rw [IntKind.wrap_i64]; omega); have hPn := HI.out.2.1.set_ i (.int .i64 P); rw [RV.of_set _ _ _ hi6, RV.of_congr a.d (fun j hj => (?_ : _ = if j < i + 1 then a.num j * M else a.num j))] at hPn
            rotate_left
            · by_cases h : j = i
              · rw [if_pos h, if_pos (by omega), h, hz, hP]
              · rw [if_neg h]
                by_cases h2 : j < i
                · rw [if_pos h2, if_pos (by omega)]
                · rw [if_neg h2, if_neg (by omega)]
            have HN : Sl _ := ⟨And.intro (HI.out.1.setCell (p := ⟨w.heap.size, i, none⟩) (Nat.le_refl _) (.int .i64 P)) (And.intro hPn (HI.out.2.2.far (p := ⟨w.heap.size, i, none⟩) (by show w.heap.size + 1 ≠ w.heap.size; omega) (.int .i64 P)))⟩; clear hPn p1a p1b hz HI; go_wp2_with fail; refine ⟨?_, by simp [RowKit.intOf]; omega⟩
            repeat (first | exact ⟨i + 1, hi6, by go_num, HN⟩ | exact ⟨⟨i + 1, hi6, by go_num, HN⟩, rfl⟩ | exact ⟨i + 1, ⟨hi6, by go_num, HN⟩, rfl⟩ | apply Exists.intro)
          · obtain rfl : i = 6 := (by omega); clear hi6 hi; have hmk : RV.of (fun j => if j < 6 then a.num j * M else a.num j) a.d = RV.of (fun j => a.num j * M) a.d := RV.of_congr a.d (fun j hj => if_pos hj); have Y4 := HI.out.2.1; rw [hmk] at Y4; have hq' : RV.of (fun j => a.num j * M) (a.d * Cc) = q := HPW.out; have hcs : (RV.of (fun j => a.num j * M) a.d).cells = #[.int .i64 q.n0, .int .i64 q.n1, .int .i64 q.n2, .int .i64 q.n3, .int .i64 q.n4, .int .i64 q.n5, .int .i64 a.d] := (by rw [← hq']; rfl); rw [hcs] at Y4; have hqd : a.d * Cc = q.d := (by rw [← hq']; rfl); have hM := fun W : World => rmade_any q W HG.out.1.1 HG.out.1.2.1 HG.out.1.2.2
            have hq1 := HG.out.1.1; have hq2 := HG.out.1.2.1; rw [HG.out.2.1] at hM; have HI2 : Sl _ := ⟨And.intro HI.out.1 HI.out.2.2⟩; clear hmk HI HG hcs hq' HPW; unfold RV.nums at hM; obtain ⟨r, er⟩ := s; unfold OfRes RV.cells at hM; have HM : Sl _ := ⟨hM⟩; have x0 := Y4.cell 0; have x1 := Y4.cell 1; have x2 := Y4.cell 2; have x3 := Y4.cell 3; have x4 := Y4.cell 4; have x5 := Y4.cell 5; have x6 := Y4.cell 6; simp at x0 x1 x2 x3 x4 x5 x6; have hwq : IntKind.i64.wrap q.d = q.d := (by rw [IntKind.wrap_i64]; omega); clear hM Y4 hq1 hq2; go_wp2_with fail; refine (HM.out _).mono ?_; rintro e w3 ⟨rfl, hb3⟩; have hB := HI2.out.1.trans (hb3.mono HI2.out.1.size); have Z := HI2.out.2.below hb3 HI2.out.2.lt; clear x0 x1 x2 x3 x4 x5 x6; have d0 := Z.cell 0; have d1 := Z.cell 1; have d2 := Z.cell 2; have d3 := Z.cell 3; have d4 := Z.cell 4; have d5 := Z.cell 5; have d6 := Z.cell 6; simp at d0 d1 d2 d3 d4 d5 d6; have f0 := Z.frozen 0; have f1 := Z.frozen 1; have f2 := Z.frozen 2; have f3 := Z.frozen 3; have f4 := Z.frozen 4; have f5 := Z.frozen 5; have f6 := Z.frozen 6; have HFIN : Sl _ := ⟨And.intro hB Z⟩; clear hB Z HM hb3; go_wp2_with fail; refine bodyPost_ret (results_rowR rfl _ _ (w.heap.size + 1) _ _ _ rfl (HFIN.out.2.seven _ _ _ _ _ _ _) Tryz.underlying69 rfl (by kernel_rfl)) rfl ?_; exact ⟨rfl, below_seven HFIN.out.1 (Nat.le_succ _) _ _ _ _ _ _ _⟩
      · have hpw : powR a n d = RV.of (fun j => a.num j * (n)) (a.d * (d)) := by
          unfold powR; simp only [hdn, if_true, if_false]
        obtain ⟨q, hq⟩ : ∃ q, powR a n d = q := ⟨_, rfl⟩; rw [hq] at HG hpw; have HPW : Sl _ := ⟨hpw.symm⟩; clear hpw hq; have hM1 : -1000 ≤ n ∧ n ≤ 1000 := (by omega); have hwM : IntKind.i64.wrap (-n) = -n := (by rw [IntKind.wrap_i64]; omega); have hwC : IntKind.i64.wrap (-d) = -d := (by rw [IntKind.wrap_i64]; omega); go_wp2_with fail; clear hwM hwC; generalize hMM : n = M at *
        generalize hCC : d = Cc at *
        go_loopw [41] (fun s41 wr => ∃ i : Nat, i ≤ 6 ∧ s41 = .int .i64 i ∧ Sl (Below w.heap.size w wr ∧ Blk wr w.heap.size 69 (RV.of (fun j => if j < i then a.num j * M else a.num j) a.d).cells ∧ Blk wr (w.heap.size + 1) 69 #[.int .i64 0, .int .i64 0, .int .i64 0, .int .i64 0, .int .i64 0, .int .i64 0, .int .i64 0])) (fun s41 _ => 6 - (RowKit.intOf s41).toNat)
        case atStart => exact ⟨0, by decide, rfl, ⟨HW.out.1, HW.out.2.1, HW.out.2.2⟩⟩
        case round =>
          clear HW; obtain ⟨i, hi, rfl, HI⟩ := hrel
          by_cases hi6 : i < 6
          · obtain ⟨z, hz⟩ : ∃ z, a.num i = z := ⟨_, rfl⟩; have cA : wr.cell? ⟨w.heap.size, i, none⟩ = some (.int .i64 z) := (by rw [HI.out.2.1.cell, RV.of_cell _ _ hi6, if_neg (Nat.lt_irrefl _), hz]); have hfz : wr.frozen? ⟨w.heap.size, i, none⟩ = false := HI.out.2.1.frozen i; have p1 := inR_mul2 (HG.out.2.2.2.1 i hi6) hM1.1 hM1.2; rw [hz] at p1; obtain ⟨P, hP⟩ : ∃ P, z * M = P := ⟨_, rfl⟩; rw [hP] at p1; obtain ⟨p1a, p1b⟩ := p1; have hwP : IntKind.i64.wrap P = P := (by rw [IntKind.wrap_i64]; omega); have hPn := HI.out.2.1.set_ i (.int .i64 P); rw [RV.of_set _ _ _ hi6, RV.of_congr a.d (fun j hj => (?_ : _ = if j < i + 1 then a.num j * M else a.num j))] at hPn
            rotate_left
            · by_cases h : j = i
              · rw [if_pos h, if_pos (by omega), h, hz, hP]
              · rw [if_neg h]
                by_cases h2 : j < i
                · rw [if_pos h2, if_pos (by omega)]
                · rw [if_neg h2, if_neg (by omega)]
            have HN : Sl _ := ⟨And.intro (HI.out.1.setCell (p := ⟨w.heap.size, i, none⟩) (Nat.le_refl _) (.int .i64 P)) (And.intro hPn (HI.out.2.2.far (p := ⟨w.heap.size, i, none⟩) (by show w.heap.size + 1 ≠ w.heap.size; omega) (.int .i64 P)))⟩; clear hPn p1a p1b hz HI; go_wp2_with fail; refine ⟨?_, by simp [RowKit.intOf]; omega⟩
            repeat (first | exact ⟨i + 1, hi6, by go_num, HN⟩ | exact ⟨⟨i + 1, hi6, by go_num, HN⟩, rfl⟩ | exact ⟨i + 1, ⟨hi6, by go_num, HN⟩, rfl⟩ | apply Exists.intro)
          · obtain rfl : i = 6 := (by omega); clear hi6 hi; have hmk : RV.of (fun j => if j < 6 then a.num j * M else a.num j) a.d = RV.of (fun j => a.num j * M) a.d := RV.of_congr a.d (fun j hj => if_pos hj); have Y4 := HI.out.2.1; rw [hmk] at Y4; have hq' : RV.of (fun j => a.num j * M) (a.d * Cc) = q := HPW.out; have hcs : (RV.of (fun j => a.num j * M) a.d).cells = #[.int .i64 q.n0, .int .i64 q.n1, .int .i64 q.n2, .int .i64 q.n3, .int .i64 q.n4, .int .i64 q.n5, .int .i64 a.d] := (by rw [← hq']; rfl); rw [hcs] at Y4; have hqd : a.d * Cc = q.d := (by rw [← hq']; rfl); have hM := fun W : World => rmade_any q W HG.out.1.1 HG.out.1.2.1 HG.out.1.2.2
            have hq1 := HG.out.1.1; have hq2 := HG.out.1.2.1; rw [HG.out.2.1] at hM; have HI2 : Sl _ := ⟨And.intro HI.out.1 HI.out.2.2⟩; clear hmk HI HG hcs hq' HPW; unfold RV.nums at hM; obtain ⟨r, er⟩ := s; unfold OfRes RV.cells at hM; have HM : Sl _ := ⟨hM⟩; have x0 := Y4.cell 0; have x1 := Y4.cell 1; have x2 := Y4.cell 2; have x3 := Y4.cell 3; have x4 := Y4.cell 4; have x5 := Y4.cell 5; have x6 := Y4.cell 6; simp at x0 x1 x2 x3 x4 x5 x6; have hwq : IntKind.i64.wrap q.d = q.d := (by rw [IntKind.wrap_i64]; omega); clear hM Y4 hq1 hq2; go_wp2_with fail; refine (HM.out _).mono ?_; rintro e w3 ⟨rfl, hb3⟩; have hB := HI2.out.1.trans (hb3.mono HI2.out.1.size); have Z := HI2.out.2.below hb3 HI2.out.2.lt; clear x0 x1 x2 x3 x4 x5 x6; have d0 := Z.cell 0; have d1 := Z.cell 1; have d2 := Z.cell 2; have d3 := Z.cell 3; have d4 := Z.cell 4; have d5 := Z.cell 5; have d6 := Z.cell 6; simp at d0 d1 d2 d3 d4 d5 d6; have f0 := Z.frozen 0; have f1 := Z.frozen 1; have f2 := Z.frozen 2; have f3 := Z.frozen 3; have f4 := Z.frozen 4; have f5 := Z.frozen 5; have f6 := Z.frozen 6; have HFIN : Sl _ := ⟨And.intro hB Z⟩; clear hB Z HM hb3; go_wp2_with fail; refine bodyPost_ret (results_rowR rfl _ _ (w.heap.size + 1) _ _ _ rfl (HFIN.out.2.seven _ _ _ _ _ _ _) Tryz.underlying69 rfl (by kernel_rfl)) rfl ?_; exact ⟨rfl, below_seven HFIN.out.1 (Nat.le_succ _) _ _ _ _ _ _ _⟩
    · have HZR : Sl (s = (RVzero, 2)) := ⟨HSP.out.2 hno⟩; clear hno HSP hk; have d0 := HW.out.2.2.cell 0; have d1 := HW.out.2.2.cell 1; have d2 := HW.out.2.2.cell 2; have d3 := HW.out.2.2.cell 3; have d4 := HW.out.2.2.cell 4; have d5 := HW.out.2.2.cell 5; have d6 := HW.out.2.2.cell 6; simp at d0 d1 d2 d3 d4 d5 d6; have f0 := HW.out.2.2.frozen 0; have f1 := HW.out.2.2.frozen 1; have f2 := HW.out.2.2.frozen 2; have f3 := HW.out.2.2.frozen 3; have f4 := HW.out.2.2.frozen 4; have f5 := HW.out.2.2.frozen 5; have f6 := HW.out.2.2.frozen 6; rcases hbad with h | ⟨h, h2⟩ | ⟨h, h2, h3⟩ | ⟨h, h2, h3, h4⟩ | ⟨h, h2, h3, h4, rfl⟩
      all_goals (
        go_wp2_with fail; refine bodyPost_ret (results_rowR rfl _ _ (w.heap.size + 1) _ _ _ rfl (HW.out.2.2.seven _ _ _ _ _ _ _) Tryz.underlying69 rfl (by kernel_rfl)) rfl ?_
        exact ⟨by rw [HZR.out]; rfl, below_seven HW.out.1 (Nat.le_succ _) _ _ _ _ _ _ _⟩)
  · have hcz : (c != 0) = true := (by rw [bne_iff_ne]; exact h0)
    have HZR : Sl (s = (RVzero, c)) := ⟨by
      rw [← HSS.out]; unfold powS
      rw [HK.out, if_neg h0]⟩
    have d0 := HW.out.2.2.cell 0; have d1 := HW.out.2.2.cell 1; have d2 := HW.out.2.2.cell 2; have d3 := HW.out.2.2.cell 3; have d4 := HW.out.2.2.cell 4; have d5 := HW.out.2.2.cell 5; have d6 := HW.out.2.2.cell 6; simp at d0 d1 d2 d3 d4 d5 d6; have f0 := HW.out.2.2.frozen 0; have f1 := HW.out.2.2.frozen 1; have f2 := HW.out.2.2.frozen 2; have f3 := HW.out.2.2.frozen 3; have f4 := HW.out.2.2.frozen 4; have f5 := HW.out.2.2.frozen 5; have f6 := HW.out.2.2.frozen 6; go_wp2_with fail; refine bodyPost_ret (results_rowR rfl _ _ (w.heap.size + 1) _ _ _ rfl (HW.out.2.2.seven _ _ _ _ _ _ _) Tryz.underlying69 rfl (by kernel_rfl)) rfl ?_; exact ⟨by rw [HZR.out]; rfl, below_seven HW.out.1 (Nat.le_succ _) _ _ _ _ _ _ _⟩
end Go.Proofs.YtgmpipimancnhaaGreatDoor
namespace Go.Proofs.YtgmpipimancnhaaGreatDoor
set_option linter.unusedSimpArgs false
open Go.RowKit
set_option linter.unusedVariables false
end Go.Proofs.YtgmpipimancnhaaGreatDoor
