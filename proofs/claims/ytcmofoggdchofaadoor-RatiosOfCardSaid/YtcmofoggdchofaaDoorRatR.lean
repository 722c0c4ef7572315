/- The reference of chapter 04: Of. -/
import Derived.Test.YtcmofoggdchofaaDoorRatP
import Derived.Test.YtcmofoggdchofaaDoorRatQ
namespace Go.Proofs.YtcmofoggdchofaaDoor
set_option linter.unusedSimpArgs false
open Go.RowKit
set_option linter.unusedVariables false

set_option maxHeartbeats 6400000 in
set_option maxRecDepth 100000 in
theorem r4Of_good (x y : Nat) (w : World) (hx0 : 0 < x) (hx1 : x ≤ 1000000000000) (hy0 : 0 < y) (hy1 : y ≤ 1000000000000) (s : RV × Int) (hs : (if stripN (x / Nat.gcd x y) 6 = 1 ∧ stripN (y / Nat.gcd x y) 6 = 1 then (RV.of (ofF (x / Nat.gcd x y) (y / Nat.gcd x y) 6) 1, (0 : Int)) else (RVzero, 7)) = s) :
    Calls Tryd.prog 8 #[.int .i64 x, .int .i64 y] w fun e w' => OfRes e s ∧ Below w.heap.size w w' := by
  have HSS : Sl _ := ⟨hs⟩
  clear hs
  have hG := fun W : World => r4gcd_any x y W (by omega) (by omega)
  have hg0 : 0 < Nat.gcd x y := Nat.gcd_pos_of_pos_left _ hx0
  have hgx : Nat.gcd x y ≤ x := Nat.gcd_le_left _ hx0
  have hgy : Nat.gcd x y ≤ y := Nat.gcd_le_right _ hy0
  generalize Nat.gcd x y = g at *
  have HG : Sl _ := ⟨hG⟩
  obtain ⟨x1, hx2⟩ : ∃ x1, x / g = x1 := ⟨_, rfl⟩
  obtain ⟨y1, hy2⟩ : ∃ y1, y / g = y1 := ⟨_, rfl⟩
  have hxp : 0 < x1 := by rw [← hx2]; exact Nat.div_pos hgx hg0
  have hyp : 0 < y1 := by rw [← hy2]; exact Nat.div_pos hgy hg0
  have hxl : x1 ≤ 1000000000000 := by have := Nat.div_le_self x g; omega
  have hyl : y1 ≤ 1000000000000 := by have := Nat.div_le_self y g; omega
  rw [hx2, hy2] at HSS
  have hdx : (x : Int).tdiv (g : Int) = (x1 : Int) := by rw [Int.tdiv_eq_ediv_of_nonneg (by omega), ← hx2]; rfl
  have hdy : (y : Int).tdiv (g : Int) = (y1 : Int) := by rw [Int.tdiv_eq_ediv_of_nonneg (by omega), ← hy2]; rfl
  have hwx : IntKind.i64.wrap (x1 : Int) = (x1 : Int) := by rw [IntKind.wrap_i64]; omega
  have hwy : IntKind.i64.wrap (y1 : Int) = (y1 : Int) := by rw [IntKind.wrap_i64]; omega
  have hgz : ¬ (g = 0) := by omega
  have HXY : Sl _ := ⟨And.intro hxp (And.intro hxl (And.intro hyp hyl))⟩
  have X4 := Blk.new w 24 RVzero.cells
  have hu := (Below.refl w.heap.size w).alloc (Nat.le_refl _) (.cells RVzero.cells 24)
  rw [RVzero_cells] at X4 hu
  have HU : Sl _ := ⟨And.intro hu X4⟩
  have E0 : Sl ((RV.of (ofF x1 y1 0) 1).cells = #[.int .i64 0, .int .i64 0, .int .i64 0, .int .i64 0, .int .i64 0, .int .i64 0, .int .i64 1]) := ⟨by unfold RV.of RV.cells ofF; simp⟩
  clear hG hgx hgy hx2 hy2 hxp hyp hu X4
  go_enter Tryd.func8, Tryd.ntmps8
  go_wp2_with fail
  refine (HG.out _).mono ?_; rintro e w1 ⟨rfl, dn, rfl⟩
  clear HG
  go_wp2_with fail
  go_quiet (fail)
  have B2 := below_drewN HU.out.1 (dn + nq)
  have X2 : Blk ((w.alloc (.cells #[.int .i64 0, .int .i64 0, .int .i64 0, .int .i64 0, .int .i64 0, .int .i64 0, .int .i64 0] 24)).drewN (dn + nq)) w.heap.size 24 #[.int .i64 0, .int .i64 0, .int .i64 0, .int .i64 0, .int .i64 0, .int .i64 0, .int .i64 0] := HU.out.2.drewN _
  have hsz : ((w.alloc (.cells #[.int .i64 0, .int .i64 0, .int .i64 0, .int .i64 0, .int .i64 0, .int .i64 0, .int .i64 0] 24)).drewN (dn + nq)).heap.size = w.heap.size + 1 := by simp
  rw [drew2]
  generalize (w.alloc (.cells #[.int .i64 0, .int .i64 0, .int .i64 0, .int .i64 0, .int .i64 0, .int .i64 0, .int .i64 0] 24)).drewN (dn + nq) = w2 at *
  have hPr := Primes_any (w2.alloc (.cells #[.int .i64 0, .int .i64 0, .int .i64 0, .int .i64 0, .int .i64 0, .int .i64 0, .int .i64 1] 24))
  have hsz2 : (w2.alloc (.cells #[.int .i64 0, .int .i64 0, .int .i64 0, .int .i64 0, .int .i64 0, .int .i64 0, .int .i64 1] 24)).heap.size = w.heap.size + 2 := by simp [hsz]
  have X7 := Blk.new w2 24 #[.int .i64 0, .int .i64 0, .int .i64 0, .int .i64 0, .int .i64 0, .int .i64 0, .int .i64 1]
  have X8 := Blk.new (w2.alloc (.cells #[.int .i64 0, .int .i64 0, .int .i64 0, .int .i64 0, .int .i64 0, .int .i64 0, .int .i64 1] 24)) 2 primeCells
  rw [hsz] at X7
  rw [hsz2] at hPr X8
  have B3 := (B2.alloc B2.size (.cells #[.int .i64 0, .int .i64 0, .int .i64 0, .int .i64 0, .int .i64 0, .int .i64 0, .int .i64 1] 24)).alloc (by rw [hsz2]; omega) (.cells primeCells 2)
  have HW : Sl _ := ⟨And.intro B3 (And.intro ((X2.alloc (.cells #[.int .i64 0, .int .i64 0, .int .i64 0, .int .i64 0, .int .i64 0, .int .i64 0, .int .i64 1] 24)).alloc (.cells primeCells 2)) (And.intro (X7.alloc (.cells primeCells 2)) X8))⟩
  have HPR : Sl _ := ⟨hPr⟩
  clear B2 X2 X7 X8 B3 hPr hsz2 HU
  go_wp2_with fail
  refine HPR.out.mono ?_; rintro e w3 ⟨rfl, rfl⟩
  generalize (w2.alloc (.cells #[.int .i64 0, .int .i64 0, .int .i64 0, .int .i64 0, .int .i64 0, .int .i64 0, .int .i64 1] 24)).alloc (.cells primeCells 2) = w4 at *
  clear HPR hsz
  go_wp2_with fail
  go_loopw [0, 1, 9] (fun s0 s1 s9 wr => ∃ (i a b : Nat), i ≤ 6 ∧ s0 = .int .i64 a ∧ s1 = .int .i64 b ∧ s9 = .int .i64 i ∧ Sl (Below w.heap.size w wr ∧ Blk wr w.heap.size 24 RVzero.cells ∧ Blk wr (w.heap.size + 1) 24 (RV.of (ofF x1 y1 i) 1).cells ∧ Blk wr (w.heap.size + 2) 2 primeCells ∧ a = stripN x1 i ∧ b = stripN y1 i)) (fun _ _ s9 _ => 6 - (RowKit.intOf s9).toNat)
  case atStart => exact ⟨0, x1, y1, by decide, rfl, rfl, rfl, ⟨HW.out.1, HW.out.2.1, by rw [E0.out]; exact HW.out.2.2.1, HW.out.2.2.2, rfl, rfl⟩⟩
  case round =>
    clear HW E0
    obtain ⟨i, a, b, hi, rfl, rfl, rfl, HR⟩ := hrel
    have ha := stripN_pos HXY.out.1 hi
    have hb := stripN_pos HXY.out.2.2.1 hi
    rw [← HR.out.2.2.2.2.1] at ha
    rw [← HR.out.2.2.2.2.2] at hb
    have ha1 : a ≤ 1000000000000 := Nat.le_trans ha.2 HXY.out.2.1
    have hb1 : b ≤ 1000000000000 := Nat.le_trans hb.2 HXY.out.2.2.2
    have ha0 := ha.1
    have hb0 := hb.1
    clear ha hb
    by_cases hi6 : i < 6
    · obtain ⟨p, hp⟩ : ∃ p, prime i = p := ⟨_, rfl⟩
      have hp2 := prime_two hi6
      rw [hp] at hp2
      have HP : Sl _ := ⟨hp⟩
      clear hp
      go_wp2_with fail
      go_loopw [0] (fun s0 wq => ∃ (c t : Nat), 0 < c ∧ c ≤ 1000000000000 ∧ s0 = .int .i64 c ∧ Sl (Below w.heap.size w wq ∧ Blk wq w.heap.size 24 RVzero.cells ∧ Blk wq (w.heap.size + 1) 24 (RV.of (fun j => if j = i then (t : Int) else ofF x1 y1 i j) 1).cells ∧ Blk wq (w.heap.size + 2) 2 primeCells ∧ c * p ^ t = a ∧ t + vb p c = vb p a)) (fun s0 _ => (RowKit.intOf s0).toNat)
      case atStart => exact ⟨a, 0, ha0, ha1, rfl, ⟨HR.out.1, HR.out.2.1, by rw [← RV.of_congr 1 (fun j hj => (?_ : ofF x1 y1 i j = if j = i then ((0 : Nat) : Int) else ofF x1 y1 i j))]; exact HR.out.2.2.1; by_cases h : j = i; (subst h; rw [if_pos rfl]; unfold ofF; rw [if_neg (Nat.lt_irrefl _)]; rfl); rw [if_neg h], HR.out.2.2.2.1, by rw [Nat.pow_zero, Nat.mul_one], by omega⟩⟩
      case round =>
        obtain ⟨c, t, hc0, hc1, rfl, HI⟩ := hrel
        have hvl : vb p a ≤ 40 := vb_le hp2.1 ha0 ha1
        have htl : t ≤ 40 := by have := HI.out.2.2.2.2.2; omega
        have hvd := vb_div hp2.1 hc0
        have hcell : wr.cell? ⟨w.heap.size + 1, i, none⟩ = some (.int .i64 (t : Int)) := by
          rw [HI.out.2.2.1.cell, RV.of_cell _ _ hi6, if_pos rfl]
        have hfz : wr.frozen? ⟨w.heap.size + 1, i, none⟩ = false := HI.out.2.2.1.frozen i
        have hpc : wr.cell? ⟨w.heap.size + 2, i, none⟩ = some (.int .i64 (p : Nat)) := by rw [HI.out.2.2.2.1.cell, primeCells_at hi6, HP.out]
        have hmod : (c : Int).tmod (p : Int) = ((c % p : Nat) : Int) := by rw [Int.tmod_eq_emod_of_nonneg (by omega)]; omega
        have hpz : ¬ (p = 0) := by omega
        by_cases hm : c % p = 0
        · rw [if_pos hm] at hvd
          rw [hm] at hmod
          have hdiv : (c : Int).tdiv (p : Int) = ((c / p : Nat) : Int) := by rw [Int.tdiv_eq_ediv_of_nonneg (by omega)]; rfl
          have hq0 : 0 < c / p := Nat.div_pos (Nat.le_of_dvd hc0 (Nat.dvd_of_mod_eq_zero hm)) (by omega)
          have hq1 : c / p < c := Nat.div_lt_self hc0 (by omega)
          have hcp : c / p * p = c := Nat.div_mul_cancel (Nat.dvd_of_mod_eq_zero hm)
          have hP5 := HI.out.2.2.1.set_ i (.int .i64 ((t : Int) + 1))
          rw [RV.of_set _ _ _ hi6, RV.of_congr 1 (fun j hj => (?_ : _ = if j = i then ((t + 1 : Nat) : Int) else ofF x1 y1 i j))] at hP5
          rotate_left
          · by_cases h : j = i
            · rw [if_pos h, if_pos h]; omega
            · rw [if_neg h, if_neg h, if_neg h]
          have hne : w.heap.size ≠ w.heap.size + 1 := by omega
          have hne2 : w.heap.size + 2 ≠ w.heap.size + 1 := by omega
          have HN : Sl _ := ⟨And.intro (HI.out.1.setCell (p := ⟨w.heap.size + 1, i, none⟩) (Nat.le_succ _) (.int .i64 ((t : Int) + 1))) (And.intro (HI.out.2.1.far (p := ⟨w.heap.size + 1, i, none⟩) hne (.int .i64 ((t : Int) + 1))) (And.intro hP5 (And.intro (HI.out.2.2.2.1.far (p := ⟨w.heap.size + 1, i, none⟩) hne2 (.int .i64 ((t : Int) + 1))) (And.intro (show c / p * p ^ (t + 1) = a by rw [Nat.pow_succ, Nat.mul_comm (p ^ t), ← Nat.mul_assoc, hcp]; exact HI.out.2.2.2.2.1) (show t + 1 + vb p (c / p) = vb p a by have := HI.out.2.2.2.2.2; omega)))))⟩
          clear hvd hm hcp hP5 hne hne2
          have hpc2 : (wr.setCell ⟨w.heap.size + 1, i, none⟩ (.int .i64 ((t : Int) + 1))).cell? ⟨w.heap.size + 2, i, none⟩ = some (.int .i64 (p : Nat)) := by rw [HN.out.2.2.2.1.cell, primeCells_at hi6, HP.out]
          generalize c / p = q at *
          go_wp2_with fail
          exact ⟨⟨q, t + 1, hq0, by omega, rfl, HN⟩, by simp [RowKit.intOf]; omega⟩
        · rw [if_neg hm] at hvd
          have hbq : ((c % p : Nat) : Int) ≠ 0 := by omega
          have hbz : (((c % p : Nat) : Int) == 0) = false := by rw [beq_eq_false_iff_ne]; exact hbq
          have HV : Sl _ := ⟨hvd⟩
          clear hvd hm
          generalize c % p = q at *
          go_wp2_with fail
          have hta : t = vb p a := by have := HI.out.2.2.2.2.2; rw [HV.out] at this; omega
          have hca : c = a / p ^ vb p a := (Nat.div_eq_of_eq_mul_left (Nat.pow_pos (by omega)) (by rw [← hta]; exact HI.out.2.2.2.2.1.symm)).symm
          obtain ⟨ea, hea⟩ : ∃ ea, vb p a = ea := ⟨_, rfl⟩
          have HQ : Sl _ := ⟨And.intro HI.out.1 (And.intro HI.out.2.1 (And.intro (show Blk wr (w.heap.size + 1) 24 (RV.of (fun j => if j = i then (ea : Int) else ofF x1 y1 i j) 1).cells by rw [← hea, ← hta]; exact HI.out.2.2.1) HI.out.2.2.2.1))⟩
          have HCA : Sl _ := ⟨And.intro hca hea⟩
          have hel : ea ≤ 40 := by omega
          clear hta hca hea hvl htl hcell hfz hpc hmod hpz hbq hbz HV HI
          go_loopw [1] (fun s0 wq => ∃ (c t : Nat), 0 < c ∧ c ≤ 1000000000000 ∧ s0 = .int .i64 c ∧ Sl (Below w.heap.size w wq ∧ Blk wq w.heap.size 24 RVzero.cells ∧ Blk wq (w.heap.size + 1) 24 (RV.of (fun j => if j = i then ((ea : Int) - (t : Int)) else ofF x1 y1 i j) 1).cells ∧ Blk wq (w.heap.size + 2) 2 primeCells ∧ c * p ^ t = b ∧ t + vb p c = vb p b)) (fun s0 _ => (RowKit.intOf s0).toNat)
          case atStart => exact ⟨b, 0, hb0, hb1, rfl, ⟨HQ.out.1, HQ.out.2.1, by rw [show ((ea : Int) - ((0 : Nat) : Int)) = (ea : Int) by omega]; exact HQ.out.2.2.1, HQ.out.2.2.2, by rw [Nat.pow_zero, Nat.mul_one], by omega⟩⟩
          case round =>
            obtain ⟨c, t, hc0, hc1, rfl, HI⟩ := hrel
            have hvl : vb p b ≤ 40 := vb_le hp2.1 hb0 hb1
            have htl : t ≤ 40 := by have := HI.out.2.2.2.2.2; omega
            have hvd := vb_div hp2.1 hc0
            have hcell : wr.cell? ⟨w.heap.size + 1, i, none⟩ = some (.int .i64 ((ea : Int) - (t : Int))) := by
              rw [HI.out.2.2.1.cell, RV.of_cell _ _ hi6, if_pos rfl]
            have hfz : wr.frozen? ⟨w.heap.size + 1, i, none⟩ = false := HI.out.2.2.1.frozen i
            have hpc : wr.cell? ⟨w.heap.size + 2, i, none⟩ = some (.int .i64 (p : Nat)) := by rw [HI.out.2.2.2.1.cell, primeCells_at hi6, HP.out]
            have hmod : (c : Int).tmod (p : Int) = ((c % p : Nat) : Int) := by rw [Int.tmod_eq_emod_of_nonneg (by omega)]; omega
            have hpz : ¬ (p = 0) := by omega
            by_cases hm : c % p = 0
            · rw [if_pos hm] at hvd
              rw [hm] at hmod
              have hdiv : (c : Int).tdiv (p : Int) = ((c / p : Nat) : Int) := by rw [Int.tdiv_eq_ediv_of_nonneg (by omega)]; rfl
              have hq0 : 0 < c / p := Nat.div_pos (Nat.le_of_dvd hc0 (Nat.dvd_of_mod_eq_zero hm)) (by omega)
              have hq1 : c / p < c := Nat.div_lt_self hc0 (by omega)
              have hcp : c / p * p = c := Nat.div_mul_cancel (Nat.dvd_of_mod_eq_zero hm)
              have hP5 := HI.out.2.2.1.set_ i (.int .i64 ((ea : Int) - (t : Int) - 1))
              rw [RV.of_set _ _ _ hi6, RV.of_congr 1 (fun j hj => (?_ : _ = if j = i then ((ea : Int) - ((t + 1 : Nat) : Int)) else ofF x1 y1 i j))] at hP5
              rotate_left
              · by_cases h : j = i
                · rw [if_pos h, if_pos h]; omega
                · rw [if_neg h, if_neg h, if_neg h]
              have hne : w.heap.size ≠ w.heap.size + 1 := by omega
              have hne2 : w.heap.size + 2 ≠ w.heap.size + 1 := by omega
              have HN : Sl _ := ⟨And.intro (HI.out.1.setCell (p := ⟨w.heap.size + 1, i, none⟩) (Nat.le_succ _) (.int .i64 ((ea : Int) - (t : Int) - 1))) (And.intro (HI.out.2.1.far (p := ⟨w.heap.size + 1, i, none⟩) hne (.int .i64 ((ea : Int) - (t : Int) - 1))) (And.intro hP5 (And.intro (HI.out.2.2.2.1.far (p := ⟨w.heap.size + 1, i, none⟩) hne2 (.int .i64 ((ea : Int) - (t : Int) - 1))) (And.intro (show c / p * p ^ (t + 1) = b by rw [Nat.pow_succ, Nat.mul_comm (p ^ t), ← Nat.mul_assoc, hcp]; exact HI.out.2.2.2.2.1) (show t + 1 + vb p (c / p) = vb p b by have := HI.out.2.2.2.2.2; omega)))))⟩
              clear hvd hm hcp hP5 hne hne2
              have hpc2 : (wr.setCell ⟨w.heap.size + 1, i, none⟩ (.int .i64 ((ea : Int) - (t : Int) - 1))).cell? ⟨w.heap.size + 2, i, none⟩ = some (.int .i64 (p : Nat)) := by rw [HN.out.2.2.2.1.cell, primeCells_at hi6, HP.out]
              generalize c / p = q at *
              go_wp2_with fail
              exact ⟨⟨q, t + 1, hq0, by omega, rfl, HN⟩, by simp [RowKit.intOf]; omega⟩
            · rw [if_neg hm] at hvd
              have hbq : ((c % p : Nat) : Int) ≠ 0 := by omega
              have hbz : (((c % p : Nat) : Int) == 0) = false := by rw [beq_eq_false_iff_ne]; exact hbq
              have HV : Sl _ := ⟨hvd⟩
              clear hvd hm
              generalize c % p = q at *
              go_wp2_with fail
              have htb : t = vb p b := by have := HI.out.2.2.2.2.2; rw [HV.out] at this; omega
              have hcb : c = b / p ^ vb p b := (Nat.div_eq_of_eq_mul_left (Nat.pow_pos (by omega)) (by rw [← htb]; exact HI.out.2.2.2.2.1.symm)).symm
              have hF : RV.of (fun j => if j = i then (ea : Int) - (t : Int) else ofF x1 y1 i j) 1 = RV.of (ofF x1 y1 (i + 1)) 1 := by
                refine RV.of_congr 1 fun j hj => ?_
                unfold ofF
                by_cases h : j = i
                · rw [if_pos h, h, if_pos (Nat.lt_succ_self i)]
                  unfold ex
                  rw [HP.out, ← HR.out.2.2.2.2.1, ← HR.out.2.2.2.2.2, HCA.out.2, htb]
                · rw [if_neg h]
                  by_cases h2 : j < i
                  · rw [if_pos h2, if_pos (by omega)]
                  · rw [if_neg h2, if_neg (by omega)]
              refine ⟨⟨i + 1, _, c, hi6, rfl, rfl, by go_num, ⟨HI.out.1, HI.out.2.1, by rw [← hF]; exact HI.out.2.2.1, HI.out.2.2.2.1, ?_, ?_⟩⟩, by simp [RowKit.intOf]; omega⟩
              · rw [stripN, HP.out, ← HR.out.2.2.2.2.1]; exact HCA.out.1
              · rw [stripN, HP.out, ← HR.out.2.2.2.2.2]; exact hcb
    · obtain rfl : i = 6 := by omega
      clear hi6
      have d0 := HR.out.2.1.cell 0
      have d1 := HR.out.2.1.cell 1
      have d2 := HR.out.2.1.cell 2
      have d3 := HR.out.2.1.cell 3
      have d4 := HR.out.2.1.cell 4
      have d5 := HR.out.2.1.cell 5
      have d6 := HR.out.2.1.cell 6
      simp [RVzero_cells] at d0 d1 d2 d3 d4 d5 d6
      have f0 := HR.out.2.1.frozen 0
      have f1 := HR.out.2.1.frozen 1
      have f2 := HR.out.2.1.frozen 2
      have f3 := HR.out.2.1.frozen 3
      have f4 := HR.out.2.1.frozen 4
      have f5 := HR.out.2.1.frozen 5
      have f6 := HR.out.2.1.frozen 6
      have hB := HR.out.1
      have hRz := HR.out.2.1
      rw [RVzero_cells] at hRz
      by_cases hab : a = 1 ∧ b = 1
      · have HZR : Sl (s = (RV.of (ofF x1 y1 6) 1, 0)) := ⟨by rw [← HSS.out]; exact if_pos (by rw [← HR.out.2.2.2.2.1, ← HR.out.2.2.2.2.2]; exact hab)⟩
        obtain ⟨e1, e2⟩ := hab
        have g0 : wr.cell? ⟨w.heap.size + 1, 0, none⟩ = some (.int .i64 (ofF x1 y1 6 0)) := by rw [HR.out.2.2.1.cell, RV.of_cell _ _ (by decide)]
        have g1 : wr.cell? ⟨w.heap.size + 1, 1, none⟩ = some (.int .i64 (ofF x1 y1 6 1)) := by rw [HR.out.2.2.1.cell, RV.of_cell _ _ (by decide)]
        have g2 : wr.cell? ⟨w.heap.size + 1, 2, none⟩ = some (.int .i64 (ofF x1 y1 6 2)) := by rw [HR.out.2.2.1.cell, RV.of_cell _ _ (by decide)]
        have g3 : wr.cell? ⟨w.heap.size + 1, 3, none⟩ = some (.int .i64 (ofF x1 y1 6 3)) := by rw [HR.out.2.2.1.cell, RV.of_cell _ _ (by decide)]
        have g4 : wr.cell? ⟨w.heap.size + 1, 4, none⟩ = some (.int .i64 (ofF x1 y1 6 4)) := by rw [HR.out.2.2.1.cell, RV.of_cell _ _ (by decide)]
        have g5 : wr.cell? ⟨w.heap.size + 1, 5, none⟩ = some (.int .i64 (ofF x1 y1 6 5)) := by rw [HR.out.2.2.1.cell, RV.of_cell _ _ (by decide)]
        have g6 : wr.cell? ⟨w.heap.size + 1, 6, none⟩ = some (.int .i64 1) := by rw [HR.out.2.2.1.cell]; rfl
        have hfin : OfRes (.returned (.tuple #[.agg #[.int .i64 (ofF x1 y1 6 0), .int .i64 (ofF x1 y1 6 1), .int .i64 (ofF x1 y1 6 2), .int .i64 (ofF x1 y1 6 3), .int .i64 (ofF x1 y1 6 4), .int .i64 (ofF x1 y1 6 5), .int .i64 1], .int .i64 0])) (RV.of (ofF x1 y1 6) 1, 0) := rfl
        have HFIN : Sl _ := ⟨And.intro hfin (And.intro hB hRz)⟩
        subst e1 e2
        clear hfin hB hRz HR
        generalize ofF x1 y1 6 0 = z0 at g0 HFIN
        generalize ofF x1 y1 6 1 = z1 at g1 HFIN
        generalize ofF x1 y1 6 2 = z2 at g2 HFIN
        generalize ofF x1 y1 6 3 = z3 at g3 HFIN
        generalize ofF x1 y1 6 4 = z4 at g4 HFIN
        generalize ofF x1 y1 6 5 = z5 at g5 HFIN
        go_wp2_with fail
        refine bodyPost_ret (results_rowR rfl _ _ w.heap.size _ _ _ rfl (HFIN.out.2.2.seven _ _ _ _ _ _ _) Tryd.underlying24 rfl (by kernel_rfl)) rfl ?_
        exact ⟨by rw [HZR.out]; exact HFIN.out.1, below_seven HFIN.out.2.1 (Nat.le_refl _) _ _ _ _ _ _ _⟩
      · have HZR : Sl (s = (RVzero, 7)) := ⟨by rw [← HSS.out]; exact if_neg (by rw [← HR.out.2.2.2.2.1, ← HR.out.2.2.2.2.2]; exact hab)⟩
        have HFIN : Sl _ := ⟨And.intro hB hRz⟩
        clear hB hRz HR
        by_cases e1 : a = 1
        · have hb2 : ((b : Int) == 1) = false := by rw [beq_eq_false_iff_ne]; omega
          clear hab
          subst e1
          go_wp2_with fail
          refine bodyPost_ret (results_rowR rfl _ _ w.heap.size _ _ _ rfl (HFIN.out.2.seven _ _ _ _ _ _ _) Tryd.underlying24 rfl (by kernel_rfl)) rfl ?_
          exact ⟨by rw [HZR.out]; rfl, below_seven HFIN.out.1 (Nat.le_refl _) _ _ _ _ _ _ _⟩
        · have ha2 : ((a : Int) == 1) = false := by rw [beq_eq_false_iff_ne]; omega
          clear hab e1
          go_wp2_with fail
          refine bodyPost_ret (results_rowR rfl _ _ w.heap.size _ _ _ rfl (HFIN.out.2.seven _ _ _ _ _ _ _) Tryd.underlying24 rfl (by kernel_rfl)) rfl ?_
          exact ⟨by rw [HZR.out]; rfl, below_seven HFIN.out.1 (Nat.le_refl _) _ _ _ _ _ _ _⟩
end Go.Proofs.YtcmofoggdchofaaDoor
