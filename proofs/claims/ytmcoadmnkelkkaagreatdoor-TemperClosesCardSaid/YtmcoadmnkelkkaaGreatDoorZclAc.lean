/- Plain law: the ratio of two whole numbers is that of their quotients by a common divisor. No program in sight. The reference of chapter 04: Of. Chapter 04: the reference's Of of any numbers; the law's Same. The reference of chapter 05: ratio, mul, div, fold; the law's of. (Printed by gentra.py.) Regions that draw in which a variable is made beside calls: whichever comes first, what follows is the same. The reference of chapter 05: Comma. (Printed by gentrc.py.) The reference of chapter 05: Fifths. (Printed by gentrd.py.) The reference of chapter 05: Notes. (Printed by gentre.py.) The reference of chapter 05: between, Between, Cents. (Printed by gentrf.py.) The reference of chapter 05: Between. (Printed by gentrg.py.) The reference of chapter 05: Cents. (Printed by gentrh.py.) The reference of chapter 05: excess, Triad. (Printed by gentri.py.) The reference of chapter 05: Triad. (Printed by gentrj.py.) Package temper: Fifths, Notes, which give slices. (Printed by gentrk.py.) The law's sameRatios. (Printed by gentrl.py.) Regions: guarded loads. Plain law: the fifths of a temperament close; a note with its fifth is the next note. No program in sight. The law TemperCloses walks to true. (Printed by gentrp.py.) -/
import Derived.Test.YtmcoadmnkelkkaaGreatDoorZclAb
import Derived.Test.YtmcoadmnkelkkaaGreatDoorRatJ
import Derived.Test.YtmcoadmnkelkkaaGreatDoorRatO
import Derived.Test.YtmcoadmnkelkkaaGreatDoorOrdA
namespace Go.Proofs.YtmcoadmnkelkkaaGreatDoor
set_option linter.unusedSimpArgs false
set_option linter.unusedVariables false
theorem prime_div : ∀ d, d ≤ 13 → ∀ i, i < 6 → d ∣ prime i → d = 1 ∨ d = prime i := by decide
theorem prime_cop {i a : Nat} (hi : i < 6) (h : ¬ prime i ∣ a) : Nat.gcd (prime i) a = 1 := by
  have hp := prime_two hi; have h1 := Nat.gcd_dvd_left (prime i) a; have h2 := Nat.le_of_dvd (by omega) h1; rcases prime_div _ (by omega) i hi h1 with h3 | h3
  · exact h3
  · exact absurd (h3 ▸ Nat.gcd_dvd_right (prime i) a) h
theorem vb_split {i n : Nat} (hi : i < 6) (hn : 0 < n) : ∃ m, n = prime i ^ vb (prime i) n * m ∧ 0 < m ∧ Nat.gcd (prime i) m = 1 ∧ n / prime i ^ vb (prime i) n = m := by
  have hp := prime_two hi; obtain ⟨h1, h2⟩ := vb_dvd hp.1 n hn; have hpp : 0 < prime i ^ vb (prime i) n := Nat.pow_pos (by omega); have hm : 0 < n / prime i ^ vb (prime i) n := Nat.div_pos (Nat.le_of_dvd hn h1) hpp; refine ⟨_, (Nat.mul_div_cancel' h1).symm, hm, prime_cop hi fun hd => ?_, rfl⟩; rw [vb_div hp.1 hm, if_pos (Nat.mod_eq_zero_of_dvd hd)] at h2; omega
theorem vb_times {i a b : Nat} (hi : i < 6) (ha : 0 < a) (hb : 0 < b) : vb (prime i) (a * b) = vb (prime i) a + vb (prime i) b ∧ a * b / prime i ^ vb (prime i) (a * b) = (a / prime i ^ vb (prime i) a) * (b / prime i ^ vb (prime i) b) := by
  have hp := prime_two hi; obtain ⟨m, e1, m0, m1, m2⟩ := vb_split hi ha; obtain ⟨n, f1, n0, n1, n2⟩ := vb_split hi hb
  have e : a * b = prime i ^ (vb (prime i) a + vb (prime i) b) * (m * n) := by
    rw [Nat.pow_add]
    calc a * b = (prime i ^ vb (prime i) a * m) * (prime i ^ vb (prime i) b * n) := by rw [← e1, ← f1]
      _ = _ := by ac_rfl
  have hv : vb (prime i) (a * b) = vb (prime i) a + vb (prime i) b := by
    rw [e]; exact vb_pow hp.1 (Nat.mul_pos m0 n0) (Nat.Coprime.mul_right m1 n1) _
  refine ⟨hv, ?_⟩; rw [m2, n2, hv]; rw [e]; exact Nat.mul_div_cancel_left _ (Nat.pow_pos (by omega))
theorem stripN_times {a b : Nat} (ha : 0 < a) (hb : 0 < b) : ∀ {i : Nat}, i ≤ 6 → stripN (a * b) i = stripN a i * stripN b i
  | 0, _ => rfl
  | i+1, hi => by
    have ih := stripN_times ha hb (i := i) (by omega); rw [stripN, stripN, stripN, ih]; exact (vb_times (by omega) (stripN_pos ha (by omega)).1 (stripN_pos hb (by omega)).1).2
theorem ex_times {a b i : Nat} (ha : 0 < a) (hb : 0 < b) (hi : i < 6) : ex (a * b) i = ex a i + ex b i := by
  unfold ex; rw [stripN_times ha hb (by omega)]; exact (vb_times hi (stripN_pos ha (by omega)).1 (stripN_pos hb (by omega)).1).1
theorem stripN_dvd {x : Nat} (hx : 0 < x) : ∀ {i : Nat}, i ≤ 6 → stripN x i ∣ x
  | 0, _ => Nat.dvd_refl _
  | i+1, hi => by
    have ih := stripN_dvd hx (i := i) (by omega); rw [stripN]; exact Nat.dvd_trans (Nat.div_dvd_of_dvd (vb_dvd (prime_two (by omega)).1 _ (stripN_pos hx (by omega)).1).1) ih
/-- what the program and the document give is the same -/
theorem of_same {x y : Nat} (hx : 0 < x) (hy : 0 < y) :
    (if stripN (x / Nat.gcd x y) 6 = 1 ∧ stripN (y / Nat.gcd x y) 6 = 1 then (RV.of (ofF (x / Nat.gcd x y) (y / Nat.gcd x y) 6) 1, (0 : Int)) else (RVzero, 7)) =
    (if stripN x 6 = stripN y 6 then (RV.of (ofF x y 6) 1, (0 : Int)) else (RVzero, 7)) := by
  have hg : 0 < Nat.gcd x y := Nat.gcd_pos_of_pos_left _ hx; obtain ⟨a, ha⟩ := Nat.gcd_dvd_left x y; obtain ⟨b, hb⟩ := Nat.gcd_dvd_right x y; have hcop : Nat.gcd (x / Nat.gcd x y) (y / Nat.gcd x y) = 1 := Nat.coprime_div_gcd_div_gcd hg
  have hxa : x / Nat.gcd x y = a := by
    have := congrArg (· / Nat.gcd x y) ha; simpa [Nat.mul_div_cancel_left _ hg] using this
  have hyb : y / Nat.gcd x y = b := by
    have := congrArg (· / Nat.gcd x y) hb; simpa [Nat.mul_div_cancel_left _ hg] using this
  rw [hxa, hyb] at hcop ⊢; generalize Nat.gcd x y = g at *
  have ha0 : 0 < a := Nat.pos_of_ne_zero fun h => by subst h; simp at ha; omega
  have hb0 : 0 < b := Nat.pos_of_ne_zero fun h => by subst h; simp at hb; omega
  have hsx : stripN x 6 = stripN g 6 * stripN a 6 := by rw [ha, stripN_times hg ha0 (by omega)]
  have hsy : stripN y 6 = stripN g 6 * stripN b 6 := by rw [hb, stripN_times hg hb0 (by omega)]
  have hiff : (stripN a 6 = 1 ∧ stripN b 6 = 1) ↔ stripN x 6 = stripN y 6 := by
    rw [hsx, hsy]; constructor
    · rintro ⟨h1, h2⟩; rw [h1, h2]
    · intro h; have h3 := Nat.eq_of_mul_eq_mul_left (stripN_pos hg (by omega)).1 h; have h4 : stripN a 6 ∣ Nat.gcd a b := Nat.dvd_gcd (stripN_dvd ha0 (by omega)) (by rw [h3]; exact stripN_dvd hb0 (by omega)); rw [hcop] at h4; have h5 := Nat.eq_one_of_dvd_one h4; exact ⟨h5, by rw [← h3]; exact h5⟩
  have hF : RV.of (ofF a b 6) 1 = RV.of (ofF x y 6) 1 := RV.of_congr 1 fun j hj => by
    unfold ofF; rw [if_pos hj, if_pos hj, ha, hb, ex_times hg ha0 hj, ex_times hg hb0 hj]; omega
  by_cases h : stripN x 6 = stripN y 6
  · rw [if_pos (hiff.2 h), if_pos h, hF]
  · rw [if_neg (fun h2 => h (hiff.1 h2)), if_neg h]
end Go.Proofs.YtmcoadmnkelkkaaGreatDoor
namespace Go.Proofs.YtmcoadmnkelkkaaGreatDoor
set_option linter.unusedSimpArgs false
open Go.RowKit
set_option linter.unusedVariables false
set_option maxHeartbeats 6400000 in
set_option maxRecDepth 100000 in
theorem r4Of_good (x y : Nat) (w : World) (hx0 : 0 < x) (hx1 : x ≤ 1000000000000) (hy0 : 0 < y) (hy1 : y ≤ 1000000000000) (s : RV × Int) (hs : (if stripN (x / Nat.gcd x y) 6 = 1 ∧ stripN (y / Nat.gcd x y) 6 = 1 then (RV.of (ofF (x / Nat.gcd x y) (y / Nat.gcd x y) 6) 1, (0 : Int)) else (RVzero, 7)) = s) :
    Calls Tryz.prog 44 #[.int .i64 x, .int .i64 y] w fun e w' => OfRes e s ∧ Below w.heap.size w w' := by
  have HSS : Sl _ := ⟨hs⟩; clear hs; have hG := fun W : World => r4gcd_any x y W (by omega) (by omega)
  have hg0 : 0 < Nat.gcd x y := Nat.gcd_pos_of_pos_left _ hx0; have hgx : Nat.gcd x y ≤ x := Nat.gcd_le_left _ hx0; have hgy : Nat.gcd x y ≤ y := Nat.gcd_le_right _ hy0; generalize Nat.gcd x y = g at *
  have HG : Sl _ := ⟨hG⟩; obtain ⟨x1, hx2⟩ : ∃ x1, x / g = x1 := ⟨_, rfl⟩; obtain ⟨y1, hy2⟩ : ∃ y1, y / g = y1 := ⟨_, rfl⟩; have hxp : 0 < x1 := by rw [← hx2]; exact Nat.div_pos hgx hg0
  have hyp : 0 < y1 := by rw [← hy2]; exact Nat.div_pos hgy hg0
  have hxl : x1 ≤ 1000000000000 := by have := Nat.div_le_self x g; omega
  have hyl : y1 ≤ 1000000000000 := by have := Nat.div_le_self y g; omega
  rw [hx2, hy2] at HSS; have hdx : (x : Int).tdiv (g : Int) = (x1 : Int) := by rw [Int.tdiv_eq_ediv_of_nonneg (by omega), ← hx2]; rfl
  have hdy : (y : Int).tdiv (g : Int) = (y1 : Int) := by rw [Int.tdiv_eq_ediv_of_nonneg (by omega), ← hy2]; rfl
  have hwx : IntKind.i64.wrap (x1 : Int) = (x1 : Int) := by rw [IntKind.wrap_i64]; omega
  have hwy : IntKind.i64.wrap (y1 : Int) = (y1 : Int) := by rw [IntKind.wrap_i64]; omega
  have hgz : ¬ (g = 0) := by omega
  have HXY : Sl _ := ⟨And.intro hxp (And.intro hxl (And.intro hyp hyl))⟩; have X4 := Blk.new w 35 RVzero.cells; have hu := (Below.refl w.heap.size w).alloc (Nat.le_refl _) (.cells RVzero.cells 35); rw [RVzero_cells] at X4 hu; have HU : Sl _ := ⟨And.intro hu X4⟩; have E0 : Sl ((RV.of (ofF x1 y1 0) 1).cells = #[.int .i64 0, .int .i64 0, .int .i64 0, .int .i64 0, .int .i64 0, .int .i64 0, .int .i64 1]) := ⟨by unfold RV.of RV.cells ofF; simp⟩; clear hG hgx hgy hx2 hy2 hxp hyp hu X4; go_enter Tryz.func44, Tryz.ntmps44; go_wp2_with fail; refine (HG.out _).mono ?_; rintro e w1 ⟨rfl, dn, rfl⟩; clear HG; go_wp2_with fail
  go_quiet (fail)
  have B2 := below_drewN HU.out.1 (dn + nq); have X2 : Blk ((w.alloc (.cells #[.int .i64 0, .int .i64 0, .int .i64 0, .int .i64 0, .int .i64 0, .int .i64 0, .int .i64 0] 35)).drewN (dn + nq)) w.heap.size 35 #[.int .i64 0, .int .i64 0, .int .i64 0, .int .i64 0, .int .i64 0, .int .i64 0, .int .i64 0] := HU.out.2.drewN _; have hsz : ((w.alloc (.cells #[.int .i64 0, .int .i64 0, .int .i64 0, .int .i64 0, .int .i64 0, .int .i64 0, .int .i64 0] 35)).drewN (dn + nq)).heap.size = w.heap.size + 1 := by simp
  rw [drew2]; generalize (w.alloc (.cells #[.int .i64 0, .int .i64 0, .int .i64 0, .int .i64 0, .int .i64 0, .int .i64 0, .int .i64 0] 35)).drewN (dn + nq) = w2 at *
  have hPr := Primes_any (w2.alloc (.cells #[.int .i64 0, .int .i64 0, .int .i64 0, .int .i64 0, .int .i64 0, .int .i64 0, .int .i64 1] 35)); have hsz2 : (w2.alloc (.cells #[.int .i64 0, .int .i64 0, .int .i64 0, .int .i64 0, .int .i64 0, .int .i64 0, .int .i64 1] 35)).heap.size = w.heap.size + 2 := by simp [hsz]
  have X7 := Blk.new w2 35 #[.int .i64 0, .int .i64 0, .int .i64 0, .int .i64 0, .int .i64 0, .int .i64 0, .int .i64 1]; have X8 := Blk.new (w2.alloc (.cells #[.int .i64 0, .int .i64 0, .int .i64 0, .int .i64 0, .int .i64 0, .int .i64 0, .int .i64 1] 35)) 2 primeCells; rw [hsz] at X7; rw [hsz2] at hPr X8; have B3 := (B2.alloc B2.size (.cells #[.int .i64 0, .int .i64 0, .int .i64 0, .int .i64 0, .int .i64 0, .int .i64 0, .int .i64 1] 35)).alloc (by rw [hsz2]; omega) (.cells primeCells 2); have HW : Sl _ := ⟨And.intro B3 (And.intro ((X2.alloc (.cells #[.int .i64 0, .int .i64 0, .int .i64 0, .int .i64 0, .int .i64 0, .int .i64 0, .int .i64 1] 35)).alloc (.cells primeCells 2)) (And.intro (X7.alloc (.cells primeCells 2)) X8))⟩; have HPR : Sl _ := ⟨hPr⟩; clear B2 X2 X7 X8 B3 hPr hsz2 HU; go_wp2_with fail; refine HPR.out.mono ?_; rintro e w3 ⟨rfl, rfl⟩; generalize (w2.alloc (.cells #[.int .i64 0, .int .i64 0, .int .i64 0, .int .i64 0, .int .i64 0, .int .i64 0, .int .i64 1] 35)).alloc (.cells primeCells 2) = w4 at *
  clear HPR hsz; go_wp2_with fail
  go_loopw [0, 1, 9] (fun s0 s1 s9 wr => ∃ (i a b : Nat), i ≤ 6 ∧ s0 = .int .i64 a ∧ s1 = .int .i64 b ∧ s9 = .int .i64 i ∧ Sl (Below w.heap.size w wr ∧ Blk wr w.heap.size 35 RVzero.cells ∧ Blk wr (w.heap.size + 1) 35 (RV.of (ofF x1 y1 i) 1).cells ∧ Blk wr (w.heap.size + 2) 2 primeCells ∧ a = stripN x1 i ∧ b = stripN y1 i)) (fun _ _ s9 _ => 6 - (RowKit.intOf s9).toNat)
  case atStart => exact ⟨0, x1, y1, by decide, rfl, rfl, rfl, ⟨HW.out.1, HW.out.2.1, by rw [E0.out]; exact HW.out.2.2.1, HW.out.2.2.2, rfl, rfl⟩⟩
  case round =>
    clear HW E0; obtain ⟨i, a, b, hi, rfl, rfl, rfl, HR⟩ := hrel; have ha := stripN_pos HXY.out.1 hi; have hb := stripN_pos HXY.out.2.2.1 hi; rw [← HR.out.2.2.2.2.1] at ha; rw [← HR.out.2.2.2.2.2] at hb; have ha1 : a ≤ 1000000000000 := Nat.le_trans ha.2 HXY.out.2.1; have hb1 : b ≤ 1000000000000 := Nat.le_trans hb.2 HXY.out.2.2.2; have ha0 := ha.1; have hb0 := hb.1; clear ha hb
    by_cases hi6 : i < 6
    · obtain ⟨p, hp⟩ : ∃ p, prime i = p := ⟨_, rfl⟩; have hp2 := prime_two hi6; rw [hp] at hp2; have HP : Sl _ := ⟨hp⟩; clear hp; go_wp2_with fail
      go_loopw [0] (fun s0 wq => ∃ (c t : Nat), 0 < c ∧ c ≤ 1000000000000 ∧ s0 = .int .i64 c ∧ Sl (Below w.heap.size w wq ∧ Blk wq w.heap.size 35 RVzero.cells ∧ Blk wq (w.heap.size + 1) 35 (RV.of (fun j => if j = i then (t : Int) else ofF x1 y1 i j) 1).cells ∧ Blk wq (w.heap.size + 2) 2 primeCells ∧ c * p ^ t = a ∧ t + vb p c = vb p a)) (fun s0 _ => (RowKit.intOf s0).toNat)
      case atStart => exact ⟨a, 0, ha0, ha1, rfl, ⟨HR.out.1, HR.out.2.1, by rw [← RV.of_congr 1 (fun j hj => (?_ : ofF x1 y1 i j = if j = i then ((0 : Nat) : Int) else ofF x1 y1 i j))]; exact HR.out.2.2.1; by_cases h : j = i; (subst h; rw [if_pos rfl]; unfold ofF; rw [if_neg (Nat.lt_irrefl _)]; rfl); rw [if_neg h], HR.out.2.2.2.1, by rw [Nat.pow_zero, Nat.mul_one], by omega⟩⟩
      case round =>
        obtain ⟨c, t, hc0, hc1, rfl, HI⟩ := hrel; have hvl : vb p a ≤ 40 := vb_le hp2.1 ha0 ha1; have htl : t ≤ 40 := by have := HI.out.2.2.2.2.2; omega
        have hvd := vb_div hp2.1 hc0
        have hcell : wr.cell? ⟨w.heap.size + 1, i, none⟩ = some (.int .i64 (t : Int)) := by
          rw [HI.out.2.2.1.cell, RV.of_cell _ _ hi6, if_pos rfl]
        have hfz : wr.frozen? ⟨w.heap.size + 1, i, none⟩ = false := HI.out.2.2.1.frozen i; have hpc : wr.cell? ⟨w.heap.size + 2, i, none⟩ = some (.int .i64 (p : Nat)) := by rw [HI.out.2.2.2.1.cell, primeCells_at hi6, HP.out]
        have hmod : (c : Int).tmod (p : Int) = ((c % p : Nat) : Int) := by rw [Int.tmod_eq_emod_of_nonneg (by omega)]; omega
        have hpz : ¬ (p = 0) := by omega
        by_cases hm : c % p = 0
        · rw [if_pos hm] at hvd; rw [hm] at hmod; have hdiv : (c : Int).tdiv (p : Int) = ((c / p : Nat) : Int) := by rw [Int.tdiv_eq_ediv_of_nonneg (by omega)]; rfl
          have hq0 : 0 < c / p := Nat.div_pos (Nat.le_of_dvd hc0 (Nat.dvd_of_mod_eq_zero hm)) (by omega); have hq1 : c / p < c := Nat.div_lt_self hc0 (by omega); have hcp : c / p * p = c := Nat.div_mul_cancel (Nat.dvd_of_mod_eq_zero hm); have hP5 := HI.out.2.2.1.set_ i (.int .i64 ((t : Int) + 1)); rw [RV.of_set _ _ _ hi6, RV.of_congr 1 (fun j hj => (?_ : _ = if j = i then ((t + 1 : Nat) : Int) else ofF x1 y1 i j))] at hP5
          rotate_left
          · by_cases h : j = i
            · rw [if_pos h, if_pos h]; omega
            · rw [if_neg h, if_neg h, if_neg h]
          have hne : w.heap.size ≠ w.heap.size + 1 := by omega
          have hne2 : w.heap.size + 2 ≠ w.heap.size + 1 := by omega
          have HN : Sl _ := ⟨And.intro (HI.out.1.setCell (p := ⟨w.heap.size + 1, i, none⟩) (Nat.le_succ _) (.int .i64 ((t : Int) + 1))) (And.intro (HI.out.2.1.far (p := ⟨w.heap.size + 1, i, none⟩) hne (.int .i64 ((t : Int) + 1))) (And.intro hP5 (And.intro (HI.out.2.2.2.1.far (p := ⟨w.heap.size + 1, i, none⟩) hne2 (.int .i64 ((t : Int) + 1))) (And.intro (show c / p * p ^ (t + 1) = a by rw [Nat.pow_succ, Nat.mul_comm (p ^ t), ← Nat.mul_assoc, hcp]; exact HI.out.2.2.2.2.1) (show t + 1 + vb p (c / p) = vb p a by have := HI.out.2.2.2.2.2; omega)))))⟩; clear hvd hm hcp hP5 hne hne2; have hpc2 : (wr.setCell ⟨w.heap.size + 1, i, none⟩ (.int .i64 ((t : Int) + 1))).cell? ⟨w.heap.size + 2, i, none⟩ = some (.int .i64 (p : Nat)) := by rw [HN.out.2.2.2.1.cell, primeCells_at hi6, HP.out]
          generalize c / p = q at *
          go_wp2_with fail; exact ⟨⟨q, t + 1, hq0, by omega, rfl, HN⟩, by simp [RowKit.intOf]; omega⟩
        · rw [if_neg hm] at hvd; have hbq : ((c % p : Nat) : Int) ≠ 0 := by omega
          have hbz : (((c % p : Nat) : Int) == 0) = false := by rw [beq_eq_false_iff_ne]; exact hbq
          have HV : Sl _ := ⟨hvd⟩; clear hvd hm; generalize c % p = q at *
          go_wp2_with fail; have hta : t = vb p a := by have := HI.out.2.2.2.2.2; rw [HV.out] at this; omega
          have hca : c = a / p ^ vb p a := (Nat.div_eq_of_eq_mul_left (Nat.pow_pos (by omega)) (by rw [← hta]; exact HI.out.2.2.2.2.1.symm)).symm; obtain ⟨ea, hea⟩ : ∃ ea, vb p a = ea := ⟨_, rfl⟩; have HQ : Sl _ := ⟨And.intro HI.out.1 (And.intro HI.out.2.1 (And.intro (show Blk wr (w.heap.size + 1) 35 (RV.of (fun j => if j = i then (ea : Int) else ofF x1 y1 i j) 1).cells by rw [← hea, ← hta]; exact HI.out.2.2.1) HI.out.2.2.2.1))⟩; have HCA : Sl _ := ⟨And.intro hca hea⟩; have hel : ea ≤ 40 := by omega
          clear hta hca hea hvl htl hcell hfz hpc hmod hpz hbq hbz HV HI
          go_loopw [1] (fun s0 wq => ∃ (c t : Nat), 0 < c ∧ c ≤ 1000000000000 ∧ s0 = .int .i64 c ∧ Sl (Below w.heap.size w wq ∧ Blk wq w.heap.size 35 RVzero.cells ∧ Blk wq (w.heap.size + 1) 35 (RV.of (fun j => if j = i then ((ea : Int) - (t : Int)) else ofF x1 y1 i j) 1).cells ∧ Blk wq (w.heap.size + 2) 2 primeCells ∧ c * p ^ t = b ∧ t + vb p c = vb p b)) (fun s0 _ => (RowKit.intOf s0).toNat)
          case atStart => exact ⟨b, 0, hb0, hb1, rfl, ⟨HQ.out.1, HQ.out.2.1, by rw [show ((ea : Int) - ((0 : Nat) : Int)) = (ea : Int) by omega]; exact HQ.out.2.2.1, HQ.out.2.2.2, by rw [Nat.pow_zero, Nat.mul_one], by omega⟩⟩
          case round =>
            obtain ⟨c, t, hc0, hc1, rfl, HI⟩ := hrel; have hvl : vb p b ≤ 40 := vb_le hp2.1 hb0 hb1; have htl : t ≤ 40 := by have := HI.out.2.2.2.2.2; omega
            have hvd := vb_div hp2.1 hc0
            have hcell : wr.cell? ⟨w.heap.size + 1, i, none⟩ = some (.int .i64 ((ea : Int) - (t : Int))) := by
              rw [HI.out.2.2.1.cell, RV.of_cell _ _ hi6, if_pos rfl]
            have hfz : wr.frozen? ⟨w.heap.size + 1, i, none⟩ = false := HI.out.2.2.1.frozen i; have hpc : wr.cell? ⟨w.heap.size + 2, i, none⟩ = some (.int .i64 (p : Nat)) := by rw [HI.out.2.2.2.1.cell, primeCells_at hi6, HP.out]
            have hmod : (c : Int).tmod (p : Int) = ((c % p : Nat) : Int) := by rw [Int.tmod_eq_emod_of_nonneg (by omega)]; omega
            have hpz : ¬ (p = 0) := by omega
            by_cases hm : c % p = 0
            · rw [if_pos hm] at hvd; rw [hm] at hmod; have hdiv : (c : Int).tdiv (p : Int) = ((c / p : Nat) : Int) := by rw [Int.tdiv_eq_ediv_of_nonneg (by omega)]; rfl
              have hq0 : 0 < c / p := Nat.div_pos (Nat.le_of_dvd hc0 (Nat.dvd_of_mod_eq_zero hm)) (by omega); have hq1 : c / p < c := Nat.div_lt_self hc0 (by omega); have hcp : c / p * p = c := Nat.div_mul_cancel (Nat.dvd_of_mod_eq_zero hm); have hP5 := HI.out.2.2.1.set_ i (.int .i64 ((ea : Int) - (t : Int) - 1)); rw [RV.of_set _ _ _ hi6, RV.of_congr 1 (fun j hj => (?_ : _ = if j = i then ((ea : Int) - ((t + 1 : Nat) : Int)) else ofF x1 y1 i j))] at hP5
              rotate_left
              · by_cases h : j = i
                · rw [if_pos h, if_pos h]; omega
                · rw [if_neg h, if_neg h, if_neg h]
              have hne : w.heap.size ≠ w.heap.size + 1 := by omega
              have hne2 : w.heap.size + 2 ≠ w.heap.size + 1 := by omega
              have HN : Sl _ := ⟨And.intro (HI.out.1.setCell (p := ⟨w.heap.size + 1, i, none⟩) (Nat.le_succ _) (.int .i64 ((ea : Int) - (t : Int) - 1))) (And.intro (HI.out.2.1.far (p := ⟨w.heap.size + 1, i, none⟩) hne (.int .i64 ((ea : Int) - (t : Int) - 1))) (And.intro hP5 (And.intro (HI.out.2.2.2.1.far (p := ⟨w.heap.size + 1, i, none⟩) hne2 (.int .i64 ((ea : Int) - (t : Int) - 1))) (And.intro (show c / p * p ^ (t + 1) = b by rw [Nat.pow_succ, Nat.mul_comm (p ^ t), ← Nat.mul_assoc, hcp]; exact HI.out.2.2.2.2.1) (show t + 1 + vb p (c / p) = vb p b by have := HI.out.2.2.2.2.2; omega)))))⟩; clear hvd hm hcp hP5 hne hne2; have hpc2 : (wr.setCell ⟨w.heap.size + 1, i, none⟩ (.int .i64 ((ea : Int) - (t : Int) - 1))).cell? ⟨w.heap.size + 2, i, none⟩ = some (.int .i64 (p : Nat)) := by rw [HN.out.2.2.2.1.cell, primeCells_at hi6, HP.out]
              generalize c / p = q at *
              go_wp2_with fail; exact ⟨⟨q, t + 1, hq0, by omega, rfl, HN⟩, by simp [RowKit.intOf]; omega⟩
            · rw [if_neg hm] at hvd; have hbq : ((c % p : Nat) : Int) ≠ 0 := by omega
              have hbz : (((c % p : Nat) : Int) == 0) = false := by rw [beq_eq_false_iff_ne]; exact hbq
              have HV : Sl _ := ⟨hvd⟩; clear hvd hm; generalize c % p = q at *
              go_wp2_with fail; have htb : t = vb p b := by have := HI.out.2.2.2.2.2; rw [HV.out] at this; omega
              have hcb : c = b / p ^ vb p b := (Nat.div_eq_of_eq_mul_left (Nat.pow_pos (by omega)) (by rw [← htb]; exact HI.out.2.2.2.2.1.symm)).symm
              have hF : RV.of (fun j => if j = i then (ea : Int) - (t : Int) else ofF x1 y1 i j) 1 = RV.of (ofF x1 y1 (i + 1)) 1 := by
                refine RV.of_congr 1 fun j hj => ?_
                unfold ofF
                by_cases h : j = i
                · rw [if_pos h, h, if_pos (Nat.lt_succ_self i)]; unfold ex; rw [HP.out, ← HR.out.2.2.2.2.1, ← HR.out.2.2.2.2.2, HCA.out.2, htb]
                · rw [if_neg h]
                  by_cases h2 : j < i
                  · rw [if_pos h2, if_pos (by omega)]
                  · rw [if_neg h2, if_neg (by omega)]
              refine ⟨⟨i + 1, _, c, hi6, rfl, rfl, by go_num, ⟨HI.out.1, HI.out.2.1, by rw [← hF]; exact HI.out.2.2.1, HI.out.2.2.2.1, ?_, ?_⟩⟩, by simp [RowKit.intOf]; omega⟩
              · rw [stripN, HP.out, ← HR.out.2.2.2.2.1]; exact HCA.out.1
              · rw [stripN, HP.out, ← HR.out.2.2.2.2.2]; exact hcb
    · obtain rfl : i = 6 := by omega
      clear hi6; have d0 := HR.out.2.1.cell 0; have d1 := HR.out.2.1.cell 1; have d2 := HR.out.2.1.cell 2; have d3 := HR.out.2.1.cell 3; have d4 := HR.out.2.1.cell 4; have d5 := HR.out.2.1.cell 5; have d6 := HR.out.2.1.cell 6; simp [RVzero_cells] at d0 d1 d2 d3 d4 d5 d6; have f0 := HR.out.2.1.frozen 0; have f1 := HR.out.2.1.frozen 1; have f2 := HR.out.2.1.frozen 2; have f3 := HR.out.2.1.frozen 3; have f4 := HR.out.2.1.frozen 4; have f5 := HR.out.2.1.frozen 5; have f6 := HR.out.2.1.frozen 6; have hB := HR.out.1; have hRz := HR.out.2.1; rw [RVzero_cells] at hRz
      by_cases hab : a = 1 ∧ b = 1
      · have HZR : Sl (s = (RV.of (ofF x1 y1 6) 1, 0)) := ⟨by rw [← HSS.out]; exact if_pos (by rw [← HR.out.2.2.2.2.1, ← HR.out.2.2.2.2.2]; exact hab)⟩; obtain ⟨e1, e2⟩ := hab; have g0 : wr.cell? ⟨w.heap.size + 1, 0, none⟩ = some (.int .i64 (ofF x1 y1 6 0)) := by rw [HR.out.2.2.1.cell, RV.of_cell _ _ (by decide)]
        have g1 : wr.cell? ⟨w.heap.size + 1, 1, none⟩ = some (.int .i64 (ofF x1 y1 6 1)) := by rw [HR.out.2.2.1.cell, RV.of_cell _ _ (by decide)]
        have g2 : wr.cell? ⟨w.heap.size + 1, 2, none⟩ = some (.int .i64 (ofF x1 y1 6 2)) := by rw [HR.out.2.2.1.cell, RV.of_cell _ _ (by decide)]
        have g3 : wr.cell? ⟨w.heap.size + 1, 3, none⟩ = some (.int .i64 (ofF x1 y1 6 3)) := by rw [HR.out.2.2.1.cell, RV.of_cell _ _ (by decide)]
        have g4 : wr.cell? ⟨w.heap.size + 1, 4, none⟩ = some (.int .i64 (ofF x1 y1 6 4)) := by rw [HR.out.2.2.1.cell, RV.of_cell _ _ (by decide)]
        have g5 : wr.cell? ⟨w.heap.size + 1, 5, none⟩ = some (.int .i64 (ofF x1 y1 6 5)) := by rw [HR.out.2.2.1.cell, RV.of_cell _ _ (by decide)]
        have g6 : wr.cell? ⟨w.heap.size + 1, 6, none⟩ = some (.int .i64 1) := by rw [HR.out.2.2.1.cell]; rfl
        have hfin : OfRes (.returned (.tuple #[.agg #[.int .i64 (ofF x1 y1 6 0), .int .i64 (ofF x1 y1 6 1), .int .i64 (ofF x1 y1 6 2), .int .i64 (ofF x1 y1 6 3), .int .i64 (ofF x1 y1 6 4), .int .i64 (ofF x1 y1 6 5), .int .i64 1], .int .i64 0])) (RV.of (ofF x1 y1 6) 1, 0) := rfl; have HFIN : Sl _ := ⟨And.intro hfin (And.intro hB hRz)⟩; subst e1 e2; clear hfin hB hRz HR; generalize ofF x1 y1 6 0 = z0 at g0 HFIN; generalize ofF x1 y1 6 1 = z1 at g1 HFIN; generalize ofF x1 y1 6 2 = z2 at g2 HFIN; generalize ofF x1 y1 6 3 = z3 at g3 HFIN; generalize ofF x1 y1 6 4 = z4 at g4 HFIN; generalize ofF x1 y1 6 5 = z5 at g5 HFIN; go_wp2_with fail; refine bodyPost_ret (results_rowR rfl _ _ w.heap.size _ _ _ rfl (HFIN.out.2.2.seven _ _ _ _ _ _ _) Tryz.underlying35 rfl (by kernel_rfl)) rfl ?_; exact ⟨by rw [HZR.out]; exact HFIN.out.1, below_seven HFIN.out.2.1 (Nat.le_refl _) _ _ _ _ _ _ _⟩
      · have HZR : Sl (s = (RVzero, 7)) := ⟨by rw [← HSS.out]; exact if_neg (by rw [← HR.out.2.2.2.2.1, ← HR.out.2.2.2.2.2]; exact hab)⟩; have HFIN : Sl _ := ⟨And.intro hB hRz⟩; clear hB hRz HR
        by_cases e1 : a = 1
        · have hb2 : ((b : Int) == 1) = false := by rw [beq_eq_false_iff_ne]; omega
          clear hab; subst e1; go_wp2_with fail; refine bodyPost_ret (results_rowR rfl _ _ w.heap.size _ _ _ rfl (HFIN.out.2.seven _ _ _ _ _ _ _) Tryz.underlying35 rfl (by kernel_rfl)) rfl ?_; exact ⟨by rw [HZR.out]; rfl, below_seven HFIN.out.1 (Nat.le_refl _) _ _ _ _ _ _ _⟩
        · have ha2 : ((a : Int) == 1) = false := by rw [beq_eq_false_iff_ne]; omega
          clear hab e1; go_wp2_with fail; refine bodyPost_ret (results_rowR rfl _ _ w.heap.size _ _ _ rfl (HFIN.out.2.seven _ _ _ _ _ _ _) Tryz.underlying35 rfl (by kernel_rfl)) rfl ?_; exact ⟨by rw [HZR.out]; rfl, below_seven HFIN.out.1 (Nat.le_refl _) _ _ _ _ _ _ _⟩
end Go.Proofs.YtmcoadmnkelkkaaGreatDoor
namespace Go.Proofs.YtmcoadmnkelkkaaGreatDoor
set_option linter.unusedSimpArgs false
open Go.RowKit
set_option linter.unusedVariables false
set_option maxHeartbeats 3200000 in
set_option maxRecDepth 100000 in
theorem r4Of_any (a b : Int) (w : World) : Calls Tryz.prog 44 #[.int .i64 a, .int .i64 b] w fun e w' => OfRes e (ofS a b) ∧ Below w.heap.size w w' := by
  by_cases h : okN a ∧ okN b
  · obtain ⟨x, rfl⟩ := Int.eq_ofNat_of_zero_le (show 0 ≤ a by have := h.1.1; omega); obtain ⟨y, rfl⟩ := Int.eq_ofNat_of_zero_le (show 0 ≤ b by have := h.2.1; omega); have h1 := h.1.1; have h2 := h.1.2; have h3 := h.2.1; have h4 := h.2.2; refine r4Of_good x y w (by omega) (by omega) (by omega) (by omega) _ ?_; rw [of_same (by omega) (by omega)]; unfold ofS; rw [if_pos h]; simp only [Int.natAbs_natCast]
  · have hs : Sl (ofS a b = (RVzero, 2)) := ⟨by unfold ofS; rw [if_neg h]⟩; have hu := (Below.refl w.heap.size w).alloc (Nat.le_refl _) (.cells RVzero.cells 35); have X4 := Blk.new w 35 RVzero.cells; rw [RVzero_cells] at hu X4; have HU : Sl _ := ⟨And.intro hu X4⟩; clear hu X4; obtain ⟨t, ht⟩ : ∃ t, ofS a b = t := ⟨_, rfl⟩; rw [ht] at hs ⊢; clear ht
    have hcase : (decide (a < 1) || decide (1000000000000 < a) || decide (b < 1) || decide (1000000000000 < b)) = true := by
      unfold okN at h; simp only [Bool.or_eq_true, decide_eq_true_eq]; omega
    clear h
    by_cases g1 : a < 1
    · clear hcase; go_enter Tryz.func44, Tryz.ntmps44; go_wp2_with fail; refine bodyPost_ret (results_rowR rfl _ _ w.heap.size _ _ _ rfl HU.out.2 Tryz.underlying35 rfl (by kernel_rfl)) rfl ?_; exact ⟨by rw [hs.out]; rfl, HU.out.1⟩
    · by_cases g2 : 1000000000000 < a
      · clear hcase; go_enter Tryz.func44, Tryz.ntmps44; go_wp2_with fail; refine bodyPost_ret (results_rowR rfl _ _ w.heap.size _ _ _ rfl HU.out.2 Tryz.underlying35 rfl (by kernel_rfl)) rfl ?_; exact ⟨by rw [hs.out]; rfl, HU.out.1⟩
      · by_cases g3 : b < 1
        · clear hcase; go_enter Tryz.func44, Tryz.ntmps44; go_wp2_with fail; refine bodyPost_ret (results_rowR rfl _ _ w.heap.size _ _ _ rfl HU.out.2 Tryz.underlying35 rfl (by kernel_rfl)) rfl ?_; exact ⟨by rw [hs.out]; rfl, HU.out.1⟩
        · have g4 : 1000000000000 < b := by
            simp only [Bool.or_eq_true, decide_eq_true_eq] at hcase; omega
          clear hcase; go_enter Tryz.func44, Tryz.ntmps44; go_wp2_with fail; refine bodyPost_ret (results_rowR rfl _ _ w.heap.size _ _ _ rfl HU.out.2 Tryz.underlying35 rfl (by kernel_rfl)) rfl ?_; exact ⟨by rw [hs.out]; rfl, HU.out.1⟩
end Go.Proofs.YtmcoadmnkelkkaaGreatDoor
namespace Go.Proofs.YtmcoadmnkelkkaaGreatDoor
set_option linter.unusedSimpArgs false
open Go.RowKit
set_option linter.unusedVariables false
attribute [-simp] Tryz.isAgg35
set_option maxHeartbeats 1600000 in
set_option maxRecDepth 100000 in
theorem r5ratio_any (a b : Int) (r : RV) (w : World) (hr : ofS a b = (r, 0)) : Calls Tryz.prog 48 #[.int .i64 a, .int .i64 b] w fun e w' => e = .returned (.agg r.cells) ∧ Below w.heap.size w w' := by
  have HB : Sl (Below w.heap.size w w) := ⟨Below.refl _ _⟩
  have H : Sl (∀ W : World, Calls Tryz.prog 44 #[.int .i64 a, .int .i64 b] W fun e w' => e = .returned (.tuple #[.agg r.cells, .int .i64 0]) ∧ Below W.heap.size W w') := ⟨fun W => by
    have := r4Of_any a b W; rw [hr] at this
    exact this⟩
  clear hr; go_enter Tryz.func48, Tryz.ntmps48
  go_wp2_with ((with_reducible show wpList _ _ _ _ _ _); first
    | (refine wpList_alloc_new 4 rfl rfl 35 rfl RVzero.cells alloc_ratio ?_; rintro w1 gA zg zm zs zb; have ORD : Sl (w.heap.size ≤ gA) := ⟨by have := HB.out.size; omega⟩; replace HB := HB.v zm (by have := HB.out.size; have := ORD.out; omega); have XA : Sl (Blk w1 gA 35 RVzero.cells) := ⟨zb⟩; clear zg zm zs zb))
  refine (H.out _ ).mono ?_; rintro e w2 ⟨rfl, hb⟩; replace HB := HB.y hb; replace XA := XA.x hb; clear hb
  go_wp2_with ((with_reducible show wpList _ _ _ _ _ _); first
    | (refine wpList_alloc_new 5 rfl rfl 35 rfl RVzero.cells alloc_ratio ?_; rintro w3 gB zg zm zs zb; replace ORD : Sl (w.heap.size ≤ gA ∧ gA < gB) := ⟨by have := HB.out.size; have := ORD.out; have := XA.out.lt; omega⟩; replace HB := HB.v zm (by have := HB.out.size; have := ORD.out; omega); replace XA := XA.w zm (by have := XA.out.lt; have := ORD.out; omega); have XB : Sl (Blk w3 gB 35 RVzero.cells) := ⟨zb⟩; clear zg zm zs zb)
    | (refine wpList_store_whole rfl 35 (.tmp 5) (.tmp 11) rfl gB r.cells rfl rfl 35 RVzero.cells XB.out rfl size_ratio (RV.cells_one _) ?_; rintro w4 zm zs zb; replace HB := HB.v zm (by have := HB.out.size; have := ORD.out; omega); replace XA := XA.w zm (by have := XA.out.lt; have := ORD.out; omega); replace XB : Sl (Blk w4 gB 35 r.cells) := ⟨zb⟩; clear zm zs zb)
    | (refine wpList_load_whole rfl 35 (.tmp 5) rfl gB rfl 35 r.cells _ XB.out Tryz.underlying35 rfl size_ratio ?_)
    | (refine wpList_store_whole rfl 35 (.tmp 4) (.tmp 13) rfl gA r.cells rfl rfl 35 RVzero.cells XA.out rfl size_ratio (RV.cells_one _) ?_; rintro w5 zm zs zb; replace HB := HB.v zm (by have := HB.out.size; have := ORD.out; omega); replace XB := XB.w zm (by have := XB.out.lt; have := ORD.out; omega); replace XA : Sl (Blk w5 gA 35 r.cells) := ⟨zb⟩; clear zm zs zb))
  refine bodyPost_ret (results_cell_row rfl _ _ gA _ _ _ _ rfl XA.out Tryz.underlying35 rfl size_ratio) rfl ?_; exact ⟨rfl, HB.out⟩
set_option maxHeartbeats 1600000 in
set_option maxRecDepth 100000 in
theorem of5_any (a b : Int) (r : RV) (w : World) (hr : ofS a b = (r, 0)) : Calls Tryz.prog 12 #[.int .i64 a, .int .i64 b] w fun e w' => e = .returned (.agg r.cells) ∧ Below w.heap.size w w' := by
  have HB : Sl (Below w.heap.size w w) := ⟨Below.refl _ _⟩
  have H : Sl (∀ W : World, Calls Tryz.prog 44 #[.int .i64 a, .int .i64 b] W fun e w' => e = .returned (.tuple #[.agg r.cells, .int .i64 0]) ∧ Below W.heap.size W w') := ⟨fun W => by
    have := r4Of_any a b W; rw [hr] at this
    exact this⟩
  clear hr; go_enter Tryz.func12, Tryz.ntmps12
  go_wp2_with ((with_reducible show wpList _ _ _ _ _ _); first
    | (refine wpList_alloc_new 4 rfl rfl 35 rfl RVzero.cells alloc_ratio ?_; rintro w1 gA zg zm zs zb; have ORD : Sl (w.heap.size ≤ gA) := ⟨by have := HB.out.size; omega⟩; replace HB := HB.v zm (by have := HB.out.size; have := ORD.out; omega); have XA : Sl (Blk w1 gA 35 RVzero.cells) := ⟨zb⟩; clear zg zm zs zb))
  refine (H.out _ ).mono ?_; rintro e w2 ⟨rfl, hb⟩; replace HB := HB.y hb; replace XA := XA.x hb; clear hb
  go_wp2_with ((with_reducible show wpList _ _ _ _ _ _); first
    | (refine wpList_alloc_new 5 rfl rfl 35 rfl RVzero.cells alloc_ratio ?_; rintro w3 gB zg zm zs zb; replace ORD : Sl (w.heap.size ≤ gA ∧ gA < gB) := ⟨by have := HB.out.size; have := ORD.out; have := XA.out.lt; omega⟩; replace HB := HB.v zm (by have := HB.out.size; have := ORD.out; omega); replace XA := XA.w zm (by have := XA.out.lt; have := ORD.out; omega); have XB : Sl (Blk w3 gB 35 RVzero.cells) := ⟨zb⟩; clear zg zm zs zb)
    | (refine wpList_store_whole rfl 35 (.tmp 5) (.tmp 11) rfl gB r.cells rfl rfl 35 RVzero.cells XB.out rfl size_ratio (RV.cells_one _) ?_; rintro w4 zm zs zb; replace HB := HB.v zm (by have := HB.out.size; have := ORD.out; omega); replace XA := XA.w zm (by have := XA.out.lt; have := ORD.out; omega); replace XB : Sl (Blk w4 gB 35 r.cells) := ⟨zb⟩; clear zm zs zb)
    | (refine wpList_load_whole rfl 35 (.tmp 5) rfl gB rfl 35 r.cells _ XB.out Tryz.underlying35 rfl size_ratio ?_)
    | (refine wpList_store_whole rfl 35 (.tmp 4) (.tmp 13) rfl gA r.cells rfl rfl 35 RVzero.cells XA.out rfl size_ratio (RV.cells_one _) ?_; rintro w5 zm zs zb; replace HB := HB.v zm (by have := HB.out.size; have := ORD.out; omega); replace XB := XB.w zm (by have := XB.out.lt; have := ORD.out; omega); replace XA : Sl (Blk w5 gA 35 r.cells) := ⟨zb⟩; clear zm zs zb))
  refine bodyPost_ret (results_cell_row rfl _ _ gA _ _ _ _ rfl XA.out Tryz.underlying35 rfl size_ratio) rfl ?_; exact ⟨rfl, HB.out⟩
end Go.Proofs.YtmcoadmnkelkkaaGreatDoor
namespace Go.Proofs.YtmcoadmnkelkkaaGreatDoor
set_option linter.unusedSimpArgs false
open Go.RowKit
set_option linter.unusedVariables false
/-- the end of a region told by a block's number: the frame and what is known of the world -/
def BrQ (A : Nat → Act) (F : Nat → World → Prop) : Exit → Act → World → Prop
  | .normal, a, w => ∃ g, a = A g ∧ F g w
  | _, _, _ => False
theorem wp_branch {P : Program} {c : Code} {Q : Exit → Act → World → Prop} {a : Act} {w : World} (F : Nat → World → Prop) {A : Nat → Act} (h2 : c.wp P (BrQ A F) a w) (h1 : ∀ g w', F g w' → Q .normal (A g) w') : c.wp P Q a w :=
  Code.wp_mono (fun e a' w' h => by
    cases e <;> first | exact h.elim | (obtain ⟨g, rfl, hF⟩ := h; exact h1 g w' hF)) h2
section
variable {P : Program} {ops : Array Oper} {Q : Exit → Act → World → Prop} {md : Region.Mode} {S : World → Prop}
/-- one of two operations comes up next -/
theorem wpAnyH_two (i j : Nat) {oi oj : Oper} {fuel : Nat} {listed : Array Bool} {a : Act} {w : World} (hi0 : ops.toList[i]? = some oi) (hj0 : ops.toList[j]? = some oj) (hr : Region.ready md ops listed = [i, j]) (hgi : oi.guard = none) (hgj : oj.guard = none)
    (h1 : ∀ K' : Act → World → Prop, Shut (∀ a w, S w → (S w → wpAnyH P md ops Q S fuel (listed.setIfInBounds i true) a w) → K' a w) → Oper.wp P oi a w K' Q)
    (h2 : ∀ K' : Act → World → Prop, Shut (∀ a w, S w → (S w → wpAnyH P md ops Q S fuel (listed.setIfInBounds j true) a w) → K' a w) → Oper.wp P oj a w K' Q) : wpAnyH P md ops Q S (fuel + 1) listed a w :=
  have hi : ops[i]? = some oi := by rw [← Array.getElem?_toList]; exact hi0
  have hj : ops[j]? = some oj := by rw [← Array.getElem?_toList]; exact hj0
  wpAnyH_ready hr (by simp) (AllReadyH.cons hi (fun K' hK => by
    have hw : Region.wanted oi (yielded ops a.tmps) = true := by simp [Region.wanted, hgi]
    rw [if_pos hw]
    exact h1 K' hK) (AllReadyH.cons hj (fun K' hK => by
    have hw : Region.wanted oj (yielded ops a.tmps) = true := by simp [Region.wanted, hgj]
    rw [if_pos hw]
    exact h2 K' hK) AllReadyH.nil))
end
section
variable {P : Program} {op : Oper} {a : Act} {w : World} {K : Act → World → Prop} {Q : Exit → Act → World → Prop}
theorem wp_alloc_new (ty : TypeId) (ho : op.op = .alloc ty) (cells : Array Value)
    (hz : ∀ w, (Instr.alloc ty true (.tuple #[])).run P w = .ok (.pointer (some ⟨w.heap.size, 0, none⟩)) (w.alloc (.cells cells ty)))
    (h : ∀ w' g, g = w.heap.size → Below w.heap.size w w' → w'.heap.size = g + 1 → Blk w' g ty cells → K (a.put op.dst (.pointer (some ⟨g, 0, none⟩))) w') : op.wp P a w K Q := by
  have hrun : (execOp a.eval op).run P w = .ok (.value (.pointer (some ⟨w.heap.size, 0, none⟩))) (w.alloc (.cells cells ty)) := by
    unfold execOp; simp only [ho, Sem.run_bind, hz, Result.andThen_ok, Sem.run_pure]
  unfold Oper.wp; rw [hrun, Oper.upon_value]; exact h _ _ rfl ((Below.refl _ _).alloc (Nat.le_refl _) _) (by simp) (Blk.new w ty cells)
end
end Go.Proofs.YtmcoadmnkelkkaaGreatDoor
namespace Go.Proofs.YtmcoadmnkelkkaaGreatDoor
set_option linter.unusedSimpArgs false
open Go.RowKit
set_option linter.unusedVariables false
attribute [-simp] Tryz.isAgg35 Tryz.isAgg26
set_option maxHeartbeats 6400000 in
set_option maxRecDepth 100000 in
theorem r5comma_any (t : TV) (w : World) : Calls Tryz.prog 15 #[.agg t.cells] w fun e w' => e = .returned (.agg (nr (cmv t.syn) 1).cells) ∧ Below w.heap.size w w' := by
  have HB : Sl (Below w.heap.size w w) := ⟨Below.refl _ _⟩; have HC1 : Sl (∀ W : World, Calls Tryz.prog 48 #[.int .i64 531441, .int .i64 524288] W fun e w' => e = .returned (.agg (nr (cmv false) 1).cells) ∧ Below W.heap.size W w') := ⟨fun W => r5ratio_any _ _ _ W (of_comma false)⟩; have HC2 : Sl (∀ W : World, Calls Tryz.prog 48 #[.int .i64 81, .int .i64 80] W fun e w' => e = .returned (.agg (nr (cmv true) 1).cells) ∧ Below W.heap.size W w') := ⟨fun W => r5ratio_any _ _ _ W (of_comma true)⟩; obtain ⟨syn, hsyn⟩ : ∃ b, t.syn = b := ⟨_, rfl⟩; rw [hsyn]; have HSY : Sl _ := ⟨hsyn⟩; clear hsyn
  cases syn
  · go_enter Tryz.func15, Tryz.ntmps15
    go_wp2_with ((with_reducible show wpList _ _ _ _ _ _); first
      | (refine wpList_box_new 1 rfl rfl 26 (.tmp 0) rfl t.cells rfl (box_temper t) ?_; rintro w1 gT zg zm zs zb; have ORD : Sl (w.heap.size ≤ gT) := ⟨by have := HB.out.size; omega⟩; replace HB := HB.v zm (by have := HB.out.size; have := ORD.out; omega); have XT : Sl (Blk w1 gT 26 t.cells) := ⟨zb⟩; clear zg zm zs zb)
      | (refine wpList_alloc_new 2 rfl rfl 35 rfl RVzero.cells alloc_ratio ?_; rintro w2 gR zg zm zs zb; replace ORD : Sl (w.heap.size ≤ gT ∧ gT < gR) := ⟨by have := HB.out.size; have := ORD.out; have := XT.out.lt; omega⟩; replace HB := HB.v zm (by have := HB.out.size; have := ORD.out; omega); replace XT := XT.w zm (by have := XT.out.lt; have := ORD.out; omega); have XR : Sl (Blk w2 gR 35 RVzero.cells) := ⟨zb⟩; clear zg zm zs zb; have cs1 : w2.cell? ⟨gT, 1, none⟩ = some (.bool t.syn) := XT.out.cell 1; rw [HSY.out] at cs1))
    clear cs1; refine (HC1.out _).mono ?_; rintro e w3 ⟨rfl, hb⟩; replace HB := HB.y hb; replace XT := XT.x hb; replace XR := XR.x hb; clear hb
    go_wp2_with ((with_reducible show wpList _ _ _ _ _ _); first
      | (refine wpList_store_whole rfl 35 (.tmp 2) (.tmp 6) rfl gR (nr (cmv false) 1).cells rfl rfl 35 RVzero.cells XR.out rfl size_ratio (RV.cells_one _) ?_; rintro w4 zm zs zb; replace HB := HB.v zm (by have := HB.out.size; have := ORD.out; omega); replace XT := XT.w zm (by have := XT.out.lt; have := ORD.out; omega); replace XR : Sl (Blk w4 gR 35 (nr (cmv false) 1).cells) := ⟨zb⟩; clear zm zs zb))
    refine bodyPost_ret (results_cell_row rfl _ _ gR _ _ _ _ rfl XR.out Tryz.underlying35 rfl size_ratio) rfl ?_; exact ⟨rfl, HB.out⟩
  · go_enter Tryz.func15, Tryz.ntmps15
    go_wp2_with ((with_reducible show wpList _ _ _ _ _ _); first
      | (refine wpList_box_new 1 rfl rfl 26 (.tmp 0) rfl t.cells rfl (box_temper t) ?_; rintro w15 gT zg zm zs zb; have ORD : Sl (w.heap.size ≤ gT) := ⟨by have := HB.out.size; omega⟩; replace HB := HB.v zm (by have := HB.out.size; have := ORD.out; omega); have XT : Sl (Blk w15 gT 26 t.cells) := ⟨zb⟩; clear zg zm zs zb)
      | (refine wpList_alloc_new 2 rfl rfl 35 rfl RVzero.cells alloc_ratio ?_; rintro w16 gR zg zm zs zb; replace ORD : Sl (w.heap.size ≤ gT ∧ gT < gR) := ⟨by have := HB.out.size; have := ORD.out; have := XT.out.lt; omega⟩; replace HB := HB.v zm (by have := HB.out.size; have := ORD.out; omega); replace XT := XT.w zm (by have := XT.out.lt; have := ORD.out; omega); have XR : Sl (Blk w16 gR 35 RVzero.cells) := ⟨zb⟩; clear zg zm zs zb; have cs1 : w16.cell? ⟨gT, 1, none⟩ = some (.bool t.syn) := XT.out.cell 1; rw [HSY.out] at cs1))
    clear cs1; refine (HC2.out _).mono ?_; rintro e w17 ⟨rfl, hb⟩; replace HB := HB.y hb; replace XT := XT.x hb; replace XR := XR.x hb; clear hb
    go_wp2_with ((with_reducible show wpList _ _ _ _ _ _); first
      | (refine wpList_store_whole rfl 35 (.tmp 2) (.tmp 5) rfl gR (nr (cmv true) 1).cells rfl rfl 35 RVzero.cells XR.out rfl size_ratio (RV.cells_one _) ?_; rintro w18 zm zs zb; replace HB := HB.v zm (by have := HB.out.size; have := ORD.out; omega); replace XT := XT.w zm (by have := XT.out.lt; have := ORD.out; omega); replace XR : Sl (Blk w18 gR 35 (nr (cmv true) 1).cells) := ⟨zb⟩; clear zm zs zb))
    refine bodyPost_ret (results_cell_row rfl _ _ gR _ _ _ _ rfl XR.out Tryz.underlying35 rfl size_ratio) rfl ?_; exact ⟨rfl, HB.out⟩
end Go.Proofs.YtmcoadmnkelkkaaGreatDoor
namespace Go.Proofs.YtmcoadmnkelkkaaGreatDoor
set_option linter.unusedSimpArgs false
open Go.RowKit
set_option linter.unusedVariables false
attribute [-simp] Tryz.isAgg35 Tryz.isAgg26 Tryz.isAgg24 Tryz.isAgg23
end Go.Proofs.YtmcoadmnkelkkaaGreatDoor
namespace Go.Proofs.YtmcoadmnkelkkaaGreatDoor
set_option linter.unusedSimpArgs false
open Go.RowKit
set_option linter.unusedVariables false
attribute [-simp] Tryz.isAgg35 Tryz.isAgg26 Tryz.isAgg24 Tryz.isAgg23
/-- what is left of seven octaves, less the fifths from the k-th to the j-th -/
def TP.u (t : TP) (k j i : Nat) : Int := oct (7 * t.D) i - (t.G j i - t.G k i)
end Go.Proofs.YtmcoadmnkelkkaaGreatDoor
namespace Go.Proofs.YtmcoadmnkelkkaaGreatDoor
set_option linter.unusedSimpArgs false
open Go.RowKit
set_option linter.unusedVariables false
attribute [-simp] Tryz.isAgg35 Tryz.isAgg26 Tryz.isAgg24 Tryz.isAgg23
noncomputable def R1 : RV := nr (v3 0 0 0) 1
end Go.Proofs.YtmcoadmnkelkkaaGreatDoor
namespace Go.Proofs.YtmcoadmnkelkkaaGreatDoor
set_option linter.unusedSimpArgs false
open Go.RowKit
set_option linter.unusedVariables false
attribute [-simp] Tryz.isAgg35 Tryz.isAgg26 Tryz.isAgg24 Tryz.isAgg23
end Go.Proofs.YtmcoadmnkelkkaaGreatDoor
namespace Go.Proofs.YtmcoadmnkelkkaaGreatDoor
set_option linter.unusedSimpArgs false
open Go.RowKit
set_option linter.unusedVariables false
attribute [-simp] Tryz.isAgg35 Tryz.isAgg26 Tryz.isAgg24 Tryz.isAgg23
end Go.Proofs.YtmcoadmnkelkkaaGreatDoor
namespace Go.Proofs.YtmcoadmnkelkkaaGreatDoor
set_option linter.unusedSimpArgs false
open Go.RowKit
set_option linter.unusedVariables false
attribute [-simp] Tryz.isAgg35 Tryz.isAgg26 Tryz.isAgg24 Tryz.isAgg23
end Go.Proofs.YtmcoadmnkelkkaaGreatDoor
namespace Go.Proofs.YtmcoadmnkelkkaaGreatDoor
set_option linter.unusedSimpArgs false
open Go.RowKit
set_option linter.unusedVariables false
attribute [-simp] Tryz.isAgg35 Tryz.isAgg26 Tryz.isAgg24 Tryz.isAgg23
end Go.Proofs.YtmcoadmnkelkkaaGreatDoor
namespace Go.Proofs.YtmcoadmnkelkkaaGreatDoor
set_option linter.unusedSimpArgs false
open Go.RowKit
set_option linter.unusedVariables false
attribute [-simp] Tryz.isAgg67 Tryz.isAgg35 Tryz.isAgg26 Tryz.isAgg24 Tryz.isAgg23
/-- a slice of twelve ratios, or a kind -/
def SlR (w w' : World) (e : Ending) (t : TV) (T : TypeId) (f : Nat → RV) : Prop :=
  (t.chk nameS ≠ 0 → e = .returned (.tuple #[.slice none 0 0, .int .i64 (t.chk nameS)])) ∧
  (t.chk nameS = 0 → ∃ g, e = .returned (.tuple #[.slice (some ⟨g, 0, none⟩) 12 12, .int .i64 0]) ∧ w.heap.size ≤ g ∧ Blk w' g T (flatR f))
set_option maxHeartbeats 6400000 in
set_option maxRecDepth 100000 in
theorem tFifths_any (t : TV) (hs : t.nm.size ≤ maxLen) (w : World) (hT : PrT w) : Calls Tryz.prog 10 #[.agg t.cells] w fun e w' => SlR w w' e t 67 (fun k => nr (t.tp.f k) t.tp.D) ∧ Below w.heap.size w w' := by
  have HB : Sl (Below w.heap.size w w) := ⟨Below.refl _ _⟩; have HT : Sl _ := ⟨hT⟩; have HCK : Sl (∀ W : World, Calls Tryz.prog 41 #[.agg t.cells] W fun e w' => e = .returned (.int .i64 (t.chk nameS)) ∧ Below W.heap.size W w') := ⟨fun W => tcheck_any t W hs⟩; clear hT hs; obtain ⟨c, hc⟩ : ∃ c, t.chk nameS = c := ⟨_, rfl⟩; rw [hc] at HCK; have HC : Sl _ := ⟨hc⟩; clear hc; go_enter Tryz.func10, Tryz.ntmps10
  go_wp2_with ((with_reducible show wpList _ _ _ _ _ _); first
    | (refine wpList_box_new 1 rfl rfl 26 (.tmp 0) rfl t.cells rfl (box_temper t) ?_; rintro w1 gT zg zm zs zb; have ORD : Sl (w.heap.size ≤ gT) := ⟨by have := HB.out.size; omega⟩; replace HB := HB.v zm (by have := HB.out.size; have := ORD.out; omega); have XT : Sl (Blk w1 gT 26 t.cells) := ⟨zb⟩; clear zg zm zs zb)
    | (refine wpList_load_whole rfl 26 (.tmp 1) rfl gT rfl 26 t.cells _ XT.out Tryz.underlying26 rfl (size_temper t) ?_))
  refine (HCK.out _).mono ?_; rintro e w2 ⟨rfl, hb⟩; replace HB := HB.y hb; replace XT := XT.x hb; clear hb
  by_cases h0 : c = 0
  · subst h0; have HLO : Sl (∀ (W : World), PrT W → Blk W gT 26 t.cells → Calls Tryz.prog 42 #[.pointer (some ⟨gT, 0, none⟩)] W fun e w' => e = .returned (.agg (flatR (fun k => nr (t.tp.f k) t.tp.D))) ∧ Below W.heap.size W w') := ⟨fun W h hB => fifths_any t HC.out gT W h hB⟩; go_wp2_with fail; refine (HLO.out _ (HT.out.below HB.out) XT.out).mono ?_; rintro e w3 ⟨rfl, hb⟩; replace HB := HB.y hb; replace XT := XT.x hb; clear hb
    go_wp2_with ((with_reducible show wpList _ _ _ _ _ _); first
      | (refine wpList_alloc_new 5 rfl rfl 67 rfl (flatR fun _ => RVzero) alloc_twelve ?_; rintro w4 gL zg zm zs zb; replace ORD : Sl (w.heap.size ≤ gT ∧ gT < gL) := ⟨by have := HB.out.size; have := ORD.out; have := XT.out.lt; omega⟩; replace HB := HB.v zm (by have := HB.out.size; have := ORD.out; omega); replace XT := XT.w zm (by have := XT.out.lt; have := ORD.out; omega); have XL : Sl (Blk w4 gL 67 (flatR fun _ => RVzero)) := ⟨zb⟩; clear zg zm zs zb)
      | (refine wpList_store_whole rfl 67 (.tmp 5) (.tmp 11) rfl gL (flatR (fun k => nr (t.tp.f k) t.tp.D)) rfl rfl 67 (flatR fun _ => RVzero) XL.out (by rw [flatR_size, flatR_size]) (size_twelve _) (flatR_one _) ?_; rintro w5 zm zs zb; replace HB := HB.v zm (by have := HB.out.size; have := ORD.out; omega); replace XT := XT.w zm (by have := XT.out.lt; have := ORD.out; omega); replace XL : Sl (Blk w5 gL 67 (flatR (fun k => nr (t.tp.f k) t.tp.D))) := ⟨zb⟩; clear zm zs zb))
    go_ret2; exact ⟨⟨fun h => absurd HC.out h, fun _ => ⟨gL, rfl, by have := ORD.out; omega, XL.out⟩⟩, HB.out⟩
  · have hz : ((c : Int) != 0) = true := by rw [bne_iff_ne]; exact h0
    go_wp2_with fail; go_ret2; exact ⟨⟨fun _ => by rw [HC.out]; rfl, fun h => absurd (HC.out.symm.trans h) h0⟩, HB.out⟩
set_option maxHeartbeats 6400000 in
set_option maxRecDepth 100000 in
theorem tNotes_any (t : TV) (hs : t.nm.size ≤ maxLen) (w : World) (hT : PrT w) : Calls Tryz.prog 11 #[.agg t.cells] w fun e w' => SlR w w' e t 67 (t.N) ∧ Below w.heap.size w w' := by
  have HB : Sl (Below w.heap.size w w) := ⟨Below.refl _ _⟩; have HT : Sl _ := ⟨hT⟩; have HCK : Sl (∀ W : World, Calls Tryz.prog 41 #[.agg t.cells] W fun e w' => e = .returned (.int .i64 (t.chk nameS)) ∧ Below W.heap.size W w') := ⟨fun W => tcheck_any t W hs⟩; clear hT hs; obtain ⟨c, hc⟩ : ∃ c, t.chk nameS = c := ⟨_, rfl⟩; rw [hc] at HCK; have HC : Sl _ := ⟨hc⟩; clear hc; go_enter Tryz.func11, Tryz.ntmps11
  go_wp2_with ((with_reducible show wpList _ _ _ _ _ _); first
    | (refine wpList_box_new 1 rfl rfl 26 (.tmp 0) rfl t.cells rfl (box_temper t) ?_; rintro w1 gT zg zm zs zb; have ORD : Sl (w.heap.size ≤ gT) := ⟨by have := HB.out.size; omega⟩; replace HB := HB.v zm (by have := HB.out.size; have := ORD.out; omega); have XT : Sl (Blk w1 gT 26 t.cells) := ⟨zb⟩; clear zg zm zs zb)
    | (refine wpList_load_whole rfl 26 (.tmp 1) rfl gT rfl 26 t.cells _ XT.out Tryz.underlying26 rfl (size_temper t) ?_))
  refine (HCK.out _).mono ?_; rintro e w2 ⟨rfl, hb⟩; replace HB := HB.y hb; replace XT := XT.x hb; clear hb
  by_cases h0 : c = 0
  · subst h0; have HLO : Sl (∀ (W : World), PrT W → Blk W gT 26 t.cells → Calls Tryz.prog 43 #[.pointer (some ⟨gT, 0, none⟩)] W fun e w' => e = .returned (.agg (flatR (t.N))) ∧ Below W.heap.size W w') := ⟨fun W h hB => notes_any t HC.out gT W h hB⟩; go_wp2_with fail; refine (HLO.out _ (HT.out.below HB.out) XT.out).mono ?_; rintro e w3 ⟨rfl, hb⟩; replace HB := HB.y hb; replace XT := XT.x hb; clear hb
    go_wp2_with ((with_reducible show wpList _ _ _ _ _ _); first
      | (refine wpList_alloc_new 5 rfl rfl 67 rfl (flatR fun _ => RVzero) alloc_twelve ?_; rintro w4 gL zg zm zs zb; replace ORD : Sl (w.heap.size ≤ gT ∧ gT < gL) := ⟨by have := HB.out.size; have := ORD.out; have := XT.out.lt; omega⟩; replace HB := HB.v zm (by have := HB.out.size; have := ORD.out; omega); replace XT := XT.w zm (by have := XT.out.lt; have := ORD.out; omega); have XL : Sl (Blk w4 gL 67 (flatR fun _ => RVzero)) := ⟨zb⟩; clear zg zm zs zb)
      | (refine wpList_store_whole rfl 67 (.tmp 5) (.tmp 11) rfl gL (flatR (t.N)) rfl rfl 67 (flatR fun _ => RVzero) XL.out (by rw [flatR_size, flatR_size]) (size_twelve _) (flatR_one _) ?_; rintro w5 zm zs zb; replace HB := HB.v zm (by have := HB.out.size; have := ORD.out; omega); replace XT := XT.w zm (by have := XT.out.lt; have := ORD.out; omega); replace XL : Sl (Blk w5 gL 67 (flatR (t.N))) := ⟨zb⟩; clear zm zs zb))
    go_ret2; exact ⟨⟨fun h => absurd HC.out h, fun _ => ⟨gL, rfl, by have := ORD.out; omega, XL.out⟩⟩, HB.out⟩
  · have hz : ((c : Int) != 0) = true := by rw [bne_iff_ne]; exact h0
    go_wp2_with fail; go_ret2; exact ⟨⟨fun _ => by rw [HC.out]; rfl, fun h => absurd (HC.out.symm.trans h) h0⟩, HB.out⟩
end Go.Proofs.YtmcoadmnkelkkaaGreatDoor
namespace Go.Proofs.YtmcoadmnkelkkaaGreatDoor
set_option linter.unusedSimpArgs false
open Go.RowKit
set_option linter.unusedVariables false
attribute [-simp] Tryz.isAgg67 Tryz.isAgg35 Tryz.isAgg26 Tryz.isAgg24 Tryz.isAgg23
theorem RV.ext06 (r : RV) : r.cells.extract 0 6 = r.nums := by kernel_rfl
theorem eq_nums (W : World) (r : RV) : (Op.equalIn 9999 33 (.agg r.nums) (.agg r.nums)).run Tryz.prog W = .ok true W := equal6 W r.n0 r.n1 r.n2 r.n3 r.n4 r.n5
theorem RV.d_cell (r : RV) : r.cells[6]? = some (.int .i64 r.d) := by kernel_rfl
end Go.Proofs.YtmcoadmnkelkkaaGreatDoor
namespace Go.Proofs.YtmcoadmnkelkkaaGreatDoor
set_option linter.unusedSimpArgs false
open Go.RowKit
set_option linter.unusedVariables false
section
variable {P : Program} {ops : Array Oper} {Q : Exit → Act → World → Prop} {md : Region.Mode} {S : World → Prop}
/-- a guarded load whose guard holds, taken first -/
theorem wpAnyH_loadg (i : Nat) {oi : Oper} {fuel : Nat} {listed : Array Bool} {a : Act} {w : World} (ty : TypeId) (x : Operand) (hi0 : ops.toList[i]? = some oi) (ho : oi.op = .load ty x) (hg : Region.wanted oi (yielded ops a.tmps) = true)
    (g o : Nat) (hx : a.eval x = .pointer (some ⟨g, o, none⟩)) (vs : Array Value) (d : TypeDesc) (hR : ∀ w, S w → w.rangeAt g o vs.toList) (hu : P.underlying ty = some d) (hd : d.isRow = true) (hz : (P.info? ty).map (·.size) = some vs.size)
    (hs : Region.noSelect ops = true) (hf : Region.free md ops listed i = true) (hr : (Region.ready md ops listed).contains i = true)
    (hQ : ∀ c a w, Q (.panic c) (a.put oi.dst (.agg vs)) w → Q (.panic c) a w) (hS : S w)
    (h : wpAnyH P md ops Q S fuel (listed.setIfInBounds i true) (a.put oi.dst (.agg vs)) w) : wpAnyH P md ops Q S (fuel + 1) listed a w := by
  have hi : ops[i]? = some oi := by rw [← Array.getElem?_toList]; exact hi0
  have hy := yieldsIf_load_mid (P := P) (ops := ops) (S := S) (op := oi) (a := a) hg ty x ho g o hx vs.toList d hR hu hd (by rw [hz]; simp); rw [Array.toArray_toList] at hy; exact wpAnyH_take hi hs hf hr hQ hy hS h
/-- a guarded load of one cell whose guard holds, taken first -/
theorem wpAnyH_cellg (i : Nat) {oi : Oper} {fuel : Nat} {listed : Array Bool} {a : Act} {w : World} {v : Value} (hi0 : ops.toList[i]? = some oi) (hg : Region.wanted oi (yielded ops a.tmps) = true)
    (hy : ∀ w, S w → (execOp a.eval oi).run P w = .ok (.value v) w)
    (hs : Region.noSelect ops = true) (hf : Region.free md ops listed i = true) (hr : (Region.ready md ops listed).contains i = true)
    (hQ : ∀ c a w, Q (.panic c) (a.put oi.dst v) w → Q (.panic c) a w) (hS : S w)
    (h : wpAnyH P md ops Q S fuel (listed.setIfInBounds i true) (a.put oi.dst v) w) : wpAnyH P md ops Q S (fuel + 1) listed a w :=
  have hi : ops[i]? = some oi := by rw [← Array.getElem?_toList]; exact hi0
  wpAnyH_take hi hs hf hr hQ (.inl ⟨hg, hy⟩) hS h
/-- a guarded operation whose guard holds, which yields whatever the world is, taken first -/
theorem wpAnyH_pureg (i : Nat) {oi : Oper} {v : Value} {fuel : Nat} {listed : Array Bool} {a : Act} {w : World} (hi0 : ops.toList[i]? = some oi)
    (hs : Region.noSelect ops = true) (hf : Region.free md ops listed i = true) (hr : (Region.ready md ops listed).contains i = true)
    (hQ : ∀ c a w, Q (.panic c) (a.put oi.dst v) w → Q (.panic c) a w) (hg : Region.wanted oi (yielded ops a.tmps) = true) (hy : ∀ w, (execOp a.eval oi).run P w = .ok (.value v) w) (hS : S w)
    (h : wpAnyH P md ops Q S fuel (listed.setIfInBounds i true) (a.put oi.dst v) w) : wpAnyH P md ops Q S (fuel + 1) listed a w :=
  have hi : ops[i]? = some oi := by rw [← Array.getElem?_toList]; exact hi0
  wpAnyH_take hi hs hf hr hQ (.inl ⟨hg, fun w _ => hy w⟩) hS h
/-- a guarded operation whose guard does not hold, taken first -/
theorem wpAnyH_no (i : Nat) {oi : Oper} {fuel : Nat} {listed : Array Bool} {a : Act} {w : World} (hi0 : ops.toList[i]? = some oi)
    (hs : Region.noSelect ops = true) (hf : Region.free md ops listed i = true) (hr : (Region.ready md ops listed).contains i = true)
    (hQ : ∀ c a w, Q (.panic c) (a.put oi.dst undef) w → Q (.panic c) a w) (hg : Region.wanted oi (yielded ops a.tmps) = false) (hS : S w)
    (h : wpAnyH P md ops Q S fuel (listed.setIfInBounds i true) (a.put oi.dst undef) w) : wpAnyH P md ops Q S (fuel + 1) listed a w :=
  have hi : ops[i]? = some oi := by rw [← Array.getElem?_toList]; exact hi0
  wpAnyH_take hi hs hf hr hQ (.inr ⟨hg, rfl⟩) hS h
end
end Go.Proofs.YtmcoadmnkelkkaaGreatDoor
namespace Go.Proofs.YtmcoadmnkelkkaaGreatDoor
set_option linter.unusedSimpArgs false
open Go.RowKit
set_option linter.unusedVariables false
theorem SS_of_neg {f : Nat → Int} {y : Int} (h : TT (-y) (fun j => -f j)) : SS (y + 1) f := by
  refine not_TT.1 fun h2 => ?_
  have h3 : TT 1 (fun _ => 0) := (h2.add h).cast (by omega) fun j _ => by show f j + -f j = 0; omega
  have h4 : QQ 0 (fun _ => 0) := (oct_is 0).congr fun j _ => by unfold oct; split <;> rfl
  have := h3.qle h4; omega
theorem QQ_nil {f : Nat → Int} (h : ∀ j, j < 6 → f j = 0) : QQ 0 f := (oct_is 0).congr fun j hj => by rw [h j hj]; unfold oct; split <;> rfl
/-- a fifth narrower or wider by two commas is from 1 to 2 -/
theorem fif_ends (syn : Bool) : (TT 0 (fun j => b32 j + 2 * cmv syn j) ∧ TT 0 (fun j => b32 j - 2 * cmv syn j)) ∧ TT (-1) (fun j => -(b32 j + 2 * cmv syn j)) ∧ TT (-1) (fun j => -(b32 j - 2 * cmv syn j)) := by
  cases syn
  · refine ⟨⟨TT_nat 0 0 (fun j => if j = 1 then 25 else 0) (fun j => if j = 0 then 39 else 0) (by decide) (by decide) (by decide +kernel), TT_nat 0 0 (fun j => if j = 0 then 37 else 0) (fun j => if j = 1 then 23 else 0) (by decide) (by decide) (by decide +kernel)⟩, TT_nat 0 1 (fun j => if j = 0 then 39 else 0) (fun j => if j = 1 then 25 else 0) (by decide) (by decide) (by decide +kernel), TT_nat 0 1 (fun j => if j = 1 then 23 else 0) (fun j => if j = 0 then 37 else 0) (by decide) (by decide) (by decide +kernel)⟩
  · refine ⟨⟨TT_nat 0 0 (fun j => if j = 1 then 9 else 0) (fun j => if j = 0 then 9 else if j = 2 then 2 else 0) (by decide) (by decide) (by decide +kernel), TT_nat 0 0 (fun j => if j = 0 then 7 else if j = 2 then 2 else 0) (fun j => if j = 1 then 7 else 0) (by decide) (by decide) (by decide +kernel)⟩, TT_nat 0 1 (fun j => if j = 0 then 9 else if j = 2 then 2 else 0) (fun j => if j = 1 then 9 else 0) (by decide) (by decide) (by decide +kernel), TT_nat 0 1 (fun j => if j = 1 then 7 else 0) (fun j => if j = 0 then 7 else if j = 2 then 2 else 0) (by decide) (by decide) (by decide +kernel)⟩
theorem TP.Ok.g_rng {t : TP} (h : t.Ok) {k : Nat} (hk : k < 12) : TT 0 (t.g k) ∧ TT (-t.D) (fun j => -t.g k j) := by
  have hD := h.hD; obtain ⟨e1, e2⟩ := h.he k hk
  by_cases hw : k = t.w
  · have h0 : ∀ j, j < 6 → t.g k j = 0 := fun j _ => by unfold TP.g; rw [if_pos hw]
    exact ⟨(QQ_nil h0).tt, (QQ_nil fun j hj => by show -t.g k j = 0; rw [h0 j hj]; rfl).tt.mono (by omega)⟩
  · obtain ⟨⟨a1, a2⟩, a3, a4⟩ := fif_ends t.syn; obtain ⟨n, hn⟩ : ∃ n : Nat, (n : Int) = 2 * t.D - t.e k := ⟨(2 * t.D - t.e k).toNat, by omega⟩; obtain ⟨m, hm⟩ : ∃ m : Nat, (m : Int) = 2 * t.D + t.e k := ⟨(2 * t.D + t.e k).toNat, by omega⟩
    have hg : ∀ j, (b32 j + 2 * cmv t.syn j) * n + (b32 j - 2 * cmv t.syn j) * m = t.g k j * (4 : Nat) := fun j => by
      unfold TP.g; rw [if_neg hw, hn, hm]; generalize b32 j = x; generalize cmv t.syn j = y; generalize t.e k = e; grind
    constructor
    · exact TT.unscale (n := 4) (by decide) (((a1.scale n).add (a2.scale m)).cast (by omega) fun j _ => hg j)
    · refine TT.unscale (n := 4) (by decide) (((a3.scale n).add (a4.scale m)).cast (by omega) fun j _ => ?_); have := hg j; show -(b32 j + 2 * cmv t.syn j) * (n : Int) + -(b32 j - 2 * cmv t.syn j) * (m : Int) = -t.g k j * ((4 : Nat) : Int); rw [Int.neg_mul, Int.neg_mul, Int.neg_mul]; omega
theorem TP.Ok.G_rng {t : TP} (h : t.Ok) : ∀ m : Nat, m ≤ 12 → TT 0 (t.G m) ∧ TT (-(m * t.D)) (fun j => -t.G m j)
  | 0, _ => ⟨(QQ_nil fun j _ => rfl).tt, (QQ_nil fun j _ => rfl).tt.mono (by omega)⟩
  | m+1, hm => by
    obtain ⟨h1, h2⟩ := TP.Ok.G_rng h m (by omega); obtain ⟨g1, g2⟩ := h.g_rng (k := m) (by omega); have hG : ∀ j, t.G (m + 1) j = t.G m j + t.g m j := fun j => rfl
    refine ⟨(h1.add g1).cast (by omega) fun j _ => (hG j).symm, (h2.add g2).cast ?_ fun j _ => ?_⟩
    · rw [show ((m + 1 : Nat) : Int) = (m : Int) + 1 by omega, Int.add_mul]; omega
    · show -t.G m j + -t.g m j = -t.G (m + 1) j; rw [hG]; omega
theorem TP.Ok.f_rng {t : TP} (h : t.Ok) {k : Nat} (hk : k < 12) : TT (-(12 * t.D)) (t.f k) ∧ TT (-(12 * t.D)) (fun j => -t.f k j) := by
  have hD := h.hD
  by_cases hw : k = t.w
  · obtain ⟨g1, g2⟩ := h.G_rng 12 (Nat.le_refl _); have hf : ∀ j, t.f k j = oct (7 * t.D) j - t.G 12 j := fun j => by unfold TP.f TP.rv; rw [if_pos hw]
    constructor
    · refine TT.mono (((oct_is (7 * t.D)).tt.add g2).cast rfl fun j _ => ?_) (y := 7 * t.D + -((12 : Nat) * t.D)) (by omega); rw [hf]; omega
    · refine TT.mono (((oct_is (7 * t.D)).neg.tt.add g1).cast rfl fun j _ => ?_) (y := -(7 * t.D) + 0) (by omega); show -oct (7 * t.D) j + t.G 12 j = -t.f k j; rw [hf]; omega
  · obtain ⟨g1, g2⟩ := h.g_rng hk; rw [TP.f_ne hw]; exact ⟨g1.mono (by omega), g2.mono (by omega)⟩
/-- a note with its fifth, not folded -/
noncomputable def TP.z (t : TP) (k j : Nat) : Int := t.n k j + t.f k j
theorem TP.z_is (t : TP) (k j : Nat) : t.z k j = t.S (k + 1) j - oct (flo (t.S k) t.D * t.D) j := by
  unfold TP.z TP.n fol; rw [TP.S_succ]; omega
theorem TP.Ok.z_tame {t : TP} (h : t.Ok) {k : Nat} (hk : k < 12) : tame (t.z k) (14 * t.D) := by
  have hs := h.S_small (n := k + 1) (by omega); have hD := h.hD; have hz : ∀ j, j ≠ 0 → t.z k j = t.S (k + 1) j := fun j hj => by rw [t.z_is]; unfold oct; rw [if_neg hj]; omega
  obtain ⟨n1, n2⟩ := h.n_range (k := k) (by omega); obtain ⟨f1, f2⟩ := h.f_rng hk; refine ⟨?_, ?_, ⟨?_, ?_, ?_⟩, ?_, ?_⟩
  · have := hs 1; rw [hz 1 (by decide)]; rw [show bd 1 = 25 from rfl, show oct (7 * t.D) 1 = 0 from rfl] at this; omega
  · have := hs 2; rw [hz 2 (by decide)]; rw [show bd 2 = 2 from rfl, show oct (7 * t.D) 2 = 0 from rfl] at this; omega
  · have := hs 3; rw [hz 3 (by decide)]; rw [show bd 3 = 0 from rfl, show oct (7 * t.D) 3 = 0 from rfl] at this; omega
  · have := hs 4; rw [hz 4 (by decide)]; rw [show bd 4 = 0 from rfl, show oct (7 * t.D) 4 = 0 from rfl] at this; omega
  · have := hs 5; rw [hz 5 (by decide)]; rw [show bd 5 = 0 from rfl, show oct (7 * t.D) 5 = 0 from rfl] at this; omega
  · exact TT.mono ((n1.add f1).cast rfl fun j _ => rfl) (y := 0 + -(12 * t.D)) (by omega)
  · exact (n2.add (SS_of_neg f2)).mono (y := 14 * t.D) (by omega)
theorem TP.Ok.z_fits {t : TP} (h : t.Ok) {k : Nat} (hk : k < 12) : fitsV (t.z k) t.D := (h.z_tame hk).fits ⟨h.hD.1, by have := h.hD; omega⟩ (by have := h.hD; omega)
theorem TP.Ok.z_join {t : TP} (h : t.Ok) {k : Nat} (hk : k < 12) : joinS (nr (t.n k) t.D) (nr (t.f k) t.D) 1 = (nr (t.z k) t.D, 0) :=
  join_nr (h.n_fits (by omega)) (h.f_fits hk) (h.z_fits hk) fun j _ => by unfold TP.z; omega
theorem TP.Ok.z_fol {t : TP} (h : t.Ok) {k : Nat} (hk : k < 12) : ∀ j, j < 6 → fol (t.z k) t.D j = t.n (k + 1) j := by
  have hS := h.S_fits (k := k + 1) (by omega); obtain ⟨s1, s2⟩ := flo_spec hS; have hq := (oct_is (flo (t.S k) t.D * t.D)).neg
  have hf : flo (t.z k) t.D = flo (t.S (k + 1)) t.D - flo (t.S k) t.D := flo_eq h.hD.1
    ((s1.add hq.tt).cast (by rw [Int.sub_mul]; omega) fun j _ => by rw [t.z_is]; omega)
    ((s2.addQ hq).cast (by simp only [Int.sub_mul, Int.add_mul]; omega) fun j _ => by rw [t.z_is]; omega)
  intro j _; unfold TP.n fol; rw [hf, t.z_is, Int.sub_mul]; unfold oct
  split <;> omega
theorem TP.Ok.n_last {t : TP} (h : t.Ok) : ∀ j, j < 6 → t.n 12 j = t.n 0 j := by
  have h7 : flo (t.S 12) t.D = 7 := flo_eq h.hD.1 ((oct_is (7 * t.D)).tt.congr fun j _ => (h.S_last j).symm) ((SS_of_neg (f := oct (7 * t.D)) (y := 7 * t.D) ((oct_is (7 * t.D)).neg.tt)).congr (fun j _ => (h.S_last j).symm) |>.mono (by have := h.hD; omega)); have h0 : flo (t.S 0) t.D = 0 := flo_eq h.hD.1 ((QQ_nil fun j _ => t.S_zero j).tt.mono (by omega)) ((SS_of_neg (y := 0) ((QQ_nil fun j _ => by show -t.S 0 j = 0; rw [t.S_zero]; rfl).tt)).mono (by have := h.hD; omega)); intro j _; unfold TP.n fol; rw [h7, h0, h.S_last, t.S_zero]; unfold oct
  split <;> omega
/-- a note with its fifth, folded, is the next note -/
theorem TP.Ok.z_next {t : TP} (h : t.Ok) {k : Nat} (hk : k < 12) : nr (fol (t.z k) t.D) t.D = nr (t.n ((k + 1) % 12)) t.D := nr_congr fun j hj => by
  rw [h.z_fol hk j hj]
  by_cases hk1 : k + 1 < 12
  · rw [Nat.mod_eq_of_lt hk1]
  · obtain rfl : k = 11 := by omega
    exact h.n_last j hj
theorem TP.Ok.z_nfits {t : TP} (h : t.Ok) {k : Nat} (hk : k < 12) : fitsV (fol (t.z k) t.D) t.D := by
  have hn := h.n_fits (k := k + 1) (by omega); exact ⟨hn.1, fun j hj => by rw [h.z_fol hk j hj]; exact hn.2 j hj⟩
/-- a fifth and its part of the comma -/
def TP.fp (t : TP) (k j : Nat) : Int := t.f k j + t.pt k j
theorem TP.fp_in (t : TP) {k : Nat} (hw : k ≠ t.w) (j : Nat) : t.fp k j = b32 j * t.D := by
  unfold TP.fp TP.pt; rw [TP.f_ne hw]; unfold TP.g; rw [if_neg hw, Int.mul_comm t.D]; omega
theorem TP.fp_wolf {t : TP} (he : t.e t.w = 0) (j : Nat) : t.fp t.w j = t.f t.w j := by
  unfold TP.fp TP.pt; rw [he, Int.zero_mul]; omega
theorem TP.Ok.fp_fits {t : TP} (h : t.Ok) (he : t.e t.w = 0) {k : Nat} (hk : k < 12) : fitsV (t.fp k) t.D := by
  by_cases hw : k = t.w
  · subst hw; have hf := h.f_fits hk; exact ⟨hf.1, fun j hj => by rw [TP.fp_wolf he]; exact hf.2 j hj⟩
  · have hf := up_fits h.hD b32_bd; exact ⟨hf.1, fun j hj => by rw [t.fp_in hw]; exact hf.2 j hj⟩
theorem TP.Ok.fp_join {t : TP} (h : t.Ok) (he : t.e t.w = 0) {k : Nat} (hk : k < 12) : joinS (nr (t.f k) t.D) (nr (t.pt k) t.D) 1 = (nr (t.fp k) t.D, 0) :=
  join_nr (h.f_fits hk) (h.pt_fits hk) (h.fp_fits he hk) fun j _ => by unfold TP.fp; omega
theorem TP.Ok.fp_pure {t : TP} (h : t.Ok) {k : Nat} (hw : k ≠ t.w) : nr (t.fp k) t.D = nr (v3 (-1) 1 0) 1 := by
  have e := fif_up h.hD.1; rw [of_fif] at e; have e2 : nr (v3 (-1) 1 0) 1 = nr (fun j => b32 j * t.D) t.D := congrArg Prod.fst e; rw [e2]; exact nr_congr fun j _ => t.fp_in hw j
theorem TP.Ok.all_seven {t : TP} (h : t.Ok) : nr (t.S 12) t.D = nr (v3 7 0 0) 1 := by
  have e := h.seven; rw [of_seven] at e; have e2 : nr (v3 7 0 0) 1 = nr (t.rv 0) t.D := congrArg Prod.fst e; rw [e2]; exact nr_congr fun j _ => by rw [h.S_last]; unfold TP.rv; show _ = oct (7 * t.D) j - 0; omega
theorem TP.Ok.note_zero {t : TP} (h : t.Ok) : nr (t.n 0) t.D = nr (v3 0 0 0) 1 := by
  have e := h.one; rw [of_one] at e; have e2 : nr (v3 0 0 0) 1 = nr (t.S 0) t.D := congrArg Prod.fst e; rw [e2]; refine nr_congr fun j hj => ?_
  have h0 : flo (t.S 0) t.D = 0 := flo_eq h.hD.1 ((QQ_nil fun j _ => t.S_zero j).tt.mono (by omega)) ((SS_of_neg (y := 0) ((QQ_nil fun j _ => by show -t.S 0 j = 0; rw [t.S_zero]; rfl).tt)).mono (by have := h.hD; omega)); unfold TP.n fol; rw [h0]; unfold oct
  split <;> omega
theorem TP.Ok.note_first {t : TP} (h : t.Ok) : nr (t.n 0) t.D = nr (t.S 0) t.D := by
  have e := h.one; rw [of_one] at e; exact h.note_zero.trans (congrArg Prod.fst e)
theorem TP.Ok.of_all {t : TP} (h : t.Ok) : ofS 128 1 = (nr (t.S 12) t.D, 0) := by rw [h.all_seven]; exact of_seven
theorem TP.Ok.of_pure {t : TP} (h : t.Ok) {k : Nat} (hw : k ≠ t.w) : ofS 3 2 = (nr (t.fp k) t.D, 0) := by rw [h.fp_pure hw]; exact of_fif
end Go.Proofs.YtmcoadmnkelkkaaGreatDoor
namespace Go.Proofs.YtmcoadmnkelkkaaGreatDoor
set_option linter.unusedSimpArgs false
open Go.RowKit
set_option linter.unusedVariables false
attribute [-simp] Tryz.isAgg67 Tryz.isAgg35 Tryz.isAgg26 Tryz.isAgg24 Tryz.isAgg23
theorem TV.N_at (t : TV) {k q : Nat} (hq : 7 * q % 12 = k) : t.N q = nr (t.tp.n k) t.tp.D := by unfold TV.N; rw [hq]
set_option maxHeartbeats 6400000 in
set_option maxRecDepth 100000 in
theorem temperCloses_any (t : TV) (hs : t.nm.size ≤ maxLen) (w : World) (hT : PrT w) : Calls Tryz.prog 3 #[.agg t.cells] w fun e w' => e = .returned (.bool true) ∧ Below w.heap.size w w' := by
  have HB : Sl (Below w.heap.size w w) := ⟨Below.refl _ _⟩; have HT : Sl _ := ⟨hT⟩; have HCK : Sl (∀ W : World, Calls Tryz.prog 8 #[.agg t.cells] W fun e w' => e = .returned (.int .i64 (t.chk nameS)) ∧ Below W.heap.size W w') := ⟨fun W => r5check_any t W hs⟩; have H1 : Sl _ := ⟨fun (W : World) (h : PrT W) => tFifths_any t hs W h⟩; have H3 : Sl _ := ⟨fun (W : World) (h : PrT W) => tNotes_any t hs W h⟩; have HAW : Sl _ := ⟨fun (W : World) (h : PrT W) => awake5_any W h⟩; clear hT hs; obtain ⟨c, hc⟩ : ∃ c, t.chk nameS = c := ⟨_, rfl⟩; rw [hc] at HCK; have HC : Sl _ := ⟨hc⟩; clear hc; go_enter Tryz.func3, Tryz.ntmps3
  go_wp2_with ((with_reducible show wpList _ _ _ _ _ _); first
    | (refine wpList_box_new 1 rfl rfl 26 (.tmp 0) rfl t.cells rfl (box_temper t) ?_; rintro w1 gT zg zm zs zb; have ORD : Sl (w.heap.size ≤ gT) := ⟨by have := HB.out.size; omega⟩; replace HB := HB.v zm (by have := HB.out.size; have := ORD.out; omega); have XT : Sl (Blk w1 gT 26 t.cells) := ⟨zb⟩; clear zg zm zs zb)
    | (refine wpList_load_whole rfl 26 (.tmp 1) rfl gT rfl 26 t.cells _ XT.out Tryz.underlying26 rfl (size_temper t) ?_))
  refine (HCK.out _).mono ?_; rintro e w2 ⟨rfl, hb⟩; replace HB := HB.y hb; replace XT := XT.x hb; clear hb
  by_cases h0 : c = 0
  · subst h0; have HTO : Sl _ := ⟨TV.tp_ok HC.out⟩; have HEW : Sl _ := ⟨TV.tp_wolf HC.out⟩; have HPT : Sl (∀ k, k < 12 → powS (nr (cmv t.syn) 1) (t.num k) (t.den k) = (nr (t.tp.pt k) t.tp.D, 0)) := ⟨fun k hk => TV.part_pow HC.out hk⟩; obtain ⟨W, hW⟩ : ∃ W : Nat, t.wolf = (W : Int) := ⟨t.wolf.toNat, by have := (TV.chk_ok HC.out).1; omega⟩; have hWt : t.tp.w = W := by show t.wolf.toNat = W; rw [hW]; rfl
    have HWT : Sl _ := ⟨And.intro hW hWt⟩; have HW12 : W < 12 := by have := (TV.chk_ok HC.out).1; omega
    clear hW hWt; have HC1 : Sl (∀ W : World, Calls Tryz.prog 12 #[.int .i64 1, .int .i64 1] W fun e w' => e = .returned (.agg (nr (t.tp.S 0) t.tp.D).cells) ∧ Below W.heap.size W w') := ⟨fun W => of5_any _ _ _ W HTO.out.one⟩; have HC7 : Sl (∀ W : World, Calls Tryz.prog 12 #[.int .i64 128, .int .i64 1] W fun e w' => e = .returned (.agg (nr (t.tp.S 12) t.tp.D).cells) ∧ Below W.heap.size W w') := ⟨fun W => of5_any _ _ _ W HTO.out.of_all⟩; have HCO : Sl (∀ W : World, Calls Tryz.prog 15 #[.agg t.cells] W fun e w' => e = .returned (.agg (nr (cmv t.syn) 1).cells) ∧ Below W.heap.size W w') := ⟨fun W => r5comma_any t W⟩
    go_wp2_with ((with_reducible show wpList _ _ _ _ _ _); first
      | (refine wpList_load_whole rfl 26 (.tmp 1) rfl gT rfl 26 t.cells _ XT.out Tryz.underlying26 rfl (size_temper t) ?_))
    refine (H1.out _ (HT.out.below HB.out)).mono ?_; rintro e w3 ⟨⟨_, hf⟩, hb⟩; obtain ⟨gA, rfl, hge, zb⟩ := hf HC.out; clear hf; replace ORD : Sl (w.heap.size ≤ gT ∧ gT < gA) := ⟨by have := HB.out.size; have := ORD.out; have := XT.out.lt; omega⟩; replace HB := HB.y hb; replace XT := XT.x hb; have XA : Sl (Blk w3 gA 67 (flatR fun k => nr (t.tp.f k) t.tp.D)) := ⟨zb⟩; clear hb hge zb
    go_wp2_with ((with_reducible show wpList _ _ _ _ _ _); first
      | (refine wpList_load_whole rfl 26 (.tmp 1) rfl gT rfl 26 t.cells _ XT.out Tryz.underlying26 rfl (size_temper t) ?_))
    refine (H3.out _ (HT.out.below HB.out)).mono ?_; rintro e w4 ⟨⟨_, hf⟩, hb⟩; obtain ⟨gL, rfl, hge, zb⟩ := hf HC.out; clear hf; replace ORD : Sl (w.heap.size ≤ gT ∧ gT < gA ∧ gA < gL) := ⟨by have := HB.out.size; have := ORD.out; have := XT.out.lt; have := XA.out.lt; omega⟩; replace HB := HB.y hb; replace XT := XT.x hb; replace XA := XA.x hb; have XL : Sl (Blk w4 gL 67 (flatR t.N)) := ⟨zb⟩; clear hb hge zb; clear H1 H3; have hN0 : t.N 0 = nr (t.tp.S 0) t.tp.D := (t.N_at (q := 0) (k := 0) rfl).trans HTO.out.note_first; have HN0 : Sl _ := ⟨hN0⟩; clear hN0; generalize hr0 : nr (t.tp.S 0) t.tp.D = r0 at *
    have HR0 : Sl _ := ⟨hr0⟩; clear hr0; have hd6 := r0.d_cell; have he6 := r0.ext06; have hen := fun W => eq_nums W r0
    go_wp2_with fail; have hm : Mv w4.heap.size w4 w4.drew := Mv.drew _ _; have hs : RowKit.Below w4.heap.size w4 w4.drew := below_drewN (Below.refl _ _) 1; have HSW : Sl _ := ⟨hs⟩; clear hs; refine wp_region_held_drew (S := fun w' => Mv w4.heap.size w4 w') (by kernel_rfl) hm (fun hHeld => ?_); clear hm; refine wpAnyH_pure 0 (v := .int .i64 0) rfl (by kernel_rfl) (by kernel_rfl) (by kernel_rfl) (fun _ _ _ h => h) rfl (fun _ => rfl) (by assumption) ?_; simp only [Act.put, List.setIfInBounds_toArray, List.set_cons_zero, List.set_cons_succ]; refine wpAnyH_pure 1 (v := .bool false) rfl (by kernel_rfl) (by kernel_rfl) (by kernel_rfl) (fun _ _ _ h => h) rfl (fun _ => by go_simp) (by assumption) ?_; simp only [Act.put, List.setIfInBounds_toArray, List.set_cons_zero, List.set_cons_succ]; refine wpAnyH_pure 2 (v := .bool false) rfl (by kernel_rfl) (by kernel_rfl) (by kernel_rfl) (fun _ _ _ h => h) rfl (fun _ => rfl) (by assumption) ?_; simp only [Act.put, List.setIfInBounds_toArray, List.set_cons_zero, List.set_cons_succ]; refine wpAnyH_pureg 3 (v := .int .i64 0) rfl (by kernel_rfl) (by kernel_rfl) (by kernel_rfl) (fun _ _ _ h => h) (by rfl) (fun _ => rfl) (by assumption) ?_; simp only [Act.put, List.setIfInBounds_toArray, List.set_cons_zero, List.set_cons_succ]; refine wpAnyH_pureg 4 (v := .bool false) rfl (by kernel_rfl) (by kernel_rfl) (by kernel_rfl) (fun _ _ _ h => h) (by rfl) (fun _ => by go_simp) (by assumption) ?_; simp only [Act.put, List.setIfInBounds_toArray, List.set_cons_zero, List.set_cons_succ]; refine wpAnyH_pure 5 (v := .bool false) rfl (by kernel_rfl) (by kernel_rfl) (by kernel_rfl) (fun _ _ _ h => h) rfl (fun _ => by go_simp) (by assumption) ?_; simp only [Act.put, List.setIfInBounds_toArray, List.set_cons_zero, List.set_cons_succ]; refine wpAnyH_pure 6 (v := .bool false) rfl (by kernel_rfl) (by kernel_rfl) (by kernel_rfl) (fun _ _ _ h => h) rfl (fun _ => rfl) (by assumption) ?_; simp only [Act.put, List.setIfInBounds_toArray, List.set_cons_zero, List.set_cons_succ]; refine wpAnyH_pureg 7 (v := .slice (some ⟨gA, 0, none⟩) 12 12) rfl (by kernel_rfl) (by kernel_rfl) (by kernel_rfl) (fun _ _ _ h => h) (by rfl) (fun _ => rfl) (by assumption) ?_; simp only [Act.put, List.setIfInBounds_toArray, List.set_cons_zero, List.set_cons_succ]; refine wpAnyH_pureg 8 (v := .int .i64 12) rfl (by kernel_rfl) (by kernel_rfl) (by kernel_rfl) (fun _ _ _ h => h) (by rfl) (fun _ => by go_simp) (by assumption) ?_; simp only [Act.put, List.setIfInBounds_toArray, List.set_cons_zero, List.set_cons_succ]; refine wpAnyH_pureg 9 (v := .bool false) rfl (by kernel_rfl) (by kernel_rfl) (by kernel_rfl) (fun _ _ _ h => h) (by rfl) (fun _ => by go_simp) (by assumption) ?_; simp only [Act.put, List.setIfInBounds_toArray, List.set_cons_zero, List.set_cons_succ]; refine wpAnyH_pure 10 (v := .bool false) rfl (by kernel_rfl) (by kernel_rfl) (by kernel_rfl) (fun _ _ _ h => h) rfl (fun _ => by go_simp) (by assumption) ?_
    simp only [Act.put, List.setIfInBounds_toArray, List.set_cons_zero, List.set_cons_succ]; refine wpAnyH_pure 11 (v := .bool false) rfl (by kernel_rfl) (by kernel_rfl) (by kernel_rfl) (fun _ _ _ h => h) rfl (fun _ => rfl) (by assumption) ?_; simp only [Act.put, List.setIfInBounds_toArray, List.set_cons_zero, List.set_cons_succ]; refine wpAnyH_pureg 12 (v := .slice (some ⟨gL, 0, none⟩) 12 12) rfl (by kernel_rfl) (by kernel_rfl) (by kernel_rfl) (fun _ _ _ h => h) (by rfl) (fun _ => rfl) (by assumption) ?_; simp only [Act.put, List.setIfInBounds_toArray, List.set_cons_zero, List.set_cons_succ]; refine wpAnyH_pureg 13 (v := .int .i64 12) rfl (by kernel_rfl) (by kernel_rfl) (by kernel_rfl) (fun _ _ _ h => h) (by rfl) (fun _ => by go_simp) (by assumption) ?_; simp only [Act.put, List.setIfInBounds_toArray, List.set_cons_zero, List.set_cons_succ]; refine wpAnyH_pureg 14 (v := .bool false) rfl (by kernel_rfl) (by kernel_rfl) (by kernel_rfl) (fun _ _ _ h => h) (by rfl) (fun _ => by go_simp) (by assumption) ?_; simp only [Act.put, List.setIfInBounds_toArray, List.set_cons_zero, List.set_cons_succ]; refine wpAnyH_pure 15 (v := .bool false) rfl (by kernel_rfl) (by kernel_rfl) (by kernel_rfl) (fun _ _ _ h => h) rfl (fun _ => by go_simp) (by assumption) ?_; simp only [Act.put, List.setIfInBounds_toArray, List.set_cons_zero, List.set_cons_succ]; refine wpAnyH_pure 16 (v := .bool false) rfl (by kernel_rfl) (by kernel_rfl) (by kernel_rfl) (fun _ _ _ h => h) rfl (fun _ => rfl) (by assumption) ?_; simp only [Act.put, List.setIfInBounds_toArray, List.set_cons_zero, List.set_cons_succ]; refine wpAnyH_pureg 17 (v := .slice (some ⟨gL, 0, none⟩) 12 12) rfl (by kernel_rfl) (by kernel_rfl) (by kernel_rfl) (fun _ _ _ h => h) (by rfl) (fun _ => rfl) (by assumption) ?_; simp only [Act.put, List.setIfInBounds_toArray, List.set_cons_zero, List.set_cons_succ]; refine wpAnyH_pureg 18 (v := .pointer (some ⟨gL, 0, none⟩)) rfl (by kernel_rfl) (by kernel_rfl) (by kernel_rfl) (fun _ _ _ h => h) (by rfl) (fun _ => by go_simp) (by assumption) ?_; simp only [Act.put, List.setIfInBounds_toArray, List.set_cons_zero, List.set_cons_succ]
    refine wpAnyH_loadg 19 35 (.tmp 52) rfl rfl (by rfl) gL (0) rfl r0.cells _ (fun w' h => by
      have e := XL.out.mv h (by have := XL.out.lt; (try have := ORD.out); omega); have e2 := e.atR (k := 0) (by decide); rw [HN0.out] at e2
      exact e2) Tryz.underlying35 rfl size_ratio (by kernel_rfl) (by kernel_rfl) (by kernel_rfl) (fun _ _ _ h => h) (by assumption) ?_
    simp only [Act.put, List.setIfInBounds_toArray, List.set_cons_zero, List.set_cons_succ]; refine wpAnyH_onew 20 rfl (by kernel_rfl) (by rfl) (fun K hK => ?_); go_simp; go_at_call 12
    (with_reducible refine (HC1.out _).mono ?_)
    rintro e z5 ⟨rfl, hb⟩; replace HSW := HSW.y hb; refine hK.out _ _ (Mv.below HSW.out) (fun hHeld => ?_); clear hK K hb
    (try simp only [Act.put, List.setIfInBounds_toArray, List.set_cons_zero, List.set_cons_succ])
    refine wpAnyH_pureg 21 (v := .bool false) rfl (by kernel_rfl) (by kernel_rfl) (by kernel_rfl) (fun _ _ _ h => h) (by rfl) (fun _ => by go_simp) (by assumption) ?_; simp only [Act.put, List.setIfInBounds_toArray, List.set_cons_zero, List.set_cons_succ]; refine wpAnyH_pure 22 (v := .bool false) rfl (by kernel_rfl) (by kernel_rfl) (by kernel_rfl) (fun _ _ _ h => h) rfl (fun _ => by go_simp) (by assumption) ?_; simp only [Act.put, List.setIfInBounds_toArray, List.set_cons_zero, List.set_cons_succ]; refine wpAnyH_done (by kernel_rfl) ?_ _; replace HB := HB.y HSW.out; replace XT := XT.x HSW.out; replace XA := XA.x HSW.out; replace XL := XL.x HSW.out; clear HSW; (try clear hHeld); go_wp2_with fail; refine (HC1.out _).mono ?_; rintro e w7 ⟨rfl, hb⟩; replace HB := HB.y hb; replace XT := XT.x hb; replace XA := XA.x hb; replace XL := XL.x hb; clear hb
    go_wp2_with ((with_reducible show wpList _ _ _ _ _ _); first
      | (refine wpList_alloc_new 7 rfl rfl 35 rfl RVzero.cells alloc_ratio ?_; rintro w8 gS zg zm zs zb; replace ORD : Sl (w.heap.size ≤ gT ∧ gT < gA ∧ gA < gL ∧ gL < gS) := ⟨by have := HB.out.size; have := ORD.out; have := XT.out.lt; have := XA.out.lt; have := XL.out.lt; omega⟩; replace HB := HB.v zm (by have := HB.out.size; have := ORD.out; omega); replace XT := XT.w zm (by have := XT.out.lt; have := ORD.out; omega); replace XA := XA.w zm (by have := XA.out.lt; have := ORD.out; omega); replace XL := XL.w zm (by have := XL.out.lt; have := ORD.out; omega); have XS : Sl (Blk w8 gS 35 RVzero.cells) := ⟨zb⟩; clear zg zm zs zb)
      | (refine wpList_store_whole rfl 35 (.tmp 7) (.tmp 57) rfl gS r0.cells rfl rfl 35 RVzero.cells XS.out rfl size_ratio (RV.cells_one _) ?_; rintro w9 zm zs zb; replace HB := HB.v zm (by have := HB.out.size; have := ORD.out; omega); replace XT := XT.w zm (by have := XT.out.lt; have := ORD.out; omega); replace XA := XA.w zm (by have := XA.out.lt; have := ORD.out; omega); replace XL := XL.w zm (by have := XL.out.lt; have := ORD.out; omega); replace XS : Sl (Blk w9 gS 35 r0.cells) := ⟨zb⟩; clear zm zs zb))
    replace XS : Sl (Blk w9 gS 35 (nr (t.tp.S 0) t.tp.D).cells) := ⟨by rw [HR0.out]; exact XS.out⟩; clear hd6 he6 hen
    go_loopw [8] (fun s8 wr => ∃ k : Nat, k ≤ 12 ∧ s8 = .int .i64 k ∧ Sl (Below w.heap.size w wr) ∧ Sl (Blk wr gT 26 t.cells) ∧ Sl (Blk wr gA 67 (flatR fun k => nr (t.tp.f k) t.tp.D)) ∧ Sl (Blk wr gL 67 (flatR t.N)) ∧ Sl (Blk wr gS 35 (nr (t.tp.S k) t.tp.D).cells)) (fun s8 _ => 12 - (RowKit.intOf s8).toNat)
    case atStart => exact ⟨0, by decide, rfl, HB, XT, XA, XL, XS⟩
    case round =>
      clear HB XT XA XL XS; obtain ⟨k, hk, rfl, HB, XT, XA, XL, XS⟩ := hrel
      by_cases hk12 : k < 12
      · obtain ⟨n, hn⟩ : ∃ n, t.num k = n := ⟨_, rfl⟩; obtain ⟨d, hd⟩ : ∃ d, t.den k = d := ⟨_, rfl⟩; have hpt := HPT.out k hk12; rw [hn, hd] at hpt; obtain ⟨p, hp⟩ : ∃ p, 7 * k % 12 = p := ⟨_, rfl⟩; obtain ⟨q, hq⟩ : ∃ q, 7 * (k + 1) % 12 = q := ⟨_, rfl⟩; have hp12 : p < 12 := by omega
        have hq12 : q < 12 := by omega
        have hNp : t.N p = nr (t.tp.n k) t.tp.D := t.N_at (by omega); have hNq : t.N q = nr (fol (t.tp.z k) t.tp.D) t.tp.D := (t.N_at (k := (k + 1) % 12) (by omega)).trans (HTO.out.z_next hk12).symm; obtain ⟨rq, hrq⟩ : ∃ r, nr (fol (t.tp.z k) t.tp.D) t.tp.D = r := ⟨_, rfl⟩; obtain ⟨rf, hrf⟩ : ∃ r, nr (t.tp.fp k) t.tp.D = r := ⟨_, rfl⟩; have HNP : Sl _ := ⟨And.intro hNp (hNq.trans hrq)⟩; have hpi : (7 * (k : Int)).tmod 12 = (p : Int) := by rw [Int.tmod_eq_emod_of_nonneg (by omega)]; omega
        have hqi : (7 * ((k : Int) + 1)).tmod 12 = (q : Int) := by rw [Int.tmod_eq_emod_of_nonneg (by omega)]; omega
        have HPW : Sl (∀ W : World, Calls Tryz.prog 14 #[.agg (nr (cmv t.syn) 1).cells, .int .i64 n, .int .i64 d] W fun e w' => e = .returned (.tuple #[.agg (nr (t.tp.pt k) t.tp.D).cells, .int .i64 0]) ∧ Below W.heap.size W w') := ⟨fun W => by
          have := r4Pow_any (nr (cmv t.syn) 1) n d W; rw [hpt] at this
          exact this⟩
        have HM1 : Sl (∀ W : World, Calls Tryz.prog 13 #[.agg (nr (t.tp.S k) t.tp.D).cells, .agg (nr (t.tp.f k) t.tp.D).cells] W fun e w' => e = .returned (.tuple #[.agg (nr (t.tp.S (k + 1)) t.tp.D).cells, .int .i64 0]) ∧ Below W.heap.size W w') := ⟨fun W => by
          have := r4Mul_any (nr (t.tp.S k) t.tp.D) (nr (t.tp.f k) t.tp.D) W; rw [HTO.out.note_join hk12] at this
          exact this⟩
        have HM2 : Sl (∀ W : World, Calls Tryz.prog 13 #[.agg (nr (t.tp.f k) t.tp.D).cells, .agg (nr (t.tp.pt k) t.tp.D).cells] W fun e w' => e = .returned (.tuple #[.agg rf.cells, .int .i64 0]) ∧ Below W.heap.size W w') := ⟨fun W => by
          have := r4Mul_any (nr (t.tp.f k) t.tp.D) (nr (t.tp.pt k) t.tp.D) W; rw [HTO.out.fp_join HEW.out hk12, hrf] at this
          exact this⟩
        have HM3 : Sl (∀ W : World, Calls Tryz.prog 13 #[.agg (t.N p).cells, .agg (nr (t.tp.f k) t.tp.D).cells] W fun e w' => e = .returned (.tuple #[.agg (nr (t.tp.z k) t.tp.D).cells, .int .i64 0]) ∧ Below W.heap.size W w') := ⟨fun W => by
          have := r4Mul_any (nr (t.tp.n k) t.tp.D) (nr (t.tp.f k) t.tp.D) W; rw [HTO.out.z_join hk12, ← hNp] at this
          exact this⟩
        have HFO : Sl (∃ v, ∀ W : World, Calls Tryz.prog 16 #[.agg (nr (t.tp.z k) t.tp.D).cells] W fun e w' => e = .returned (.tuple #[.agg rq.cells, .int .i64 v, .int .i64 0]) ∧ Below W.heap.size W w') := ⟨⟨_, fun W => by
          obtain ⟨h1, h2, h3, h4⟩ := fold_flo (HTO.out.z_fits hk12) (HTO.out.z_nfits hk12) HT.out; have := r4Fold_any (nr (t.tp.z k) t.tp.D) (flo (t.tp.z k) t.tp.D) W h3 h1 h2; rw [h4, hrq] at this
          exact this⟩⟩
        have HCP : Sl (k ≠ W → ∀ W : World, Calls Tryz.prog 12 #[.int .i64 3, .int .i64 2] W fun e w' => e = .returned (.agg rf.cells) ∧ Below W.heap.size W w') := ⟨fun hkw W => by
          have := of5_any 3 2 _ W (HTO.out.of_pure (k := k) (fun h => hkw (h.trans HWT.out.2))); rw [hrf] at this
          exact this⟩
        have HCN : Sl (∀ w' : World, Blk w' gT 26 t.cells → w'.cell? ⟨gT, 3 + k * 2, none⟩ = some (.int .i64 n)) := ⟨fun w' h => by rw [h.cell, Nat.mul_comm, t.cell_num hk12, hn]⟩; have HCD : Sl (∀ w' : World, Blk w' gT 26 t.cells → w'.cell? ⟨gT, 3 + k * 2 + 1, none⟩ = some (.int .i64 d)) := ⟨fun w' h => by rw [h.cell, Nat.mul_comm, t.cell_den hk12, hd]⟩; have HCW : Sl (∀ w' : World, Blk w' gT 26 t.cells → w'.cell? ⟨gT, 2, none⟩ = some (.int .i64 (W : Int))) := ⟨fun w' h => by rw [h.cell 2, t.cell2, HWT.out.1]⟩; clear hn hd hpt hp hq hNp hNq hrq hrf; have hk1 : (0 : Int) ≤ (k : Int) := by omega
        have hk2 : (k : Int) < 12 := by omega
        have hw1 : IntKind.i64.wrap (7 * (k : Int)) = 7 * (k : Int) := by rw [IntKind.wrap_i64]; omega
        have hw2 : IntKind.i64.wrap ((k : Int) + 1) = (k : Int) + 1 := by rw [IntKind.wrap_i64]; omega
        have hw3 : IntKind.i64.wrap (7 * ((k : Int) + 1)) = 7 * ((k : Int) + 1) := by rw [IntKind.wrap_i64]; omega
        have hp1 : (0 : Int) ≤ (p : Int) := by omega
        have hp2 : (p : Int) < 12 := by omega
        have hq1 : (0 : Int) ≤ (q : Int) := by omega
        have hq2 : (q : Int) < 12 := by omega
        go_wp2_with fail; refine' wp_branch (fun g w' => Below wr.heap.size wr w' ∧ wr.heap.size ≤ g ∧ Blk w' g 35 (nr (t.tp.S (k + 1)) t.tp.D).cells) ?hreg ?hrest
        case hreg =>
          have hm : Below wr.heap.size wr wr.drew := below_drewN (Below.refl _ _) 1; have HSW : Sl _ := ⟨hm⟩; refine wp_region_held_drew (S := fun w' => Below wr.heap.size wr w') (by kernel_rfl) hm (fun hHeld => ?_); clear hm
          refine wpAnyH_load 0 35 (.tmp 7) rfl rfl rfl gS (0) rfl (nr (t.tp.S k) t.tp.D).cells _ (fun w' h => by
            have e := XS.out.below h XS.out.lt
            exact e.all) Tryz.underlying35 rfl size_ratio (by kernel_rfl) (by kernel_rfl) (by kernel_rfl) (fun _ _ _ h => h) (by assumption) ?_
          simp only [Act.put, List.setIfInBounds_toArray, List.set_cons_zero, List.set_cons_succ]; refine wpAnyH_pure 1 (v := .slice (some ⟨gA, 0, none⟩) 12 12) rfl (by kernel_rfl) (by kernel_rfl) (by kernel_rfl) (fun _ _ _ h => h) rfl (fun _ => rfl) (by assumption) ?_; simp only [Act.put, List.setIfInBounds_toArray, List.set_cons_zero, List.set_cons_succ]; refine wpAnyH_pure 2 (v := .int .i64 (k : Int)) rfl (by kernel_rfl) (by kernel_rfl) (by kernel_rfl) (fun _ _ _ h => h) rfl (fun _ => rfl) (by assumption) ?_; simp only [Act.put, List.setIfInBounds_toArray, List.set_cons_zero, List.set_cons_succ]; refine wpAnyH_pure 3 (v := .pointer (some ⟨gA, k * 7, none⟩)) rfl (by kernel_rfl) (by kernel_rfl) (by kernel_rfl) (fun _ _ _ h => h) rfl (fun _ => by go_simp) (by assumption) ?_; simp only [Act.put, List.setIfInBounds_toArray, List.set_cons_zero, List.set_cons_succ]
          refine wpAnyH_load 4 35 (.tmp 66) rfl rfl rfl gA (k * 7) rfl (nr (t.tp.f k) t.tp.D).cells _ (fun w' h => by
            have e := XA.out.below h XA.out.lt
            exact e.atR hk12) Tryz.underlying35 rfl size_ratio (by kernel_rfl) (by kernel_rfl) (by kernel_rfl) (fun _ _ _ h => h) (by assumption) ?_
          simp only [Act.put, List.setIfInBounds_toArray, List.set_cons_zero, List.set_cons_succ]; refine wpAnyH_two 5 9 rfl rfl (by kernel_rfl) rfl rfl (fun K hK => ?_) (fun K hK => ?_)
          · skip; go_simp; go_at_call 13
            (with_reducible refine (HM1.out _).mono ?_)
            rintro e z10 ⟨rfl, hb⟩; replace HSW := HSW.y hb; refine hK.out _ _ HSW.out (fun hHeld => ?_); clear hK K hb
            (try simp only [Act.put, List.setIfInBounds_toArray, List.set_cons_zero, List.set_cons_succ])
            refine wpAnyH_pure 6 (v := .tuple #[.agg (nr (t.tp.S (k + 1)) t.tp.D).cells, .int .i64 0]) rfl (by kernel_rfl) (by kernel_rfl) (by kernel_rfl) (fun _ _ _ h => h) rfl (fun _ => rfl) (by assumption) ?_; simp only [Act.put, List.setIfInBounds_toArray, List.set_cons_zero, List.set_cons_succ]; refine wpAnyH_pure 7 (v := .agg (nr (t.tp.S (k + 1)) t.tp.D).cells) rfl (by kernel_rfl) (by kernel_rfl) (by kernel_rfl) (fun _ _ _ h => h) rfl (fun _ => by go_simp) (by assumption) ?_; simp only [Act.put, List.setIfInBounds_toArray, List.set_cons_zero, List.set_cons_succ]; refine wpAnyH_pure 8 (v := .int .i64 0) rfl (by kernel_rfl) (by kernel_rfl) (by kernel_rfl) (fun _ _ _ h => h) rfl (fun _ => by go_simp) (by assumption) ?_; simp only [Act.put, List.setIfInBounds_toArray, List.set_cons_zero, List.set_cons_succ]; refine wpAnyH_one 9 rfl (by kernel_rfl) rfl (fun K hK => ?_); refine wp_alloc_new 35 rfl RVzero.cells alloc_ratio ?_; rintro z11 gn zg zm zs zb; have GE : Sl (wr.heap.size ≤ gn) := ⟨by have := HSW.out.size; omega⟩; have NB : Sl (Blk z11 gn 35 RVzero.cells) := ⟨zb⟩; replace HSW : Sl (RowKit.Below wr.heap.size wr z11) := ⟨HSW.out.trans (zm.mono HSW.out.size)⟩; refine hK.out _ _ HSW.out (fun hHeld => ?_); clear hK K zg zm zs zb; simp only [Act.put, List.setIfInBounds_toArray, List.set_cons_zero, List.set_cons_succ]; refine wpAnyH_one 10 rfl (by kernel_rfl) rfl (fun K hK => ?_); refine wp_store_part 35 (.tmp 9) (.tmp 69) rfl gn 0 (nr (t.tp.S (k + 1)) t.tp.D).cells rfl rfl 35 RVzero.cells (nr (t.tp.S (k + 1)) t.tp.D).cells NB.out (by rw [RV.cells_size, RV.cells_size]; omega) (putA_all _ _ rfl) size_ratio (RV.cells_one _) ?_; rintro z12 zm zs zb; have hbn : Below wr.heap.size wr z12 := below_mv HSW.out zm GE.out HSW.out.size; replace HSW : Sl (Below wr.heap.size wr z12) := ⟨hbn⟩; refine hK.out _ _ hbn (fun hHeld => ?_); clear hK K hbn zm zs; simp only [Act.put, List.setIfInBounds_toArray, List.set_cons_zero, List.set_cons_succ]; refine wpAnyH_one 11 rfl (by kernel_rfl) rfl (fun K hK => ?_); go_simp; refine hK.out _ _ HSW.out (fun hHeld => ?_); clear hK K
            (try simp only [Act.put, List.setIfInBounds_toArray, List.set_cons_zero, List.set_cons_succ])
            exact wpAnyH_done (by kernel_rfl) ⟨gn, rfl, HSW.out, GE.out, zb⟩ _
          · skip; refine wp_alloc_new 35 rfl RVzero.cells alloc_ratio ?_; rintro z13 gn zg zm zs zb; have GE : Sl (wr.heap.size ≤ gn) := ⟨by have := HSW.out.size; omega⟩; have NB : Sl (Blk z13 gn 35 RVzero.cells) := ⟨zb⟩; replace HSW : Sl (RowKit.Below wr.heap.size wr z13) := ⟨HSW.out.trans (zm.mono HSW.out.size)⟩; refine hK.out _ _ HSW.out (fun hHeld => ?_); clear hK K zg zm zs zb; simp only [Act.put, List.setIfInBounds_toArray, List.set_cons_zero, List.set_cons_succ]; refine wpAnyH_one 5 rfl (by kernel_rfl) rfl (fun K hK => ?_); go_simp; go_at_call 13
            (with_reducible refine (HM1.out _).mono ?_)
            rintro e z14 ⟨rfl, hb⟩; replace HSW := HSW.y hb; replace NB : Sl (Blk z14 gn 35 RVzero.cells) := ⟨NB.out.below hb NB.out.lt⟩; refine hK.out _ _ HSW.out (fun hHeld => ?_); clear hK K hb
            (try simp only [Act.put, List.setIfInBounds_toArray, List.set_cons_zero, List.set_cons_succ])
            refine wpAnyH_pure 6 (v := .tuple #[.agg (nr (t.tp.S (k + 1)) t.tp.D).cells, .int .i64 0]) rfl (by kernel_rfl) (by kernel_rfl) (by kernel_rfl) (fun _ _ _ h => h) rfl (fun _ => rfl) (by assumption) ?_; simp only [Act.put, List.setIfInBounds_toArray, List.set_cons_zero, List.set_cons_succ]; refine wpAnyH_pure 7 (v := .agg (nr (t.tp.S (k + 1)) t.tp.D).cells) rfl (by kernel_rfl) (by kernel_rfl) (by kernel_rfl) (fun _ _ _ h => h) rfl (fun _ => by go_simp) (by assumption) ?_; simp only [Act.put, List.setIfInBounds_toArray, List.set_cons_zero, List.set_cons_succ]; refine wpAnyH_pure 8 (v := .int .i64 0) rfl (by kernel_rfl) (by kernel_rfl) (by kernel_rfl) (fun _ _ _ h => h) rfl (fun _ => by go_simp) (by assumption) ?_; simp only [Act.put, List.setIfInBounds_toArray, List.set_cons_zero, List.set_cons_succ]; refine wpAnyH_one 10 rfl (by kernel_rfl) rfl (fun K hK => ?_); refine wp_store_part 35 (.tmp 9) (.tmp 69) rfl gn 0 (nr (t.tp.S (k + 1)) t.tp.D).cells rfl rfl 35 RVzero.cells (nr (t.tp.S (k + 1)) t.tp.D).cells NB.out (by rw [RV.cells_size, RV.cells_size]; omega) (putA_all _ _ rfl) size_ratio (RV.cells_one _) ?_; rintro z15 zm zs zb; have hbn : Below wr.heap.size wr z15 := below_mv HSW.out zm GE.out HSW.out.size; replace HSW : Sl (Below wr.heap.size wr z15) := ⟨hbn⟩; refine hK.out _ _ hbn (fun hHeld => ?_); clear hK K hbn zm zs; simp only [Act.put, List.setIfInBounds_toArray, List.set_cons_zero, List.set_cons_succ]; refine wpAnyH_one 11 rfl (by kernel_rfl) rfl (fun K hK => ?_); go_simp; refine hK.out _ _ HSW.out (fun hHeld => ?_); clear hK K
            (try simp only [Act.put, List.setIfInBounds_toArray, List.set_cons_zero, List.set_cons_succ])
            exact wpAnyH_done (by kernel_rfl) ⟨gn, rfl, HSW.out, GE.out, zb⟩ _
        case hrest =>
          rintro gP w16 ⟨hb, hge, zb⟩; replace ORD : Sl (w.heap.size ≤ gT ∧ gT < gA ∧ gA < gL ∧ gL < gS ∧ gS < gP) := ⟨by have := HB.out.size; have := ORD.out; have := XT.out.lt; have := XA.out.lt; have := XL.out.lt; have := XS.out.lt; omega⟩; replace HB := HB.y hb; replace XT := XT.x hb; replace XA := XA.x hb; replace XL := XL.x hb; replace XS := XS.x hb; have XP : Sl (Blk w16 gP 35 (nr (t.tp.S (k + 1)) t.tp.D).cells) := ⟨zb⟩; clear hb hge zb
          go_wp2_with ((with_reducible show wpList _ _ _ _ _ _); first
            | (refine wpList_load_whole rfl 35 (.tmp 9) rfl gP rfl 35 (nr (t.tp.S (k + 1)) t.tp.D).cells _ XP.out Tryz.underlying35 rfl size_ratio ?_)
            | (refine wpList_store_whole rfl 35 (.tmp 7) (.tmp 73) rfl gS (nr (t.tp.S (k + 1)) t.tp.D).cells rfl rfl 35 (nr (t.tp.S k) t.tp.D).cells XS.out rfl size_ratio (RV.cells_one _) ?_; rintro w17 zm zs zb; replace HB := HB.v zm (by have := HB.out.size; have := ORD.out; omega); replace XT := XT.w zm (by have := XT.out.lt; have := ORD.out; omega); replace XA := XA.w zm (by have := XA.out.lt; have := ORD.out; omega); replace XL := XL.w zm (by have := XL.out.lt; have := ORD.out; omega); replace XP := XP.w zm (by have := XP.out.lt; have := ORD.out; omega); replace XS : Sl (Blk w17 gS 35 (nr (t.tp.S (k + 1)) t.tp.D).cells) := ⟨zb⟩; clear zm zs zb))
          refine' wp_branch (fun g w' => Below w17.heap.size w17 w' ∧ w17.heap.size ≤ g ∧ Blk w' g 35 (nr (t.tp.pt k) t.tp.D).cells) ?hreg ?hrest
          case hreg =>
            have hm : Below w17.heap.size w17 w17.drew := below_drewN (Below.refl _ _) 1; have HSW : Sl _ := ⟨hm⟩; refine wp_region_held_drew (S := fun w' => Below w17.heap.size w17 w') (by kernel_rfl) hm (fun hHeld => ?_); clear hm
            refine wpAnyH_load 0 26 (.tmp 1) rfl rfl rfl gT (0) rfl t.cells _ (fun w' h => by
              have e := XT.out.below h XT.out.lt
              exact e.all) Tryz.underlying26 rfl (size_temper t) (by kernel_rfl) (by kernel_rfl) (by kernel_rfl) (fun _ _ _ h => h) (by assumption) ?_
            simp only [Act.put, List.setIfInBounds_toArray, List.set_cons_zero, List.set_cons_succ]; refine wpAnyH_pure 2 (v := .int .i64 (k : Int)) rfl (by kernel_rfl) (by kernel_rfl) (by kernel_rfl) (fun _ _ _ h => h) rfl (fun _ => rfl) (by assumption) ?_; simp only [Act.put, List.setIfInBounds_toArray, List.set_cons_zero, List.set_cons_succ]; refine wpAnyH_pure 3 (v := .pointer (some ⟨gT, 3, none⟩)) rfl (by kernel_rfl) (by kernel_rfl) (by kernel_rfl) (fun _ _ _ h => h) rfl (fun _ => by go_simp) (by assumption) ?_; simp only [Act.put, List.setIfInBounds_toArray, List.set_cons_zero, List.set_cons_succ]; refine wpAnyH_pure 4 (v := .pointer (some ⟨gT, 3 + k * 2, none⟩)) rfl (by kernel_rfl) (by kernel_rfl) (by kernel_rfl) (fun _ _ _ h => h) rfl (fun _ => by go_simp) (by assumption) ?_; simp only [Act.put, List.setIfInBounds_toArray, List.set_cons_zero, List.set_cons_succ]; refine wpAnyH_pure 5 (v := .pointer (some ⟨gT, 3 + k * 2, none⟩)) rfl (by kernel_rfl) (by kernel_rfl) (by kernel_rfl) (fun _ _ _ h => h) rfl (fun _ => by go_simp) (by assumption) ?_; simp only [Act.put, List.setIfInBounds_toArray, List.set_cons_zero, List.set_cons_succ]
            refine wpAnyH_cell 6 (v := .int .i64 n) rfl rfl (fun w' h => by
              have e := HCN.out _ (XT.out.below h XT.out.lt)
              go_simp) (by kernel_rfl) (by kernel_rfl) (by kernel_rfl) (fun _ _ _ h => h) (by assumption) ?_
            simp only [Act.put, List.setIfInBounds_toArray, List.set_cons_zero, List.set_cons_succ]; refine wpAnyH_pure 7 (v := .int .i64 (k : Int)) rfl (by kernel_rfl) (by kernel_rfl) (by kernel_rfl) (fun _ _ _ h => h) rfl (fun _ => rfl) (by assumption) ?_; simp only [Act.put, List.setIfInBounds_toArray, List.set_cons_zero, List.set_cons_succ]; refine wpAnyH_pure 8 (v := .pointer (some ⟨gT, 3, none⟩)) rfl (by kernel_rfl) (by kernel_rfl) (by kernel_rfl) (fun _ _ _ h => h) rfl (fun _ => by go_simp) (by assumption) ?_; simp only [Act.put, List.setIfInBounds_toArray, List.set_cons_zero, List.set_cons_succ]; refine wpAnyH_pure 9 (v := .pointer (some ⟨gT, 3 + k * 2, none⟩)) rfl (by kernel_rfl) (by kernel_rfl) (by kernel_rfl) (fun _ _ _ h => h) rfl (fun _ => by go_simp) (by assumption) ?_; simp only [Act.put, List.setIfInBounds_toArray, List.set_cons_zero, List.set_cons_succ]; refine wpAnyH_pure 10 (v := .pointer (some ⟨gT, 3 + k * 2 + 1, none⟩)) rfl (by kernel_rfl) (by kernel_rfl) (by kernel_rfl) (fun _ _ _ h => h) rfl (fun _ => by go_simp) (by assumption) ?_; simp only [Act.put, List.setIfInBounds_toArray, List.set_cons_zero, List.set_cons_succ]
            refine wpAnyH_cell 11 (v := .int .i64 d) rfl rfl (fun w' h => by
              have e := HCD.out _ (XT.out.below h XT.out.lt)
              go_simp) (by kernel_rfl) (by kernel_rfl) (by kernel_rfl) (fun _ _ _ h => h) (by assumption) ?_
            simp only [Act.put, List.setIfInBounds_toArray, List.set_cons_zero, List.set_cons_succ]; refine wpAnyH_two 1 16 rfl rfl (by kernel_rfl) rfl rfl (fun K hK => ?_) (fun K hK => ?_)
            · skip; go_simp; go_at_call 15
              (with_reducible refine (HCO.out _).mono ?_)
              rintro e z18 ⟨rfl, hb⟩; replace HSW := HSW.y hb; refine hK.out _ _ HSW.out (fun hHeld => ?_); clear hK K hb
              (try simp only [Act.put, List.setIfInBounds_toArray, List.set_cons_zero, List.set_cons_succ])
              refine wpAnyH_two 12 16 rfl rfl (by kernel_rfl) rfl rfl (fun K hK => ?_) (fun K hK => ?_)
              · skip; go_simp; go_at_call 14
                (with_reducible refine (HPW.out _).mono ?_)
                rintro e z19 ⟨rfl, hb⟩; replace HSW := HSW.y hb; refine hK.out _ _ HSW.out (fun hHeld => ?_); clear hK K hb
                (try simp only [Act.put, List.setIfInBounds_toArray, List.set_cons_zero, List.set_cons_succ])
                refine wpAnyH_pure 13 (v := .tuple #[.agg (nr (t.tp.pt k) t.tp.D).cells, .int .i64 0]) rfl (by kernel_rfl) (by kernel_rfl) (by kernel_rfl) (fun _ _ _ h => h) rfl (fun _ => rfl) (by assumption) ?_; simp only [Act.put, List.setIfInBounds_toArray, List.set_cons_zero, List.set_cons_succ]; refine wpAnyH_pure 14 (v := .agg (nr (t.tp.pt k) t.tp.D).cells) rfl (by kernel_rfl) (by kernel_rfl) (by kernel_rfl) (fun _ _ _ h => h) rfl (fun _ => by go_simp) (by assumption) ?_; simp only [Act.put, List.setIfInBounds_toArray, List.set_cons_zero, List.set_cons_succ]; refine wpAnyH_pure 15 (v := .int .i64 0) rfl (by kernel_rfl) (by kernel_rfl) (by kernel_rfl) (fun _ _ _ h => h) rfl (fun _ => by go_simp) (by assumption) ?_; simp only [Act.put, List.setIfInBounds_toArray, List.set_cons_zero, List.set_cons_succ]; refine wpAnyH_one 16 rfl (by kernel_rfl) rfl (fun K hK => ?_); refine wp_alloc_new 35 rfl RVzero.cells alloc_ratio ?_; rintro z20 gn zg zm zs zb; have GE : Sl (w17.heap.size ≤ gn) := ⟨by have := HSW.out.size; omega⟩; have NB : Sl (Blk z20 gn 35 RVzero.cells) := ⟨zb⟩; replace HSW : Sl (RowKit.Below w17.heap.size w17 z20) := ⟨HSW.out.trans (zm.mono HSW.out.size)⟩; refine hK.out _ _ HSW.out (fun hHeld => ?_); clear hK K zg zm zs zb; simp only [Act.put, List.setIfInBounds_toArray, List.set_cons_zero, List.set_cons_succ]; refine wpAnyH_one 17 rfl (by kernel_rfl) rfl (fun K hK => ?_); refine wp_store_part 35 (.tmp 11) (.tmp 88) rfl gn 0 (nr (t.tp.pt k) t.tp.D).cells rfl rfl 35 RVzero.cells (nr (t.tp.pt k) t.tp.D).cells NB.out (by rw [RV.cells_size, RV.cells_size]; omega) (putA_all _ _ rfl) size_ratio (RV.cells_one _) ?_; rintro z21 zm zs zb; have hbn : Below w17.heap.size w17 z21 := below_mv HSW.out zm GE.out HSW.out.size; replace HSW : Sl (Below w17.heap.size w17 z21) := ⟨hbn⟩; refine hK.out _ _ hbn (fun hHeld => ?_); clear hK K hbn zm zs; simp only [Act.put, List.setIfInBounds_toArray, List.set_cons_zero, List.set_cons_succ]; refine wpAnyH_one 18 rfl (by kernel_rfl) rfl (fun K hK => ?_); go_simp; refine hK.out _ _ HSW.out (fun hHeld => ?_); clear hK K
                (try simp only [Act.put, List.setIfInBounds_toArray, List.set_cons_zero, List.set_cons_succ])
                exact wpAnyH_done (by kernel_rfl) ⟨gn, rfl, HSW.out, GE.out, zb⟩ _
              · skip; refine wp_alloc_new 35 rfl RVzero.cells alloc_ratio ?_; rintro z22 gn zg zm zs zb; have GE : Sl (w17.heap.size ≤ gn) := ⟨by have := HSW.out.size; omega⟩; have NB : Sl (Blk z22 gn 35 RVzero.cells) := ⟨zb⟩; replace HSW : Sl (RowKit.Below w17.heap.size w17 z22) := ⟨HSW.out.trans (zm.mono HSW.out.size)⟩; refine hK.out _ _ HSW.out (fun hHeld => ?_); clear hK K zg zm zs zb; simp only [Act.put, List.setIfInBounds_toArray, List.set_cons_zero, List.set_cons_succ]; refine wpAnyH_one 12 rfl (by kernel_rfl) rfl (fun K hK => ?_); go_simp; go_at_call 14
                (with_reducible refine (HPW.out _).mono ?_)
                rintro e z23 ⟨rfl, hb⟩; replace HSW := HSW.y hb; replace NB : Sl (Blk z23 gn 35 RVzero.cells) := ⟨NB.out.below hb NB.out.lt⟩; refine hK.out _ _ HSW.out (fun hHeld => ?_); clear hK K hb
                (try simp only [Act.put, List.setIfInBounds_toArray, List.set_cons_zero, List.set_cons_succ])
                refine wpAnyH_pure 13 (v := .tuple #[.agg (nr (t.tp.pt k) t.tp.D).cells, .int .i64 0]) rfl (by kernel_rfl) (by kernel_rfl) (by kernel_rfl) (fun _ _ _ h => h) rfl (fun _ => rfl) (by assumption) ?_; simp only [Act.put, List.setIfInBounds_toArray, List.set_cons_zero, List.set_cons_succ]; refine wpAnyH_pure 14 (v := .agg (nr (t.tp.pt k) t.tp.D).cells) rfl (by kernel_rfl) (by kernel_rfl) (by kernel_rfl) (fun _ _ _ h => h) rfl (fun _ => by go_simp) (by assumption) ?_; simp only [Act.put, List.setIfInBounds_toArray, List.set_cons_zero, List.set_cons_succ]; refine wpAnyH_pure 15 (v := .int .i64 0) rfl (by kernel_rfl) (by kernel_rfl) (by kernel_rfl) (fun _ _ _ h => h) rfl (fun _ => by go_simp) (by assumption) ?_; simp only [Act.put, List.setIfInBounds_toArray, List.set_cons_zero, List.set_cons_succ]; refine wpAnyH_one 17 rfl (by kernel_rfl) rfl (fun K hK => ?_); refine wp_store_part 35 (.tmp 11) (.tmp 88) rfl gn 0 (nr (t.tp.pt k) t.tp.D).cells rfl rfl 35 RVzero.cells (nr (t.tp.pt k) t.tp.D).cells NB.out (by rw [RV.cells_size, RV.cells_size]; omega) (putA_all _ _ rfl) size_ratio (RV.cells_one _) ?_; rintro z24 zm zs zb; have hbn : Below w17.heap.size w17 z24 := below_mv HSW.out zm GE.out HSW.out.size; replace HSW : Sl (Below w17.heap.size w17 z24) := ⟨hbn⟩; refine hK.out _ _ hbn (fun hHeld => ?_); clear hK K hbn zm zs; simp only [Act.put, List.setIfInBounds_toArray, List.set_cons_zero, List.set_cons_succ]; refine wpAnyH_one 18 rfl (by kernel_rfl) rfl (fun K hK => ?_); go_simp; refine hK.out _ _ HSW.out (fun hHeld => ?_); clear hK K
                (try simp only [Act.put, List.setIfInBounds_toArray, List.set_cons_zero, List.set_cons_succ])
                exact wpAnyH_done (by kernel_rfl) ⟨gn, rfl, HSW.out, GE.out, zb⟩ _
            · skip; refine wp_alloc_new 35 rfl RVzero.cells alloc_ratio ?_; rintro z25 gn zg zm zs zb; have GE : Sl (w17.heap.size ≤ gn) := ⟨by have := HSW.out.size; omega⟩; have NB : Sl (Blk z25 gn 35 RVzero.cells) := ⟨zb⟩; replace HSW : Sl (RowKit.Below w17.heap.size w17 z25) := ⟨HSW.out.trans (zm.mono HSW.out.size)⟩; refine hK.out _ _ HSW.out (fun hHeld => ?_); clear hK K zg zm zs zb; simp only [Act.put, List.setIfInBounds_toArray, List.set_cons_zero, List.set_cons_succ]; refine wpAnyH_one 1 rfl (by kernel_rfl) rfl (fun K hK => ?_); go_simp; go_at_call 15
              (with_reducible refine (HCO.out _).mono ?_)
              rintro e z26 ⟨rfl, hb⟩; replace HSW := HSW.y hb; replace NB : Sl (Blk z26 gn 35 RVzero.cells) := ⟨NB.out.below hb NB.out.lt⟩; refine hK.out _ _ HSW.out (fun hHeld => ?_); clear hK K hb
              (try simp only [Act.put, List.setIfInBounds_toArray, List.set_cons_zero, List.set_cons_succ])
              refine wpAnyH_one 12 rfl (by kernel_rfl) rfl (fun K hK => ?_); go_simp; go_at_call 14
              (with_reducible refine (HPW.out _).mono ?_)
              rintro e z27 ⟨rfl, hb⟩; replace HSW := HSW.y hb; replace NB : Sl (Blk z27 gn 35 RVzero.cells) := ⟨NB.out.below hb NB.out.lt⟩; refine hK.out _ _ HSW.out (fun hHeld => ?_); clear hK K hb
              (try simp only [Act.put, List.setIfInBounds_toArray, List.set_cons_zero, List.set_cons_succ])
              refine wpAnyH_pure 13 (v := .tuple #[.agg (nr (t.tp.pt k) t.tp.D).cells, .int .i64 0]) rfl (by kernel_rfl) (by kernel_rfl) (by kernel_rfl) (fun _ _ _ h => h) rfl (fun _ => rfl) (by assumption) ?_; simp only [Act.put, List.setIfInBounds_toArray, List.set_cons_zero, List.set_cons_succ]; refine wpAnyH_pure 14 (v := .agg (nr (t.tp.pt k) t.tp.D).cells) rfl (by kernel_rfl) (by kernel_rfl) (by kernel_rfl) (fun _ _ _ h => h) rfl (fun _ => by go_simp) (by assumption) ?_; simp only [Act.put, List.setIfInBounds_toArray, List.set_cons_zero, List.set_cons_succ]; refine wpAnyH_pure 15 (v := .int .i64 0) rfl (by kernel_rfl) (by kernel_rfl) (by kernel_rfl) (fun _ _ _ h => h) rfl (fun _ => by go_simp) (by assumption) ?_; simp only [Act.put, List.setIfInBounds_toArray, List.set_cons_zero, List.set_cons_succ]; refine wpAnyH_one 17 rfl (by kernel_rfl) rfl (fun K hK => ?_); refine wp_store_part 35 (.tmp 11) (.tmp 88) rfl gn 0 (nr (t.tp.pt k) t.tp.D).cells rfl rfl 35 RVzero.cells (nr (t.tp.pt k) t.tp.D).cells NB.out (by rw [RV.cells_size, RV.cells_size]; omega) (putA_all _ _ rfl) size_ratio (RV.cells_one _) ?_; rintro z28 zm zs zb; have hbn : Below w17.heap.size w17 z28 := below_mv HSW.out zm GE.out HSW.out.size; replace HSW : Sl (Below w17.heap.size w17 z28) := ⟨hbn⟩; refine hK.out _ _ hbn (fun hHeld => ?_); clear hK K hbn zm zs; simp only [Act.put, List.setIfInBounds_toArray, List.set_cons_zero, List.set_cons_succ]; refine wpAnyH_one 18 rfl (by kernel_rfl) rfl (fun K hK => ?_); go_simp; refine hK.out _ _ HSW.out (fun hHeld => ?_); clear hK K
              (try simp only [Act.put, List.setIfInBounds_toArray, List.set_cons_zero, List.set_cons_succ])
              exact wpAnyH_done (by kernel_rfl) ⟨gn, rfl, HSW.out, GE.out, zb⟩ _
          case hrest =>
            rintro gQ w29 ⟨hb, hge, zb⟩; replace ORD : Sl (w.heap.size ≤ gT ∧ gT < gA ∧ gA < gL ∧ gL < gS ∧ gS < gP ∧ gP < gQ) := ⟨by have := HB.out.size; have := ORD.out; have := XT.out.lt; have := XA.out.lt; have := XL.out.lt; have := XS.out.lt; have := XP.out.lt; omega⟩; replace HB := HB.y hb; replace XT := XT.x hb; replace XA := XA.x hb; replace XL := XL.x hb; replace XS := XS.x hb; replace XP := XP.x hb; have XQ : Sl (Blk w29 gQ 35 (nr (t.tp.pt k) t.tp.D).cells) := ⟨zb⟩; clear hb hge zb; go_wp2_with fail; refine' wp_branch (fun g w' => Below w29.heap.size w29 w' ∧ w29.heap.size ≤ g ∧ Blk w' g 35 rf.cells) ?hreg ?hrest
            case hreg =>
              have hm : Below w29.heap.size w29 w29.drew := below_drewN (Below.refl _ _) 1; have HSW : Sl _ := ⟨hm⟩; refine wp_region_held_drew (S := fun w' => Below w29.heap.size w29 w') (by kernel_rfl) hm (fun hHeld => ?_); clear hm; refine wpAnyH_pure 0 (v := .slice (some ⟨gA, 0, none⟩) 12 12) rfl (by kernel_rfl) (by kernel_rfl) (by kernel_rfl) (fun _ _ _ h => h) rfl (fun _ => rfl) (by assumption) ?_; simp only [Act.put, List.setIfInBounds_toArray, List.set_cons_zero, List.set_cons_succ]; refine wpAnyH_pure 1 (v := .int .i64 (k : Int)) rfl (by kernel_rfl) (by kernel_rfl) (by kernel_rfl) (fun _ _ _ h => h) rfl (fun _ => rfl) (by assumption) ?_; simp only [Act.put, List.setIfInBounds_toArray, List.set_cons_zero, List.set_cons_succ]; refine wpAnyH_pure 2 (v := .pointer (some ⟨gA, k * 7, none⟩)) rfl (by kernel_rfl) (by kernel_rfl) (by kernel_rfl) (fun _ _ _ h => h) rfl (fun _ => by go_simp) (by assumption) ?_; simp only [Act.put, List.setIfInBounds_toArray, List.set_cons_zero, List.set_cons_succ]
              refine wpAnyH_load 3 35 (.tmp 93) rfl rfl rfl gA (k * 7) rfl (nr (t.tp.f k) t.tp.D).cells _ (fun w' h => by
                have e := XA.out.below h XA.out.lt
                exact e.atR hk12) Tryz.underlying35 rfl size_ratio (by kernel_rfl) (by kernel_rfl) (by kernel_rfl) (fun _ _ _ h => h) (by assumption) ?_
              simp only [Act.put, List.setIfInBounds_toArray, List.set_cons_zero, List.set_cons_succ]
              refine wpAnyH_load 4 35 (.tmp 11) rfl rfl rfl gQ (0) rfl (nr (t.tp.pt k) t.tp.D).cells _ (fun w' h => by
                have e := XQ.out.below h XQ.out.lt
                exact e.all) Tryz.underlying35 rfl size_ratio (by kernel_rfl) (by kernel_rfl) (by kernel_rfl) (fun _ _ _ h => h) (by assumption) ?_
              simp only [Act.put, List.setIfInBounds_toArray, List.set_cons_zero, List.set_cons_succ]; refine wpAnyH_two 5 9 rfl rfl (by kernel_rfl) rfl rfl (fun K hK => ?_) (fun K hK => ?_)
              · skip; go_simp; go_at_call 13
                (with_reducible refine (HM2.out _).mono ?_)
                rintro e z30 ⟨rfl, hb⟩; replace HSW := HSW.y hb; refine hK.out _ _ HSW.out (fun hHeld => ?_); clear hK K hb
                (try simp only [Act.put, List.setIfInBounds_toArray, List.set_cons_zero, List.set_cons_succ])
                refine wpAnyH_pure 6 (v := .tuple #[.agg rf.cells, .int .i64 0]) rfl (by kernel_rfl) (by kernel_rfl) (by kernel_rfl) (fun _ _ _ h => h) rfl (fun _ => rfl) (by assumption) ?_; simp only [Act.put, List.setIfInBounds_toArray, List.set_cons_zero, List.set_cons_succ]; refine wpAnyH_pure 7 (v := .agg rf.cells) rfl (by kernel_rfl) (by kernel_rfl) (by kernel_rfl) (fun _ _ _ h => h) rfl (fun _ => by go_simp) (by assumption) ?_; simp only [Act.put, List.setIfInBounds_toArray, List.set_cons_zero, List.set_cons_succ]; refine wpAnyH_pure 8 (v := .int .i64 0) rfl (by kernel_rfl) (by kernel_rfl) (by kernel_rfl) (fun _ _ _ h => h) rfl (fun _ => by go_simp) (by assumption) ?_; simp only [Act.put, List.setIfInBounds_toArray, List.set_cons_zero, List.set_cons_succ]; refine wpAnyH_one 9 rfl (by kernel_rfl) rfl (fun K hK => ?_); refine wp_alloc_new 35 rfl RVzero.cells alloc_ratio ?_; rintro z31 gn zg zm zs zb; have GE : Sl (w29.heap.size ≤ gn) := ⟨by have := HSW.out.size; omega⟩; have NB : Sl (Blk z31 gn 35 RVzero.cells) := ⟨zb⟩; replace HSW : Sl (RowKit.Below w29.heap.size w29 z31) := ⟨HSW.out.trans (zm.mono HSW.out.size)⟩; refine hK.out _ _ HSW.out (fun hHeld => ?_); clear hK K zg zm zs zb; simp only [Act.put, List.setIfInBounds_toArray, List.set_cons_zero, List.set_cons_succ]; refine wpAnyH_one 10 rfl (by kernel_rfl) rfl (fun K hK => ?_); refine wp_store_part 35 (.tmp 13) (.tmp 97) rfl gn 0 rf.cells rfl rfl 35 RVzero.cells rf.cells NB.out (by rw [RV.cells_size, RV.cells_size]; omega) (putA_all _ _ rfl) size_ratio (RV.cells_one _) ?_; rintro z32 zm zs zb; have hbn : Below w29.heap.size w29 z32 := below_mv HSW.out zm GE.out HSW.out.size; replace HSW : Sl (Below w29.heap.size w29 z32) := ⟨hbn⟩; refine hK.out _ _ hbn (fun hHeld => ?_); clear hK K hbn zm zs; simp only [Act.put, List.setIfInBounds_toArray, List.set_cons_zero, List.set_cons_succ]; refine wpAnyH_one 11 rfl (by kernel_rfl) rfl (fun K hK => ?_); go_simp; refine hK.out _ _ HSW.out (fun hHeld => ?_); clear hK K
                (try simp only [Act.put, List.setIfInBounds_toArray, List.set_cons_zero, List.set_cons_succ])
                exact wpAnyH_done (by kernel_rfl) ⟨gn, rfl, HSW.out, GE.out, zb⟩ _
              · skip; refine wp_alloc_new 35 rfl RVzero.cells alloc_ratio ?_; rintro z33 gn zg zm zs zb; have GE : Sl (w29.heap.size ≤ gn) := ⟨by have := HSW.out.size; omega⟩; have NB : Sl (Blk z33 gn 35 RVzero.cells) := ⟨zb⟩; replace HSW : Sl (RowKit.Below w29.heap.size w29 z33) := ⟨HSW.out.trans (zm.mono HSW.out.size)⟩; refine hK.out _ _ HSW.out (fun hHeld => ?_); clear hK K zg zm zs zb; simp only [Act.put, List.setIfInBounds_toArray, List.set_cons_zero, List.set_cons_succ]; refine wpAnyH_one 5 rfl (by kernel_rfl) rfl (fun K hK => ?_); go_simp; go_at_call 13
                (with_reducible refine (HM2.out _).mono ?_)
                rintro e z34 ⟨rfl, hb⟩; replace HSW := HSW.y hb; replace NB : Sl (Blk z34 gn 35 RVzero.cells) := ⟨NB.out.below hb NB.out.lt⟩; refine hK.out _ _ HSW.out (fun hHeld => ?_); clear hK K hb
                (try simp only [Act.put, List.setIfInBounds_toArray, List.set_cons_zero, List.set_cons_succ])
                refine wpAnyH_pure 6 (v := .tuple #[.agg rf.cells, .int .i64 0]) rfl (by kernel_rfl) (by kernel_rfl) (by kernel_rfl) (fun _ _ _ h => h) rfl (fun _ => rfl) (by assumption) ?_; simp only [Act.put, List.setIfInBounds_toArray, List.set_cons_zero, List.set_cons_succ]; refine wpAnyH_pure 7 (v := .agg rf.cells) rfl (by kernel_rfl) (by kernel_rfl) (by kernel_rfl) (fun _ _ _ h => h) rfl (fun _ => by go_simp) (by assumption) ?_; simp only [Act.put, List.setIfInBounds_toArray, List.set_cons_zero, List.set_cons_succ]; refine wpAnyH_pure 8 (v := .int .i64 0) rfl (by kernel_rfl) (by kernel_rfl) (by kernel_rfl) (fun _ _ _ h => h) rfl (fun _ => by go_simp) (by assumption) ?_; simp only [Act.put, List.setIfInBounds_toArray, List.set_cons_zero, List.set_cons_succ]; refine wpAnyH_one 10 rfl (by kernel_rfl) rfl (fun K hK => ?_); refine wp_store_part 35 (.tmp 13) (.tmp 97) rfl gn 0 rf.cells rfl rfl 35 RVzero.cells rf.cells NB.out (by rw [RV.cells_size, RV.cells_size]; omega) (putA_all _ _ rfl) size_ratio (RV.cells_one _) ?_; rintro z35 zm zs zb; have hbn : Below w29.heap.size w29 z35 := below_mv HSW.out zm GE.out HSW.out.size; replace HSW : Sl (Below w29.heap.size w29 z35) := ⟨hbn⟩; refine hK.out _ _ hbn (fun hHeld => ?_); clear hK K hbn zm zs; simp only [Act.put, List.setIfInBounds_toArray, List.set_cons_zero, List.set_cons_succ]; refine wpAnyH_one 11 rfl (by kernel_rfl) rfl (fun K hK => ?_); go_simp; refine hK.out _ _ HSW.out (fun hHeld => ?_); clear hK K
                (try simp only [Act.put, List.setIfInBounds_toArray, List.set_cons_zero, List.set_cons_succ])
                exact wpAnyH_done (by kernel_rfl) ⟨gn, rfl, HSW.out, GE.out, zb⟩ _
            case hrest =>
              rintro gU w36 ⟨hb, hge, zb⟩; replace ORD : Sl (w.heap.size ≤ gT ∧ gT < gA ∧ gA < gL ∧ gL < gS ∧ gS < gP ∧ gP < gQ ∧ gQ < gU) := ⟨by have := HB.out.size; have := ORD.out; have := XT.out.lt; have := XA.out.lt; have := XL.out.lt; have := XS.out.lt; have := XP.out.lt; have := XQ.out.lt; omega⟩; replace HB := HB.y hb; replace XT := XT.x hb; replace XA := XA.x hb; replace XL := XL.x hb; replace XS := XS.x hb; replace XP := XP.x hb; replace XQ := XQ.x hb; have XU : Sl (Blk w36 gU 35 rf.cells) := ⟨zb⟩; clear hb hge zb; go_wp2_with fail
              by_cases hkw : k = W
              · have hne : ((k : Int) == (W : Int)) = true := by rw [beq_iff_eq]; omega
                have hne2 : ((k : Int) != (W : Int)) = false := by rw [bne, hne]; rfl
                clear hkw; have hm : Mv w36.heap.size w36 w36.drew := Mv.drew _ _; have hs : RowKit.Below w36.heap.size w36 w36.drew := below_drewN (Below.refl _ _) 1; have HSW : Sl _ := ⟨hs⟩; clear hs; refine wp_region_held_drew (S := fun w' => Mv w36.heap.size w36 w') (by kernel_rfl) hm (fun hHeld => ?_); clear hm; refine wpAnyH_pure 0 (v := .int .i64 0) rfl (by kernel_rfl) (by kernel_rfl) (by kernel_rfl) (fun _ _ _ h => h) rfl (fun _ => rfl) (by assumption) ?_; simp only [Act.put, List.setIfInBounds_toArray, List.set_cons_zero, List.set_cons_succ]; refine wpAnyH_pure 1 (v := .bool false) rfl (by kernel_rfl) (by kernel_rfl) (by kernel_rfl) (fun _ _ _ h => h) rfl (fun _ => by go_simp) (by assumption) ?_; simp only [Act.put, List.setIfInBounds_toArray, List.set_cons_zero, List.set_cons_succ]; refine wpAnyH_pure 2 (v := .bool false) rfl (by kernel_rfl) (by kernel_rfl) (by kernel_rfl) (fun _ _ _ h => h) rfl (fun _ => rfl) (by assumption) ?_; simp only [Act.put, List.setIfInBounds_toArray, List.set_cons_zero, List.set_cons_succ]; refine wpAnyH_pureg 3 (v := .int .i64 (k : Int)) rfl (by kernel_rfl) (by kernel_rfl) (by kernel_rfl) (fun _ _ _ h => h) (by rfl) (fun _ => rfl) (by assumption) ?_; simp only [Act.put, List.setIfInBounds_toArray, List.set_cons_zero, List.set_cons_succ]; refine wpAnyH_pureg 4 (v := .pointer (some ⟨gT, 2, none⟩)) rfl (by kernel_rfl) (by kernel_rfl) (by kernel_rfl) (fun _ _ _ h => h) (by rfl) (fun _ => by go_simp) (by assumption) ?_; simp only [Act.put, List.setIfInBounds_toArray, List.set_cons_zero, List.set_cons_succ]
                refine wpAnyH_cellg 5 (v := .int .i64 (W : Int)) rfl (by rfl) (fun w' h => by
                  have e := HCW.out _ (XT.out.mv h (by have := XT.out.lt; have := ORD.out; omega))
                  go_simp) (by kernel_rfl) (by kernel_rfl) (by kernel_rfl) (fun _ _ _ h => h) (by assumption) ?_
                simp only [Act.put, List.setIfInBounds_toArray, List.set_cons_zero, List.set_cons_succ]; refine wpAnyH_pureg 6 (v := .bool false) rfl (by kernel_rfl) (by kernel_rfl) (by kernel_rfl) (fun _ _ _ h => h) (by rfl) (fun _ => by go_simp) (by assumption) ?_; simp only [Act.put, List.setIfInBounds_toArray, List.set_cons_zero, List.set_cons_succ]; refine wpAnyH_pureg 7 (v := .bool false) rfl (by kernel_rfl) (by kernel_rfl) (by kernel_rfl) (fun _ _ _ h => h) (by rfl) (fun _ => rfl) (by assumption) ?_; simp only [Act.put, List.setIfInBounds_toArray, List.set_cons_zero, List.set_cons_succ]; refine wpAnyH_no 8 rfl (by kernel_rfl) (by kernel_rfl) (by kernel_rfl) (fun _ _ _ h => h) (by rfl) (by assumption) ?_; simp only [Act.put, List.setIfInBounds_toArray, List.set_cons_zero, List.set_cons_succ]; refine wpAnyH_no 9 rfl (by kernel_rfl) (by kernel_rfl) (by kernel_rfl) (fun _ _ _ h => h) (by rfl) (by assumption) ?_; simp only [Act.put, List.setIfInBounds_toArray, List.set_cons_zero, List.set_cons_succ]; refine wpAnyH_no 10 rfl (by kernel_rfl) (by kernel_rfl) (by kernel_rfl) (fun _ _ _ h => h) (by rfl) (by assumption) ?_; simp only [Act.put, List.setIfInBounds_toArray, List.set_cons_zero, List.set_cons_succ]; refine wpAnyH_pureg 11 (v := .bool false) rfl (by kernel_rfl) (by kernel_rfl) (by kernel_rfl) (fun _ _ _ h => h) (by rfl) (fun _ => by go_simp) (by assumption) ?_; simp only [Act.put, List.setIfInBounds_toArray, List.set_cons_zero, List.set_cons_succ]; refine wpAnyH_pure 12 (v := .bool false) rfl (by kernel_rfl) (by kernel_rfl) (by kernel_rfl) (fun _ _ _ h => h) rfl (fun _ => by go_simp) (by assumption) ?_; simp only [Act.put, List.setIfInBounds_toArray, List.set_cons_zero, List.set_cons_succ]; refine wpAnyH_done (by kernel_rfl) ?_ _; replace HB : Sl (Below w.heap.size w w36.drew) := ⟨HB.out.trans (HSW.out.mono HB.out.size)⟩; replace XT := XT.x HSW.out; replace XA := XA.x HSW.out; replace XL := XL.x HSW.out; replace XS := XS.x HSW.out; replace XP := XP.x HSW.out; replace XQ := XQ.x HSW.out; replace XU := XU.x HSW.out; clear HSW; (try clear hHeld); clear hne hne2; go_wp2_with fail; refine' wp_branch (fun g w' => Below w36.drew.heap.size w36.drew w' ∧ w36.drew.heap.size ≤ g ∧ Blk w' g 35 (nr (t.tp.z k) t.tp.D).cells) ?hreg ?hrest
                case hreg =>
                  have hm : Below w36.drew.heap.size w36.drew w36.drew.drew := below_drewN (Below.refl _ _) 1; have HSW : Sl _ := ⟨hm⟩; refine wp_region_held_drew (S := fun w' => Below w36.drew.heap.size w36.drew w') (by kernel_rfl) hm (fun hHeld => ?_); clear hm; refine wpAnyH_pure 0 (v := .slice (some ⟨gL, 0, none⟩) 12 12) rfl (by kernel_rfl) (by kernel_rfl) (by kernel_rfl) (fun _ _ _ h => h) rfl (fun _ => rfl) (by assumption) ?_; simp only [Act.put, List.setIfInBounds_toArray, List.set_cons_zero, List.set_cons_succ]; refine wpAnyH_pure 1 (v := .int .i64 (k : Int)) rfl (by kernel_rfl) (by kernel_rfl) (by kernel_rfl) (fun _ _ _ h => h) rfl (fun _ => rfl) (by assumption) ?_; simp only [Act.put, List.setIfInBounds_toArray, List.set_cons_zero, List.set_cons_succ]; refine wpAnyH_pure 2 (v := .int .i64 (7 * (k : Int))) rfl (by kernel_rfl) (by kernel_rfl) (by kernel_rfl) (fun _ _ _ h => h) rfl (fun _ => by go_simp) (by assumption) ?_; simp only [Act.put, List.setIfInBounds_toArray, List.set_cons_zero, List.set_cons_succ]; refine wpAnyH_pure 3 (v := .int .i64 (p : Int)) rfl (by kernel_rfl) (by kernel_rfl) (by kernel_rfl) (fun _ _ _ h => h) rfl (fun _ => by go_simp) (by assumption) ?_; simp only [Act.put, List.setIfInBounds_toArray, List.set_cons_zero, List.set_cons_succ]; refine wpAnyH_pure 4 (v := .pointer (some ⟨gL, p * 7, none⟩)) rfl (by kernel_rfl) (by kernel_rfl) (by kernel_rfl) (fun _ _ _ h => h) rfl (fun _ => by go_simp) (by assumption) ?_; simp only [Act.put, List.setIfInBounds_toArray, List.set_cons_zero, List.set_cons_succ]
                  refine wpAnyH_load 5 35 (.tmp 117) rfl rfl rfl gL (p * 7) rfl (t.N p).cells _ (fun w' h => by
                    have e := XL.out.below h XL.out.lt
                    exact e.atR hp12) Tryz.underlying35 rfl size_ratio (by kernel_rfl) (by kernel_rfl) (by kernel_rfl) (fun _ _ _ h => h) (by assumption) ?_
                  simp only [Act.put, List.setIfInBounds_toArray, List.set_cons_zero, List.set_cons_succ]; refine wpAnyH_pure 6 (v := .slice (some ⟨gA, 0, none⟩) 12 12) rfl (by kernel_rfl) (by kernel_rfl) (by kernel_rfl) (fun _ _ _ h => h) rfl (fun _ => rfl) (by assumption) ?_; simp only [Act.put, List.setIfInBounds_toArray, List.set_cons_zero, List.set_cons_succ]; refine wpAnyH_pure 7 (v := .int .i64 (k : Int)) rfl (by kernel_rfl) (by kernel_rfl) (by kernel_rfl) (fun _ _ _ h => h) rfl (fun _ => rfl) (by assumption) ?_; simp only [Act.put, List.setIfInBounds_toArray, List.set_cons_zero, List.set_cons_succ]; refine wpAnyH_pure 8 (v := .pointer (some ⟨gA, k * 7, none⟩)) rfl (by kernel_rfl) (by kernel_rfl) (by kernel_rfl) (fun _ _ _ h => h) rfl (fun _ => by go_simp) (by assumption) ?_; simp only [Act.put, List.setIfInBounds_toArray, List.set_cons_zero, List.set_cons_succ]
                  refine wpAnyH_load 9 35 (.tmp 121) rfl rfl rfl gA (k * 7) rfl (nr (t.tp.f k) t.tp.D).cells _ (fun w' h => by
                    have e := XA.out.below h XA.out.lt
                    exact e.atR hk12) Tryz.underlying35 rfl size_ratio (by kernel_rfl) (by kernel_rfl) (by kernel_rfl) (fun _ _ _ h => h) (by assumption) ?_
                  simp only [Act.put, List.setIfInBounds_toArray, List.set_cons_zero, List.set_cons_succ]; refine wpAnyH_two 10 14 rfl rfl (by kernel_rfl) rfl rfl (fun K hK => ?_) (fun K hK => ?_)
                  · skip; go_simp; go_at_call 13
                    (with_reducible refine (HM3.out _).mono ?_)
                    rintro e z38 ⟨rfl, hb⟩; replace HSW : Sl (RowKit.Below w36.drew.heap.size w36.drew z38) := ⟨HSW.out.trans (hb.mono HSW.out.size)⟩; refine hK.out _ _ HSW.out (fun hHeld => ?_); clear hK K hb
                    (try simp only [Act.put, List.setIfInBounds_toArray, List.set_cons_zero, List.set_cons_succ])
                    refine wpAnyH_pure 11 (v := .tuple #[.agg (nr (t.tp.z k) t.tp.D).cells, .int .i64 0]) rfl (by kernel_rfl) (by kernel_rfl) (by kernel_rfl) (fun _ _ _ h => h) rfl (fun _ => rfl) (by assumption) ?_; simp only [Act.put, List.setIfInBounds_toArray, List.set_cons_zero, List.set_cons_succ]; refine wpAnyH_pure 12 (v := .agg (nr (t.tp.z k) t.tp.D).cells) rfl (by kernel_rfl) (by kernel_rfl) (by kernel_rfl) (fun _ _ _ h => h) rfl (fun _ => by go_simp) (by assumption) ?_; simp only [Act.put, List.setIfInBounds_toArray, List.set_cons_zero, List.set_cons_succ]; refine wpAnyH_pure 13 (v := .int .i64 0) rfl (by kernel_rfl) (by kernel_rfl) (by kernel_rfl) (fun _ _ _ h => h) rfl (fun _ => by go_simp) (by assumption) ?_; simp only [Act.put, List.setIfInBounds_toArray, List.set_cons_zero, List.set_cons_succ]; refine wpAnyH_one 14 rfl (by kernel_rfl) rfl (fun K hK => ?_); refine wp_alloc_new 35 rfl RVzero.cells alloc_ratio ?_; rintro z39 gn zg zm zs zb; have GE : Sl (w36.drew.heap.size ≤ gn) := ⟨by have := HSW.out.size; omega⟩; have NB : Sl (Blk z39 gn 35 RVzero.cells) := ⟨zb⟩; replace HSW : Sl (RowKit.Below w36.drew.heap.size w36.drew z39) := ⟨HSW.out.trans (zm.mono HSW.out.size)⟩; refine hK.out _ _ HSW.out (fun hHeld => ?_); clear hK K zg zm zs zb; simp only [Act.put, List.setIfInBounds_toArray, List.set_cons_zero, List.set_cons_succ]; refine wpAnyH_one 15 rfl (by kernel_rfl) rfl (fun K hK => ?_); refine wp_store_part 35 (.tmp 15) (.tmp 124) rfl gn 0 (nr (t.tp.z k) t.tp.D).cells rfl rfl 35 RVzero.cells (nr (t.tp.z k) t.tp.D).cells NB.out (by rw [RV.cells_size, RV.cells_size]; omega) (putA_all _ _ rfl) size_ratio (RV.cells_one _) ?_; rintro z40 zm zs zb; have hbn : Below w36.drew.heap.size w36.drew z40 := below_mv HSW.out zm GE.out HSW.out.size; replace HSW : Sl (Below w36.drew.heap.size w36.drew z40) := ⟨hbn⟩; refine hK.out _ _ hbn (fun hHeld => ?_); clear hK K hbn zm zs; simp only [Act.put, List.setIfInBounds_toArray, List.set_cons_zero, List.set_cons_succ]; refine wpAnyH_one 16 rfl (by kernel_rfl) rfl (fun K hK => ?_); go_simp; refine hK.out _ _ HSW.out (fun hHeld => ?_); clear hK K
                    (try simp only [Act.put, List.setIfInBounds_toArray, List.set_cons_zero, List.set_cons_succ])
                    exact wpAnyH_done (by kernel_rfl) ⟨gn, rfl, HSW.out, GE.out, zb⟩ _
                  · skip; refine wp_alloc_new 35 rfl RVzero.cells alloc_ratio ?_; rintro z41 gn zg zm zs zb; have GE : Sl (w36.drew.heap.size ≤ gn) := ⟨by have := HSW.out.size; omega⟩; have NB : Sl (Blk z41 gn 35 RVzero.cells) := ⟨zb⟩; replace HSW : Sl (RowKit.Below w36.drew.heap.size w36.drew z41) := ⟨HSW.out.trans (zm.mono HSW.out.size)⟩; refine hK.out _ _ HSW.out (fun hHeld => ?_); clear hK K zg zm zs zb; simp only [Act.put, List.setIfInBounds_toArray, List.set_cons_zero, List.set_cons_succ]; refine wpAnyH_one 10 rfl (by kernel_rfl) rfl (fun K hK => ?_); go_simp; go_at_call 13
                    (with_reducible refine (HM3.out _).mono ?_)
                    rintro e z42 ⟨rfl, hb⟩; replace HSW : Sl (RowKit.Below w36.drew.heap.size w36.drew z42) := ⟨HSW.out.trans (hb.mono HSW.out.size)⟩; replace NB : Sl (Blk z42 gn 35 RVzero.cells) := ⟨NB.out.below hb NB.out.lt⟩; refine hK.out _ _ HSW.out (fun hHeld => ?_); clear hK K hb
                    (try simp only [Act.put, List.setIfInBounds_toArray, List.set_cons_zero, List.set_cons_succ])
                    refine wpAnyH_pure 11 (v := .tuple #[.agg (nr (t.tp.z k) t.tp.D).cells, .int .i64 0]) rfl (by kernel_rfl) (by kernel_rfl) (by kernel_rfl) (fun _ _ _ h => h) rfl (fun _ => rfl) (by assumption) ?_; simp only [Act.put, List.setIfInBounds_toArray, List.set_cons_zero, List.set_cons_succ]; refine wpAnyH_pure 12 (v := .agg (nr (t.tp.z k) t.tp.D).cells) rfl (by kernel_rfl) (by kernel_rfl) (by kernel_rfl) (fun _ _ _ h => h) rfl (fun _ => by go_simp) (by assumption) ?_; simp only [Act.put, List.setIfInBounds_toArray, List.set_cons_zero, List.set_cons_succ]; refine wpAnyH_pure 13 (v := .int .i64 0) rfl (by kernel_rfl) (by kernel_rfl) (by kernel_rfl) (fun _ _ _ h => h) rfl (fun _ => by go_simp) (by assumption) ?_; simp only [Act.put, List.setIfInBounds_toArray, List.set_cons_zero, List.set_cons_succ]; refine wpAnyH_one 15 rfl (by kernel_rfl) rfl (fun K hK => ?_); refine wp_store_part 35 (.tmp 15) (.tmp 124) rfl gn 0 (nr (t.tp.z k) t.tp.D).cells rfl rfl 35 RVzero.cells (nr (t.tp.z k) t.tp.D).cells NB.out (by rw [RV.cells_size, RV.cells_size]; omega) (putA_all _ _ rfl) size_ratio (RV.cells_one _) ?_; rintro z43 zm zs zb; have hbn : Below w36.drew.heap.size w36.drew z43 := below_mv HSW.out zm GE.out HSW.out.size; replace HSW : Sl (Below w36.drew.heap.size w36.drew z43) := ⟨hbn⟩; refine hK.out _ _ hbn (fun hHeld => ?_); clear hK K hbn zm zs; simp only [Act.put, List.setIfInBounds_toArray, List.set_cons_zero, List.set_cons_succ]; refine wpAnyH_one 16 rfl (by kernel_rfl) rfl (fun K hK => ?_); go_simp; refine hK.out _ _ HSW.out (fun hHeld => ?_); clear hK K
                    (try simp only [Act.put, List.setIfInBounds_toArray, List.set_cons_zero, List.set_cons_succ])
                    exact wpAnyH_done (by kernel_rfl) ⟨gn, rfl, HSW.out, GE.out, zb⟩ _
                case hrest =>
                  rintro gV w44 ⟨hb, hge, zb⟩; replace ORD : Sl (w.heap.size ≤ gT ∧ gT < gA ∧ gA < gL ∧ gL < gS ∧ gS < gP ∧ gP < gQ ∧ gQ < gU ∧ gU < gV) := ⟨by have := HB.out.size; have := ORD.out; have := XT.out.lt; have := XA.out.lt; have := XL.out.lt; have := XS.out.lt; have := XP.out.lt; have := XQ.out.lt; have := XU.out.lt; omega⟩; replace HB := HB.y hb; replace XT := XT.x hb; replace XA := XA.x hb; replace XL := XL.x hb; replace XS := XS.x hb; replace XP := XP.x hb; replace XQ := XQ.x hb; replace XU := XU.x hb; have XV : Sl (Blk w44 gV 35 (nr (t.tp.z k) t.tp.D).cells) := ⟨zb⟩; clear hb hge zb
                  go_wp2_with ((with_reducible show wpList _ _ _ _ _ _); first
                    | (refine wpList_load_whole rfl 35 (.tmp 15) rfl gV rfl 35 (nr (t.tp.z k) t.tp.D).cells _ XV.out Tryz.underlying35 rfl size_ratio ?_))
                  obtain ⟨fv, hfv⟩ := HFO.out; have HFV : Sl _ := ⟨hfv⟩; clear hfv; refine (HFV.out _).mono ?_; rintro e w45 ⟨rfl, hb⟩; replace HB := HB.y hb; replace XT := XT.x hb; replace XA := XA.x hb; replace XL := XL.x hb; replace XS := XS.x hb; replace XP := XP.x hb; replace XQ := XQ.x hb; replace XU := XU.x hb; replace XV := XV.x hb; clear hb
                  go_wp2_with ((with_reducible show wpList _ _ _ _ _ _); first
                    | (refine wpList_alloc_new 17 rfl rfl 35 rfl RVzero.cells alloc_ratio ?_; rintro w46 gZ zg zm zs zb; replace ORD : Sl (w.heap.size ≤ gT ∧ gT < gA ∧ gA < gL ∧ gL < gS ∧ gS < gP ∧ gP < gQ ∧ gQ < gU ∧ gU < gV ∧ gV < gZ) := ⟨by have := HB.out.size; have := ORD.out; have := XT.out.lt; have := XA.out.lt; have := XL.out.lt; have := XS.out.lt; have := XP.out.lt; have := XQ.out.lt; have := XU.out.lt; have := XV.out.lt; omega⟩; replace HB := HB.v zm (by have := HB.out.size; have := ORD.out; omega); replace XT := XT.w zm (by have := XT.out.lt; have := ORD.out; omega); replace XA := XA.w zm (by have := XA.out.lt; have := ORD.out; omega); replace XL := XL.w zm (by have := XL.out.lt; have := ORD.out; omega); replace XS := XS.w zm (by have := XS.out.lt; have := ORD.out; omega); replace XP := XP.w zm (by have := XP.out.lt; have := ORD.out; omega); replace XQ := XQ.w zm (by have := XQ.out.lt; have := ORD.out; omega); replace XU := XU.w zm (by have := XU.out.lt; have := ORD.out; omega); replace XV := XV.w zm (by have := XV.out.lt; have := ORD.out; omega); have XZ : Sl (Blk w46 gZ 35 RVzero.cells) := ⟨zb⟩; clear zg zm zs zb)
                    | (refine wpList_store_whole rfl 35 (.tmp 17) (.tmp 129) rfl gZ rq.cells rfl rfl 35 RVzero.cells XZ.out rfl size_ratio (RV.cells_one _) ?_; rintro w47 zm zs zb; replace HB := HB.v zm (by have := HB.out.size; have := ORD.out; omega); replace XT := XT.w zm (by have := XT.out.lt; have := ORD.out; omega); replace XA := XA.w zm (by have := XA.out.lt; have := ORD.out; omega); replace XL := XL.w zm (by have := XL.out.lt; have := ORD.out; omega); replace XS := XS.w zm (by have := XS.out.lt; have := ORD.out; omega); replace XP := XP.w zm (by have := XP.out.lt; have := ORD.out; omega); replace XQ := XQ.w zm (by have := XQ.out.lt; have := ORD.out; omega); replace XU := XU.w zm (by have := XU.out.lt; have := ORD.out; omega); replace XV := XV.w zm (by have := XV.out.lt; have := ORD.out; omega); replace XZ : Sl (Blk w47 gZ 35 rq.cells) := ⟨zb⟩; clear zm zs zb))
                  have hd7 := rq.d_cell; have he7 := rq.ext06; have hen7 := fun W => eq_nums W rq
                  have hm : Mv w47.heap.size w47 w47.drew := Mv.drew _ _; have hs : RowKit.Below w47.heap.size w47 w47.drew := below_drewN (Below.refl _ _) 1; have HSW : Sl _ := ⟨hs⟩; clear hs; refine wp_region_held_drew (S := fun w' => Mv w47.heap.size w47 w') (by kernel_rfl) hm (fun hHeld => ?_); clear hm; refine wpAnyH_pure 0 (v := .int .i64 0) rfl (by kernel_rfl) (by kernel_rfl) (by kernel_rfl) (fun _ _ _ h => h) rfl (fun _ => rfl) (by assumption) ?_; simp only [Act.put, List.setIfInBounds_toArray, List.set_cons_zero, List.set_cons_succ]; refine wpAnyH_pure 1 (v := .bool false) rfl (by kernel_rfl) (by kernel_rfl) (by kernel_rfl) (fun _ _ _ h => h) rfl (fun _ => by go_simp) (by assumption) ?_; simp only [Act.put, List.setIfInBounds_toArray, List.set_cons_zero, List.set_cons_succ]; refine wpAnyH_pure 2 (v := .bool false) rfl (by kernel_rfl) (by kernel_rfl) (by kernel_rfl) (fun _ _ _ h => h) rfl (fun _ => rfl) (by assumption) ?_; simp only [Act.put, List.setIfInBounds_toArray, List.set_cons_zero, List.set_cons_succ]; refine wpAnyH_pureg 3 (v := .int .i64 0) rfl (by kernel_rfl) (by kernel_rfl) (by kernel_rfl) (fun _ _ _ h => h) (by rfl) (fun _ => rfl) (by assumption) ?_; simp only [Act.put, List.setIfInBounds_toArray, List.set_cons_zero, List.set_cons_succ]; refine wpAnyH_pureg 4 (v := .bool false) rfl (by kernel_rfl) (by kernel_rfl) (by kernel_rfl) (fun _ _ _ h => h) (by rfl) (fun _ => by go_simp) (by assumption) ?_; simp only [Act.put, List.setIfInBounds_toArray, List.set_cons_zero, List.set_cons_succ]; refine wpAnyH_pure 5 (v := .bool false) rfl (by kernel_rfl) (by kernel_rfl) (by kernel_rfl) (fun _ _ _ h => h) rfl (fun _ => by go_simp) (by assumption) ?_; simp only [Act.put, List.setIfInBounds_toArray, List.set_cons_zero, List.set_cons_succ]; refine wpAnyH_pure 6 (v := .bool false) rfl (by kernel_rfl) (by kernel_rfl) (by kernel_rfl) (fun _ _ _ h => h) rfl (fun _ => rfl) (by assumption) ?_; simp only [Act.put, List.setIfInBounds_toArray, List.set_cons_zero, List.set_cons_succ]
                  refine wpAnyH_loadg 7 35 (.tmp 17) rfl rfl (by rfl) gZ (0) rfl rq.cells _ (fun w' h => by
                    have e := XZ.out.mv h (by have := XZ.out.lt; (try have := ORD.out); omega)
                    exact e.all) Tryz.underlying35 rfl size_ratio (by kernel_rfl) (by kernel_rfl) (by kernel_rfl) (fun _ _ _ h => h) (by assumption) ?_
                  simp only [Act.put, List.setIfInBounds_toArray, List.set_cons_zero, List.set_cons_succ]; refine wpAnyH_pureg 8 (v := .slice (some ⟨gL, 0, none⟩) 12 12) rfl (by kernel_rfl) (by kernel_rfl) (by kernel_rfl) (fun _ _ _ h => h) (by rfl) (fun _ => rfl) (by assumption) ?_; simp only [Act.put, List.setIfInBounds_toArray, List.set_cons_zero, List.set_cons_succ]; refine wpAnyH_pureg 9 (v := .int .i64 (k : Int)) rfl (by kernel_rfl) (by kernel_rfl) (by kernel_rfl) (fun _ _ _ h => h) (by rfl) (fun _ => rfl) (by assumption) ?_; simp only [Act.put, List.setIfInBounds_toArray, List.set_cons_zero, List.set_cons_succ]; refine wpAnyH_pureg 10 (v := .int .i64 ((k : Int) + 1)) rfl (by kernel_rfl) (by kernel_rfl) (by kernel_rfl) (fun _ _ _ h => h) (by rfl) (fun _ => by go_simp) (by assumption) ?_; simp only [Act.put, List.setIfInBounds_toArray, List.set_cons_zero, List.set_cons_succ]; refine wpAnyH_pureg 11 (v := .int .i64 (7 * ((k : Int) + 1))) rfl (by kernel_rfl) (by kernel_rfl) (by kernel_rfl) (fun _ _ _ h => h) (by rfl) (fun _ => by go_simp) (by assumption) ?_; simp only [Act.put, List.setIfInBounds_toArray, List.set_cons_zero, List.set_cons_succ]; refine wpAnyH_pureg 12 (v := .int .i64 (q : Int)) rfl (by kernel_rfl) (by kernel_rfl) (by kernel_rfl) (fun _ _ _ h => h) (by rfl) (fun _ => by go_simp) (by assumption) ?_; simp only [Act.put, List.setIfInBounds_toArray, List.set_cons_zero, List.set_cons_succ]; refine wpAnyH_pureg 13 (v := .pointer (some ⟨gL, q * 7, none⟩)) rfl (by kernel_rfl) (by kernel_rfl) (by kernel_rfl) (fun _ _ _ h => h) (by rfl) (fun _ => by go_simp) (by assumption) ?_; simp only [Act.put, List.setIfInBounds_toArray, List.set_cons_zero, List.set_cons_succ]
                  refine wpAnyH_loadg 14 35 (.tmp 145) rfl rfl (by rfl) gL (q * 7) rfl rq.cells _ (fun w' h => by
                    have e := XL.out.mv h (by have := XL.out.lt; (try have := ORD.out); omega); have e2 := e.atR hq12; rw [HNP.out.2] at e2
                    exact e2) Tryz.underlying35 rfl size_ratio (by kernel_rfl) (by kernel_rfl) (by kernel_rfl) (fun _ _ _ h => h) (by assumption) ?_
                  simp only [Act.put, List.setIfInBounds_toArray, List.set_cons_zero, List.set_cons_succ]; refine wpAnyH_pureg 15 (v := .bool false) rfl (by kernel_rfl) (by kernel_rfl) (by kernel_rfl) (fun _ _ _ h => h) (by rfl) (fun _ => by go_simp) (by assumption) ?_; simp only [Act.put, List.setIfInBounds_toArray, List.set_cons_zero, List.set_cons_succ]; refine wpAnyH_pure 16 (v := .bool false) rfl (by kernel_rfl) (by kernel_rfl) (by kernel_rfl) (fun _ _ _ h => h) rfl (fun _ => by go_simp) (by assumption) ?_; simp only [Act.put, List.setIfInBounds_toArray, List.set_cons_zero, List.set_cons_succ]; refine wpAnyH_done (by kernel_rfl) ?_ _; replace HB : Sl (Below w.heap.size w w47.drew) := ⟨HB.out.trans (HSW.out.mono HB.out.size)⟩; replace XT := XT.x HSW.out; replace XA := XA.x HSW.out; replace XL := XL.x HSW.out; replace XS := XS.x HSW.out; replace XP := XP.x HSW.out; replace XQ := XQ.x HSW.out; replace XU := XU.x HSW.out; replace XV := XV.x HSW.out; replace XZ := XZ.x HSW.out; clear HSW; (try clear hHeld); go_wp2_with fail; exact ⟨⟨k + 1, hk12, by go_num, HB, XT, XA, XL, XS⟩, by simp [RowKit.intOf]; omega⟩
              · have hne : ((k : Int) == (W : Int)) = false := by rw [beq_eq_false_iff_ne]; omega
                have hne2 : ((k : Int) != (W : Int)) = true := by rw [bne, hne]; rfl
                have HCQ : Sl _ := ⟨HCP.out hkw⟩; clear hkw; have hd6 := rf.d_cell; have he6 := rf.ext06; have hen := fun W => eq_nums W rf
                have hm : Mv w36.heap.size w36 w36.drew := Mv.drew _ _; have hs : RowKit.Below w36.heap.size w36 w36.drew := below_drewN (Below.refl _ _) 1; have HSW : Sl _ := ⟨hs⟩; clear hs; refine wp_region_held_drew (S := fun w' => Mv w36.heap.size w36 w') (by kernel_rfl) hm (fun hHeld => ?_); clear hm; refine wpAnyH_pure 0 (v := .int .i64 0) rfl (by kernel_rfl) (by kernel_rfl) (by kernel_rfl) (fun _ _ _ h => h) rfl (fun _ => rfl) (by assumption) ?_; simp only [Act.put, List.setIfInBounds_toArray, List.set_cons_zero, List.set_cons_succ]; refine wpAnyH_pure 1 (v := .bool false) rfl (by kernel_rfl) (by kernel_rfl) (by kernel_rfl) (fun _ _ _ h => h) rfl (fun _ => by go_simp) (by assumption) ?_; simp only [Act.put, List.setIfInBounds_toArray, List.set_cons_zero, List.set_cons_succ]; refine wpAnyH_pure 2 (v := .bool false) rfl (by kernel_rfl) (by kernel_rfl) (by kernel_rfl) (fun _ _ _ h => h) rfl (fun _ => rfl) (by assumption) ?_; simp only [Act.put, List.setIfInBounds_toArray, List.set_cons_zero, List.set_cons_succ]; refine wpAnyH_pureg 3 (v := .int .i64 (k : Int)) rfl (by kernel_rfl) (by kernel_rfl) (by kernel_rfl) (fun _ _ _ h => h) (by rfl) (fun _ => rfl) (by assumption) ?_; simp only [Act.put, List.setIfInBounds_toArray, List.set_cons_zero, List.set_cons_succ]; refine wpAnyH_pureg 4 (v := .pointer (some ⟨gT, 2, none⟩)) rfl (by kernel_rfl) (by kernel_rfl) (by kernel_rfl) (fun _ _ _ h => h) (by rfl) (fun _ => by go_simp) (by assumption) ?_; simp only [Act.put, List.setIfInBounds_toArray, List.set_cons_zero, List.set_cons_succ]
                refine wpAnyH_cellg 5 (v := .int .i64 (W : Int)) rfl (by rfl) (fun w' h => by
                  have e := HCW.out _ (XT.out.mv h (by have := XT.out.lt; have := ORD.out; omega))
                  go_simp) (by kernel_rfl) (by kernel_rfl) (by kernel_rfl) (fun _ _ _ h => h) (by assumption) ?_
                simp only [Act.put, List.setIfInBounds_toArray, List.set_cons_zero, List.set_cons_succ]; refine wpAnyH_pureg 6 (v := .bool true) rfl (by kernel_rfl) (by kernel_rfl) (by kernel_rfl) (fun _ _ _ h => h) (by rfl) (fun _ => by go_simp) (by assumption) ?_; simp only [Act.put, List.setIfInBounds_toArray, List.set_cons_zero, List.set_cons_succ]; refine wpAnyH_pureg 7 (v := .bool true) rfl (by kernel_rfl) (by kernel_rfl) (by kernel_rfl) (fun _ _ _ h => h) (by rfl) (fun _ => rfl) (by assumption) ?_; simp only [Act.put, List.setIfInBounds_toArray, List.set_cons_zero, List.set_cons_succ]
                refine wpAnyH_loadg 8 35 (.tmp 13) rfl rfl (by rfl) gU (0) rfl rf.cells _ (fun w' h => by
                  have e := XU.out.mv h (by have := XU.out.lt; (try have := ORD.out); omega)
                  exact e.all) Tryz.underlying35 rfl size_ratio (by kernel_rfl) (by kernel_rfl) (by kernel_rfl) (fun _ _ _ h => h) (by assumption) ?_
                simp only [Act.put, List.setIfInBounds_toArray, List.set_cons_zero, List.set_cons_succ]; refine wpAnyH_onew 9 rfl (by kernel_rfl) (by rfl) (fun K hK => ?_); go_simp; go_at_call 12
                (with_reducible refine (HCQ.out _).mono ?_)
                rintro e z149 ⟨rfl, hb⟩; replace HSW := HSW.y hb; refine hK.out _ _ (Mv.below HSW.out) (fun hHeld => ?_); clear hK K hb
                (try simp only [Act.put, List.setIfInBounds_toArray, List.set_cons_zero, List.set_cons_succ])
                refine wpAnyH_pureg 10 (v := .bool false) rfl (by kernel_rfl) (by kernel_rfl) (by kernel_rfl) (fun _ _ _ h => h) (by rfl) (fun _ => by go_simp) (by assumption) ?_; simp only [Act.put, List.setIfInBounds_toArray, List.set_cons_zero, List.set_cons_succ]; refine wpAnyH_pureg 11 (v := .bool false) rfl (by kernel_rfl) (by kernel_rfl) (by kernel_rfl) (fun _ _ _ h => h) (by rfl) (fun _ => by go_simp) (by assumption) ?_; simp only [Act.put, List.setIfInBounds_toArray, List.set_cons_zero, List.set_cons_succ]; refine wpAnyH_pure 12 (v := .bool false) rfl (by kernel_rfl) (by kernel_rfl) (by kernel_rfl) (fun _ _ _ h => h) rfl (fun _ => by go_simp) (by assumption) ?_; simp only [Act.put, List.setIfInBounds_toArray, List.set_cons_zero, List.set_cons_succ]; refine wpAnyH_done (by kernel_rfl) ?_ _; replace HB := HB.y HSW.out; replace XT := XT.x HSW.out; replace XA := XA.x HSW.out; replace XL := XL.x HSW.out; replace XS := XS.x HSW.out; replace XP := XP.x HSW.out; replace XQ := XQ.x HSW.out; replace XU := XU.x HSW.out; clear HSW; (try clear hHeld); clear hne hne2 hd6 he6 hen; go_wp2_with fail; refine' wp_branch (fun g w' => Below z149.heap.size z149 w' ∧ z149.heap.size ≤ g ∧ Blk w' g 35 (nr (t.tp.z k) t.tp.D).cells) ?hreg ?hrest
                case hreg =>
                  have hm : Below z149.heap.size z149 z149.drew := below_drewN (Below.refl _ _) 1; have HSW : Sl _ := ⟨hm⟩; refine wp_region_held_drew (S := fun w' => Below z149.heap.size z149 w') (by kernel_rfl) hm (fun hHeld => ?_); clear hm; refine wpAnyH_pure 0 (v := .slice (some ⟨gL, 0, none⟩) 12 12) rfl (by kernel_rfl) (by kernel_rfl) (by kernel_rfl) (fun _ _ _ h => h) rfl (fun _ => rfl) (by assumption) ?_; simp only [Act.put, List.setIfInBounds_toArray, List.set_cons_zero, List.set_cons_succ]; refine wpAnyH_pure 1 (v := .int .i64 (k : Int)) rfl (by kernel_rfl) (by kernel_rfl) (by kernel_rfl) (fun _ _ _ h => h) rfl (fun _ => rfl) (by assumption) ?_; simp only [Act.put, List.setIfInBounds_toArray, List.set_cons_zero, List.set_cons_succ]; refine wpAnyH_pure 2 (v := .int .i64 (7 * (k : Int))) rfl (by kernel_rfl) (by kernel_rfl) (by kernel_rfl) (fun _ _ _ h => h) rfl (fun _ => by go_simp) (by assumption) ?_; simp only [Act.put, List.setIfInBounds_toArray, List.set_cons_zero, List.set_cons_succ]; refine wpAnyH_pure 3 (v := .int .i64 (p : Int)) rfl (by kernel_rfl) (by kernel_rfl) (by kernel_rfl) (fun _ _ _ h => h) rfl (fun _ => by go_simp) (by assumption) ?_; simp only [Act.put, List.setIfInBounds_toArray, List.set_cons_zero, List.set_cons_succ]; refine wpAnyH_pure 4 (v := .pointer (some ⟨gL, p * 7, none⟩)) rfl (by kernel_rfl) (by kernel_rfl) (by kernel_rfl) (fun _ _ _ h => h) rfl (fun _ => by go_simp) (by assumption) ?_; simp only [Act.put, List.setIfInBounds_toArray, List.set_cons_zero, List.set_cons_succ]
                  refine wpAnyH_load 5 35 (.tmp 117) rfl rfl rfl gL (p * 7) rfl (t.N p).cells _ (fun w' h => by
                    have e := XL.out.below h XL.out.lt
                    exact e.atR hp12) Tryz.underlying35 rfl size_ratio (by kernel_rfl) (by kernel_rfl) (by kernel_rfl) (fun _ _ _ h => h) (by assumption) ?_
                  simp only [Act.put, List.setIfInBounds_toArray, List.set_cons_zero, List.set_cons_succ]; refine wpAnyH_pure 6 (v := .slice (some ⟨gA, 0, none⟩) 12 12) rfl (by kernel_rfl) (by kernel_rfl) (by kernel_rfl) (fun _ _ _ h => h) rfl (fun _ => rfl) (by assumption) ?_; simp only [Act.put, List.setIfInBounds_toArray, List.set_cons_zero, List.set_cons_succ]; refine wpAnyH_pure 7 (v := .int .i64 (k : Int)) rfl (by kernel_rfl) (by kernel_rfl) (by kernel_rfl) (fun _ _ _ h => h) rfl (fun _ => rfl) (by assumption) ?_; simp only [Act.put, List.setIfInBounds_toArray, List.set_cons_zero, List.set_cons_succ]; refine wpAnyH_pure 8 (v := .pointer (some ⟨gA, k * 7, none⟩)) rfl (by kernel_rfl) (by kernel_rfl) (by kernel_rfl) (fun _ _ _ h => h) rfl (fun _ => by go_simp) (by assumption) ?_; simp only [Act.put, List.setIfInBounds_toArray, List.set_cons_zero, List.set_cons_succ]
                  refine wpAnyH_load 9 35 (.tmp 121) rfl rfl rfl gA (k * 7) rfl (nr (t.tp.f k) t.tp.D).cells _ (fun w' h => by
                    have e := XA.out.below h XA.out.lt
                    exact e.atR hk12) Tryz.underlying35 rfl size_ratio (by kernel_rfl) (by kernel_rfl) (by kernel_rfl) (fun _ _ _ h => h) (by assumption) ?_
                  simp only [Act.put, List.setIfInBounds_toArray, List.set_cons_zero, List.set_cons_succ]; refine wpAnyH_two 10 14 rfl rfl (by kernel_rfl) rfl rfl (fun K hK => ?_) (fun K hK => ?_)
                  · skip; go_simp; go_at_call 13
                    (with_reducible refine (HM3.out _).mono ?_)
                    rintro e z151 ⟨rfl, hb⟩; replace HSW := HSW.y hb; refine hK.out _ _ HSW.out (fun hHeld => ?_); clear hK K hb
                    (try simp only [Act.put, List.setIfInBounds_toArray, List.set_cons_zero, List.set_cons_succ])
                    refine wpAnyH_pure 11 (v := .tuple #[.agg (nr (t.tp.z k) t.tp.D).cells, .int .i64 0]) rfl (by kernel_rfl) (by kernel_rfl) (by kernel_rfl) (fun _ _ _ h => h) rfl (fun _ => rfl) (by assumption) ?_; simp only [Act.put, List.setIfInBounds_toArray, List.set_cons_zero, List.set_cons_succ]; refine wpAnyH_pure 12 (v := .agg (nr (t.tp.z k) t.tp.D).cells) rfl (by kernel_rfl) (by kernel_rfl) (by kernel_rfl) (fun _ _ _ h => h) rfl (fun _ => by go_simp) (by assumption) ?_; simp only [Act.put, List.setIfInBounds_toArray, List.set_cons_zero, List.set_cons_succ]; refine wpAnyH_pure 13 (v := .int .i64 0) rfl (by kernel_rfl) (by kernel_rfl) (by kernel_rfl) (fun _ _ _ h => h) rfl (fun _ => by go_simp) (by assumption) ?_; simp only [Act.put, List.setIfInBounds_toArray, List.set_cons_zero, List.set_cons_succ]; refine wpAnyH_one 14 rfl (by kernel_rfl) rfl (fun K hK => ?_); refine wp_alloc_new 35 rfl RVzero.cells alloc_ratio ?_; rintro z152 gn zg zm zs zb; have GE : Sl (z149.heap.size ≤ gn) := ⟨by have := HSW.out.size; omega⟩; have NB : Sl (Blk z152 gn 35 RVzero.cells) := ⟨zb⟩; replace HSW : Sl (RowKit.Below z149.heap.size z149 z152) := ⟨HSW.out.trans (zm.mono HSW.out.size)⟩; refine hK.out _ _ HSW.out (fun hHeld => ?_); clear hK K zg zm zs zb; simp only [Act.put, List.setIfInBounds_toArray, List.set_cons_zero, List.set_cons_succ]; refine wpAnyH_one 15 rfl (by kernel_rfl) rfl (fun K hK => ?_); refine wp_store_part 35 (.tmp 15) (.tmp 124) rfl gn 0 (nr (t.tp.z k) t.tp.D).cells rfl rfl 35 RVzero.cells (nr (t.tp.z k) t.tp.D).cells NB.out (by rw [RV.cells_size, RV.cells_size]; omega) (putA_all _ _ rfl) size_ratio (RV.cells_one _) ?_; rintro z153 zm zs zb; have hbn : Below z149.heap.size z149 z153 := below_mv HSW.out zm GE.out HSW.out.size; replace HSW : Sl (Below z149.heap.size z149 z153) := ⟨hbn⟩; refine hK.out _ _ hbn (fun hHeld => ?_); clear hK K hbn zm zs; simp only [Act.put, List.setIfInBounds_toArray, List.set_cons_zero, List.set_cons_succ]; refine wpAnyH_one 16 rfl (by kernel_rfl) rfl (fun K hK => ?_); go_simp; refine hK.out _ _ HSW.out (fun hHeld => ?_); clear hK K
                    (try simp only [Act.put, List.setIfInBounds_toArray, List.set_cons_zero, List.set_cons_succ])
                    exact wpAnyH_done (by kernel_rfl) ⟨gn, rfl, HSW.out, GE.out, zb⟩ _
                  · skip; refine wp_alloc_new 35 rfl RVzero.cells alloc_ratio ?_; rintro z154 gn zg zm zs zb; have GE : Sl (z149.heap.size ≤ gn) := ⟨by have := HSW.out.size; omega⟩; have NB : Sl (Blk z154 gn 35 RVzero.cells) := ⟨zb⟩; replace HSW : Sl (RowKit.Below z149.heap.size z149 z154) := ⟨HSW.out.trans (zm.mono HSW.out.size)⟩; refine hK.out _ _ HSW.out (fun hHeld => ?_); clear hK K zg zm zs zb; simp only [Act.put, List.setIfInBounds_toArray, List.set_cons_zero, List.set_cons_succ]; refine wpAnyH_one 10 rfl (by kernel_rfl) rfl (fun K hK => ?_); go_simp; go_at_call 13
                    (with_reducible refine (HM3.out _).mono ?_)
                    rintro e z155 ⟨rfl, hb⟩; replace HSW := HSW.y hb; replace NB : Sl (Blk z155 gn 35 RVzero.cells) := ⟨NB.out.below hb NB.out.lt⟩; refine hK.out _ _ HSW.out (fun hHeld => ?_); clear hK K hb
                    (try simp only [Act.put, List.setIfInBounds_toArray, List.set_cons_zero, List.set_cons_succ])
                    refine wpAnyH_pure 11 (v := .tuple #[.agg (nr (t.tp.z k) t.tp.D).cells, .int .i64 0]) rfl (by kernel_rfl) (by kernel_rfl) (by kernel_rfl) (fun _ _ _ h => h) rfl (fun _ => rfl) (by assumption) ?_; simp only [Act.put, List.setIfInBounds_toArray, List.set_cons_zero, List.set_cons_succ]; refine wpAnyH_pure 12 (v := .agg (nr (t.tp.z k) t.tp.D).cells) rfl (by kernel_rfl) (by kernel_rfl) (by kernel_rfl) (fun _ _ _ h => h) rfl (fun _ => by go_simp) (by assumption) ?_; simp only [Act.put, List.setIfInBounds_toArray, List.set_cons_zero, List.set_cons_succ]; refine wpAnyH_pure 13 (v := .int .i64 0) rfl (by kernel_rfl) (by kernel_rfl) (by kernel_rfl) (fun _ _ _ h => h) rfl (fun _ => by go_simp) (by assumption) ?_; simp only [Act.put, List.setIfInBounds_toArray, List.set_cons_zero, List.set_cons_succ]; refine wpAnyH_one 15 rfl (by kernel_rfl) rfl (fun K hK => ?_); refine wp_store_part 35 (.tmp 15) (.tmp 124) rfl gn 0 (nr (t.tp.z k) t.tp.D).cells rfl rfl 35 RVzero.cells (nr (t.tp.z k) t.tp.D).cells NB.out (by rw [RV.cells_size, RV.cells_size]; omega) (putA_all _ _ rfl) size_ratio (RV.cells_one _) ?_; rintro z156 zm zs zb; have hbn : Below z149.heap.size z149 z156 := below_mv HSW.out zm GE.out HSW.out.size; replace HSW : Sl (Below z149.heap.size z149 z156) := ⟨hbn⟩; refine hK.out _ _ hbn (fun hHeld => ?_); clear hK K hbn zm zs; simp only [Act.put, List.setIfInBounds_toArray, List.set_cons_zero, List.set_cons_succ]; refine wpAnyH_one 16 rfl (by kernel_rfl) rfl (fun K hK => ?_); go_simp; refine hK.out _ _ HSW.out (fun hHeld => ?_); clear hK K
                    (try simp only [Act.put, List.setIfInBounds_toArray, List.set_cons_zero, List.set_cons_succ])
                    exact wpAnyH_done (by kernel_rfl) ⟨gn, rfl, HSW.out, GE.out, zb⟩ _
                case hrest =>
                  rintro gV w157 ⟨hb, hge, zb⟩; replace ORD : Sl (w.heap.size ≤ gT ∧ gT < gA ∧ gA < gL ∧ gL < gS ∧ gS < gP ∧ gP < gQ ∧ gQ < gU ∧ gU < gV) := ⟨by have := HB.out.size; have := ORD.out; have := XT.out.lt; have := XA.out.lt; have := XL.out.lt; have := XS.out.lt; have := XP.out.lt; have := XQ.out.lt; have := XU.out.lt; omega⟩; replace HB := HB.y hb; replace XT := XT.x hb; replace XA := XA.x hb; replace XL := XL.x hb; replace XS := XS.x hb; replace XP := XP.x hb; replace XQ := XQ.x hb; replace XU := XU.x hb; have XV : Sl (Blk w157 gV 35 (nr (t.tp.z k) t.tp.D).cells) := ⟨zb⟩; clear hb hge zb
                  go_wp2_with ((with_reducible show wpList _ _ _ _ _ _); first
                    | (refine wpList_load_whole rfl 35 (.tmp 15) rfl gV rfl 35 (nr (t.tp.z k) t.tp.D).cells _ XV.out Tryz.underlying35 rfl size_ratio ?_))
                  obtain ⟨fv, hfv⟩ := HFO.out; have HFV : Sl _ := ⟨hfv⟩; clear hfv; refine (HFV.out _).mono ?_; rintro e w158 ⟨rfl, hb⟩; replace HB := HB.y hb; replace XT := XT.x hb; replace XA := XA.x hb; replace XL := XL.x hb; replace XS := XS.x hb; replace XP := XP.x hb; replace XQ := XQ.x hb; replace XU := XU.x hb; replace XV := XV.x hb; clear hb
                  go_wp2_with ((with_reducible show wpList _ _ _ _ _ _); first
                    | (refine wpList_alloc_new 17 rfl rfl 35 rfl RVzero.cells alloc_ratio ?_; rintro w159 gZ zg zm zs zb; replace ORD : Sl (w.heap.size ≤ gT ∧ gT < gA ∧ gA < gL ∧ gL < gS ∧ gS < gP ∧ gP < gQ ∧ gQ < gU ∧ gU < gV ∧ gV < gZ) := ⟨by have := HB.out.size; have := ORD.out; have := XT.out.lt; have := XA.out.lt; have := XL.out.lt; have := XS.out.lt; have := XP.out.lt; have := XQ.out.lt; have := XU.out.lt; have := XV.out.lt; omega⟩; replace HB := HB.v zm (by have := HB.out.size; have := ORD.out; omega); replace XT := XT.w zm (by have := XT.out.lt; have := ORD.out; omega); replace XA := XA.w zm (by have := XA.out.lt; have := ORD.out; omega); replace XL := XL.w zm (by have := XL.out.lt; have := ORD.out; omega); replace XS := XS.w zm (by have := XS.out.lt; have := ORD.out; omega); replace XP := XP.w zm (by have := XP.out.lt; have := ORD.out; omega); replace XQ := XQ.w zm (by have := XQ.out.lt; have := ORD.out; omega); replace XU := XU.w zm (by have := XU.out.lt; have := ORD.out; omega); replace XV := XV.w zm (by have := XV.out.lt; have := ORD.out; omega); have XZ : Sl (Blk w159 gZ 35 RVzero.cells) := ⟨zb⟩; clear zg zm zs zb)
                    | (refine wpList_store_whole rfl 35 (.tmp 17) (.tmp 129) rfl gZ rq.cells rfl rfl 35 RVzero.cells XZ.out rfl size_ratio (RV.cells_one _) ?_; rintro w160 zm zs zb; replace HB := HB.v zm (by have := HB.out.size; have := ORD.out; omega); replace XT := XT.w zm (by have := XT.out.lt; have := ORD.out; omega); replace XA := XA.w zm (by have := XA.out.lt; have := ORD.out; omega); replace XL := XL.w zm (by have := XL.out.lt; have := ORD.out; omega); replace XS := XS.w zm (by have := XS.out.lt; have := ORD.out; omega); replace XP := XP.w zm (by have := XP.out.lt; have := ORD.out; omega); replace XQ := XQ.w zm (by have := XQ.out.lt; have := ORD.out; omega); replace XU := XU.w zm (by have := XU.out.lt; have := ORD.out; omega); replace XV := XV.w zm (by have := XV.out.lt; have := ORD.out; omega); replace XZ : Sl (Blk w160 gZ 35 rq.cells) := ⟨zb⟩; clear zm zs zb))
                  have hd7 := rq.d_cell; have he7 := rq.ext06; have hen7 := fun W => eq_nums W rq
                  have hm : Mv w160.heap.size w160 w160.drew := Mv.drew _ _; have hs : RowKit.Below w160.heap.size w160 w160.drew := below_drewN (Below.refl _ _) 1; have HSW : Sl _ := ⟨hs⟩; clear hs; refine wp_region_held_drew (S := fun w' => Mv w160.heap.size w160 w') (by kernel_rfl) hm (fun hHeld => ?_); clear hm; refine wpAnyH_pure 0 (v := .int .i64 0) rfl (by kernel_rfl) (by kernel_rfl) (by kernel_rfl) (fun _ _ _ h => h) rfl (fun _ => rfl) (by assumption) ?_; simp only [Act.put, List.setIfInBounds_toArray, List.set_cons_zero, List.set_cons_succ]; refine wpAnyH_pure 1 (v := .bool false) rfl (by kernel_rfl) (by kernel_rfl) (by kernel_rfl) (fun _ _ _ h => h) rfl (fun _ => by go_simp) (by assumption) ?_; simp only [Act.put, List.setIfInBounds_toArray, List.set_cons_zero, List.set_cons_succ]; refine wpAnyH_pure 2 (v := .bool false) rfl (by kernel_rfl) (by kernel_rfl) (by kernel_rfl) (fun _ _ _ h => h) rfl (fun _ => rfl) (by assumption) ?_; simp only [Act.put, List.setIfInBounds_toArray, List.set_cons_zero, List.set_cons_succ]; refine wpAnyH_pureg 3 (v := .int .i64 0) rfl (by kernel_rfl) (by kernel_rfl) (by kernel_rfl) (fun _ _ _ h => h) (by rfl) (fun _ => rfl) (by assumption) ?_; simp only [Act.put, List.setIfInBounds_toArray, List.set_cons_zero, List.set_cons_succ]; refine wpAnyH_pureg 4 (v := .bool false) rfl (by kernel_rfl) (by kernel_rfl) (by kernel_rfl) (fun _ _ _ h => h) (by rfl) (fun _ => by go_simp) (by assumption) ?_; simp only [Act.put, List.setIfInBounds_toArray, List.set_cons_zero, List.set_cons_succ]; refine wpAnyH_pure 5 (v := .bool false) rfl (by kernel_rfl) (by kernel_rfl) (by kernel_rfl) (fun _ _ _ h => h) rfl (fun _ => by go_simp) (by assumption) ?_; simp only [Act.put, List.setIfInBounds_toArray, List.set_cons_zero, List.set_cons_succ]; refine wpAnyH_pure 6 (v := .bool false) rfl (by kernel_rfl) (by kernel_rfl) (by kernel_rfl) (fun _ _ _ h => h) rfl (fun _ => rfl) (by assumption) ?_; simp only [Act.put, List.setIfInBounds_toArray, List.set_cons_zero, List.set_cons_succ]
                  refine wpAnyH_loadg 7 35 (.tmp 17) rfl rfl (by rfl) gZ (0) rfl rq.cells _ (fun w' h => by
                    have e := XZ.out.mv h (by have := XZ.out.lt; (try have := ORD.out); omega)
                    exact e.all) Tryz.underlying35 rfl size_ratio (by kernel_rfl) (by kernel_rfl) (by kernel_rfl) (fun _ _ _ h => h) (by assumption) ?_
                  simp only [Act.put, List.setIfInBounds_toArray, List.set_cons_zero, List.set_cons_succ]; refine wpAnyH_pureg 8 (v := .slice (some ⟨gL, 0, none⟩) 12 12) rfl (by kernel_rfl) (by kernel_rfl) (by kernel_rfl) (fun _ _ _ h => h) (by rfl) (fun _ => rfl) (by assumption) ?_; simp only [Act.put, List.setIfInBounds_toArray, List.set_cons_zero, List.set_cons_succ]; refine wpAnyH_pureg 9 (v := .int .i64 (k : Int)) rfl (by kernel_rfl) (by kernel_rfl) (by kernel_rfl) (fun _ _ _ h => h) (by rfl) (fun _ => rfl) (by assumption) ?_; simp only [Act.put, List.setIfInBounds_toArray, List.set_cons_zero, List.set_cons_succ]; refine wpAnyH_pureg 10 (v := .int .i64 ((k : Int) + 1)) rfl (by kernel_rfl) (by kernel_rfl) (by kernel_rfl) (fun _ _ _ h => h) (by rfl) (fun _ => by go_simp) (by assumption) ?_; simp only [Act.put, List.setIfInBounds_toArray, List.set_cons_zero, List.set_cons_succ]; refine wpAnyH_pureg 11 (v := .int .i64 (7 * ((k : Int) + 1))) rfl (by kernel_rfl) (by kernel_rfl) (by kernel_rfl) (fun _ _ _ h => h) (by rfl) (fun _ => by go_simp) (by assumption) ?_; simp only [Act.put, List.setIfInBounds_toArray, List.set_cons_zero, List.set_cons_succ]; refine wpAnyH_pureg 12 (v := .int .i64 (q : Int)) rfl (by kernel_rfl) (by kernel_rfl) (by kernel_rfl) (fun _ _ _ h => h) (by rfl) (fun _ => by go_simp) (by assumption) ?_; simp only [Act.put, List.setIfInBounds_toArray, List.set_cons_zero, List.set_cons_succ]; refine wpAnyH_pureg 13 (v := .pointer (some ⟨gL, q * 7, none⟩)) rfl (by kernel_rfl) (by kernel_rfl) (by kernel_rfl) (fun _ _ _ h => h) (by rfl) (fun _ => by go_simp) (by assumption) ?_; simp only [Act.put, List.setIfInBounds_toArray, List.set_cons_zero, List.set_cons_succ]
                  refine wpAnyH_loadg 14 35 (.tmp 145) rfl rfl (by rfl) gL (q * 7) rfl rq.cells _ (fun w' h => by
                    have e := XL.out.mv h (by have := XL.out.lt; (try have := ORD.out); omega); have e2 := e.atR hq12; rw [HNP.out.2] at e2
                    exact e2) Tryz.underlying35 rfl size_ratio (by kernel_rfl) (by kernel_rfl) (by kernel_rfl) (fun _ _ _ h => h) (by assumption) ?_
                  simp only [Act.put, List.setIfInBounds_toArray, List.set_cons_zero, List.set_cons_succ]; refine wpAnyH_pureg 15 (v := .bool false) rfl (by kernel_rfl) (by kernel_rfl) (by kernel_rfl) (fun _ _ _ h => h) (by rfl) (fun _ => by go_simp) (by assumption) ?_; simp only [Act.put, List.setIfInBounds_toArray, List.set_cons_zero, List.set_cons_succ]; refine wpAnyH_pure 16 (v := .bool false) rfl (by kernel_rfl) (by kernel_rfl) (by kernel_rfl) (fun _ _ _ h => h) rfl (fun _ => by go_simp) (by assumption) ?_; simp only [Act.put, List.setIfInBounds_toArray, List.set_cons_zero, List.set_cons_succ]; refine wpAnyH_done (by kernel_rfl) ?_ _; replace HB : Sl (Below w.heap.size w w160.drew) := ⟨HB.out.trans (HSW.out.mono HB.out.size)⟩; replace XT := XT.x HSW.out; replace XA := XA.x HSW.out; replace XL := XL.x HSW.out; replace XS := XS.x HSW.out; replace XP := XP.x HSW.out; replace XQ := XQ.x HSW.out; replace XU := XU.x HSW.out; replace XV := XV.x HSW.out; replace XZ := XZ.x HSW.out; clear HSW; (try clear hHeld); go_wp2_with fail; exact ⟨⟨k + 1, hk12, by go_num, HB, XT, XA, XL, XS⟩, by simp [RowKit.intOf]; omega⟩
      · obtain rfl : k = 12 := by omega
        generalize hr12 : nr (t.tp.S 12) t.tp.D = r12 at *
        clear hr12 hk hk12; have hd6 := r12.d_cell; have he6 := r12.ext06; have hen := fun W => eq_nums W r12
        go_wp2_with fail; have hm : Mv wr.heap.size wr wr.drew := Mv.drew _ _; have hs : RowKit.Below wr.heap.size wr wr.drew := below_drewN (Below.refl _ _) 1; have HSW : Sl _ := ⟨hs⟩; clear hs; refine wp_region_held_drew (S := fun w' => Mv wr.heap.size wr w') (by kernel_rfl) hm (fun hHeld => ?_); clear hm
        refine wpAnyH_load 0 35 (.tmp 7) rfl rfl rfl gS (0) rfl r12.cells _ (fun w' h => by
          have e := XS.out.mv h (by have := XS.out.lt; (try have := ORD.out); omega)
          exact e.all) Tryz.underlying35 rfl size_ratio (by kernel_rfl) (by kernel_rfl) (by kernel_rfl) (fun _ _ _ h => h) (by assumption) ?_
        simp only [Act.put, List.setIfInBounds_toArray, List.set_cons_zero, List.set_cons_succ]; refine wpAnyH_one 1 rfl (by kernel_rfl) rfl (fun K hK => ?_); go_simp; go_at_call 12
        (with_reducible refine (HC7.out _).mono ?_)
        rintro e z262 ⟨rfl, hb⟩; replace HSW := HSW.y hb; refine hK.out _ _ (Mv.below HSW.out) (fun hHeld => ?_); clear hK K hb
        (try simp only [Act.put, List.setIfInBounds_toArray, List.set_cons_zero, List.set_cons_succ])
        refine wpAnyH_pure 2 (v := .bool true) rfl (by kernel_rfl) (by kernel_rfl) (by kernel_rfl) (fun _ _ _ h => h) rfl (fun _ => by go_simp) (by assumption) ?_; simp only [Act.put, List.setIfInBounds_toArray, List.set_cons_zero, List.set_cons_succ]; refine wpAnyH_pure 3 (v := .bool true) rfl (by kernel_rfl) (by kernel_rfl) (by kernel_rfl) (fun _ _ _ h => h) rfl (fun _ => rfl) (by assumption) ?_; simp only [Act.put, List.setIfInBounds_toArray, List.set_cons_zero, List.set_cons_succ]; refine wpAnyH_onew 4 rfl (by kernel_rfl) (by rfl) (fun K hK => ?_); go_simp; go_at_call 9
        (with_reducible refine (HAW.out _ (HT.out.below (HB.out.trans (HSW.out.mono HB.out.size)))).mono ?_)
        rintro e z263 ⟨rfl, hb⟩; replace HSW := HSW.y hb; refine hK.out _ _ (Mv.below HSW.out) (fun hHeld => ?_); clear hK K hb
        (try simp only [Act.put, List.setIfInBounds_toArray, List.set_cons_zero, List.set_cons_succ])
        refine wpAnyH_pure 5 (v := .bool true) rfl (by kernel_rfl) (by kernel_rfl) (by kernel_rfl) (fun _ _ _ h => h) rfl (fun _ => by go_simp) (by assumption) ?_; simp only [Act.put, List.setIfInBounds_toArray, List.set_cons_zero, List.set_cons_succ]; refine wpAnyH_pure 6 (v := .bool true) rfl (by kernel_rfl) (by kernel_rfl) (by kernel_rfl) (fun _ _ _ h => h) rfl (fun _ => rfl) (by assumption) ?_; simp only [Act.put, List.setIfInBounds_toArray, List.set_cons_zero, List.set_cons_succ]; refine wpAnyH_done (by kernel_rfl) ?_ _; replace HB := HB.y HSW.out; replace XT := XT.x HSW.out; replace XA := XA.x HSW.out; replace XL := XL.x HSW.out; replace XS := XS.x HSW.out; clear HSW; (try clear hHeld); go_wp2_with fail; go_ret; exact ⟨rfl, HB.out⟩
  · have hz : ((c : Int) != 0) = true := by rw [bne_iff_ne]; exact h0
    go_wp2_with fail; refine (HAW.out _ (HT.out.below HB.out)).mono ?_; rintro e w365 ⟨rfl, hb⟩; replace HB := HB.y hb; replace XT := XT.x hb; clear hb; go_wp2_with fail; go_ret; exact ⟨rfl, HB.out⟩
end Go.Proofs.YtmcoadmnkelkkaaGreatDoor
