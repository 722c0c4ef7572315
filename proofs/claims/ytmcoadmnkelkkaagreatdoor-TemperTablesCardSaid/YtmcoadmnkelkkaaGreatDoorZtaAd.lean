/- Plain law: the ratio of two whole numbers is that of their quotients by a common divisor. No program in sight. -/
import Derived.Test.YtmcoadmnkelkkaaGreatDoorZtaAc
import Derived.Test.YtmcoadmnkelkkaaGreatDoorRatJ
namespace Go.Proofs.YtmcoadmnkelkkaaGreatDoor
set_option linter.unusedSimpArgs false
set_option linter.unusedVariables false
theorem prime_div : ∀ d, d ≤ 13 → ∀ i, i < 6 → d ∣ prime i → d = 1 ∨ d = prime i := by decide
theorem prime_cop {i a : Nat} (hi : i < 6) (h : ¬ prime i ∣ a) : Nat.gcd (prime i) a = 1 := by
  have hp := prime_two hi; have h1 := Nat.gcd_dvd_left (prime i) a; have h2 := Nat.le_of_dvd (by omega) h1; rcases prime_div _ (by omega) i hi h1 with h3 | h3
  · exact h3
  · exact absurd (h3 ▸ Nat.gcd_dvd_right (prime i) a) h
theorem vb_split {i n : Nat} (hi : i < 6) (hn : 0 < n) : ∃ m, n = prime i ^ vb (prime i) n * m ∧ 0 < m ∧ Nat.gcd (prime i) m = 1 ∧ n / prime i ^ vb (prime i) n = m := by
  have hp := prime_two hi; obtain ⟨h1, h2⟩ := vb_dvd hp.1 n hn; have hpp : 0 < prime i ^ vb (prime i) n := Nat.pow_pos (by omega); have hm : 0 < n / prime i ^ vb (prime i) n := Nat.div_pos (Nat.le_of_dvd hn h1) hpp; refine ⟨_, (Nat.mul_div_cancel' h1).symm, hm, prime_cop hi fun hd => ?_, rfl⟩; rw [vb_div hp.1 hm, if_pos (Nat.mod_eq_zero_of_dvd hd)] at h2; omega
theorem vb_times {i a b : Nat} (hi : i < 6) (ha : 0 < a) (hb : 0 < b) : vb (prime i) (a * b) = vb (prime i) a + vb (prime i) b ∧ a * b / prime i ^ vb (prime i) (a * b) = (a / prime i ^ vb (prime i) a) * (b / prime i ^ vb (prime i) b) := by
  have hp := prime_two hi; obtain ⟨m, e1, m0, m1, m2⟩ := vb_split hi ha; obtain ⟨n, f1, n0, n1, n2⟩ := vb_split hi hb
  have e : a * b = prime i ^ (vb (prime i) a + vb (prime i) b) * (m * n) := by
    rw [Nat.pow_add]
    calc a * b = (prime i ^ vb (prime i) a * m) * (prime i ^ vb (prime i) b * n) := by rw [← e1, ← f1]
      _ = _ := by ac_rfl
  have hv : vb (prime i) (a * b) = vb (prime i) a + vb (prime i) b := by
    rw [e]; exact vb_pow hp.1 (Nat.mul_pos m0 n0) (Nat.Coprime.mul_right m1 n1) _
  refine ⟨hv, ?_⟩; rw [m2, n2, hv]; rw [e]; exact Nat.mul_div_cancel_left _ (Nat.pow_pos (by omega))
theorem stripN_times {a b : Nat} (ha : 0 < a) (hb : 0 < b) : ∀ {i : Nat}, i ≤ 6 → stripN (a * b) i = stripN a i * stripN b i
  | 0, _ => rfl
  | i+1, hi => by
    have ih := stripN_times ha hb (i := i) (by omega); rw [stripN, stripN, stripN, ih]; exact (vb_times (by omega) (stripN_pos ha (by omega)).1 (stripN_pos hb (by omega)).1).2
theorem ex_times {a b i : Nat} (ha : 0 < a) (hb : 0 < b) (hi : i < 6) : ex (a * b) i = ex a i + ex b i := by
  unfold ex; rw [stripN_times ha hb (by omega)]; exact (vb_times hi (stripN_pos ha (by omega)).1 (stripN_pos hb (by omega)).1).1
theorem stripN_dvd {x : Nat} (hx : 0 < x) : ∀ {i : Nat}, i ≤ 6 → stripN x i ∣ x
  | 0, _ => Nat.dvd_refl _
  | i+1, hi => by
    have ih := stripN_dvd hx (i := i) (by omega); rw [stripN]; exact Nat.dvd_trans (Nat.div_dvd_of_dvd (vb_dvd (prime_two (by omega)).1 _ (stripN_pos hx (by omega)).1).1) ih
theorem of_same {x y : Nat} (hx : 0 < x) (hy : 0 < y) :
    (if stripN (x / Nat.gcd x y) 6 = 1 ∧ stripN (y / Nat.gcd x y) 6 = 1 then (RV.of (ofF (x / Nat.gcd x y) (y / Nat.gcd x y) 6) 1, (0 : Int)) else (RVzero, 7)) =
    (if stripN x 6 = stripN y 6 then (RV.of (ofF x y 6) 1, (0 : Int)) else (RVzero, 7)) := by
  have hg : 0 < Nat.gcd x y := Nat.gcd_pos_of_pos_left _ hx; obtain ⟨a, ha⟩ := Nat.gcd_dvd_left x y; obtain ⟨b, hb⟩ := Nat.gcd_dvd_right x y; have hcop : Nat.gcd (x / Nat.gcd x y) (y / Nat.gcd x y) = 1 := Nat.coprime_div_gcd_div_gcd hg
  have hxa : x / Nat.gcd x y = a := by
    have := congrArg (· / Nat.gcd x y) ha; simpa [Nat.mul_div_cancel_left _ hg] using this
  have hyb : y / Nat.gcd x y = b := by
    have := congrArg (· / Nat.gcd x y) hb; simpa [Nat.mul_div_cancel_left _ hg] using this
  rw [hxa, hyb] at hcop ⊢; generalize Nat.gcd x y = g at *
  have ha0 : 0 < a := Nat.pos_of_ne_zero fun h => by subst h; simp at ha; omega
  have hb0 : 0 < b := Nat.pos_of_ne_zero fun h => by subst h; simp at hb; omega
  have hsx : stripN x 6 = stripN g 6 * stripN a 6 := (by rw [ha, stripN_times hg ha0 (by omega)]); have hsy : stripN y 6 = stripN g 6 * stripN b 6 := (by rw [hb, stripN_times hg hb0 (by omega)])
  have hiff : (stripN a 6 = 1 ∧ stripN b 6 = 1) ↔ stripN x 6 = stripN y 6 := by
    rw [hsx, hsy]; constructor
    · rintro ⟨h1, h2⟩; rw [h1, h2]
    · intro h; have h3 := Nat.eq_of_mul_eq_mul_left (stripN_pos hg (by omega)).1 h; have h4 : stripN a 6 ∣ Nat.gcd a b := Nat.dvd_gcd (stripN_dvd ha0 (by omega)) (by rw [h3]; exact stripN_dvd hb0 (by omega)); rw [hcop] at h4; have h5 := Nat.eq_one_of_dvd_one h4; exact ⟨h5, by rw [← h3]; exact h5⟩
  have hF : RV.of (ofF a b 6) 1 = RV.of (ofF x y 6) 1 := RV.of_congr 1 fun j hj => by
    unfold ofF; rw [if_pos hj, if_pos hj, ha, hb, ex_times hg ha0 hj, ex_times hg hb0 hj]; omega
  by_cases h : stripN x 6 = stripN y 6
  · rw [if_pos (hiff.2 h), if_pos h, hF]
  · rw [if_neg (fun h2 => h (hiff.1 h2)), if_neg h]
end Go.Proofs.YtmcoadmnkelkkaaGreatDoor
namespace Go.Proofs.YtmcoadmnkelkkaaGreatDoor
set_option linter.unusedSimpArgs false
open Go.RowKit
set_option linter.unusedVariables false
set_option maxHeartbeats 6400000 in
set_option maxRecDepth 100000 in
theorem r4Of_good (x y : Nat) (w : World) (hx0 : 0 < x) (hx1 : x ≤ 1000000000000) (hy0 : 0 < y) (hy1 : y ≤ 1000000000000) (s : RV × Int) (hs : (if stripN (x / Nat.gcd x y) 6 = 1 ∧ stripN (y / Nat.gcd x y) 6 = 1 then (RV.of (ofF (x / Nat.gcd x y) (y / Nat.gcd x y) 6) 1, (0 : Int)) else (RVzero, 7)) = s) :
    Calls Tryz.prog 44 #[.int .i64 x, .int .i64 y] w fun e w' => OfRes e s ∧ Below w.heap.size w w' := by
  have HSS : Sl _ := ⟨hs⟩; clear hs; have hG := fun W : World => r4gcd_any x y W (by omega) (by omega)
  have hg0 : 0 < Nat.gcd x y := Nat.gcd_pos_of_pos_left _ hx0; have hgx : Nat.gcd x y ≤ x := Nat.gcd_le_left _ hx0; have hgy : Nat.gcd x y ≤ y := Nat.gcd_le_right _ hy0; generalize Nat.gcd x y = g at *
  have HG : Sl _ := ⟨hG⟩; obtain ⟨x1, hx2⟩ : ∃ x1, x / g = x1 := ⟨_, rfl⟩; obtain ⟨y1, hy2⟩ : ∃ y1, y / g = y1 := ⟨_, rfl⟩; have hxp : 0 < x1 := (by rw [← hx2]; exact Nat.div_pos hgx hg0); have hyp : 0 < y1 := (by rw [← hy2]; exact Nat.div_pos hgy hg0); have hxl : x1 ≤ 1000000000000 := (by have := Nat.div_le_self x g; omega); have hyl : y1 ≤ 1000000000000 := (by have := Nat.div_le_self y g; omega); rw [hx2, hy2] at HSS; have hdx : (x : Int).tdiv (g : Int) = (x1 : Int) := (by rw [Int.tdiv_eq_ediv_of_nonneg (by omega), ← hx2]; rfl); have hdy : (y : Int).tdiv (g : Int) = (y1 : Int) := (by rw [Int.tdiv_eq_ediv_of_nonneg (by omega), ← hy2]; rfl); have hwx : IntKind.i64.wrap (x1 : Int) = (x1 : Int) := (by rw [IntKind.wrap_i64]; omega); have hwy : IntKind.i64.wrap (y1 : Int) = (y1 : Int) := (by rw [IntKind.wrap_i64]; omega); have hgz : ¬ (g = 0) := (by omega); have HXY : Sl _ := ⟨And.intro hxp (And.intro hxl (And.intro hyp hyl))⟩; have X4 := Blk.new w 35 RVzero.cells; have hu := (Below.refl w.heap.size w).alloc (Nat.le_refl _) (.cells RVzero.cells 35); rw [RVzero_cells] at X4 hu; have HU : Sl _ := ⟨And.intro hu X4⟩; have E0 : Sl ((RV.of (ofF x1 y1 0) 1).cells = #[.int .i64 0, .int .i64 0, .int .i64 0, .int .i64 0, .int .i64 0, .int .i64 0, .int .i64 1]) := ⟨by unfold RV.of RV.cells ofF; simp⟩; clear hG hgx hgy hx2 hy2 hxp hyp hu X4; go_enter Tryz.func44, Tryz.ntmps44; go_wp2_with fail; refine (HG.out _).mono ?_; rintro e w1 ⟨rfl, dn, rfl⟩; clear HG; go_wp2_with fail
  go_quiet (fail)
  have B2 := below_drewN HU.out.1 (dn + nq); have X2 : Blk ((w.alloc (.cells #[.int .i64 0, .int .i64 0, .int .i64 0, .int .i64 0, .int .i64 0, .int .i64 0, .int .i64 0] 35)).drewN (dn + nq)) w.heap.size 35 #[.int .i64 0, .int .i64 0, .int .i64 0, .int .i64 0, .int .i64 0, .int .i64 0, .int .i64 0] := HU.out.2.drewN _; have hsz : ((w.alloc (.cells #[.int .i64 0, .int .i64 0, .int .i64 0, .int .i64 0, .int .i64 0, .int .i64 0, .int .i64 0] 35)).drewN (dn + nq)).heap.size = w.heap.size + 1 := (by simp); rw [drew2]; generalize (w.alloc (.cells #[.int .i64 0, .int .i64 0, .int .i64 0, .int .i64 0, .int .i64 0, .int .i64 0, .int .i64 0] 35)).drewN (dn + nq) = w2 at *
  have hPr := Primes_any (w2.alloc (.cells #[.int .i64 0, .int .i64 0, .int .i64 0, .int .i64 0, .int .i64 0, .int .i64 0, .int .i64 1] 35)); have hsz2 : (w2.alloc (.cells #[.int .i64 0, .int .i64 0, .int .i64 0, .int .i64 0, .int .i64 0, .int .i64 0, .int .i64 1] 35)).heap.size = w.heap.size + 2 := (by simp [hsz]); have X7 := Blk.new w2 35 #[.int .i64 0, .int .i64 0, .int .i64 0, .int .i64 0, .int .i64 0, .int .i64 0, .int .i64 1]; have X8 := Blk.new (w2.alloc (.cells #[.int .i64 0, .int .i64 0, .int .i64 0, .int .i64 0, .int .i64 0, .int .i64 0, .int .i64 1] 35)) 2 primeCells; rw [hsz] at X7; rw [hsz2] at hPr X8; have B3 := (B2.alloc B2.size (.cells #[.int .i64 0, .int .i64 0, .int .i64 0, .int .i64 0, .int .i64 0, .int .i64 0, .int .i64 1] 35)).alloc (by rw [hsz2]; omega) (.cells primeCells 2); have HW : Sl _ := ⟨And.intro B3 (And.intro ((X2.alloc (.cells #[.int .i64 0, .int .i64 0, .int .i64 0, .int .i64 0, .int .i64 0, .int .i64 0, .int .i64 1] 35)).alloc (.cells primeCells 2)) (And.intro (X7.alloc (.cells primeCells 2)) X8))⟩; have HPR : Sl _ := ⟨hPr⟩; clear B2 X2 X7 X8 B3 hPr hsz2 HU; go_wp2_with fail; refine HPR.out.mono ?_; rintro e w3 ⟨rfl, rfl⟩; generalize (w2.alloc (.cells #[.int .i64 0, .int .i64 0, .int .i64 0, .int .i64 0, .int .i64 0, .int .i64 0, .int .i64 1] 35)).alloc (.cells primeCells 2) = w4 at *
  clear HPR hsz; go_wp2_with fail
  go_loopw [0, 1, 9] (fun s0 s1 s9 wr => ∃ (i a b : Nat), i ≤ 6 ∧ s0 = .int .i64 a ∧ s1 = .int .i64 b ∧ s9 = .int .i64 i ∧ Sl (Below w.heap.size w wr ∧ Blk wr w.heap.size 35 RVzero.cells ∧ Blk wr (w.heap.size + 1) 35 (RV.of (ofF x1 y1 i) 1).cells ∧ Blk wr (w.heap.size + 2) 2 primeCells ∧ a = stripN x1 i ∧ b = stripN y1 i)) (fun _ _ s9 _ => 6 - (RowKit.intOf s9).toNat)
  case atStart => exact ⟨0, x1, y1, by decide, rfl, rfl, rfl, ⟨HW.out.1, HW.out.2.1, by rw [E0.out]; exact HW.out.2.2.1, HW.out.2.2.2, rfl, rfl⟩⟩
  case round =>
    clear HW E0; obtain ⟨i, a, b, hi, rfl, rfl, rfl, HR⟩ := hrel; have ha := stripN_pos HXY.out.1 hi; have hb := stripN_pos HXY.out.2.2.1 hi; rw [← HR.out.2.2.2.2.1] at ha; rw [← HR.out.2.2.2.2.2] at hb; have ha1 : a ≤ 1000000000000 := Nat.le_trans ha.2 HXY.out.2.1; have hb1 : b ≤ 1000000000000 := Nat.le_trans hb.2 HXY.out.2.2.2; have ha0 := ha.1; have hb0 := hb.1; clear ha hb
    by_cases hi6 : i < 6
    · obtain ⟨p, hp⟩ : ∃ p, prime i = p := ⟨_, rfl⟩; have hp2 := prime_two hi6; rw [hp] at hp2; have HP : Sl _ := ⟨hp⟩; clear hp; go_wp2_with fail
      go_loopw [0] (fun s0 wq => ∃ (c t : Nat), 0 < c ∧ c ≤ 1000000000000 ∧ s0 = .int .i64 c ∧ Sl (Below w.heap.size w wq ∧ Blk wq w.heap.size 35 RVzero.cells ∧ Blk wq (w.heap.size + 1) 35 (RV.of (fun j => if j = i then (t : Int) else ofF x1 y1 i j) 1).cells ∧ Blk wq (w.heap.size + 2) 2 primeCells ∧ c * p ^ t = a ∧ t + vb p c = vb p a)) (fun s0 _ => (RowKit.intOf s0).toNat)
      case atStart => exact ⟨a, 0, ha0, ha1, rfl, ⟨HR.out.1, HR.out.2.1, by rw [← RV.of_congr 1 (fun j hj => (?_ : ofF x1 y1 i j = if j = i then ((0 : Nat) : Int) else ofF x1 y1 i j))]; exact HR.out.2.2.1; by_cases h : j = i; (subst h; rw [if_pos rfl]; unfold ofF; rw [if_neg (Nat.lt_irrefl _)]; rfl); rw [if_neg h], HR.out.2.2.2.1, by rw [Nat.pow_zero, Nat.mul_one], by omega⟩⟩
      case round =>
        obtain ⟨c, t, hc0, hc1, rfl, HI⟩ := hrel; have hvl : vb p a ≤ 40 := vb_le hp2.1 ha0 ha1; have htl : t ≤ 40 := (by have := HI.out.2.2.2.2.2; omega); have hvd := vb_div hp2.1 hc0
        have hcell : wr.cell? ⟨w.heap.size + 1, i, none⟩ = some (.int .i64 (t : Int)) := by
          rw [HI.out.2.2.1.cell, RV.of_cell _ _ hi6, if_pos rfl]
        have hfz : wr.frozen? ⟨w.heap.size + 1, i, none⟩ = false := HI.out.2.2.1.frozen i; have hpc : wr.cell? ⟨w.heap.size + 2, i, none⟩ = some (.int .i64 (p : Nat)) := (by rw [HI.out.2.2.2.1.cell, primeCells_at hi6, HP.out]); have hmod : (c : Int).tmod (p : Int) = ((c % p : Nat) : Int) := (by rw [Int.tmod_eq_emod_of_nonneg (by omega)]; omega); have hpz : ¬ (p = 0) := (by omega)
        by_cases hm : c % p = 0
        · rw [if_pos hm] at hvd; rw [hm] at hmod; have hdiv : (c : Int).tdiv (p : Int) = ((c / p : Nat) : Int) := (by rw [Int.tdiv_eq_ediv_of_nonneg (by omega)]; rfl); have hq0 : 0 < c / p := Nat.div_pos (Nat.le_of_dvd hc0 (Nat.dvd_of_mod_eq_zero hm)) (by omega); have hq1 : c / p < c := Nat.div_lt_self hc0 (by omega); have hcp : c / p * p = c := Nat.div_mul_cancel (Nat.dvd_of_mod_eq_zero hm); have hP5 := HI.out.2.2.1.set_ i (.int .i64 ((t : Int) + 1)); rw [RV.of_set _ _ _ hi6, RV.of_congr 1 (fun j hj => (?_ : _ = if j = i then ((t + 1 : Nat) : Int) else ofF x1 y1 i j))] at hP5
          rotate_left
          · by_cases h : j = i
            · rw [if_pos h, if_pos h]; omega
            · rw [if_neg h, if_neg h, if_neg h]
          have hne : w.heap.size ≠ w.heap.size + 1 := (by omega); have hne2 : w.heap.size + 2 ≠ w.heap.size + 1 := (by omega); have HN : Sl _ := ⟨And.intro (HI.out.1.setCell (p := ⟨w.heap.size + 1, i, none⟩) (Nat.le_succ _) (.int .i64 ((t : Int) + 1))) (And.intro (HI.out.2.1.far (p := ⟨w.heap.size + 1, i, none⟩) hne (.int .i64 ((t : Int) + 1))) (And.intro hP5 (And.intro (HI.out.2.2.2.1.far (p := ⟨w.heap.size + 1, i, none⟩) hne2 (.int .i64 ((t : Int) + 1))) (And.intro (show c / p * p ^ (t + 1) = a by rw [Nat.pow_succ, Nat.mul_comm (p ^ t), ← Nat.mul_assoc, hcp]; exact HI.out.2.2.2.2.1) (show t + 1 + vb p (c / p) = vb p a by have := HI.out.2.2.2.2.2; omega)))))⟩; clear hvd hm hcp hP5 hne hne2; have hpc2 : (wr.setCell ⟨w.heap.size + 1, i, none⟩ (.int .i64 ((t : Int) + 1))).cell? ⟨w.heap.size + 2, i, none⟩ = some (.int .i64 (p : Nat)) := (by rw [HN.out.2.2.2.1.cell, primeCells_at hi6, HP.out]); generalize c / p = q at *
          go_wp2_with fail; exact ⟨⟨q, t + 1, hq0, by omega, rfl, HN⟩, by simp [RowKit.intOf]; omega⟩
        · rw [if_neg hm] at hvd; have hbq : ((c % p : Nat) : Int) ≠ 0 := (by omega); have hbz : (((c % p : Nat) : Int) == 0) = false := (by rw [beq_eq_false_iff_ne]; exact hbq); have HV : Sl _ := ⟨hvd⟩; clear hvd hm; generalize c % p = q at *
          go_wp2_with fail; have hta : t = vb p a := (by have := HI.out.2.2.2.2.2; rw [HV.out] at this; omega); have hca : c = a / p ^ vb p a := (Nat.div_eq_of_eq_mul_left (Nat.pow_pos (by omega)) (by rw [← hta]; exact HI.out.2.2.2.2.1.symm)).symm; obtain ⟨ea, hea⟩ : ∃ ea, vb p a = ea := ⟨_, rfl⟩; have HQ : Sl _ := ⟨And.intro HI.out.1 (And.intro HI.out.2.1 (And.intro (show Blk wr (w.heap.size + 1) 35 (RV.of (fun j => if j = i then (ea : Int) else ofF x1 y1 i j) 1).cells by rw [← hea, ← hta]; exact HI.out.2.2.1) HI.out.2.2.2.1))⟩; have HCA : Sl _ := ⟨And.intro hca hea⟩; have hel : ea ≤ 40 := (by omega); clear hta hca hea hvl htl hcell hfz hpc hmod hpz hbq hbz HV HI
          go_loopw [1] (fun s0 wq => ∃ (c t : Nat), 0 < c ∧ c ≤ 1000000000000 ∧ s0 = .int .i64 c ∧ Sl (Below w.heap.size w wq ∧ Blk wq w.heap.size 35 RVzero.cells ∧ Blk wq (w.heap.size + 1) 35 (RV.of (fun j => if j = i then ((ea : Int) - (t : Int)) else ofF x1 y1 i j) 1).cells ∧ Blk wq (w.heap.size + 2) 2 primeCells ∧ c * p ^ t = b ∧ t + vb p c = vb p b)) (fun s0 _ => (RowKit.intOf s0).toNat)
          case atStart => exact ⟨b, 0, hb0, hb1, rfl, ⟨HQ.out.1, HQ.out.2.1, by rw [show ((ea : Int) - ((0 : Nat) : Int)) = (ea : Int) by omega]; exact HQ.out.2.2.1, HQ.out.2.2.2, by rw [Nat.pow_zero, Nat.mul_one], by omega⟩⟩
          case round =>
            obtain ⟨c, t, hc0, hc1, rfl, HI⟩ := hrel; have hvl : vb p b ≤ 40 := vb_le hp2.1 hb0 hb1; have htl : t ≤ 40 := (by have := HI.out.2.2.2.2.2; omega); have hvd := vb_div hp2.1 hc0
            have hcell : wr.cell? ⟨w.heap.size + 1, i, none⟩ = some (.int .i64 ((ea : Int) - (t : Int))) := by
              rw [HI.out.2.2.1.cell, RV.of_cell _ _ hi6, if_pos rfl]
            have hfz : wr.frozen? ⟨w.heap.size + 1, i, none⟩ = false := HI.out.2.2.1.frozen i; have hpc : wr.cell? ⟨w.heap.size + 2, i, none⟩ = some (.int .i64 (p : Nat)) := (by rw [HI.out.2.2.2.1.cell, primeCells_at hi6, HP.out]); have hmod : (c : Int).tmod (p : Int) = ((c % p : Nat) : Int) := (by rw [Int.tmod_eq_emod_of_nonneg (by omega)]; omega); have hpz : ¬ (p = 0) := (by omega)
            by_cases hm : c % p = 0
            · rw [if_pos hm] at hvd; rw [hm] at hmod; have hdiv : (c : Int).tdiv (p : Int) = ((c / p : Nat) : Int) := (by rw [Int.tdiv_eq_ediv_of_nonneg (by omega)]; rfl); have hq0 : 0 < c / p := Nat.div_pos (Nat.le_of_dvd hc0 (Nat.dvd_of_mod_eq_zero hm)) (by omega); have hq1 : c / p < c := Nat.div_lt_self hc0 (by omega); have hcp : c / p * p = c := Nat.div_mul_cancel (Nat.dvd_of_mod_eq_zero hm); have hP5 := HI.out.2.2.1.set_ i (.int .i64 ((ea : Int) - (t : Int) - 1)); rw [RV.of_set _ _ _ hi6, RV.of_congr 1 (fun j hj => (?_ : _ = if j = i then ((ea : Int) - ((t + 1 : Nat) : Int)) else ofF x1 y1 i j))] at hP5
              rotate_left
              · by_cases h : j = i
                · rw [if_pos h, if_pos h]; omega
                · rw [if_neg h, if_neg h, if_neg h]
              have hne : w.heap.size ≠ w.heap.size + 1 := (by omega); have hne2 : w.heap.size + 2 ≠ w.heap.size + 1 := (by omega); have HN : Sl _ := ⟨And.intro (HI.out.1.setCell (p := ⟨w.heap.size + 1, i, none⟩) (Nat.le_succ _) (.int .i64 ((ea : Int) - (t : Int) - 1))) (And.intro (HI.out.2.1.far (p := ⟨w.heap.size + 1, i, none⟩) hne (.int .i64 ((ea : Int) - (t : Int) - 1))) (And.intro hP5 (And.intro (HI.out.2.2.2.1.far (p := ⟨w.heap.size + 1, i, none⟩) hne2 (.int .i64 ((ea : Int) - (t : Int) - 1))) (And.intro (show c / p * p ^ (t + 1) = b by rw [Nat.pow_succ, Nat.mul_comm (p ^ t), ← Nat.mul_assoc, hcp]; exact HI.out.2.2.2.2.1) (show t + 1 + vb p (c / p) = vb p b by have := HI.out.2.2.2.2.2; omega)))))⟩; clear hvd hm hcp hP5 hne hne2; have hpc2 : (wr.setCell ⟨w.heap.size + 1, i, none⟩ (.int .i64 ((ea : Int) - (t : Int) - 1))).cell? ⟨w.heap.size + 2, i, none⟩ = some (.int .i64 (p : Nat)) := (by rw [HN.out.2.2.2.1.cell, primeCells_at hi6, HP.out]); generalize c / p = q at *
              go_wp2_with fail; exact ⟨⟨q, t + 1, hq0, by omega, rfl, HN⟩, by simp [RowKit.intOf]; omega⟩
            · rw [if_neg hm] at hvd; have hbq : ((c % p : Nat) : Int) ≠ 0 := (by omega); have hbz : (((c % p : Nat) : Int) == 0) = false := (by rw [beq_eq_false_iff_ne]; exact hbq); have HV : Sl _ := ⟨hvd⟩; clear hvd hm; generalize c % p = q at *
              go_wp2_with fail; have htb : t = vb p b := (by have := HI.out.2.2.2.2.2; rw [HV.out] at this; omega); have hcb : c = b / p ^ vb p b := (Nat.div_eq_of_eq_mul_left (Nat.pow_pos (by omega)) (by rw [← htb]; exact HI.out.2.2.2.2.1.symm)).symm
              have hF : RV.of (fun j => if j = i then (ea : Int) - (t : Int) else ofF x1 y1 i j) 1 = RV.of (ofF x1 y1 (i + 1)) 1 := by
                refine RV.of_congr 1 fun j hj => ?_
                unfold ofF
                by_cases h : j = i
                · rw [if_pos h, h, if_pos (Nat.lt_succ_self i)]; unfold ex; rw [HP.out, ← HR.out.2.2.2.2.1, ← HR.out.2.2.2.2.2, HCA.out.2, htb]
                · rw [if_neg h]
                  by_cases h2 : j < i
                  · rw [if_pos h2, if_pos (by omega)]
                  · rw [if_neg h2, if_neg (by omega)]
              refine ⟨⟨i + 1, _, c, hi6, rfl, rfl, by go_num, ⟨HI.out.1, HI.out.2.1, by rw [← hF]; exact HI.out.2.2.1, HI.out.2.2.2.1, ?_, ?_⟩⟩, by simp [RowKit.intOf]; omega⟩
              · rw [stripN, HP.out, ← HR.out.2.2.2.2.1]; exact HCA.out.1
              · rw [stripN, HP.out, ← HR.out.2.2.2.2.2]; exact hcb
    · obtain rfl : i = 6 := (by omega); clear hi6; have d0 := HR.out.2.1.cell 0; have d1 := HR.out.2.1.cell 1; have d2 := HR.out.2.1.cell 2; have d3 := HR.out.2.1.cell 3; have d4 := HR.out.2.1.cell 4; have d5 := HR.out.2.1.cell 5; have d6 := HR.out.2.1.cell 6; simp [RVzero_cells] at d0 d1 d2 d3 d4 d5 d6; have f0 := HR.out.2.1.frozen 0; have f1 := HR.out.2.1.frozen 1; have f2 := HR.out.2.1.frozen 2; have f3 := HR.out.2.1.frozen 3; have f4 := HR.out.2.1.frozen 4; have f5 := HR.out.2.1.frozen 5; have f6 := HR.out.2.1.frozen 6; have hB := HR.out.1; have hRz := HR.out.2.1; rw [RVzero_cells] at hRz
      by_cases hab : a = 1 ∧ b = 1
      · have HZR : Sl (s = (RV.of (ofF x1 y1 6) 1, 0)) := ⟨by rw [← HSS.out]; exact if_pos (by rw [← HR.out.2.2.2.2.1, ← HR.out.2.2.2.2.2]; exact hab)⟩; obtain ⟨e1, e2⟩ := hab; have g0 : wr.cell? ⟨w.heap.size + 1, 0, none⟩ = some (.int .i64 (ofF x1 y1 6 0)) := (by rw [HR.out.2.2.1.cell, RV.of_cell _ _ (by decide)]); have g1 : wr.cell? ⟨w.heap.size + 1, 1, none⟩ = some (.int .i64 (ofF x1 y1 6 1)) := (by rw [HR.out.2.2.1.cell, RV.of_cell _ _ (by decide)]); have g2 : wr.cell? ⟨w.heap.size + 1, 2, none⟩ = some (.int .i64 (ofF x1 y1 6 2)) := (by rw [HR.out.2.2.1.cell, RV.of_cell _ _ (by decide)]); have g3 : wr.cell? ⟨w.heap.size + 1, 3, none⟩ = some (.int .i64 (ofF x1 y1 6 3)) := (by rw [HR.out.2.2.1.cell, RV.of_cell _ _ (by decide)]); have g4 : wr.cell? ⟨w.heap.size + 1, 4, none⟩ = some (.int .i64 (ofF x1 y1 6 4)) := (by rw [HR.out.2.2.1.cell, RV.of_cell _ _ (by decide)]); have g5 : wr.cell? ⟨w.heap.size + 1, 5, none⟩ = some (.int .i64 (ofF x1 y1 6 5)) := (by rw [HR.out.2.2.1.cell, RV.of_cell _ _ (by decide)]); have g6 : wr.cell? ⟨w.heap.size + 1, 6, none⟩ = some (.int .i64 1) := (by rw [HR.out.2.2.1.cell]; rfl); have hfin : OfRes (.returned (.tuple #[.agg #[.int .i64 (ofF x1 y1 6 0), .int .i64 (ofF x1 y1 6 1), .int .i64 (ofF x1 y1 6 2), .int .i64 (ofF x1 y1 6 3), .int .i64 (ofF x1 y1 6 4), .int .i64 (ofF x1 y1 6 5), .int .i64 1], .int .i64 0])) (RV.of (ofF x1 y1 6) 1, 0) := rfl; have HFIN : Sl _ := ⟨And.intro hfin (And.intro hB hRz)⟩; subst e1 e2; clear hfin hB hRz HR; generalize ofF x1 y1 6 0 = z0 at g0 HFIN; generalize ofF x1 y1 6 1 = z1 at g1 HFIN; generalize ofF x1 y1 6 2 = z2 at g2 HFIN; generalize ofF x1 y1 6 3 = z3 at g3 HFIN; generalize ofF x1 y1 6 4 = z4 at g4 HFIN; generalize ofF x1 y1 6 5 = z5 at g5 HFIN; go_wp2_with fail; refine bodyPost_ret (results_rowR rfl _ _ w.heap.size _ _ _ rfl (HFIN.out.2.2.seven _ _ _ _ _ _ _) Tryz.underlying35 rfl (by kernel_rfl)) rfl ?_; exact ⟨by rw [HZR.out]; exact HFIN.out.1, below_seven HFIN.out.2.1 (Nat.le_refl _) _ _ _ _ _ _ _⟩
      · have HZR : Sl (s = (RVzero, 7)) := ⟨by rw [← HSS.out]; exact if_neg (by rw [← HR.out.2.2.2.2.1, ← HR.out.2.2.2.2.2]; exact hab)⟩; have HFIN : Sl _ := ⟨And.intro hB hRz⟩; clear hB hRz HR
        by_cases e1 : a = 1
        · have hb2 : ((b : Int) == 1) = false := (by rw [beq_eq_false_iff_ne]; omega); clear hab; subst e1; go_wp2_with fail; refine bodyPost_ret (results_rowR rfl _ _ w.heap.size _ _ _ rfl (HFIN.out.2.seven _ _ _ _ _ _ _) Tryz.underlying35 rfl (by kernel_rfl)) rfl ?_; exact ⟨by rw [HZR.out]; rfl, below_seven HFIN.out.1 (Nat.le_refl _) _ _ _ _ _ _ _⟩
        · have ha2 : ((a : Int) == 1) = false := (by rw [beq_eq_false_iff_ne]; omega); clear hab e1; go_wp2_with fail; refine bodyPost_ret (results_rowR rfl _ _ w.heap.size _ _ _ rfl (HFIN.out.2.seven _ _ _ _ _ _ _) Tryz.underlying35 rfl (by kernel_rfl)) rfl ?_; exact ⟨by rw [HZR.out]; rfl, below_seven HFIN.out.1 (Nat.le_refl _) _ _ _ _ _ _ _⟩
end Go.Proofs.YtmcoadmnkelkkaaGreatDoor
namespace Go.Proofs.YtmcoadmnkelkkaaGreatDoor
set_option linter.unusedSimpArgs false
open Go.RowKit
set_option linter.unusedVariables false
set_option maxHeartbeats 3200000 in
set_option maxRecDepth 100000 in
theorem r4Of_any (a b : Int) (w : World) : Calls Tryz.prog 44 #[.int .i64 a, .int .i64 b] w fun e w' => OfRes e (ofS a b) ∧ Below w.heap.size w w' := by
  by_cases h : okN a ∧ okN b
  · obtain ⟨x, rfl⟩ := Int.eq_ofNat_of_zero_le (show 0 ≤ a by have := h.1.1; omega); obtain ⟨y, rfl⟩ := Int.eq_ofNat_of_zero_le (show 0 ≤ b by have := h.2.1; omega); have h1 := h.1.1; have h2 := h.1.2; have h3 := h.2.1; have h4 := h.2.2; refine r4Of_good x y w (by omega) (by omega) (by omega) (by omega) _ ?_; rw [of_same (by omega) (by omega)]; unfold ofS; rw [if_pos h]; simp only [Int.natAbs_natCast]
  · have hs : Sl (ofS a b = (RVzero, 2)) := ⟨by unfold ofS; rw [if_neg h]⟩; have hu := (Below.refl w.heap.size w).alloc (Nat.le_refl _) (.cells RVzero.cells 35); have X4 := Blk.new w 35 RVzero.cells; rw [RVzero_cells] at hu X4; have HU : Sl _ := ⟨And.intro hu X4⟩; clear hu X4; obtain ⟨t, ht⟩ : ∃ t, ofS a b = t := ⟨_, rfl⟩; rw [ht] at hs ⊢; clear ht
    have hcase : (decide (a < 1) || decide (1000000000000 < a) || decide (b < 1) || decide (1000000000000 < b)) = true := by
      unfold okN at h; simp only [Bool.or_eq_true, decide_eq_true_eq]; omega
    clear h
    by_cases g1 : a < 1
    · clear hcase; go_enter Tryz.func44, Tryz.ntmps44; go_wp2_with fail; refine bodyPost_ret (results_rowR rfl _ _ w.heap.size _ _ _ rfl HU.out.2 Tryz.underlying35 rfl (by kernel_rfl)) rfl ?_; exact ⟨by rw [hs.out]; rfl, HU.out.1⟩
    · by_cases g2 : 1000000000000 < a
      · clear hcase; go_enter Tryz.func44, Tryz.ntmps44; go_wp2_with fail; refine bodyPost_ret (results_rowR rfl _ _ w.heap.size _ _ _ rfl HU.out.2 Tryz.underlying35 rfl (by kernel_rfl)) rfl ?_; exact ⟨by rw [hs.out]; rfl, HU.out.1⟩
      · by_cases g3 : b < 1
        · clear hcase; go_enter Tryz.func44, Tryz.ntmps44; go_wp2_with fail; refine bodyPost_ret (results_rowR rfl _ _ w.heap.size _ _ _ rfl HU.out.2 Tryz.underlying35 rfl (by kernel_rfl)) rfl ?_; exact ⟨by rw [hs.out]; rfl, HU.out.1⟩
        · have g4 : 1000000000000 < b := by
            simp only [Bool.or_eq_true, decide_eq_true_eq] at hcase; omega
          clear hcase; go_enter Tryz.func44, Tryz.ntmps44; go_wp2_with fail; refine bodyPost_ret (results_rowR rfl _ _ w.heap.size _ _ _ rfl HU.out.2 Tryz.underlying35 rfl (by kernel_rfl)) rfl ?_; exact ⟨by rw [hs.out]; rfl, HU.out.1⟩
end Go.Proofs.YtmcoadmnkelkkaaGreatDoor
namespace Go.Proofs.YtmcoadmnkelkkaaGreatDoor
set_option linter.unusedSimpArgs false
open Go.RowKit
set_option linter.unusedVariables false
attribute [-simp] Tryz.isAgg35
set_option maxHeartbeats 1600000 in
set_option maxRecDepth 100000 in
theorem r5ratio_any (a b : Int) (r : RV) (w : World) (hr : ofS a b = (r, 0)) : Calls Tryz.prog 48 #[.int .i64 a, .int .i64 b] w fun e w' => e = .returned (.agg r.cells) ∧ Below w.heap.size w w' := by
  have HB : Sl (Below w.heap.size w w) := ⟨Below.refl _ _⟩
  have H : Sl (∀ W : World, Calls Tryz.prog 44 #[.int .i64 a, .int .i64 b] W fun e w' => e = .returned (.tuple #[.agg r.cells, .int .i64 0]) ∧ Below W.heap.size W w') := ⟨fun W => by
    have := r4Of_any a b W; rw [hr] at this
    exact this⟩
  clear hr; go_enter Tryz.func48, Tryz.ntmps48
  go_wp2_with ((with_reducible show wpList _ _ _ _ _ _); first
    | (refine wpList_alloc_new 4 rfl rfl 35 rfl RVzero.cells alloc_ratio ?_; rintro w1 gA zg zm zs zb; have ORD : Sl (w.heap.size ≤ gA) := ⟨by have := HB.out.size; omega⟩; replace HB := HB.v zm (by have := HB.out.size; have := ORD.out; omega); have XA : Sl (Blk w1 gA 35 RVzero.cells) := ⟨zb⟩; clear zg zm zs zb))
  refine (H.out _ ).mono ?_; rintro e w2 ⟨rfl, hb⟩; replace HB := HB.y hb; replace XA := XA.x hb; clear hb
  go_wp2_with ((with_reducible show wpList _ _ _ _ _ _); first
    | (refine wpList_alloc_new 5 rfl rfl 35 rfl RVzero.cells alloc_ratio ?_; rintro w3 gB zg zm zs zb; replace ORD : Sl (w.heap.size ≤ gA ∧ gA < gB) := ⟨by have := HB.out.size; have := ORD.out; have := XA.out.lt; omega⟩; replace HB := HB.v zm (by have := HB.out.size; have := ORD.out; omega); replace XA := XA.w zm (by have := XA.out.lt; have := ORD.out; omega); have XB : Sl (Blk w3 gB 35 RVzero.cells) := ⟨zb⟩; clear zg zm zs zb)
    | (refine wpList_store_whole rfl 35 (.tmp 5) (.tmp 11) rfl gB r.cells rfl rfl 35 RVzero.cells XB.out rfl size_ratio (RV.cells_one _) ?_; rintro w4 zm zs zb; replace HB := HB.v zm (by have := ORD.out; omega); replace XA := XA.w zm (by have := XA.out.lt; have := ORD.out; omega); replace XB : Sl (Blk w4 gB 35 r.cells) := ⟨zb⟩; clear zm zs zb)
    | (refine wpList_load_whole rfl 35 (.tmp 5) rfl gB rfl 35 r.cells _ XB.out Tryz.underlying35 rfl size_ratio ?_)
    | (refine wpList_store_whole rfl 35 (.tmp 4) (.tmp 13) rfl gA r.cells rfl rfl 35 RVzero.cells XA.out rfl size_ratio (RV.cells_one _) ?_; rintro w5 zm zs zb; replace HB := HB.v zm (by have := ORD.out; omega); replace XB := XB.w zm (by have := XB.out.lt; have := ORD.out; omega); replace XA : Sl (Blk w5 gA 35 r.cells) := ⟨zb⟩; clear zm zs zb))
  refine bodyPost_ret (results_cell_row rfl _ _ gA _ _ _ _ rfl XA.out Tryz.underlying35 rfl size_ratio) rfl ?_; exact ⟨rfl, HB.out⟩
set_option maxHeartbeats 1600000 in
set_option maxRecDepth 100000 in
theorem r5mul_any (a b r : RV) (w : World) (hr : joinS a b (1) = (r, 0)) : Calls Tryz.prog 52 #[.agg a.cells, .agg b.cells] w fun e w' => e = .returned (.agg r.cells) ∧ Below w.heap.size w w' := by
  have HB : Sl (Below w.heap.size w w) := ⟨Below.refl _ _⟩
  have H : Sl (∀ W : World, Calls Tryz.prog 13 #[.agg a.cells, .agg b.cells] W fun e w' => e = .returned (.tuple #[.agg r.cells, .int .i64 0]) ∧ Below W.heap.size W w') := ⟨fun W => by
    have := r4Mul_any a b W; rw [hr] at this
    exact this⟩
  clear hr; go_enter Tryz.func52, Tryz.ntmps52
  go_wp2_with ((with_reducible show wpList _ _ _ _ _ _); first
    | (refine wpList_box_new 2 rfl rfl 35 (.tmp 0) rfl a.cells rfl (box_ratio a) ?_; rintro w1 gP zg zm zs zb; have ORD : Sl (w.heap.size ≤ gP) := ⟨by have := HB.out.size; omega⟩; replace HB := HB.v zm (by have := HB.out.size; have := ORD.out; omega); have XP : Sl (Blk w1 gP 35 a.cells) := ⟨zb⟩; clear zg zm zs zb)
    | (refine wpList_box_new 3 rfl rfl 35 (.tmp 1) rfl b.cells rfl (box_ratio b) ?_; rintro w2 gQ zg zm zs zb; replace ORD : Sl (w.heap.size ≤ gP ∧ gP < gQ) := ⟨by have := HB.out.size; have := ORD.out; have := XP.out.lt; omega⟩; replace HB := HB.v zm (by have := HB.out.size; have := ORD.out; omega); replace XP := XP.w zm (by have := XP.out.lt; have := ORD.out; omega); have XQ : Sl (Blk w2 gQ 35 b.cells) := ⟨zb⟩; clear zg zm zs zb)
    | (refine wpList_alloc_new 4 rfl rfl 35 rfl RVzero.cells alloc_ratio ?_; rintro w3 gA zg zm zs zb; replace ORD : Sl (w.heap.size ≤ gP ∧ gP < gQ ∧ gQ < gA) := ⟨by have := HB.out.size; have := ORD.out; have := XP.out.lt; have := XQ.out.lt; omega⟩; replace HB := HB.v zm (by have := HB.out.size; have := ORD.out; omega); replace XP := XP.w zm (by have := XP.out.lt; have := ORD.out; omega); replace XQ := XQ.w zm (by have := XQ.out.lt; have := ORD.out; omega); have XA : Sl (Blk w3 gA 35 RVzero.cells) := ⟨zb⟩; clear zg zm zs zb)
    | (refine wpList_load_whole rfl 35 (.tmp 2) rfl gP rfl 35 a.cells _ XP.out Tryz.underlying35 rfl size_ratio ?_)
    | (refine wpList_load_whole rfl 35 (.tmp 3) rfl gQ rfl 35 b.cells _ XQ.out Tryz.underlying35 rfl size_ratio ?_))
  refine (H.out _).mono ?_; rintro e w4 ⟨rfl, hb⟩; replace HB := HB.y hb; replace XP := XP.x hb; replace XQ := XQ.x hb; replace XA := XA.x hb; clear hb
  go_wp2_with ((with_reducible show wpList _ _ _ _ _ _); first
    | (refine wpList_alloc_new 5 rfl rfl 35 rfl RVzero.cells alloc_ratio ?_; rintro w5 gB zg zm zs zb; replace ORD : Sl (w.heap.size ≤ gP ∧ gP < gQ ∧ gQ < gA ∧ gA < gB) := ⟨by have := HB.out.size; have := ORD.out; have := XP.out.lt; have := XQ.out.lt; have := XA.out.lt; omega⟩; replace HB := HB.v zm (by have := HB.out.size; have := ORD.out; omega); replace XP := XP.w zm (by have := XP.out.lt; have := ORD.out; omega); replace XQ := XQ.w zm (by have := XQ.out.lt; have := ORD.out; omega); replace XA := XA.w zm (by have := XA.out.lt; have := ORD.out; omega); have XB : Sl (Blk w5 gB 35 RVzero.cells) := ⟨zb⟩; clear zg zm zs zb)
    | (refine wpList_store_whole rfl 35 (.tmp 5) (.tmp 11) rfl gB r.cells rfl rfl 35 RVzero.cells XB.out rfl size_ratio (RV.cells_one _) ?_; rintro w6 zm zs zb; replace HB := HB.v zm (by have := ORD.out; omega); replace XP := XP.w zm (by have := XP.out.lt; have := ORD.out; omega); replace XQ := XQ.w zm (by have := XQ.out.lt; have := ORD.out; omega); replace XA := XA.w zm (by have := XA.out.lt; have := ORD.out; omega); replace XB : Sl (Blk w6 gB 35 r.cells) := ⟨zb⟩; clear zm zs zb)
    | (refine wpList_load_whole rfl 35 (.tmp 5) rfl gB rfl 35 r.cells _ XB.out Tryz.underlying35 rfl size_ratio ?_)
    | (refine wpList_store_whole rfl 35 (.tmp 4) (.tmp 13) rfl gA r.cells rfl rfl 35 RVzero.cells XA.out rfl size_ratio (RV.cells_one _) ?_; rintro w7 zm zs zb; replace HB := HB.v zm (by have := ORD.out; omega); replace XP := XP.w zm (by have := XP.out.lt; have := ORD.out; omega); replace XQ := XQ.w zm (by have := XQ.out.lt; have := ORD.out; omega); replace XB := XB.w zm (by have := XB.out.lt; have := ORD.out; omega); replace XA : Sl (Blk w7 gA 35 r.cells) := ⟨zb⟩; clear zm zs zb))
  refine bodyPost_ret (results_cell_row rfl _ _ gA _ _ _ _ rfl XA.out Tryz.underlying35 rfl size_ratio) rfl ?_; exact ⟨rfl, HB.out⟩
set_option maxHeartbeats 1600000 in
set_option maxRecDepth 100000 in
theorem r5div_any (a b r : RV) (w : World) (hr : joinS a b (-1) = (r, 0)) : Calls Tryz.prog 51 #[.agg a.cells, .agg b.cells] w fun e w' => e = .returned (.agg r.cells) ∧ Below w.heap.size w w' := by
  have HB : Sl (Below w.heap.size w w) := ⟨Below.refl _ _⟩
  have H : Sl (∀ W : World, Calls Tryz.prog 93 #[.agg a.cells, .agg b.cells] W fun e w' => e = .returned (.tuple #[.agg r.cells, .int .i64 0]) ∧ Below W.heap.size W w') := ⟨fun W => by
    have := r4Div_any a b W; rw [hr] at this
    exact this⟩
  clear hr; go_enter Tryz.func51, Tryz.ntmps51
  go_wp2_with ((with_reducible show wpList _ _ _ _ _ _); first
    | (refine wpList_box_new 2 rfl rfl 35 (.tmp 0) rfl a.cells rfl (box_ratio a) ?_; rintro w1 gP zg zm zs zb; have ORD : Sl (w.heap.size ≤ gP) := ⟨by have := HB.out.size; omega⟩; replace HB := HB.v zm (by have := HB.out.size; have := ORD.out; omega); have XP : Sl (Blk w1 gP 35 a.cells) := ⟨zb⟩; clear zg zm zs zb)
    | (refine wpList_box_new 3 rfl rfl 35 (.tmp 1) rfl b.cells rfl (box_ratio b) ?_; rintro w2 gQ zg zm zs zb; replace ORD : Sl (w.heap.size ≤ gP ∧ gP < gQ) := ⟨by have := HB.out.size; have := ORD.out; have := XP.out.lt; omega⟩; replace HB := HB.v zm (by have := HB.out.size; have := ORD.out; omega); replace XP := XP.w zm (by have := XP.out.lt; have := ORD.out; omega); have XQ : Sl (Blk w2 gQ 35 b.cells) := ⟨zb⟩; clear zg zm zs zb)
    | (refine wpList_alloc_new 4 rfl rfl 35 rfl RVzero.cells alloc_ratio ?_; rintro w3 gA zg zm zs zb; replace ORD : Sl (w.heap.size ≤ gP ∧ gP < gQ ∧ gQ < gA) := ⟨by have := HB.out.size; have := ORD.out; have := XP.out.lt; have := XQ.out.lt; omega⟩; replace HB := HB.v zm (by have := HB.out.size; have := ORD.out; omega); replace XP := XP.w zm (by have := XP.out.lt; have := ORD.out; omega); replace XQ := XQ.w zm (by have := XQ.out.lt; have := ORD.out; omega); have XA : Sl (Blk w3 gA 35 RVzero.cells) := ⟨zb⟩; clear zg zm zs zb)
    | (refine wpList_load_whole rfl 35 (.tmp 2) rfl gP rfl 35 a.cells _ XP.out Tryz.underlying35 rfl size_ratio ?_)
    | (refine wpList_load_whole rfl 35 (.tmp 3) rfl gQ rfl 35 b.cells _ XQ.out Tryz.underlying35 rfl size_ratio ?_))
  refine (H.out _).mono ?_; rintro e w4 ⟨rfl, hb⟩; replace HB := HB.y hb; replace XP := XP.x hb; replace XQ := XQ.x hb; replace XA := XA.x hb; clear hb
  go_wp2_with ((with_reducible show wpList _ _ _ _ _ _); first
    | (refine wpList_alloc_new 5 rfl rfl 35 rfl RVzero.cells alloc_ratio ?_; rintro w5 gB zg zm zs zb; replace ORD : Sl (w.heap.size ≤ gP ∧ gP < gQ ∧ gQ < gA ∧ gA < gB) := ⟨by have := HB.out.size; have := ORD.out; have := XP.out.lt; have := XQ.out.lt; have := XA.out.lt; omega⟩; replace HB := HB.v zm (by have := HB.out.size; have := ORD.out; omega); replace XP := XP.w zm (by have := XP.out.lt; have := ORD.out; omega); replace XQ := XQ.w zm (by have := XQ.out.lt; have := ORD.out; omega); replace XA := XA.w zm (by have := XA.out.lt; have := ORD.out; omega); have XB : Sl (Blk w5 gB 35 RVzero.cells) := ⟨zb⟩; clear zg zm zs zb)
    | (refine wpList_store_whole rfl 35 (.tmp 5) (.tmp 11) rfl gB r.cells rfl rfl 35 RVzero.cells XB.out rfl size_ratio (RV.cells_one _) ?_; rintro w6 zm zs zb; replace HB := HB.v zm (by have := ORD.out; omega); replace XP := XP.w zm (by have := XP.out.lt; have := ORD.out; omega); replace XQ := XQ.w zm (by have := XQ.out.lt; have := ORD.out; omega); replace XA := XA.w zm (by have := XA.out.lt; have := ORD.out; omega); replace XB : Sl (Blk w6 gB 35 r.cells) := ⟨zb⟩; clear zm zs zb)
    | (refine wpList_load_whole rfl 35 (.tmp 5) rfl gB rfl 35 r.cells _ XB.out Tryz.underlying35 rfl size_ratio ?_)
    | (refine wpList_store_whole rfl 35 (.tmp 4) (.tmp 13) rfl gA r.cells rfl rfl 35 RVzero.cells XA.out rfl size_ratio (RV.cells_one _) ?_; rintro w7 zm zs zb; replace HB := HB.v zm (by have := ORD.out; omega); replace XP := XP.w zm (by have := XP.out.lt; have := ORD.out; omega); replace XQ := XQ.w zm (by have := XQ.out.lt; have := ORD.out; omega); replace XB := XB.w zm (by have := XB.out.lt; have := ORD.out; omega); replace XA : Sl (Blk w7 gA 35 r.cells) := ⟨zb⟩; clear zm zs zb))
  refine bodyPost_ret (results_cell_row rfl _ _ gA _ _ _ _ rfl XA.out Tryz.underlying35 rfl size_ratio) rfl ?_; exact ⟨rfl, HB.out⟩
set_option maxHeartbeats 1600000 in
set_option maxRecDepth 100000 in
theorem r5fold0_any (a r : RV) (k : Int) (w : World) (H : Sl (∀ W : World, Calls Tryz.prog 16 #[.agg a.cells] W fun e w' => e = .returned (.tuple #[.agg r.cells, .int .i64 k, .int .i64 0]) ∧ Below W.heap.size W w')) : Calls Tryz.prog 53 #[.agg a.cells] w fun e w' => e = .returned (.agg r.cells) ∧ Below w.heap.size w w' := by
  have HB : Sl (Below w.heap.size w w) := ⟨Below.refl _ _⟩; go_enter Tryz.func53, Tryz.ntmps53
  go_wp2_with ((with_reducible show wpList _ _ _ _ _ _); first
    | (refine wpList_box_new 1 rfl rfl 35 (.tmp 0) rfl a.cells rfl (box_ratio a) ?_; rintro w1 gP zg zm zs zb; have ORD : Sl (w.heap.size ≤ gP) := ⟨by have := HB.out.size; omega⟩; replace HB := HB.v zm (by have := HB.out.size; have := ORD.out; omega); have XP : Sl (Blk w1 gP 35 a.cells) := ⟨zb⟩; clear zg zm zs zb)
    | (refine wpList_alloc_new 2 rfl rfl 35 rfl RVzero.cells alloc_ratio ?_; rintro w2 gA zg zm zs zb; replace ORD : Sl (w.heap.size ≤ gP ∧ gP < gA) := ⟨by have := HB.out.size; have := ORD.out; have := XP.out.lt; omega⟩; replace HB := HB.v zm (by have := HB.out.size; have := ORD.out; omega); replace XP := XP.w zm (by have := XP.out.lt; have := ORD.out; omega); have XA : Sl (Blk w2 gA 35 RVzero.cells) := ⟨zb⟩; clear zg zm zs zb)
    | (refine wpList_load_whole rfl 35 (.tmp 1) rfl gP rfl 35 a.cells _ XP.out Tryz.underlying35 rfl size_ratio ?_))
  refine (H.out _).mono ?_; rintro e w3 ⟨rfl, hb⟩; replace HB := HB.y hb; replace XP := XP.x hb; replace XA := XA.x hb; clear hb
  go_wp2_with ((with_reducible show wpList _ _ _ _ _ _); first
    | (refine wpList_alloc_new 3 rfl rfl 35 rfl RVzero.cells alloc_ratio ?_; rintro w4 gB zg zm zs zb; replace ORD : Sl (w.heap.size ≤ gP ∧ gP < gA ∧ gA < gB) := ⟨by have := HB.out.size; have := ORD.out; have := XP.out.lt; have := XA.out.lt; omega⟩; replace HB := HB.v zm (by have := HB.out.size; have := ORD.out; omega); replace XP := XP.w zm (by have := XP.out.lt; have := ORD.out; omega); replace XA := XA.w zm (by have := XA.out.lt; have := ORD.out; omega); have XB : Sl (Blk w4 gB 35 RVzero.cells) := ⟨zb⟩; clear zg zm zs zb)
    | (refine wpList_store_whole rfl 35 (.tmp 3) (.tmp 9) rfl gB r.cells rfl rfl 35 RVzero.cells XB.out rfl size_ratio (RV.cells_one _) ?_; rintro w5 zm zs zb; replace HB := HB.v zm (by have := ORD.out; omega); replace XP := XP.w zm (by have := XP.out.lt; have := ORD.out; omega); replace XA := XA.w zm (by have := XA.out.lt; have := ORD.out; omega); replace XB : Sl (Blk w5 gB 35 r.cells) := ⟨zb⟩; clear zm zs zb)
    | (refine wpList_load_whole rfl 35 (.tmp 3) rfl gB rfl 35 r.cells _ XB.out Tryz.underlying35 rfl size_ratio ?_)
    | (refine wpList_store_whole rfl 35 (.tmp 2) (.tmp 12) rfl gA r.cells rfl rfl 35 RVzero.cells XA.out rfl size_ratio (RV.cells_one _) ?_; rintro w6 zm zs zb; replace HB := HB.v zm (by have := ORD.out; omega); replace XP := XP.w zm (by have := XP.out.lt; have := ORD.out; omega); replace XB := XB.w zm (by have := XB.out.lt; have := ORD.out; omega); replace XA : Sl (Blk w6 gA 35 r.cells) := ⟨zb⟩; clear zm zs zb))
  refine bodyPost_ret (results_cell_row rfl _ _ gA _ _ _ _ rfl XA.out Tryz.underlying35 rfl size_ratio) rfl ?_; exact ⟨rfl, HB.out⟩
theorem r5fold_any {u : Nat → Int} {D : Int} (hu : fitsV u D) (hz : fitsV (fol u D) D) (w : World) {w0 : World} (hT : PrT w0) :
    Calls Tryz.prog 53 #[.agg (nr u D).cells] w fun e w' => e = .returned (.agg (nr (fol u D) D).cells) ∧ Below w.heap.size w w' := by
  refine r5fold0_any _ _ (flo u D) w ⟨fun W => ?_⟩; obtain ⟨h1, h2, h3, h4⟩ := fold_flo hu hz hT; have := r4Fold_any (nr u D) (flo u D) W h3 h1 h2; rw [h4] at this; exact this
end Go.Proofs.YtmcoadmnkelkkaaGreatDoor
namespace Go.Proofs.YtmcoadmnkelkkaaGreatDoor
set_option linter.unusedSimpArgs false
open Go.RowKit
set_option linter.unusedVariables false
def BrQ (A : Nat → Act) (F : Nat → World → Prop) : Exit → Act → World → Prop
  | .normal, a, w => ∃ g, a = A g ∧ F g w
  | _, _, _ => False
theorem wp_branch {P : Program} {c : Code} {Q : Exit → Act → World → Prop} {a : Act} {w : World} (F : Nat → World → Prop) {A : Nat → Act} (h2 : c.wp P (BrQ A F) a w) (h1 : ∀ g w', F g w' → Q .normal (A g) w') : c.wp P Q a w :=
  Code.wp_mono (fun e a' w' h => by
    cases e <;> first | exact h.elim | (obtain ⟨g, rfl, hF⟩ := h; exact h1 g w' hF)) h2
section
variable {P : Program} {ops : Array Oper} {Q : Exit → Act → World → Prop} {md : Region.Mode} {S : World → Prop}
theorem wpAnyH_two (i j : Nat) {oi oj : Oper} {fuel : Nat} {listed : Array Bool} {a : Act} {w : World} (hi0 : ops.toList[i]? = some oi) (hj0 : ops.toList[j]? = some oj) (hr : Region.ready md ops listed = [i, j]) (hgi : oi.guard = none) (hgj : oj.guard = none)
    (h1 : ∀ K' : Act → World → Prop, Shut (∀ a w, S w → (S w → wpAnyH P md ops Q S fuel (listed.setIfInBounds i true) a w) → K' a w) → Oper.wp P oi a w K' Q)
    (h2 : ∀ K' : Act → World → Prop, Shut (∀ a w, S w → (S w → wpAnyH P md ops Q S fuel (listed.setIfInBounds j true) a w) → K' a w) → Oper.wp P oj a w K' Q) : wpAnyH P md ops Q S (fuel + 1) listed a w :=
  have hi : ops[i]? = some oi := (by rw [← Array.getElem?_toList]; exact hi0); have hj : ops[j]? = some oj := (by rw [← Array.getElem?_toList]; exact hj0)
  wpAnyH_ready hr (by simp) (AllReadyH.cons hi (fun K' hK => by
    have hw : Region.wanted oi (yielded ops a.tmps) = true := (by simp [Region.wanted, hgi]); rw [if_pos hw]
    exact h1 K' hK) (AllReadyH.cons hj (fun K' hK => by
    have hw : Region.wanted oj (yielded ops a.tmps) = true := (by simp [Region.wanted, hgj]); rw [if_pos hw]
    exact h2 K' hK) AllReadyH.nil))
end
section
variable {P : Program} {op : Oper} {a : Act} {w : World} {K : Act → World → Prop} {Q : Exit → Act → World → Prop}
theorem wp_alloc_new (ty : TypeId) (ho : op.op = .alloc ty) (cells : Array Value)
    (hz : ∀ w, (Instr.alloc ty true (.tuple #[])).run P w = .ok (.pointer (some ⟨w.heap.size, 0, none⟩)) (w.alloc (.cells cells ty)))
    (h : ∀ w' g, g = w.heap.size → Below w.heap.size w w' → w'.heap.size = g + 1 → Blk w' g ty cells → K (a.put op.dst (.pointer (some ⟨g, 0, none⟩))) w') : op.wp P a w K Q := by
  have hrun : (execOp a.eval op).run P w = .ok (.value (.pointer (some ⟨w.heap.size, 0, none⟩))) (w.alloc (.cells cells ty)) := by
    unfold execOp; simp only [ho, Sem.run_bind, hz, Result.andThen_ok, Sem.run_pure]
  unfold Oper.wp; rw [hrun, Oper.upon_value]; exact h _ _ rfl ((Below.refl _ _).alloc (Nat.le_refl _) _) (by simp) (Blk.new w ty cells)
end
end Go.Proofs.YtmcoadmnkelkkaaGreatDoor
namespace Go.Proofs.YtmcoadmnkelkkaaGreatDoor
set_option linter.unusedSimpArgs false
open Go.RowKit
set_option linter.unusedVariables false
attribute [-simp] Tryz.isAgg35 Tryz.isAgg26
set_option maxHeartbeats 6400000 in
set_option maxRecDepth 100000 in
theorem r5comma_any (t : TV) (w : World) : Calls Tryz.prog 15 #[.agg t.cells] w fun e w' => e = .returned (.agg (nr (cmv t.syn) 1).cells) ∧ Below w.heap.size w w' := by
  have HB : Sl (Below w.heap.size w w) := ⟨Below.refl _ _⟩; have HC1 : Sl (∀ W : World, Calls Tryz.prog 48 #[.int .i64 531441, .int .i64 524288] W fun e w' => e = .returned (.agg (nr (cmv false) 1).cells) ∧ Below W.heap.size W w') := ⟨fun W => r5ratio_any _ _ _ W (of_comma false)⟩; have HC2 : Sl (∀ W : World, Calls Tryz.prog 48 #[.int .i64 81, .int .i64 80] W fun e w' => e = .returned (.agg (nr (cmv true) 1).cells) ∧ Below W.heap.size W w') := ⟨fun W => r5ratio_any _ _ _ W (of_comma true)⟩; obtain ⟨syn, hsyn⟩ : ∃ b, t.syn = b := ⟨_, rfl⟩; rw [hsyn]; have HSY : Sl _ := ⟨hsyn⟩; clear hsyn
  cases syn
  · go_enter Tryz.func15, Tryz.ntmps15
    go_wp2_with ((with_reducible show wpList _ _ _ _ _ _); first
      | (refine wpList_box_new 1 rfl rfl 26 (.tmp 0) rfl t.cells rfl (box_temper t) ?_; rintro w1 gT zg zm zs zb; have ORD : Sl (w.heap.size ≤ gT) := ⟨by have := HB.out.size; omega⟩; replace HB := HB.v zm (by have := HB.out.size; have := ORD.out; omega); have XT : Sl (Blk w1 gT 26 t.cells) := ⟨zb⟩; clear zg zm zs zb)
      | (refine wpList_alloc_new 2 rfl rfl 35 rfl RVzero.cells alloc_ratio ?_; rintro w2 gR zg zm zs zb; replace ORD : Sl (w.heap.size ≤ gT ∧ gT < gR) := ⟨by have := HB.out.size; have := ORD.out; have := XT.out.lt; omega⟩; replace HB := HB.v zm (by have := HB.out.size; have := ORD.out; omega); replace XT := XT.w zm (by have := XT.out.lt; have := ORD.out; omega); have XR : Sl (Blk w2 gR 35 RVzero.cells) := ⟨zb⟩; clear zg zm zs zb; have cs1 : w2.cell? ⟨gT, 1, none⟩ = some (.bool t.syn) := XT.out.cell 1; rw [HSY.out] at cs1))
    clear cs1; refine (HC1.out _).mono ?_; rintro e w3 ⟨rfl, hb⟩; replace HB := HB.y hb; replace XT := XT.x hb; replace XR := XR.x hb; clear hb
    go_wp2_with ((with_reducible show wpList _ _ _ _ _ _); first
      | (refine wpList_store_whole rfl 35 (.tmp 2) (.tmp 6) rfl gR (nr (cmv false) 1).cells rfl rfl 35 RVzero.cells XR.out rfl size_ratio (RV.cells_one _) ?_; rintro w4 zm zs zb; replace HB := HB.v zm (by have := ORD.out; omega); replace XT := XT.w zm (by have := XT.out.lt; have := ORD.out; omega); replace XR : Sl (Blk w4 gR 35 (nr (cmv false) 1).cells) := ⟨zb⟩; clear zm zs zb))
    refine bodyPost_ret (results_cell_row rfl _ _ gR _ _ _ _ rfl XR.out Tryz.underlying35 rfl size_ratio) rfl ?_; exact ⟨rfl, HB.out⟩
  · go_enter Tryz.func15, Tryz.ntmps15
    go_wp2_with ((with_reducible show wpList _ _ _ _ _ _); first
      | (refine wpList_box_new 1 rfl rfl 26 (.tmp 0) rfl t.cells rfl (box_temper t) ?_; rintro w15 gT zg zm zs zb; have ORD : Sl (w.heap.size ≤ gT) := ⟨by have := HB.out.size; omega⟩; replace HB := HB.v zm (by have := HB.out.size; have := ORD.out; omega); have XT : Sl (Blk w15 gT 26 t.cells) := ⟨zb⟩; clear zg zm zs zb)
      | (refine wpList_alloc_new 2 rfl rfl 35 rfl RVzero.cells alloc_ratio ?_; rintro w16 gR zg zm zs zb; replace ORD : Sl (w.heap.size ≤ gT ∧ gT < gR) := ⟨by have := HB.out.size; have := ORD.out; have := XT.out.lt; omega⟩; replace HB := HB.v zm (by have := HB.out.size; have := ORD.out; omega); replace XT := XT.w zm (by have := XT.out.lt; have := ORD.out; omega); have XR : Sl (Blk w16 gR 35 RVzero.cells) := ⟨zb⟩; clear zg zm zs zb; have cs1 : w16.cell? ⟨gT, 1, none⟩ = some (.bool t.syn) := XT.out.cell 1; rw [HSY.out] at cs1))
    clear cs1; refine (HC2.out _).mono ?_; rintro e w17 ⟨rfl, hb⟩; replace HB := HB.y hb; replace XT := XT.x hb; replace XR := XR.x hb; clear hb
    go_wp2_with ((with_reducible show wpList _ _ _ _ _ _); first
      | (refine wpList_store_whole rfl 35 (.tmp 2) (.tmp 5) rfl gR (nr (cmv true) 1).cells rfl rfl 35 RVzero.cells XR.out rfl size_ratio (RV.cells_one _) ?_; rintro w18 zm zs zb; replace HB := HB.v zm (by have := ORD.out; omega); replace XT := XT.w zm (by have := XT.out.lt; have := ORD.out; omega); replace XR : Sl (Blk w18 gR 35 (nr (cmv true) 1).cells) := ⟨zb⟩; clear zm zs zb))
    refine bodyPost_ret (results_cell_row rfl _ _ gR _ _ _ _ rfl XR.out Tryz.underlying35 rfl size_ratio) rfl ?_; exact ⟨rfl, HB.out⟩
end Go.Proofs.YtmcoadmnkelkkaaGreatDoor
namespace Go.Proofs.YtmcoadmnkelkkaaGreatDoor
set_option linter.unusedSimpArgs false
open Go.RowKit
set_option linter.unusedVariables false
attribute [-simp] Tryz.isAgg35 Tryz.isAgg26 Tryz.isAgg24 Tryz.isAgg23
theorem make_twelve (w : World) : (Instr.makeSlice 30 (.int .i64 12) (.int .i64 12)).run Tryz.prog w = .ok (.slice (some ⟨w.heap.size, 0, none⟩) 12 12) (w.alloc (.cells (flatR fun _ => RVzero) 35)) := by kernel_rfl
theorem wpList_make_new {P : Program} {ops : Array Oper} {rest : List Oper} {op : Oper} {a : Act} {w : World} {Q : Exit → Act → World → Prop} (k : Tmp) (hdst : op.dst = some k) (hgd : op.guard = none) (t : TypeId) (l c : Operand) (ho : op.op = .makeSlice t l c) (vl vc : Value) (hl : a.eval l = vl) (hc : a.eval c = vc) (n : Nat) (ty : TypeId) (cells : Array Value)
    (hz : ∀ w, (Instr.makeSlice t vl vc).run P w = .ok (.slice (some ⟨w.heap.size, 0, none⟩) n n) (w.alloc (.cells cells ty)))
    (h : ∀ w' g, g = w.heap.size → Mv w.heap.size w w' → w'.heap.size = g + 1 → Blk w' g ty cells → wpList P ops Q rest (a.put op.dst (.slice (some ⟨g, 0, none⟩) n n)) w') : wpList P ops Q (op :: rest) a w := by
  refine wpList_plain hgd fun K hK => ?_
  have hrun : (execOp a.eval op).run P w = .ok (.value (.slice (some ⟨w.heap.size, 0, none⟩) n n)) (w.alloc (.cells cells ty)) := by
    unfold execOp; simp only [ho, hl, hc, Sem.run_bind, hz, Result.andThen_ok, Sem.run_pure]
  unfold Oper.wp; rw [hrun, Oper.upon_value]; exact hK _ _ (h _ _ rfl (Mv.of_below ((Below.refl _ _).alloc (Nat.le_refl _) _)) (by simp) (Blk.new w ty cells))
def FifR (w w' : World) (e : Ending) (t : TV) : Prop :=
  (t.chk nameS ≠ 0 → e = .returned (.tuple #[.slice none 0 0, .int .i64 (t.chk nameS)])) ∧
  (t.chk nameS = 0 → ∃ g, e = .returned (.tuple #[.slice (some ⟨g, 0, none⟩) 12 12, .int .i64 0]) ∧ w.heap.size ≤ g ∧ Blk w' g 35 (flatR fun k => nr (t.tp.f k) t.tp.D))
set_option maxHeartbeats 6400000 in
set_option maxRecDepth 100000 in
theorem r5Fifths_any (t : TV) (hs : t.nm.size ≤ maxLen) (w : World) : Calls Tryz.prog 17 #[.agg t.cells] w fun e w' => FifR w w' e t ∧ Below w.heap.size w w' := by
  have HB : Sl (Below w.heap.size w w) := ⟨Below.refl _ _⟩; have HCK : Sl (∀ W : World, Calls Tryz.prog 8 #[.agg t.cells] W fun e w' => e = .returned (.int .i64 (t.chk nameS)) ∧ Below W.heap.size W w') := ⟨fun W => r5check_any t W hs⟩; clear hs; obtain ⟨c, hc⟩ : ∃ c, t.chk nameS = c := ⟨_, rfl⟩; rw [hc] at HCK; have HC : Sl _ := ⟨hc⟩; clear hc; go_enter Tryz.func17, Tryz.ntmps17
  go_wp2_with ((with_reducible show wpList _ _ _ _ _ _); first
    | (refine wpList_box_new 1 rfl rfl 26 (.tmp 0) rfl t.cells rfl (box_temper t) ?_; rintro w1 gT zg zm zs zb; have ORD : Sl (w.heap.size ≤ gT) := ⟨by have := HB.out.size; omega⟩; replace HB := HB.v zm (by have := HB.out.size; have := ORD.out; omega); have XT : Sl (Blk w1 gT 26 t.cells) := ⟨zb⟩; clear zg zm zs zb)
    | (refine wpList_load_whole rfl 26 (.tmp 1) rfl gT rfl 26 t.cells _ XT.out Tryz.underlying26 rfl (size_temper t) ?_))
  refine (HCK.out _).mono ?_; rintro e w2 ⟨rfl, hb⟩; replace HB := HB.y hb; replace XT := XT.x hb; clear hb
  by_cases h0 : c = 0
  · subst h0; have HTO : Sl _ := ⟨TV.tp_ok HC.out⟩; have HPT : Sl (∀ k, k < 12 → powS (nr (cmv t.syn) 1) (t.num k) (t.den k) = (nr (t.tp.pt k) t.tp.D, 0)) := ⟨fun k hk => TV.part_pow HC.out hk⟩; obtain ⟨W, hW⟩ : ∃ W : Nat, t.wolf = (W : Int) := ⟨t.wolf.toNat, by have := (TV.chk_ok HC.out).1; omega⟩; have hWt : t.tp.w = W := by show t.wolf.toNat = W; rw [hW]; rfl
    have HWT : Sl _ := ⟨And.intro hW hWt⟩; have HW12 : W < 12 := (by have := (TV.chk_ok HC.out).1; omega); clear hW hWt; have HC3 : Sl (∀ W : World, Calls Tryz.prog 48 #[.int .i64 128, .int .i64 1] W fun e w' => e = .returned (.agg (nr (t.tp.rv 0) t.tp.D).cells) ∧ Below W.heap.size W w') := ⟨fun W => r5ratio_any _ _ _ W HTO.out.seven⟩; have HC4 : Sl (∀ W : World, Calls Tryz.prog 48 #[.int .i64 3, .int .i64 2] W fun e w' => e = .returned (.agg (nr (fun j => b32 j * t.tp.D) t.tp.D).cells) ∧ Below W.heap.size W w') := ⟨fun W => r5ratio_any _ _ _ W (fif_up HTO.out.hD.1)⟩
    go_wp2_with ((with_reducible show wpList _ _ _ _ _ _); first
      | (refine wpList_make_new 15 rfl rfl 30 _ _ rfl _ _ rfl rfl 12 35 (flatR fun _ => RVzero) make_twelve ?_; rintro w3 gL zg zm zs zb; replace ORD : Sl (w.heap.size ≤ gT ∧ gT < gL) := ⟨by have := HB.out.size; have := ORD.out; have := XT.out.lt; omega⟩; replace HB := HB.v zm (by have := HB.out.size; have := ORD.out; omega); replace XT := XT.w zm (by have := XT.out.lt; have := ORD.out; omega); have XL : Sl (Blk w3 gL 35 (flatR fun _ => RVzero)) := ⟨zb⟩; clear zg zm zs zb))
    refine (HC3.out _).mono ?_; rintro e w4 ⟨rfl, hb⟩; replace HB := HB.y hb; replace XT := XT.x hb; replace XL := XL.x hb; clear hb
    go_wp2_with ((with_reducible show wpList _ _ _ _ _ _); first
      | (refine wpList_alloc_new 6 rfl rfl 35 rfl RVzero.cells alloc_ratio ?_; rintro w5 gN zg zm zs zb; replace ORD : Sl (w.heap.size ≤ gT ∧ gT < gL ∧ gL < gN) := ⟨by have := HB.out.size; have := ORD.out; have := XT.out.lt; have := XL.out.lt; omega⟩; replace HB := HB.v zm (by have := HB.out.size; have := ORD.out; omega); replace XT := XT.w zm (by have := XT.out.lt; have := ORD.out; omega); replace XL := XL.w zm (by have := XL.out.lt; have := ORD.out; omega); have XN : Sl (Blk w5 gN 35 RVzero.cells) := ⟨zb⟩; clear zg zm zs zb)
      | (refine wpList_store_whole rfl 35 (.tmp 6) (.tmp 16) rfl gN (nr (t.tp.rv 0) t.tp.D).cells rfl rfl 35 RVzero.cells XN.out rfl size_ratio (RV.cells_one _) ?_; rintro w6 zm zs zb; replace HB := HB.v zm (by have := ORD.out; omega); replace XT := XT.w zm (by have := XT.out.lt; have := ORD.out; omega); replace XL := XL.w zm (by have := XL.out.lt; have := ORD.out; omega); replace XN : Sl (Blk w6 gN 35 (nr (t.tp.rv 0) t.tp.D).cells) := ⟨zb⟩; clear zm zs zb))
    go_loopw [7] (fun s7 wr => ∃ k : Nat, k ≤ 12 ∧ s7 = .int .i64 k ∧ Sl (Below w.heap.size w wr) ∧ Sl (Blk wr gT 26 t.cells) ∧ Sl (Blk wr gL 35 (flatR (t.fA k))) ∧ Sl (Blk wr gN 35 (nr (t.tp.rv k) t.tp.D).cells)) (fun s7 _ => 12 - (RowKit.intOf s7).toNat)
    case atStart => exact ⟨0, by decide, rfl, HB, XT, ⟨by rw [TV.fA_zero]; exact XL.out⟩, XN⟩
    case round =>
      clear HB XT XL XN; obtain ⟨k, hk, rfl, HB, XT, XL, XN⟩ := hrel; have cs2 : wr.cell? ⟨gT, 2, none⟩ = some (.int .i64 (W : Int)) := by rw [XT.out.cell 2, t.cell2, HWT.out.1]
      by_cases hk12 : k < 12
      · by_cases hkw : k = W
        · have hne : ((k : Int) == (W : Int)) = true := (by rw [beq_iff_eq]; omega); have hkt : k = t.tp.w := hkw.trans HWT.out.2.symm; have HKT : Sl _ := ⟨hkt⟩; clear hkt hkw; go_wp2_with fail; exact ⟨⟨k + 1, hk12, by go_num, HB, XT, ⟨by rw [TV.fA_wolf t HKT.out]; exact XL.out⟩, ⟨by rw [HKT.out, t.tp.rest_wolf, ← HKT.out]; exact XN.out⟩⟩, by simp [RowKit.intOf]; omega⟩
        · have hne : ((k : Int) == (W : Int)) = false := (by rw [beq_eq_false_iff_ne]; omega); have hkt : k ≠ t.tp.w := fun h => hkw (h.trans HWT.out.2)
          have HKT : Sl _ := ⟨hkt⟩; clear hkt hkw; obtain ⟨n, hn⟩ : ∃ n, t.num k = n := ⟨_, rfl⟩; obtain ⟨d, hd⟩ : ∃ d, t.den k = d := ⟨_, rfl⟩; have hpt := HPT.out k hk12; rw [hn, hd] at hpt
          have HPW : Sl (∀ W : World, Calls Tryz.prog 14 #[.agg (nr (cmv t.syn) 1).cells, .int .i64 n, .int .i64 d] W fun e w' => e = .returned (.tuple #[.agg (nr (t.tp.pt k) t.tp.D).cells, .int .i64 0]) ∧ Below W.heap.size W w') := ⟨fun W => by
            have := r4Pow_any (nr (cmv t.syn) 1) n d W; rw [hpt] at this
            exact this⟩
          have HCO : Sl (∀ W : World, Calls Tryz.prog 15 #[.agg t.cells] W fun e w' => e = .returned (.agg (nr (cmv t.syn) 1).cells) ∧ Below W.heap.size W w') := ⟨fun W => r5comma_any t W⟩; have HCN : Sl (∀ w' : World, Blk w' gT 26 t.cells → w'.cell? ⟨gT, 3 + k * 2, none⟩ = some (.int .i64 n)) := ⟨fun w' h => by rw [h.cell, Nat.mul_comm, t.cell_num hk12, hn]⟩; have HCD : Sl (∀ w' : World, Blk w' gT 26 t.cells → w'.cell? ⟨gT, 3 + k * 2 + 1, none⟩ = some (.int .i64 d)) := ⟨fun w' h => by rw [h.cell, Nat.mul_comm, t.cell_den hk12, hd]⟩; have hk1 : (0 : Int) ≤ (k : Int) := (by omega); have hk2 : (k : Int) < 12 := (by omega); clear hn hd hpt; go_wp2_with fail; clear cs2; refine' wp_branch (fun g w' => Below wr.heap.size wr w' ∧ wr.heap.size ≤ g ∧ Blk w' g 35 (nr (t.tp.pt k) t.tp.D).cells) ?hreg ?hrest
          case hreg =>
            have hm : Below wr.heap.size wr wr.drew := below_drewN (Below.refl _ _) 1; have HSW : Sl _ := ⟨hm⟩; refine wp_region_held_drew (S := fun w' => Below wr.heap.size wr w') (by kernel_rfl) hm (fun hHeld => ?_); clear hm
            refine wpAnyH_load 0 26 (.tmp 1) rfl rfl rfl gT (0) rfl t.cells _ (fun w' h => by
              have e := XT.out.below h XT.out.lt
              exact e.all) Tryz.underlying26 rfl (size_temper t) (by kernel_rfl) (by kernel_rfl) (by kernel_rfl) (fun _ _ _ h => h) (by assumption) ?_
            simp only [Act.put, sS0, sS1, sS2]; refine wpAnyH_pure 2 (v := .int .i64 (k : Int)) rfl (by kernel_rfl) (by kernel_rfl) (by kernel_rfl) (fun _ _ _ h => h) rfl (fun _ => rfl) (by assumption) ?_; simp only [Act.put, sS0, sS1, sS2]; refine wpAnyH_pure 3 (v := .pointer (some ⟨gT, 3, none⟩)) rfl (by kernel_rfl) (by kernel_rfl) (by kernel_rfl) (fun _ _ _ h => h) rfl (fun _ => by go_simp) (by assumption) ?_; simp only [Act.put, sS0, sS1, sS2]; refine wpAnyH_pure 4 (v := .pointer (some ⟨gT, 3 + k * 2, none⟩)) rfl (by kernel_rfl) (by kernel_rfl) (by kernel_rfl) (fun _ _ _ h => h) rfl (fun _ => by go_simp) (by assumption) ?_; simp only [Act.put, sS0, sS1, sS2]; refine wpAnyH_pure 5 (v := .pointer (some ⟨gT, 3 + k * 2, none⟩)) rfl (by kernel_rfl) (by kernel_rfl) (by kernel_rfl) (fun _ _ _ h => h) rfl (fun _ => by go_simp) (by assumption) ?_; simp only [Act.put, sS0, sS1, sS2]
            refine wpAnyH_cell 6 (v := .int .i64 n) rfl rfl (fun w' h => by
              have e := HCN.out _ (XT.out.below h XT.out.lt)
              go_simp) (by kernel_rfl) (by kernel_rfl) (by kernel_rfl) (fun _ _ _ h => h) (by assumption) ?_
            simp only [Act.put, sS0, sS1, sS2]; refine wpAnyH_pure 7 (v := .int .i64 (k : Int)) rfl (by kernel_rfl) (by kernel_rfl) (by kernel_rfl) (fun _ _ _ h => h) rfl (fun _ => rfl) (by assumption) ?_; simp only [Act.put, sS0, sS1, sS2]; refine wpAnyH_pure 8 (v := .pointer (some ⟨gT, 3, none⟩)) rfl (by kernel_rfl) (by kernel_rfl) (by kernel_rfl) (fun _ _ _ h => h) rfl (fun _ => by go_simp) (by assumption) ?_; simp only [Act.put, sS0, sS1, sS2]; refine wpAnyH_pure 9 (v := .pointer (some ⟨gT, 3 + k * 2, none⟩)) rfl (by kernel_rfl) (by kernel_rfl) (by kernel_rfl) (fun _ _ _ h => h) rfl (fun _ => by go_simp) (by assumption) ?_; simp only [Act.put, sS0, sS1, sS2]; refine wpAnyH_pure 10 (v := .pointer (some ⟨gT, 3 + k * 2 + 1, none⟩)) rfl (by kernel_rfl) (by kernel_rfl) (by kernel_rfl) (fun _ _ _ h => h) rfl (fun _ => by go_simp) (by assumption) ?_; simp only [Act.put, sS0, sS1, sS2]
            refine wpAnyH_cell 11 (v := .int .i64 d) rfl rfl (fun w' h => by
              have e := HCD.out _ (XT.out.below h XT.out.lt)
              go_simp) (by kernel_rfl) (by kernel_rfl) (by kernel_rfl) (fun _ _ _ h => h) (by assumption) ?_
            simp only [Act.put, sS0, sS1, sS2]; refine wpAnyH_two 1 16 rfl rfl (by kernel_rfl) rfl rfl (fun K hK => ?_) (fun K hK => ?_)
            · skip; go_simp; go_at_call 15
              (with_reducible refine (HCO.out _).mono ?_)
              rintro e z17 ⟨rfl, hb⟩; replace HSW := HSW.y hb; refine hK.out _ _ HSW.out (fun hHeld => ?_); clear hK K hb
              (try simp only [Act.put, sS0, sS1, sS2])
              refine wpAnyH_two 12 16 rfl rfl (by kernel_rfl) rfl rfl (fun K hK => ?_) (fun K hK => ?_)
              · skip; go_simp; go_at_call 14
                (with_reducible refine (HPW.out _).mono ?_)
                rintro e z18 ⟨rfl, hb⟩; replace HSW := HSW.y hb; refine hK.out _ _ HSW.out (fun hHeld => ?_); clear hK K hb
                (try simp only [Act.put, sS0, sS1, sS2])
                refine wpAnyH_pure 13 (v := .tuple #[.agg (nr (t.tp.pt k) t.tp.D).cells, .int .i64 0]) rfl (by kernel_rfl) (by kernel_rfl) (by kernel_rfl) (fun _ _ _ h => h) rfl (fun _ => rfl) (by assumption) ?_; simp only [Act.put, sS0, sS1, sS2]; refine wpAnyH_pure 14 (v := .agg (nr (t.tp.pt k) t.tp.D).cells) rfl (by kernel_rfl) (by kernel_rfl) (by kernel_rfl) (fun _ _ _ h => h) rfl (fun _ => by go_simp) (by assumption) ?_; simp only [Act.put, sS0, sS1, sS2]; refine wpAnyH_pure 15 (v := .int .i64 0) rfl (by kernel_rfl) (by kernel_rfl) (by kernel_rfl) (fun _ _ _ h => h) rfl (fun _ => by go_simp) (by assumption) ?_; simp only [Act.put, sS0, sS1, sS2]; refine wpAnyH_one 16 rfl (by kernel_rfl) rfl (fun K hK => ?_); refine wp_alloc_new 35 rfl RVzero.cells alloc_ratio ?_; rintro z19 gn zg zm zs zb; have GE : Sl (wr.heap.size ≤ gn) := ⟨by have := HSW.out.size; omega⟩; have NB : Sl (Blk z19 gn 35 RVzero.cells) := ⟨zb⟩; replace HSW : Sl (RowKit.Below wr.heap.size wr z19) := ⟨HSW.out.trans (zm.mono HSW.out.size)⟩; refine hK.out _ _ HSW.out (fun hHeld => ?_); clear hK K zg zm zs zb; simp only [Act.put, sS0, sS1, sS2]; refine wpAnyH_one 17 rfl (by kernel_rfl) rfl (fun K hK => ?_); refine wp_store_part 35 (.tmp 8) (.tmp 39) rfl gn 0 (nr (t.tp.pt k) t.tp.D).cells rfl rfl 35 RVzero.cells (nr (t.tp.pt k) t.tp.D).cells NB.out (by rw [RV.cells_size, RV.cells_size]; omega) (putA_all _ _ rfl) size_ratio (RV.cells_one _) ?_; rintro z20 zm zs zb; have hbn : Below wr.heap.size wr z20 := below_mv HSW.out zm GE.out HSW.out.size; replace HSW : Sl (Below wr.heap.size wr z20) := ⟨hbn⟩; refine hK.out _ _ hbn (fun hHeld => ?_); clear hK K hbn zm zs; simp only [Act.put, sS0, sS1, sS2]; refine wpAnyH_one 18 rfl (by kernel_rfl) rfl (fun K hK => ?_); go_simp; refine hK.out _ _ HSW.out (fun hHeld => ?_); clear hK K
                (try simp only [Act.put, sS0, sS1, sS2])
                exact wpAnyH_done (by kernel_rfl) ⟨gn, rfl, HSW.out, GE.out, zb⟩ _
              · skip; refine wp_alloc_new 35 rfl RVzero.cells alloc_ratio ?_; rintro z21 gn zg zm zs zb; have GE : Sl (wr.heap.size ≤ gn) := ⟨by have := HSW.out.size; omega⟩; have NB : Sl (Blk z21 gn 35 RVzero.cells) := ⟨zb⟩; replace HSW : Sl (RowKit.Below wr.heap.size wr z21) := ⟨HSW.out.trans (zm.mono HSW.out.size)⟩; refine hK.out _ _ HSW.out (fun hHeld => ?_); clear hK K zg zm zs zb; simp only [Act.put, sS0, sS1, sS2]; refine wpAnyH_one 12 rfl (by kernel_rfl) rfl (fun K hK => ?_); go_simp; go_at_call 14
                (with_reducible refine (HPW.out _).mono ?_)
                rintro e z22 ⟨rfl, hb⟩; replace HSW := HSW.y hb; replace NB : Sl (Blk z22 gn 35 RVzero.cells) := ⟨NB.out.below hb NB.out.lt⟩; refine hK.out _ _ HSW.out (fun hHeld => ?_); clear hK K hb
                (try simp only [Act.put, sS0, sS1, sS2])
                refine wpAnyH_pure 13 (v := .tuple #[.agg (nr (t.tp.pt k) t.tp.D).cells, .int .i64 0]) rfl (by kernel_rfl) (by kernel_rfl) (by kernel_rfl) (fun _ _ _ h => h) rfl (fun _ => rfl) (by assumption) ?_; simp only [Act.put, sS0, sS1, sS2]; refine wpAnyH_pure 14 (v := .agg (nr (t.tp.pt k) t.tp.D).cells) rfl (by kernel_rfl) (by kernel_rfl) (by kernel_rfl) (fun _ _ _ h => h) rfl (fun _ => by go_simp) (by assumption) ?_; simp only [Act.put, sS0, sS1, sS2]; refine wpAnyH_pure 15 (v := .int .i64 0) rfl (by kernel_rfl) (by kernel_rfl) (by kernel_rfl) (fun _ _ _ h => h) rfl (fun _ => by go_simp) (by assumption) ?_; simp only [Act.put, sS0, sS1, sS2]; refine wpAnyH_one 17 rfl (by kernel_rfl) rfl (fun K hK => ?_); refine wp_store_part 35 (.tmp 8) (.tmp 39) rfl gn 0 (nr (t.tp.pt k) t.tp.D).cells rfl rfl 35 RVzero.cells (nr (t.tp.pt k) t.tp.D).cells NB.out (by rw [RV.cells_size, RV.cells_size]; omega) (putA_all _ _ rfl) size_ratio (RV.cells_one _) ?_; rintro z23 zm zs zb; have hbn : Below wr.heap.size wr z23 := below_mv HSW.out zm GE.out HSW.out.size; replace HSW : Sl (Below wr.heap.size wr z23) := ⟨hbn⟩; refine hK.out _ _ hbn (fun hHeld => ?_); clear hK K hbn zm zs; simp only [Act.put, sS0, sS1, sS2]; refine wpAnyH_one 18 rfl (by kernel_rfl) rfl (fun K hK => ?_); go_simp; refine hK.out _ _ HSW.out (fun hHeld => ?_); clear hK K
                (try simp only [Act.put, sS0, sS1, sS2])
                exact wpAnyH_done (by kernel_rfl) ⟨gn, rfl, HSW.out, GE.out, zb⟩ _
            · skip; refine wp_alloc_new 35 rfl RVzero.cells alloc_ratio ?_; rintro z24 gn zg zm zs zb; have GE : Sl (wr.heap.size ≤ gn) := ⟨by have := HSW.out.size; omega⟩; have NB : Sl (Blk z24 gn 35 RVzero.cells) := ⟨zb⟩; replace HSW : Sl (RowKit.Below wr.heap.size wr z24) := ⟨HSW.out.trans (zm.mono HSW.out.size)⟩; refine hK.out _ _ HSW.out (fun hHeld => ?_); clear hK K zg zm zs zb; simp only [Act.put, sS0, sS1, sS2]; refine wpAnyH_one 1 rfl (by kernel_rfl) rfl (fun K hK => ?_); go_simp; go_at_call 15
              (with_reducible refine (HCO.out _).mono ?_)
              rintro e z25 ⟨rfl, hb⟩; replace HSW := HSW.y hb; replace NB : Sl (Blk z25 gn 35 RVzero.cells) := ⟨NB.out.below hb NB.out.lt⟩; refine hK.out _ _ HSW.out (fun hHeld => ?_); clear hK K hb
              (try simp only [Act.put, sS0, sS1, sS2])
              refine wpAnyH_one 12 rfl (by kernel_rfl) rfl (fun K hK => ?_); go_simp; go_at_call 14
              (with_reducible refine (HPW.out _).mono ?_)
              rintro e z26 ⟨rfl, hb⟩; replace HSW := HSW.y hb; replace NB : Sl (Blk z26 gn 35 RVzero.cells) := ⟨NB.out.below hb NB.out.lt⟩; refine hK.out _ _ HSW.out (fun hHeld => ?_); clear hK K hb
              (try simp only [Act.put, sS0, sS1, sS2])
              refine wpAnyH_pure 13 (v := .tuple #[.agg (nr (t.tp.pt k) t.tp.D).cells, .int .i64 0]) rfl (by kernel_rfl) (by kernel_rfl) (by kernel_rfl) (fun _ _ _ h => h) rfl (fun _ => rfl) (by assumption) ?_; simp only [Act.put, sS0, sS1, sS2]; refine wpAnyH_pure 14 (v := .agg (nr (t.tp.pt k) t.tp.D).cells) rfl (by kernel_rfl) (by kernel_rfl) (by kernel_rfl) (fun _ _ _ h => h) rfl (fun _ => by go_simp) (by assumption) ?_; simp only [Act.put, sS0, sS1, sS2]; refine wpAnyH_pure 15 (v := .int .i64 0) rfl (by kernel_rfl) (by kernel_rfl) (by kernel_rfl) (fun _ _ _ h => h) rfl (fun _ => by go_simp) (by assumption) ?_; simp only [Act.put, sS0, sS1, sS2]; refine wpAnyH_one 17 rfl (by kernel_rfl) rfl (fun K hK => ?_); refine wp_store_part 35 (.tmp 8) (.tmp 39) rfl gn 0 (nr (t.tp.pt k) t.tp.D).cells rfl rfl 35 RVzero.cells (nr (t.tp.pt k) t.tp.D).cells NB.out (by rw [RV.cells_size, RV.cells_size]; omega) (putA_all _ _ rfl) size_ratio (RV.cells_one _) ?_; rintro z27 zm zs zb; have hbn : Below wr.heap.size wr z27 := below_mv HSW.out zm GE.out HSW.out.size; replace HSW : Sl (Below wr.heap.size wr z27) := ⟨hbn⟩; refine hK.out _ _ hbn (fun hHeld => ?_); clear hK K hbn zm zs; simp only [Act.put, sS0, sS1, sS2]; refine wpAnyH_one 18 rfl (by kernel_rfl) rfl (fun K hK => ?_); go_simp; refine hK.out _ _ HSW.out (fun hHeld => ?_); clear hK K
              (try simp only [Act.put, sS0, sS1, sS2])
              exact wpAnyH_done (by kernel_rfl) ⟨gn, rfl, HSW.out, GE.out, zb⟩ _
          case hrest =>
            rintro gQ w28 ⟨hb, hge, zb⟩; replace ORD : Sl (w.heap.size ≤ gT ∧ gT < gL ∧ gL < gN ∧ gN < gQ) := ⟨by have := HB.out.size; have := ORD.out; have := XT.out.lt; have := XL.out.lt; have := XN.out.lt; omega⟩; replace HB := HB.y hb; replace XT := XT.x hb; replace XL := XL.x hb; replace XN := XN.x hb; have XQ : Sl (Blk w28 gQ 35 (nr (t.tp.pt k) t.tp.D).cells) := ⟨zb⟩; clear hb hge zb; go_wp2_with fail; have HOV : Sl (∀ W : World, Calls Tryz.prog 51 #[.agg (nr (fun j => b32 j * t.tp.D) t.tp.D).cells, .agg (nr (t.tp.pt k) t.tp.D).cells] W fun e w' => e = .returned (.agg (nr (t.tp.g k) t.tp.D).cells) ∧ Below W.heap.size W w') := ⟨fun W => r5div_any _ _ _ W (HTO.out.fifth_join hk12 HKT.out)⟩; have hm : Mv gL w28 w28.drew := Mv.drew _ _; have hs : RowKit.Below w28.heap.size w28 w28.drew := below_drewN (Below.refl _ _) 1; have HSW : Sl _ := ⟨hs⟩; clear hs; refine wp_region_held_drew (S := fun w' => Mv gL w28 w') (by kernel_rfl) hm (fun hHeld => ?_); clear hm; refine wpAnyH_pure 0 (v := .slice (some ⟨gL, 0, none⟩) 12 12) rfl (by kernel_rfl) (by kernel_rfl) (by kernel_rfl) (fun _ _ _ h => h) rfl (fun _ => rfl) (by assumption) ?_; simp only [Act.put, sS0, sS1, sS2]; refine wpAnyH_pure 1 (v := .int .i64 (k : Int)) rfl (by kernel_rfl) (by kernel_rfl) (by kernel_rfl) (fun _ _ _ h => h) rfl (fun _ => rfl) (by assumption) ?_; simp only [Act.put, sS0, sS1, sS2]
            refine wpAnyH_load 3 35 (.tmp 8) rfl rfl rfl gQ (0) rfl (nr (t.tp.pt k) t.tp.D).cells _ (fun w' h => by
              have e := XQ.out.mv h (by have := XQ.out.lt; (try have := ORD.out); omega)
              exact e.all) Tryz.underlying35 rfl size_ratio (by kernel_rfl) (by kernel_rfl) (by kernel_rfl) (fun _ _ _ h => h) (by assumption) ?_
            simp only [Act.put, sS0, sS1, sS2]; refine wpAnyH_one 2 rfl (by kernel_rfl) rfl (fun K hK => ?_); go_simp; go_at_call 48
            (with_reducible refine (HC4.out _).mono ?_)
            rintro e z29 ⟨rfl, hb⟩; replace HSW := HSW.y hb; refine hK.out _ _ (Mv.below HSW.out) (fun hHeld => ?_); clear hK K hb
            (try simp only [Act.put, sS0, sS1, sS2])
            refine wpAnyH_one 4 rfl (by kernel_rfl) rfl (fun K hK => ?_); go_simp; go_at_call 51
            (with_reducible refine (HOV.out _).mono ?_)
            rintro e z30 ⟨rfl, hb⟩; replace HSW := HSW.y hb; refine hK.out _ _ (Mv.below HSW.out) (fun hHeld => ?_); clear hK K hb
            (try simp only [Act.put, sS0, sS1, sS2])
            refine wpAnyH_pure 5 (v := .pointer (some ⟨gL, k * 7, none⟩)) rfl (by kernel_rfl) (by kernel_rfl) (by kernel_rfl) (fun _ _ _ h => h) rfl (fun _ => by go_simp) (by assumption) ?_; simp only [Act.put, sS0, sS1, sS2]; refine wpAnyH_one 6 rfl (by kernel_rfl) rfl (fun K hK => ?_); refine wp_store_part 35 (.tmp 46) (.tmp 45) rfl gL (k * 7) (nr (t.tp.g k) t.tp.D).cells rfl rfl 35 (flatR (t.fA k)) (flatR (t.fA (k + 1))) (XL.out.below HSW.out XL.out.lt) (by rw [flatR_size, RV.cells_size]; omega) ((putR _ _ hk12).trans (t.fA_succ HKT.out)) size_ratio (RV.cells_one _) ?_; rintro w31 zm zs zb; refine hK.out _ _ (Mv.trans (Mv.below HSW.out) zm) (fun hHeld => ?_); clear hK K; simp only [Act.put, sS0, sS1, sS2]; refine wpAnyH_done (by kernel_rfl) ?_ _; replace HB := HB.v hHeld (by have := HB.out.size; have := ORD.out; omega); replace XT := XT.w hHeld (by have := XT.out.lt; have := ORD.out; omega); replace XN := XN.w hHeld (by have := XN.out.lt; have := ORD.out; omega); replace XQ := XQ.w hHeld (by have := XQ.out.lt; have := ORD.out; omega); replace XL : Sl (Blk w31 gL 35 (flatR (t.fA (k + 1)))) := ⟨zb⟩; clear zm zs zb HSW; (try clear hHeld); go_wp2_with fail; have hgk : t.fA (k + 1) k = (nr (t.tp.g k) t.tp.D) := (by unfold TV.fA; rw [if_pos ⟨by omega, HKT.out⟩]); have HGJ : Sl _ := ⟨hgk⟩; clear hgk; have HOR : Sl (∀ W : World, Calls Tryz.prog 51 #[.agg (nr (t.tp.rv k) t.tp.D).cells, .agg (nr (t.tp.g k) t.tp.D).cells] W fun e w' => e = .returned (.agg (nr (t.tp.rv (k + 1)) t.tp.D).cells) ∧ Below W.heap.size W w') := ⟨fun W => r5div_any _ _ _ W (HTO.out.rest_join hk12)⟩; have hm : Mv gN w31 w31.drew := Mv.drew _ _; have hs : RowKit.Below w31.heap.size w31 w31.drew := below_drewN (Below.refl _ _) 1; have HSW : Sl _ := ⟨hs⟩; clear hs; refine wp_region_held_drew (S := fun w' => Mv gN w31 w') (by kernel_rfl) hm (fun hHeld => ?_); clear hm; refine wpAnyH_pure 1 (v := .slice (some ⟨gL, 0, none⟩) 12 12) rfl (by kernel_rfl) (by kernel_rfl) (by kernel_rfl) (fun _ _ _ h => h) rfl (fun _ => rfl) (by assumption) ?_; simp only [Act.put, sS0, sS1, sS2]; refine wpAnyH_pure 2 (v := .int .i64 (k : Int)) rfl (by kernel_rfl) (by kernel_rfl) (by kernel_rfl) (fun _ _ _ h => h) rfl (fun _ => rfl) (by assumption) ?_; simp only [Act.put, sS0, sS1, sS2]; refine wpAnyH_pure 3 (v := .pointer (some ⟨gL, k * 7, none⟩)) rfl (by kernel_rfl) (by kernel_rfl) (by kernel_rfl) (fun _ _ _ h => h) rfl (fun _ => by go_simp) (by assumption) ?_; simp only [Act.put, sS0, sS1, sS2]
            refine wpAnyH_load 4 35 (.tmp 50) rfl rfl rfl gL (k * 7) rfl (nr (t.tp.g k) t.tp.D).cells _ (fun w' h => by
              have e := XL.out.mv h (by have := XL.out.lt; (try have := ORD.out); omega); have e2 := e.atR hk12; rw [HGJ.out] at e2
              exact e2) Tryz.underlying35 rfl size_ratio (by kernel_rfl) (by kernel_rfl) (by kernel_rfl) (fun _ _ _ h => h) (by assumption) ?_
            simp only [Act.put, sS0, sS1, sS2]; refine wpAnyH_one 0 rfl (by kernel_rfl) rfl (fun K hK => ?_); refine wp_load_all 35 (.tmp 6) rfl gN rfl 35 (nr (t.tp.rv k) t.tp.D).cells _ (XN.out.below HSW.out XN.out.lt) Tryz.underlying35 rfl size_ratio ?_; refine hK.out _ _ (Mv.below HSW.out) (fun hHeld => ?_); clear hK K; simp only [Act.put, sS0, sS1, sS2]; refine wpAnyH_one 5 rfl (by kernel_rfl) rfl (fun K hK => ?_); go_simp; go_at_call 51
            (with_reducible refine (HOR.out _).mono ?_)
            rintro e z32 ⟨rfl, hb⟩; replace HSW := HSW.y hb; refine hK.out _ _ (Mv.below HSW.out) (fun hHeld => ?_); clear hK K hb
            (try simp only [Act.put, sS0, sS1, sS2])
            refine wpAnyH_one 6 rfl (by kernel_rfl) rfl (fun K hK => ?_); refine wp_store_part 35 (.tmp 6) (.tmp 52) rfl gN (0) (nr (t.tp.rv (k + 1)) t.tp.D).cells rfl rfl 35 (nr (t.tp.rv k) t.tp.D).cells (nr (t.tp.rv (k + 1)) t.tp.D).cells (XN.out.below HSW.out XN.out.lt) (by rw [RV.cells_size, RV.cells_size]; omega) (putA_all _ _ rfl) size_ratio (RV.cells_one _) ?_; rintro w33 zm zs zb; refine hK.out _ _ (Mv.trans (Mv.below HSW.out) zm) (fun hHeld => ?_); clear hK K; simp only [Act.put, sS0, sS1, sS2]; refine wpAnyH_done (by kernel_rfl) ?_ _; replace HB := HB.v hHeld (by have := HB.out.size; have := ORD.out; omega); replace XT := XT.w hHeld (by have := XT.out.lt; have := ORD.out; omega); replace XL := XL.w hHeld (by have := XL.out.lt; have := ORD.out; omega); replace XQ := XQ.w hHeld (by have := XQ.out.lt; have := ORD.out; omega); replace XN : Sl (Blk w33 gN 35 (nr (t.tp.rv (k + 1)) t.tp.D).cells) := ⟨zb⟩; clear zm zs zb HSW; (try clear hHeld); go_wp2_with fail; exact ⟨⟨k + 1, hk12, by go_num, HB, XT, XL, XN⟩, by simp [RowKit.intOf]; omega⟩
      · obtain rfl : k = 12 := (by omega); clear hk12 hk; have hw1 : (0 : Int) ≤ (W : Int) := by omega
        have hw2 : (W : Int) < 12 := (by omega); have hput : putA (flatR (t.fA 12)) (W * 7) (nr (t.tp.rv 12) t.tp.D).cells.toList = flatR (fun k => nr (t.tp.f k) t.tp.D) := (by rw [putR _ _ HW12, ← HWT.out.2]; exact t.fA_end); have HPU : Sl _ := ⟨hput⟩; clear hput
        go_wp2_with ((with_reducible show wpList _ _ _ _ _ _); first
          | (refine wpList_load_whole rfl 35 (.tmp 6) rfl gN rfl 35 (nr (t.tp.rv 12) t.tp.D).cells _ XN.out Tryz.underlying35 rfl size_ratio ?_)
          | (refine wpList_store_part rfl 35 (.tmp 57) (.tmp 56) rfl gL (W * 7) (nr (t.tp.rv 12) t.tp.D).cells rfl rfl 35 (flatR (t.fA 12)) (flatR fun k => nr (t.tp.f k) t.tp.D) XL.out (by rw [flatR_size, RV.cells_size]; omega) HPU.out size_ratio (RV.cells_one _) ?_; rintro w44 zm zs zb; replace HB := HB.v zm (by have := HB.out.size; have := ORD.out; omega); replace XT := XT.w zm (by have := XT.out.lt; have := ORD.out; omega); replace XN := XN.w zm (by have := XN.out.lt; have := ORD.out; omega); replace XL : Sl (Blk w44 gL 35 (flatR fun k => nr (t.tp.f k) t.tp.D)) := ⟨zb⟩; clear zm zs zb))
        go_ret2; exact ⟨⟨fun h => absurd HC.out h, fun _ => ⟨gL, rfl, by have := ORD.out; omega, XL.out⟩⟩, HB.out⟩
  · have hz : ((c : Int) != 0) = true := (by rw [bne_iff_ne]; exact h0); go_wp2_with fail; go_ret2; exact ⟨⟨fun _ => by rw [HC.out]; rfl, fun h => absurd (HC.out.symm.trans h) h0⟩, HB.out⟩
end Go.Proofs.YtmcoadmnkelkkaaGreatDoor
namespace Go.Proofs.YtmcoadmnkelkkaaGreatDoor
set_option linter.unusedSimpArgs false
open Go.RowKit
set_option linter.unusedVariables false
attribute [-simp] Tryz.isAgg35 Tryz.isAgg26 Tryz.isAgg24 Tryz.isAgg23
def TP.u (t : TP) (k j i : Nat) : Int := oct (7 * t.D) i - (t.G j i - t.G k i)
theorem TP.Ok.u_small {t : TP} (h : t.Ok) {k j : Nat} (hkj : k ≤ j) (hj : j ≤ 12) : small (t.u k j) t.D := fun i => by
  have h3 := h.G_le i hkj hj; have hnn := bd_nonneg i h.hD.1; have h5 : ((j - k : Nat) : Int) * (bd i * t.D) ≤ 12 * (bd i * t.D) := Int.mul_le_mul_of_nonneg_right (by omega) hnn; have ho : 0 ≤ oct (7 * t.D) i := (by unfold oct; (have := h.hD; split <;> omega)); unfold TP.u; omega
theorem TP.Ok.u_join {t : TP} (h : t.Ok) {k j : Nat} (hw : t.w < k) (hkj : k ≤ j) (hj : j < 12) : joinS (nr (t.u k j) t.D) (nr (t.f j) t.D) (-1) = (nr (t.u k (j + 1)) t.D, 0) :=
  join_nr ((h.u_small hkj (by omega)).fits h.hD) (h.f_fits hj) ((h.u_small (by omega) (by omega)).fits h.hD) fun i hi => by
    rw [TP.f_ne (by omega)]; unfold TP.u; rw [TP.G]; omega
theorem TP.Ok.u_seven {t : TP} (h : t.Ok) (k : Nat) : ofS 128 1 = (nr (t.u k k) t.D, 0) := by
  rw [h.seven]; have : nr (t.rv 0) t.D = nr (t.u k k) t.D := nr_congr fun i hi => by unfold TP.rv TP.u TP.G; omega
  rw [this]
theorem TP.u_end (t : TP) {k : Nat} (hw : t.w < k) : nr (t.u k 12) t.D = nr (t.S k) t.D := nr_congr fun i hi => by unfold TP.u TP.S; rw [if_neg (by omega)]
def NotR (w w' : World) (e : Ending) (t : TV) : Prop :=
  (t.chk nameS ≠ 0 → e = .returned (.tuple #[.slice none 0 0, .int .i64 (t.chk nameS)])) ∧
  (t.chk nameS = 0 → ∃ g, e = .returned (.tuple #[.slice (some ⟨g, 0, none⟩) 12 12, .int .i64 0]) ∧ w.heap.size ≤ g ∧ Blk w' g 35 (flatR t.N))
set_option maxHeartbeats 6400000 in
set_option maxRecDepth 100000 in
theorem r5Notes_any (t : TV) (hs : t.nm.size ≤ maxLen) {w0 : World} (hT : PrT w0) (w : World) : Calls Tryz.prog 19 #[.agg t.cells] w fun e w' => NotR w w' e t ∧ Below w.heap.size w w' := by
  have HB : Sl (Below w.heap.size w w) := ⟨Below.refl _ _⟩; have HFI : Sl (∀ W : World, Calls Tryz.prog 17 #[.agg t.cells] W fun e w' => FifR W w' e t ∧ Below W.heap.size W w') := ⟨fun W => r5Fifths_any t hs W⟩; have HPT : Sl _ := ⟨hT⟩; clear hs hT; obtain ⟨c, hc⟩ : ∃ c, t.chk nameS = c := ⟨_, rfl⟩; have HC : Sl _ := ⟨hc⟩; clear hc; go_enter Tryz.func19, Tryz.ntmps19
  go_wp2_with ((with_reducible show wpList _ _ _ _ _ _); first
    | (refine wpList_box_new 1 rfl rfl 26 (.tmp 0) rfl t.cells rfl (box_temper t) ?_; rintro w1 gT zg zm zs zb; have ORD : Sl (w.heap.size ≤ gT) := ⟨by have := HB.out.size; omega⟩; replace HB := HB.v zm (by have := HB.out.size; have := ORD.out; omega); have XT : Sl (Blk w1 gT 26 t.cells) := ⟨zb⟩; clear zg zm zs zb)
    | (refine wpList_load_whole rfl 26 (.tmp 1) rfl gT rfl 26 t.cells _ XT.out Tryz.underlying26 rfl (size_temper t) ?_))
  by_cases h0 : c = 0
  · subst h0; have HTO : Sl _ := ⟨TV.tp_ok HC.out⟩; obtain ⟨W, hW⟩ : ∃ W : Nat, t.wolf = (W : Int) := ⟨t.wolf.toNat, by have := (TV.chk_ok HC.out).1; omega⟩; have hWt : t.tp.w = W := by show t.wolf.toNat = W; rw [hW]; rfl
    have HWT : Sl _ := ⟨And.intro hW hWt⟩; have HW12 : W < 12 := (by have := (TV.chk_ok HC.out).1; omega); clear hW hWt; have HC1 : Sl (∀ W : World, Calls Tryz.prog 48 #[.int .i64 1, .int .i64 1] W fun e w' => e = .returned (.agg (nr (t.tp.S 0) t.tp.D).cells) ∧ Below W.heap.size W w') := ⟨fun W => r5ratio_any _ _ _ W HTO.out.one⟩; refine (HFI.out _).mono ?_; rintro e w2 ⟨⟨_, hf⟩, hb⟩; obtain ⟨gF, rfl, hge, zb⟩ := hf HC.out; clear hf; replace ORD : Sl (w.heap.size ≤ gT ∧ gT < gF) := ⟨by have := HB.out.size; have := XT.out.lt; have := ORD.out; omega⟩; replace HB := HB.y hb; replace XT := XT.x hb; have XF : Sl (Blk w2 gF 35 (flatR fun k => nr (t.tp.f k) t.tp.D)) := ⟨zb⟩; clear hb hge zb
    go_wp2_with ((with_reducible show wpList _ _ _ _ _ _); first
      | (refine wpList_make_new 19 rfl rfl 30 _ _ rfl _ _ rfl rfl 12 35 (flatR fun _ => RVzero) make_twelve ?_; rintro w3 gL zg zm zs zb; replace ORD : Sl (w.heap.size ≤ gT ∧ gT < gF ∧ gF < gL) := ⟨by have := HB.out.size; have := ORD.out; have := XT.out.lt; have := XF.out.lt; omega⟩; replace HB := HB.v zm (by have := HB.out.size; have := ORD.out; omega); replace XT := XT.w zm (by have := XT.out.lt; have := ORD.out; omega); replace XF := XF.w zm (by have := XF.out.lt; have := ORD.out; omega); have XL : Sl (Blk w3 gL 35 (flatR fun _ => RVzero)) := ⟨zb⟩; clear zg zm zs zb))
    go_loopw [7] (fun s7 wr => ∃ k : Nat, k ≤ 12 ∧ s7 = .int .i64 k ∧ Sl (Below w.heap.size w wr) ∧ Sl (Blk wr gT 26 t.cells) ∧ Sl (Blk wr gF 35 (flatR fun k => nr (t.tp.f k) t.tp.D)) ∧ Sl (Blk wr gL 35 (flatR (t.nA k)))) (fun s7 _ => 12 - (RowKit.intOf s7).toNat)
    case atStart => exact ⟨0, by decide, rfl, HB, XT, XF, ⟨by rw [TV.nA_zero]; exact XL.out⟩⟩
    case round =>
      clear HB XT XF XL; obtain ⟨k, hk, rfl, HB, XT, XF, XL⟩ := hrel; have cs2 : wr.cell? ⟨gT, 2, none⟩ = some (.int .i64 (W : Int)) := by rw [XT.out.cell 2, t.cell2, HWT.out.1]
      by_cases hk12 : k < 12
      · obtain ⟨q, hq⟩ : ∃ q, 7 * k % 12 = q := ⟨_, rfl⟩; have hq12 : q < 12 := (by omega); have hqi : (7 : Int) * (k : Int) % 12 = (q : Int) := (by omega); have hput : putA (flatR (t.nA k)) (q * 7) (nr (t.tp.n k) t.tp.D).cells.toList = flatR (t.nA (k + 1)) := (by rw [putR _ _ hq12, ← hq]; exact t.nA_succ hk12); have HPU : Sl _ := ⟨hput⟩; have hq0 : (0 : Int) ≤ (q : Int) := (by omega); have hq1 : (q : Int) < 12 := (by omega); clear hput hq; have HFO : Sl (∀ W : World, Calls Tryz.prog 53 #[.agg (nr (t.tp.S k) t.tp.D).cells] W fun e w' => e = .returned (.agg (nr (t.tp.n k) t.tp.D).cells) ∧ Below W.heap.size W w') := ⟨fun W => r5fold_any (HTO.out.S_fits (by omega)) (HTO.out.n_fits (by omega)) W HPT.out⟩; go_wp2_with fail; refine (HC1.out _).mono ?_; rintro e w4 ⟨rfl, hb⟩; replace HB := HB.y hb; replace XT := XT.x hb; replace XF := XF.x hb; replace XL := XL.x hb; clear hb; replace cs2 : w4.cell? ⟨gT, 2, none⟩ = some (.int .i64 (W : Int)) := by rw [XT.out.cell 2, t.cell2, HWT.out.1]
        by_cases hkw : k ≤ W
        · have hle : ((k : Int) ≤ (W : Int)) := (by omega)
          go_wp2_with ((with_reducible show wpList _ _ _ _ _ _); first
            | (refine wpList_alloc_new 8 rfl rfl 35 rfl RVzero.cells alloc_ratio ?_; rintro w5 gR zg zm zs zb; replace ORD : Sl (w.heap.size ≤ gT ∧ gT < gF ∧ gF < gL ∧ gL < gR) := ⟨by have := HB.out.size; have := ORD.out; have := XT.out.lt; have := XF.out.lt; have := XL.out.lt; omega⟩; replace HB := HB.v zm (by have := HB.out.size; have := ORD.out; omega); replace XT := XT.w zm (by have := XT.out.lt; have := ORD.out; omega); replace XF := XF.w zm (by have := XF.out.lt; have := ORD.out; omega); replace XL := XL.w zm (by have := XL.out.lt; have := ORD.out; omega); have XR : Sl (Blk w5 gR 35 RVzero.cells) := ⟨zb⟩; clear zg zm zs zb)
            | (refine wpList_store_whole rfl 35 (.tmp 8) (.tmp 24) rfl gR (nr (t.tp.S 0) t.tp.D).cells rfl rfl 35 RVzero.cells XR.out rfl size_ratio (RV.cells_one _) ?_; rintro w6 zm zs zb; replace HB := HB.v zm (by have := ORD.out; omega); replace XT := XT.w zm (by have := XT.out.lt; have := ORD.out; omega); replace XF := XF.w zm (by have := XF.out.lt; have := ORD.out; omega); replace XL := XL.w zm (by have := XL.out.lt; have := ORD.out; omega); replace XR : Sl (Blk w6 gR 35 (nr (t.tp.S 0) t.tp.D).cells) := ⟨zb⟩; clear zm zs zb; have cs2 : w6.cell? ⟨gT, 2, none⟩ = some (.int .i64 (W : Int)) := (by rw [XT.out.cell 2, t.cell2, HWT.out.1])))
          go_loopw [9] (fun s7 wq => ∃ j : Nat, 0 ≤ j ∧ j ≤ k ∧ s7 = .int .i64 j ∧ Sl (Below w.heap.size w wq) ∧ Sl (Blk wq gT 26 t.cells) ∧ Sl (Blk wq gF 35 (flatR fun k => nr (t.tp.f k) t.tp.D)) ∧ Sl (Blk wq gL 35 (flatR (t.nA k))) ∧ Sl (Blk wq gR 35 (nr (t.tp.S j) t.tp.D).cells)) (fun s7 _ => 12 - (RowKit.intOf s7).toNat)
          case atStart => exact ⟨0, by omega, by omega, rfl, HB, XT, XF, XL, XR⟩
          case round =>
            clear HB XT XF XL XR; obtain ⟨j, hj0, hj, rfl, HB, XT, XF, XL, XR⟩ := hrel
            by_cases hjk : j < k
            · have hj1 : (0 : Int) ≤ (j : Int) := (by omega); have hj2 : (j : Int) < 12 := (by omega); have hj12 : j < 12 := (by omega); have HIN : Sl (∀ W : World, Calls Tryz.prog 52 #[.agg (nr (t.tp.S j) t.tp.D).cells, .agg (nr (t.tp.f j) t.tp.D).cells] W fun e w' => e = .returned (.agg (nr (t.tp.S (j + 1)) t.tp.D).cells) ∧ Below W.heap.size W w') := ⟨fun W => r5mul_any _ _ _ W (HTO.out.note_join hj12)⟩; go_wp2_with fail; have hm : Mv gR wr wr.drew := Mv.drew _ _; have hs : RowKit.Below wr.heap.size wr wr.drew := below_drewN (Below.refl _ _) 1; have HSW : Sl _ := ⟨hs⟩; clear hs; refine wp_region_held_drew (S := fun w' => Mv gR wr w') (by kernel_rfl) hm (fun hHeld => ?_); clear hm; refine wpAnyH_pure 1 (v := .slice (some ⟨gF, 0, none⟩) 12 12) rfl (by kernel_rfl) (by kernel_rfl) (by kernel_rfl) (fun _ _ _ h => h) rfl (fun _ => rfl) (by assumption) ?_; simp only [Act.put, sS0, sS1, sS2]; refine wpAnyH_pure 2 (v := .int .i64 (j : Int)) rfl (by kernel_rfl) (by kernel_rfl) (by kernel_rfl) (fun _ _ _ h => h) rfl (fun _ => rfl) (by assumption) ?_; simp only [Act.put, sS0, sS1, sS2]; refine wpAnyH_pure 3 (v := .pointer (some ⟨gF, j * 7, none⟩)) rfl (by kernel_rfl) (by kernel_rfl) (by kernel_rfl) (fun _ _ _ h => h) rfl (fun _ => by go_simp) (by assumption) ?_; simp only [Act.put, sS0, sS1, sS2]
              refine wpAnyH_load 4 35 (.tmp 37) rfl rfl rfl gF (j * 7) rfl (nr (t.tp.f j) t.tp.D).cells _ (fun w' h => by
                have e := XF.out.mv h (by have := XF.out.lt; (try have := ORD.out); omega)
                exact e.atR hj12) Tryz.underlying35 rfl size_ratio (by kernel_rfl) (by kernel_rfl) (by kernel_rfl) (fun _ _ _ h => h) (by assumption) ?_
              simp only [Act.put, sS0, sS1, sS2]; refine wpAnyH_one 0 rfl (by kernel_rfl) rfl (fun K hK => ?_); refine wp_load_all 35 (.tmp 8) rfl gR rfl 35 (nr (t.tp.S j) t.tp.D).cells _ (XR.out.below HSW.out XR.out.lt) Tryz.underlying35 rfl size_ratio ?_; refine hK.out _ _ (Mv.below HSW.out) (fun hHeld => ?_); clear hK K; simp only [Act.put, sS0, sS1, sS2]; refine wpAnyH_one 5 rfl (by kernel_rfl) rfl (fun K hK => ?_); go_simp; go_at_call 52
              (with_reducible refine (HIN.out _).mono ?_)
              rintro e z7 ⟨rfl, hb⟩; replace HSW := HSW.y hb; refine hK.out _ _ (Mv.below HSW.out) (fun hHeld => ?_); clear hK K hb
              (try simp only [Act.put, sS0, sS1, sS2])
              refine wpAnyH_one 6 rfl (by kernel_rfl) rfl (fun K hK => ?_); refine wp_store_part 35 (.tmp 8) (.tmp 39) rfl gR (0) (nr (t.tp.S (j + 1)) t.tp.D).cells rfl rfl 35 (nr (t.tp.S j) t.tp.D).cells (nr (t.tp.S (j + 1)) t.tp.D).cells (XR.out.below HSW.out XR.out.lt) (by rw [RV.cells_size, RV.cells_size]; omega) (putA_all _ _ rfl) size_ratio (RV.cells_one _) ?_; rintro w8 zm zs zb; refine hK.out _ _ (Mv.trans (Mv.below HSW.out) zm) (fun hHeld => ?_); clear hK K; simp only [Act.put, sS0, sS1, sS2]; refine wpAnyH_done (by kernel_rfl) ?_ _; replace HB := HB.v hHeld (by have := HB.out.size; have := ORD.out; omega); replace XT := XT.w hHeld (by have := XT.out.lt; have := ORD.out; omega); replace XF := XF.w hHeld (by have := XF.out.lt; have := ORD.out; omega); replace XL := XL.w hHeld (by have := XL.out.lt; have := ORD.out; omega); replace XR : Sl (Blk w8 gR 35 (nr (t.tp.S (j + 1)) t.tp.D).cells) := ⟨zb⟩; clear zm zs zb HSW; (try clear hHeld); go_wp2_with fail; exact ⟨⟨j + 1, by omega, by omega, by go_num, HB, XT, XF, XL, XR⟩, by simp [RowKit.intOf]; omega⟩
            · obtain rfl : k = j := (by omega)
              go_wp2_with ((with_reducible show wpList _ _ _ _ _ _); first
                | (refine wpList_load_whole rfl 35 (.tmp 8) rfl gR rfl 35 (nr (t.tp.S k) t.tp.D).cells _ XR.out Tryz.underlying35 rfl size_ratio ?_))
              refine (HFO.out _).mono ?_; rintro e w19 ⟨rfl, hb⟩; replace HB := HB.y hb; replace XT := XT.x hb; replace XF := XF.x hb; replace XL := XL.x hb; replace XR := XR.x hb; clear hb
              go_wp2_with ((with_reducible show wpList _ _ _ _ _ _); first
                | (refine wpList_store_part rfl 35 (.tmp 58) (.tmp 57) rfl gL (q * 7) (nr (t.tp.n k) t.tp.D).cells rfl rfl 35 (flatR (t.nA k)) (flatR (t.nA (k + 1))) XL.out (by rw [flatR_size, RV.cells_size]; omega) HPU.out size_ratio (RV.cells_one _) ?_; rintro w20 zm zs zb; replace HB := HB.v zm (by have := HB.out.size; have := ORD.out; omega); replace XT := XT.w zm (by have := XT.out.lt; have := ORD.out; omega); replace XF := XF.w zm (by have := XF.out.lt; have := ORD.out; omega); replace XR := XR.w zm (by have := XR.out.lt; have := ORD.out; omega); replace XL : Sl (Blk w20 gL 35 (flatR (t.nA (k + 1)))) := ⟨zb⟩; clear zm zs zb))
              exact ⟨⟨k + 1, hk12, by go_num, HB, XT, XF, XL⟩, by simp [RowKit.intOf]; omega⟩
        · have hle : ¬ ((k : Int) ≤ (W : Int)) := (by omega); have hwk : t.tp.w < k := (by have := HWT.out.2; omega); have HWK : Sl _ := ⟨hwk⟩; clear hwk; have HC3 : Sl (∀ W : World, Calls Tryz.prog 48 #[.int .i64 128, .int .i64 1] W fun e w' => e = .returned (.agg (nr (t.tp.u k k) t.tp.D).cells) ∧ Below W.heap.size W w') := ⟨fun W => r5ratio_any _ _ _ W (HTO.out.u_seven k)⟩
          go_wp2_with ((with_reducible show wpList _ _ _ _ _ _); first
            | (refine wpList_alloc_new 8 rfl rfl 35 rfl RVzero.cells alloc_ratio ?_; rintro w31 gR zg zm zs zb; replace ORD : Sl (w.heap.size ≤ gT ∧ gT < gF ∧ gF < gL ∧ gL < gR) := ⟨by have := HB.out.size; have := ORD.out; have := XT.out.lt; have := XF.out.lt; have := XL.out.lt; omega⟩; replace HB := HB.v zm (by have := HB.out.size; have := ORD.out; omega); replace XT := XT.w zm (by have := XT.out.lt; have := ORD.out; omega); replace XF := XF.w zm (by have := XF.out.lt; have := ORD.out; omega); replace XL := XL.w zm (by have := XL.out.lt; have := ORD.out; omega); have XR : Sl (Blk w31 gR 35 RVzero.cells) := ⟨zb⟩; clear zg zm zs zb)
            | (refine wpList_store_whole rfl 35 (.tmp 8) (.tmp 24) rfl gR (nr (t.tp.S 0) t.tp.D).cells rfl rfl 35 RVzero.cells XR.out rfl size_ratio (RV.cells_one _) ?_; rintro w32 zm zs zb; replace HB := HB.v zm (by have := ORD.out; omega); replace XT := XT.w zm (by have := XT.out.lt; have := ORD.out; omega); replace XF := XF.w zm (by have := XF.out.lt; have := ORD.out; omega); replace XL := XL.w zm (by have := XL.out.lt; have := ORD.out; omega); replace XR : Sl (Blk w32 gR 35 (nr (t.tp.S 0) t.tp.D).cells) := ⟨zb⟩; clear zm zs zb; have cs2 : w32.cell? ⟨gT, 2, none⟩ = some (.int .i64 (W : Int)) := (by rw [XT.out.cell 2, t.cell2, HWT.out.1])))
          refine (HC3.out _).mono ?_; rintro e w33 ⟨rfl, hb⟩; replace HB := HB.y hb; replace XT := XT.x hb; replace XF := XF.x hb; replace XL := XL.x hb; replace XR := XR.x hb; clear hb
          go_wp2_with ((with_reducible show wpList _ _ _ _ _ _); first
            | (refine wpList_store_whole rfl 35 (.tmp 8) (.tmp 40) rfl gR (nr (t.tp.u k k) t.tp.D).cells rfl rfl 35 (nr (t.tp.S 0) t.tp.D).cells XR.out (by rw [RV.cells_size, RV.cells_size]) size_ratio (RV.cells_one _) ?_; rintro w34 zm zs zb; replace HB := HB.v zm (by have := ORD.out; omega); replace XT := XT.w zm (by have := XT.out.lt; have := ORD.out; omega); replace XF := XF.w zm (by have := XF.out.lt; have := ORD.out; omega); replace XL := XL.w zm (by have := XL.out.lt; have := ORD.out; omega); replace XR : Sl (Blk w34 gR 35 (nr (t.tp.u k k) t.tp.D).cells) := ⟨zb⟩; clear zm zs zb))
          go_loopw [10] (fun s7 wq => ∃ j : Nat, k ≤ j ∧ j ≤ 12 ∧ s7 = .int .i64 j ∧ Sl (Below w.heap.size w wq) ∧ Sl (Blk wq gT 26 t.cells) ∧ Sl (Blk wq gF 35 (flatR fun k => nr (t.tp.f k) t.tp.D)) ∧ Sl (Blk wq gL 35 (flatR (t.nA k))) ∧ Sl (Blk wq gR 35 (nr (t.tp.u k j) t.tp.D).cells)) (fun s7 _ => 12 - (RowKit.intOf s7).toNat)
          case atStart => exact ⟨k, by omega, by omega, rfl, HB, XT, XF, XL, XR⟩
          case round =>
            clear HB XT XF XL XR; obtain ⟨j, hj0, hj, rfl, HB, XT, XF, XL, XR⟩ := hrel
            by_cases hjk : j < 12
            · have hj1 : (0 : Int) ≤ (j : Int) := (by omega); have hj2 : (j : Int) < 12 := (by omega); have hj12 : j < 12 := (by omega); have HIN : Sl (∀ W : World, Calls Tryz.prog 51 #[.agg (nr (t.tp.u k j) t.tp.D).cells, .agg (nr (t.tp.f j) t.tp.D).cells] W fun e w' => e = .returned (.agg (nr (t.tp.u k (j + 1)) t.tp.D).cells) ∧ Below W.heap.size W w') := ⟨fun W => r5div_any _ _ _ W (HTO.out.u_join HWK.out hj0 hj12)⟩; go_wp2_with fail; have hm : Mv gR wr wr.drew := Mv.drew _ _; have hs : RowKit.Below wr.heap.size wr wr.drew := below_drewN (Below.refl _ _) 1; have HSW : Sl _ := ⟨hs⟩; clear hs; refine wp_region_held_drew (S := fun w' => Mv gR wr w') (by kernel_rfl) hm (fun hHeld => ?_); clear hm; refine wpAnyH_pure 1 (v := .slice (some ⟨gF, 0, none⟩) 12 12) rfl (by kernel_rfl) (by kernel_rfl) (by kernel_rfl) (fun _ _ _ h => h) rfl (fun _ => rfl) (by assumption) ?_; simp only [Act.put, sS0, sS1, sS2]; refine wpAnyH_pure 2 (v := .int .i64 (j : Int)) rfl (by kernel_rfl) (by kernel_rfl) (by kernel_rfl) (fun _ _ _ h => h) rfl (fun _ => rfl) (by assumption) ?_; simp only [Act.put, sS0, sS1, sS2]; refine wpAnyH_pure 3 (v := .pointer (some ⟨gF, j * 7, none⟩)) rfl (by kernel_rfl) (by kernel_rfl) (by kernel_rfl) (fun _ _ _ h => h) rfl (fun _ => by go_simp) (by assumption) ?_; simp only [Act.put, sS0, sS1, sS2]
              refine wpAnyH_load 4 35 (.tmp 49) rfl rfl rfl gF (j * 7) rfl (nr (t.tp.f j) t.tp.D).cells _ (fun w' h => by
                have e := XF.out.mv h (by have := XF.out.lt; (try have := ORD.out); omega)
                exact e.atR hj12) Tryz.underlying35 rfl size_ratio (by kernel_rfl) (by kernel_rfl) (by kernel_rfl) (fun _ _ _ h => h) (by assumption) ?_
              simp only [Act.put, sS0, sS1, sS2]; refine wpAnyH_one 0 rfl (by kernel_rfl) rfl (fun K hK => ?_); refine wp_load_all 35 (.tmp 8) rfl gR rfl 35 (nr (t.tp.u k j) t.tp.D).cells _ (XR.out.below HSW.out XR.out.lt) Tryz.underlying35 rfl size_ratio ?_; refine hK.out _ _ (Mv.below HSW.out) (fun hHeld => ?_); clear hK K; simp only [Act.put, sS0, sS1, sS2]; refine wpAnyH_one 5 rfl (by kernel_rfl) rfl (fun K hK => ?_); go_simp; go_at_call 51
              (with_reducible refine (HIN.out _).mono ?_)
              rintro e z35 ⟨rfl, hb⟩; replace HSW := HSW.y hb; refine hK.out _ _ (Mv.below HSW.out) (fun hHeld => ?_); clear hK K hb
              (try simp only [Act.put, sS0, sS1, sS2])
              refine wpAnyH_one 6 rfl (by kernel_rfl) rfl (fun K hK => ?_); refine wp_store_part 35 (.tmp 8) (.tmp 51) rfl gR (0) (nr (t.tp.u k (j + 1)) t.tp.D).cells rfl rfl 35 (nr (t.tp.u k j) t.tp.D).cells (nr (t.tp.u k (j + 1)) t.tp.D).cells (XR.out.below HSW.out XR.out.lt) (by rw [RV.cells_size, RV.cells_size]; omega) (putA_all _ _ rfl) size_ratio (RV.cells_one _) ?_; rintro w36 zm zs zb; refine hK.out _ _ (Mv.trans (Mv.below HSW.out) zm) (fun hHeld => ?_); clear hK K; simp only [Act.put, sS0, sS1, sS2]; refine wpAnyH_done (by kernel_rfl) ?_ _; replace HB := HB.v hHeld (by have := HB.out.size; have := ORD.out; omega); replace XT := XT.w hHeld (by have := XT.out.lt; have := ORD.out; omega); replace XF := XF.w hHeld (by have := XF.out.lt; have := ORD.out; omega); replace XL := XL.w hHeld (by have := XL.out.lt; have := ORD.out; omega); replace XR : Sl (Blk w36 gR 35 (nr (t.tp.u k (j + 1)) t.tp.D).cells) := ⟨zb⟩; clear zm zs zb HSW; (try clear hHeld); go_wp2_with fail; exact ⟨⟨j + 1, by omega, by omega, by go_num, HB, XT, XF, XL, XR⟩, by simp [RowKit.intOf]; omega⟩
            · obtain rfl : j = 12 := (by omega); replace XR : Sl (Blk wr gR 35 (nr (t.tp.S k) t.tp.D).cells) := ⟨by rw [← t.tp.u_end HWK.out]; exact XR.out⟩
              go_wp2_with ((with_reducible show wpList _ _ _ _ _ _); first
                | (refine wpList_load_whole rfl 35 (.tmp 8) rfl gR rfl 35 (nr (t.tp.S k) t.tp.D).cells _ XR.out Tryz.underlying35 rfl size_ratio ?_))
              refine (HFO.out _).mono ?_; rintro e w47 ⟨rfl, hb⟩; replace HB := HB.y hb; replace XT := XT.x hb; replace XF := XF.x hb; replace XL := XL.x hb; replace XR := XR.x hb; clear hb
              go_wp2_with ((with_reducible show wpList _ _ _ _ _ _); first
                | (refine wpList_store_part rfl 35 (.tmp 58) (.tmp 57) rfl gL (q * 7) (nr (t.tp.n k) t.tp.D).cells rfl rfl 35 (flatR (t.nA k)) (flatR (t.nA (k + 1))) XL.out (by rw [flatR_size, RV.cells_size]; omega) HPU.out size_ratio (RV.cells_one _) ?_; rintro w48 zm zs zb; replace HB := HB.v zm (by have := HB.out.size; have := ORD.out; omega); replace XT := XT.w zm (by have := XT.out.lt; have := ORD.out; omega); replace XF := XF.w zm (by have := XF.out.lt; have := ORD.out; omega); replace XR := XR.w zm (by have := XR.out.lt; have := ORD.out; omega); replace XL : Sl (Blk w48 gL 35 (flatR (t.nA (k + 1)))) := ⟨zb⟩; clear zm zs zb))
              exact ⟨⟨k + 1, hk12, by go_num, HB, XT, XF, XL⟩, by simp [RowKit.intOf]; omega⟩
      · obtain rfl : k = 12 := (by omega); clear hk hk12; go_wp2_with fail; go_ret2; exact ⟨⟨fun h => absurd HC.out h, fun _ => ⟨gL, rfl, by have := ORD.out; omega, by rw [← t.nA_end]; exact XL.out⟩⟩, HB.out⟩
  · have hz : ((c : Int) != 0) = true := (by rw [bne_iff_ne]; exact h0); refine (HFI.out _).mono ?_; rintro e w69 ⟨⟨hf, _⟩, hb⟩; obtain rfl := hf (by rw [HC.out]; exact h0); clear hf; rw [HC.out]; replace HB := HB.y hb; replace XT := XT.x hb; clear hb; go_wp2_with fail; go_ret2; exact ⟨⟨fun _ => by rw [HC.out]; rfl, fun h => absurd (HC.out.symm.trans h) h0⟩, HB.out⟩
end Go.Proofs.YtmcoadmnkelkkaaGreatDoor
namespace Go.Proofs.YtmcoadmnkelkkaaGreatDoor
set_option linter.unusedSimpArgs false
open Go.RowKit
set_option linter.unusedVariables false
attribute [-simp] Tryz.isAgg35 Tryz.isAgg26 Tryz.isAgg24 Tryz.isAgg23
theorem c5_pos (a b : RV) : ∀ x ∈ cmpT a b 6, 0 < x.1 := by
  intro x hx; obtain ⟨j, hj, rfl⟩ := cmpT_mem a b 6 (Nat.le_refl _) x hx; have := (prime_two hj).1; show 0 < prime j; omega
theorem c5_TT (a b : RV) : 0 ≤ sgn (cmpT a b 6) ↔ TT 0 (fun j => a.num j * b.d - b.num j * a.d) := by
  rw [(sgn_vl (c5_pos a b)).1, vl_cmpT]; unfold TT; rw [Rat.zpow_zero]
noncomputable def R1 : RV := nr (v3 0 0 0) 1
theorem R1_num (j : Nat) (hj : j < 6) : R1.num j = 0 ∧ R1.d = 1 := by
  obtain ⟨g, hg, a1, a2⟩ := nr_g (v3 0 0 0) (D := 1) (by decide); have h2 := a2 j hj; have h3 : ∀ j, j < 6 → v3 0 0 0 j = 0 := (by decide); rw [h3 j hj] at h2; have hg1 : R1.d * (g : Int) = 1 := a1; constructor
  · rcases Int.mul_eq_zero.1 h2 with h | h
    · exact h
    · omega
  · have hg0 : (0 : Int) < (g : Int) := (by omega)
    have hd0 : 0 < R1.d := by
      rcases Int.lt_trichotomy R1.d 0 with h | h | h
      · have := Int.mul_neg_of_neg_of_pos h hg0; omega
      · rw [h] at hg1; omega
      · exact h
    have : R1.d * 1 ≤ R1.d * (g : Int) := Int.mul_le_mul_of_nonneg_left (by omega) (by omega); omega
theorem ord_one {u : Nat → Int} {D : Int} (hu : fitsV u D) (h1 : checkS R1 = 0) : (ordC (nr u D) R1).2 = 0 ∧ (0 ≤ (ordC (nr u D) R1).1 ↔ TT 0 u) := by
  have hok : firstE (checkS (nr u D)) (checkS R1) = 0 := (by rw [nr_ok hu, h1]; rfl); rw [ordC_ok hok]; refine ⟨rfl, ?_⟩; show 0 ≤ sgn (cmpT (nr u D) R1 6) ↔ _; rw [c5_TT]
  have e : TT 0 (fun j => (nr u D).num j * R1.d - R1.num j * (nr u D).d) ↔ TT (0 * (nr u D).d) (fun j => (nr u D).num j * 1) := by
    rw [Int.zero_mul]; constructor
    · exact fun h => h.congr fun j hj => by show (nr u D).num j * R1.d - R1.num j * (nr u D).d = (nr u D).num j * 1; rw [(R1_num j hj).1, (R1_num j hj).2, Int.zero_mul, Int.sub_zero]
    · exact fun h => h.congr fun j hj => by show (nr u D).num j * 1 = (nr u D).num j * R1.d - R1.num j * (nr u D).d; rw [(R1_num j hj).1, (R1_num j hj).2, Int.zero_mul, Int.sub_zero]
  rw [e, TT_nr 1 hu.1.1, Int.zero_mul]; exact ⟨fun h => h.congr fun j _ => Int.mul_one _, fun h => h.congr fun j _ => (Int.mul_one _).symm⟩
theorem TP.Ok.way_up {t : TP} (h : t.Ok) {a b : Nat} (ha : a ≤ 12) (hb : b ≤ 12) (hs : ¬ TT 0 (t.y a b)) : joinS (nr (t.y a b) t.D) (nr (v3 1 0 0) 1) 1 = (nr (t.b a b) t.D, 0) := by
  rw [nr_up _ h.hD.1]; refine join_nr (h.y_fits ha hb) (up_fits h.hD fun j hj => by revert j; decide) (h.b_fits ha hb) fun j hj => ?_
  have hy := h.y_tame ha hb; have hfl := (flo_near h.hD.1 hy.lo hy.hi).2 (by rwa [← not_TT]); unfold TP.b fol; rw [hfl]; have e : v3 1 0 0 j = if j = 0 then 1 else 0 := (by revert j; decide)
  rw [e]; unfold oct
  split <;> omega
theorem TP.Ok.way_in {t : TP} (h : t.Ok) {a b : Nat} (ha : a ≤ 12) (hb : b ≤ 12) (hs : TT 0 (t.y a b)) : nr (t.y a b) t.D = nr (t.b a b) t.D := nr_congr fun j hj => by
  have hy := h.y_tame ha hb; have hfl := (flo_near h.hD.1 hy.lo hy.hi).1 hs; unfold TP.b fol; rw [hfl]; unfold oct
  split <;> omega
set_option maxHeartbeats 6400000 in
set_option maxRecDepth 100000 in
theorem r5between_any (t : TV) (hc : t.chk nameS = 0) (gL : Nat) (a b : Nat) (ha : a < 12) (hb : b < 12) (w : World) (hT : PrT w) (hB : Blk w gL 35 (flatR t.N)) :
    Calls Tryz.prog 56 #[.slice (some ⟨gL, 0, none⟩) 12 12, .int .i64 a, .int .i64 b] w fun e w' => e = .returned (.agg (t.B a b).cells) ∧ Below w.heap.size w w' := by
  have HB : Sl (Below w.heap.size w w) := ⟨Below.refl _ _⟩; have HT : Sl _ := ⟨hT⟩; have HTO : Sl _ := ⟨TV.tp_ok hc⟩; have XL : Sl (Blk w gL 35 (flatR t.N)) := ⟨hB⟩; have ORD : Sl (gL < w.heap.size) := ⟨hB.lt⟩; clear hT hc hB; obtain ⟨p, hp⟩ : ∃ p, 7 * a % 12 = p := ⟨_, rfl⟩; obtain ⟨r, hr⟩ : ∃ r, 7 * b % 12 = r := ⟨_, rfl⟩; have hp12 : p ≤ 12 := (by omega); have hr12 : r ≤ 12 := (by omega); have hBq : t.B a b = nr (t.tp.b p r) t.tp.D := (by unfold TV.B; rw [hp, Nat.mod_eq_of_lt hb, hr]); have hNa : t.N a = nr (t.tp.n p) t.tp.D := (by unfold TV.N; rw [hp]); have hNb : t.N b = nr (t.tp.n r) t.tp.D := (by unfold TV.N; rw [hr]); rw [hBq]; clear hBq hp hr; have ha0 : (0 : Int) ≤ (a : Int) := (by omega); have ha1 : (a : Int) < 12 := (by omega); have hb0 : (0 : Int) ≤ (b : Int) := (by omega); have hb1 : (b : Int) < 12 := (by omega); have HDV : Sl (∀ W : World, Calls Tryz.prog 51 #[.agg (t.N b).cells, .agg (t.N a).cells] W fun e w' => e = .returned (.agg (nr (t.tp.y p r) t.tp.D).cells) ∧ Below W.heap.size W w') := ⟨fun W => by rw [hNa, hNb]; exact r5div_any _ _ _ W (HTO.out.way_join hp12 hr12)⟩; clear hNa hNb; have h11 : ofS 1 1 = (R1, 0) := of_one
  have hR1 : checkS R1 = 0 := by
    have h2 := HTO.out.one; rw [h11] at h2; have h3 : R1 = nr (t.tp.S 0) t.tp.D := congrArg Prod.fst h2; rw [h3]; exact nr_ok (HTO.out.S_fits (by omega))
  have HC1 : Sl (∀ W : World, Calls Tryz.prog 48 #[.int .i64 1, .int .i64 1] W fun e w' => e = .returned (.agg R1.cells) ∧ Below W.heap.size W w') := ⟨fun W => r5ratio_any _ _ _ W h11⟩; have HC2 : Sl (∀ W : World, Calls Tryz.prog 48 #[.int .i64 2, .int .i64 1] W fun e w' => e = .returned (.agg (nr (v3 1 0 0) 1).cells) ∧ Below W.heap.size W w') := ⟨fun W => r5ratio_any _ _ _ W of_two⟩; obtain ⟨c, hc⟩ : ∃ c, ordC (nr (t.tp.y p r) t.tp.D) R1 = c := ⟨_, rfl⟩; obtain ⟨ho2, ho1⟩ := ord_one (HTO.out.y_fits hp12 hr12) hR1
  have HCM : Sl (∀ W : World, PrT W → Calls Tryz.prog 94 #[.agg (nr (t.tp.y p r) t.tp.D).cells, .agg R1.cells] W fun e w' => e = .returned (.tuple #[.int .i64 c.1, .int .i64 0]) ∧ Below W.heap.size W w') := ⟨fun W h => by
    have := r4Cmp_any (nr (t.tp.y p r) t.tp.D) R1 W h; rw [ho2, hc] at this
    exact this⟩
  rw [hc] at ho1; have HO1 : Sl _ := ⟨ho1⟩; obtain ⟨c, c2⟩ := c; clear ho1 ho2 hc h11 hR1; go_enter Tryz.func56, Tryz.ntmps56
  go_wp2_with ((with_reducible show wpList _ _ _ _ _ _); first
    | (refine wpList_alloc_new 6 rfl rfl 35 rfl RVzero.cells alloc_ratio ?_; rintro w1 gR zg zm zs zb; replace ORD : Sl (gL < w.heap.size ∧ w.heap.size ≤ gR) := ⟨by have := HB.out.size; have := ORD.out; have := XL.out.lt; omega⟩; replace HB := HB.v zm (by have := HB.out.size; have := ORD.out; omega); replace XL := XL.w zm (by have := XL.out.lt; have := ORD.out; omega); have XR : Sl (Blk w1 gR 35 RVzero.cells) := ⟨zb⟩; clear zg zm zs zb))
  refine' wp_branch (fun g w' => Below w1.heap.size w1 w' ∧ w1.heap.size ≤ g ∧ Blk w' g 35 (nr (t.tp.y p r) t.tp.D).cells) ?hreg ?hrest
  case hreg =>
    have hm : Below w1.heap.size w1 w1.drew := below_drewN (Below.refl _ _) 1; have HSW : Sl _ := ⟨hm⟩; refine wp_region_held_drew (S := fun w' => Below w1.heap.size w1 w') (by kernel_rfl) hm (fun hHeld => ?_); clear hm; refine wpAnyH_pure 0 (v := .slice (some ⟨gL, 0, none⟩) 12 12) rfl (by kernel_rfl) (by kernel_rfl) (by kernel_rfl) (fun _ _ _ h => h) rfl (fun _ => rfl) (by assumption) ?_; simp only [Act.put, sS0, sS1, sS2]; refine wpAnyH_pure 1 (v := .int .i64 (b : Int)) rfl (by kernel_rfl) (by kernel_rfl) (by kernel_rfl) (fun _ _ _ h => h) rfl (fun _ => rfl) (by assumption) ?_; simp only [Act.put, sS0, sS1, sS2]; refine wpAnyH_pure 2 (v := .pointer (some ⟨gL, b * 7, none⟩)) rfl (by kernel_rfl) (by kernel_rfl) (by kernel_rfl) (fun _ _ _ h => h) rfl (fun _ => by go_simp) (by assumption) ?_; simp only [Act.put, sS0, sS1, sS2]
    refine wpAnyH_load 3 35 (.tmp 12) rfl rfl rfl gL (b * 7) rfl (t.N b).cells _ (fun w' h => by
      have e := XL.out.below h XL.out.lt
      exact e.atR hb) Tryz.underlying35 rfl size_ratio (by kernel_rfl) (by kernel_rfl) (by kernel_rfl) (fun _ _ _ h => h) (by assumption) ?_
    simp only [Act.put, sS0, sS1, sS2]; refine wpAnyH_pure 4 (v := .slice (some ⟨gL, 0, none⟩) 12 12) rfl (by kernel_rfl) (by kernel_rfl) (by kernel_rfl) (fun _ _ _ h => h) rfl (fun _ => rfl) (by assumption) ?_; simp only [Act.put, sS0, sS1, sS2]; refine wpAnyH_pure 5 (v := .int .i64 (a : Int)) rfl (by kernel_rfl) (by kernel_rfl) (by kernel_rfl) (fun _ _ _ h => h) rfl (fun _ => rfl) (by assumption) ?_; simp only [Act.put, sS0, sS1, sS2]; refine wpAnyH_pure 6 (v := .pointer (some ⟨gL, a * 7, none⟩)) rfl (by kernel_rfl) (by kernel_rfl) (by kernel_rfl) (fun _ _ _ h => h) rfl (fun _ => by go_simp) (by assumption) ?_; simp only [Act.put, sS0, sS1, sS2]
    refine wpAnyH_load 7 35 (.tmp 16) rfl rfl rfl gL (a * 7) rfl (t.N a).cells _ (fun w' h => by
      have e := XL.out.below h XL.out.lt
      exact e.atR ha) Tryz.underlying35 rfl size_ratio (by kernel_rfl) (by kernel_rfl) (by kernel_rfl) (fun _ _ _ h => h) (by assumption) ?_
    simp only [Act.put, sS0, sS1, sS2]; refine wpAnyH_two 8 9 rfl rfl (by kernel_rfl) rfl rfl (fun K hK => ?_) (fun K hK => ?_)
    · skip; go_simp; go_at_call 51
      (with_reducible refine (HDV.out _).mono ?_)
      rintro e z2 ⟨rfl, hb⟩; replace HSW := HSW.y hb; refine hK.out _ _ HSW.out (fun hHeld => ?_); clear hK K hb
      (try simp only [Act.put, sS0, sS1, sS2])
      refine wpAnyH_one 9 rfl (by kernel_rfl) rfl (fun K hK => ?_); refine wp_alloc_new 35 rfl RVzero.cells alloc_ratio ?_; rintro z3 gn zg zm zs zb; have GE : Sl (w1.heap.size ≤ gn) := ⟨by have := HSW.out.size; omega⟩; have NB : Sl (Blk z3 gn 35 RVzero.cells) := ⟨zb⟩; replace HSW : Sl (RowKit.Below w1.heap.size w1 z3) := ⟨HSW.out.trans (zm.mono HSW.out.size)⟩; refine hK.out _ _ HSW.out (fun hHeld => ?_); clear hK K zg zm zs zb; simp only [Act.put, sS0, sS1, sS2]; refine wpAnyH_one 10 rfl (by kernel_rfl) rfl (fun K hK => ?_); refine wp_store_part 35 (.tmp 7) (.tmp 18) rfl gn 0 (nr (t.tp.y p r) t.tp.D).cells rfl rfl 35 RVzero.cells (nr (t.tp.y p r) t.tp.D).cells NB.out (by rw [RV.cells_size, RV.cells_size]; omega) (putA_all _ _ rfl) size_ratio (RV.cells_one _) ?_; rintro z4 zm zs zb; have hbn : Below w1.heap.size w1 z4 := below_mv HSW.out zm GE.out HSW.out.size; replace HSW : Sl (Below w1.heap.size w1 z4) := ⟨hbn⟩; refine hK.out _ _ hbn (fun hHeld => ?_); clear hK K hbn zm zs; simp only [Act.put, sS0, sS1, sS2]; exact wpAnyH_done (by kernel_rfl) ⟨gn, rfl, HSW.out, GE.out, zb⟩ _
    · skip; refine wp_alloc_new 35 rfl RVzero.cells alloc_ratio ?_; rintro z5 gn zg zm zs zb; have GE : Sl (w1.heap.size ≤ gn) := ⟨by have := HSW.out.size; omega⟩; have NB : Sl (Blk z5 gn 35 RVzero.cells) := ⟨zb⟩; replace HSW : Sl (RowKit.Below w1.heap.size w1 z5) := ⟨HSW.out.trans (zm.mono HSW.out.size)⟩; refine hK.out _ _ HSW.out (fun hHeld => ?_); clear hK K zg zm zs zb; simp only [Act.put, sS0, sS1, sS2]; refine wpAnyH_one 8 rfl (by kernel_rfl) rfl (fun K hK => ?_); go_simp; go_at_call 51
      (with_reducible refine (HDV.out _).mono ?_)
      rintro e z6 ⟨rfl, hb⟩; replace HSW := HSW.y hb; replace NB : Sl (Blk z6 gn 35 RVzero.cells) := ⟨NB.out.below hb NB.out.lt⟩; refine hK.out _ _ HSW.out (fun hHeld => ?_); clear hK K hb
      (try simp only [Act.put, sS0, sS1, sS2])
      refine wpAnyH_one 10 rfl (by kernel_rfl) rfl (fun K hK => ?_); refine wp_store_part 35 (.tmp 7) (.tmp 18) rfl gn 0 (nr (t.tp.y p r) t.tp.D).cells rfl rfl 35 RVzero.cells (nr (t.tp.y p r) t.tp.D).cells NB.out (by rw [RV.cells_size, RV.cells_size]; omega) (putA_all _ _ rfl) size_ratio (RV.cells_one _) ?_; rintro z7 zm zs zb; have hbn : Below w1.heap.size w1 z7 := below_mv HSW.out zm GE.out HSW.out.size; replace HSW : Sl (Below w1.heap.size w1 z7) := ⟨hbn⟩; refine hK.out _ _ hbn (fun hHeld => ?_); clear hK K hbn zm zs; simp only [Act.put, sS0, sS1, sS2]; exact wpAnyH_done (by kernel_rfl) ⟨gn, rfl, HSW.out, GE.out, zb⟩ _
  case hrest =>
    rintro gV w8 ⟨hb, hge, zb⟩; replace ORD : Sl (gL < w.heap.size ∧ w.heap.size ≤ gR ∧ gR < gV) := ⟨by have := HB.out.size; have := ORD.out; have := XL.out.lt; have := XR.out.lt; omega⟩; replace HB := HB.y hb; replace XL := XL.x hb; replace XR := XR.x hb; have XV : Sl (Blk w8 gV 35 (nr (t.tp.y p r) t.tp.D).cells) := ⟨zb⟩; clear hb hge zb; go_wp2_with fail; have hm : Mv w8.heap.size w8 w8.drew := Mv.drew _ _; have hs : RowKit.Below w8.heap.size w8 w8.drew := below_drewN (Below.refl _ _) 1; have HSW : Sl _ := ⟨hs⟩; clear hs; refine wp_region_held_drew (S := fun w' => Mv w8.heap.size w8 w') (by kernel_rfl) hm (fun hHeld => ?_); clear hm
    refine wpAnyH_load 0 35 (.tmp 7) rfl rfl rfl gV (0) rfl (nr (t.tp.y p r) t.tp.D).cells _ (fun w' h => by
      have e := XV.out.mv h (by have := XV.out.lt; (try have := ORD.out); omega)
      exact e.all) Tryz.underlying35 rfl size_ratio (by kernel_rfl) (by kernel_rfl) (by kernel_rfl) (fun _ _ _ h => h) (by assumption) ?_
    simp only [Act.put, sS0, sS1, sS2]; refine wpAnyH_one 1 rfl (by kernel_rfl) rfl (fun K hK => ?_); go_simp; go_at_call 48
    (with_reducible refine (HC1.out _).mono ?_)
    rintro e z9 ⟨rfl, hb⟩; replace HSW := HSW.y hb; refine hK.out _ _ (Mv.below HSW.out) (fun hHeld => ?_); clear hK K hb
    (try simp only [Act.put, sS0, sS1, sS2])
    refine wpAnyH_one 2 rfl (by kernel_rfl) rfl (fun K hK => ?_); go_simp; go_at_call 94
    (with_reducible refine (HCM.out _ (HT.out.below (HB.out.trans (HSW.out.mono HB.out.size)))).mono ?_)
    rintro e z10 ⟨rfl, hb⟩; replace HSW := HSW.y hb; refine hK.out _ _ (Mv.below HSW.out) (fun hHeld => ?_); clear hK K hb
    (try simp only [Act.put, sS0, sS1, sS2])
    refine wpAnyH_pure 3 (v := .tuple #[.int .i64 c, .int .i64 0]) rfl (by kernel_rfl) (by kernel_rfl) (by kernel_rfl) (fun _ _ _ h => h) rfl (fun _ => rfl) (by assumption) ?_; simp only [Act.put, sS0, sS1, sS2]; refine wpAnyH_pure 4 (v := .int .i64 c) rfl (by kernel_rfl) (by kernel_rfl) (by kernel_rfl) (fun _ _ _ h => h) rfl (fun _ => by go_simp) (by assumption) ?_; simp only [Act.put, sS0, sS1, sS2]; refine wpAnyH_pure 5 (v := .int .i64 0) rfl (by kernel_rfl) (by kernel_rfl) (by kernel_rfl) (fun _ _ _ h => h) rfl (fun _ => by go_simp) (by assumption) ?_; simp only [Act.put, sS0, sS1, sS2]; refine wpAnyH_pure 6 (v := .int .i64 c) rfl (by kernel_rfl) (by kernel_rfl) (by kernel_rfl) (fun _ _ _ h => h) rfl (fun _ => by go_simp) (by assumption) ?_; simp only [Act.put, sS0, sS1, sS2]; refine wpAnyH_pure 7 (v := .int .i64 0) rfl (by kernel_rfl) (by kernel_rfl) (by kernel_rfl) (fun _ _ _ h => h) rfl (fun _ => by go_simp) (by assumption) ?_; simp only [Act.put, sS0, sS1, sS2]; refine wpAnyH_done (by kernel_rfl) ?_ _; replace HB := HB.y HSW.out; replace XL := XL.x HSW.out; replace XR := XR.x HSW.out; replace XV := XV.x HSW.out; clear HSW; (try clear hHeld)
    by_cases hc0 : c < 0
    · have HUP : Sl (∀ W : World, Calls Tryz.prog 52 #[.agg (nr (t.tp.y p r) t.tp.D).cells, .agg (nr (v3 1 0 0) 1).cells] W fun e w' => e = .returned (.agg (nr (t.tp.b p r) t.tp.D).cells) ∧ Below W.heap.size W w') := ⟨fun W => r5mul_any _ _ _ W (HTO.out.way_up hp12 hr12 fun h => absurd (HO1.out.2 h) (by show ¬ (0 ≤ c); omega))⟩; go_wp2_with fail; have hm : Mv gV z10 z10.drew := Mv.drew _ _; have hs : RowKit.Below z10.heap.size z10 z10.drew := below_drewN (Below.refl _ _) 1; have HSW : Sl _ := ⟨hs⟩; clear hs; refine wp_region_held_drew (S := fun w' => Mv gV z10 w') (by kernel_rfl) hm (fun hHeld => ?_); clear hm; refine wpAnyH_two 0 1 rfl rfl (by kernel_rfl) rfl rfl (fun K hK => ?_) (fun K hK => ?_)
      · skip; refine wp_load_all 35 (.tmp 7) rfl gV rfl 35 (nr (t.tp.y p r) t.tp.D).cells _ (XV.out.below HSW.out XV.out.lt) Tryz.underlying35 rfl size_ratio ?_; refine hK.out _ _ (Mv.below HSW.out) (fun hHeld => ?_); clear hK K; simp only [Act.put, sS0, sS1, sS2]; refine wpAnyH_one 1 rfl (by kernel_rfl) rfl (fun K hK => ?_); go_simp; go_at_call 48
        (with_reducible refine (HC2.out _).mono ?_)
        rintro e z12 ⟨rfl, hb⟩; replace HSW := HSW.y hb; refine hK.out _ _ (Mv.below HSW.out) (fun hHeld => ?_); clear hK K hb
        (try simp only [Act.put, sS0, sS1, sS2])
        refine wpAnyH_one 2 rfl (by kernel_rfl) rfl (fun K hK => ?_); go_simp; go_at_call 52
        (with_reducible refine (HUP.out _).mono ?_)
        rintro e z13 ⟨rfl, hb⟩; replace HSW := HSW.y hb; refine hK.out _ _ (Mv.below HSW.out) (fun hHeld => ?_); clear hK K hb
        (try simp only [Act.put, sS0, sS1, sS2])
        refine wpAnyH_one 3 rfl (by kernel_rfl) rfl (fun K hK => ?_); refine wp_store_part 35 (.tmp 7) (.tmp 29) rfl gV (0) (nr (t.tp.b p r) t.tp.D).cells rfl rfl 35 (nr (t.tp.y p r) t.tp.D).cells (nr (t.tp.b p r) t.tp.D).cells (XV.out.below HSW.out XV.out.lt) (by rw [RV.cells_size, RV.cells_size]; omega) (putA_all _ _ rfl) size_ratio (RV.cells_one _) ?_; rintro w14 zm zs zb; refine hK.out _ _ (Mv.trans (Mv.below HSW.out) zm) (fun hHeld => ?_); clear hK K; simp only [Act.put, sS0, sS1, sS2]; refine wpAnyH_done (by kernel_rfl) ?_ _; replace HB := HB.v hHeld (by have := HB.out.size; have := ORD.out; omega); replace XL := XL.w hHeld (by have := XL.out.lt; have := ORD.out; omega); replace XR := XR.w hHeld (by have := XR.out.lt; have := ORD.out; omega); replace XV : Sl (Blk w14 gV 35 (nr (t.tp.b p r) t.tp.D).cells) := ⟨zb⟩; clear zm zs zb HSW; (try clear hHeld)
        go_wp2_with ((with_reducible show wpList _ _ _ _ _ _); first
          | (refine wpList_load_whole rfl 35 (.tmp 7) rfl gV rfl 35 (nr (t.tp.b p r) t.tp.D).cells _ XV.out Tryz.underlying35 rfl size_ratio ?_)
          | (refine wpList_store_whole rfl 35 (.tmp 6) (.tmp 30) rfl gR (nr (t.tp.b p r) t.tp.D).cells rfl rfl 35 RVzero.cells XR.out (by rw [RV.cells_size, RV.cells_size]) size_ratio (RV.cells_one _) ?_; rintro w15 zm zs zb; replace HB := HB.v zm (by have := ORD.out; omega); replace XL := XL.w zm (by have := XL.out.lt; have := ORD.out; omega); replace XV := XV.w zm (by have := XV.out.lt; have := ORD.out; omega); replace XR : Sl (Blk w15 gR 35 (nr (t.tp.b p r) t.tp.D).cells) := ⟨zb⟩; clear zm zs zb))
        refine bodyPost_ret (results_cell_row rfl _ _ gR _ _ _ _ rfl XR.out Tryz.underlying35 rfl size_ratio) rfl ?_; exact ⟨rfl, HB.out⟩
      · skip; go_simp; go_at_call 48
        (with_reducible refine (HC2.out _).mono ?_)
        rintro e z26 ⟨rfl, hb⟩; replace HSW := HSW.y hb; refine hK.out _ _ (Mv.below HSW.out) (fun hHeld => ?_); clear hK K hb
        (try simp only [Act.put, sS0, sS1, sS2])
        refine wpAnyH_one 0 rfl (by kernel_rfl) rfl (fun K hK => ?_); refine wp_load_all 35 (.tmp 7) rfl gV rfl 35 (nr (t.tp.y p r) t.tp.D).cells _ (XV.out.below HSW.out XV.out.lt) Tryz.underlying35 rfl size_ratio ?_; refine hK.out _ _ (Mv.below HSW.out) (fun hHeld => ?_); clear hK K; simp only [Act.put, sS0, sS1, sS2]; refine wpAnyH_one 2 rfl (by kernel_rfl) rfl (fun K hK => ?_); go_simp; go_at_call 52
        (with_reducible refine (HUP.out _).mono ?_)
        rintro e z27 ⟨rfl, hb⟩; replace HSW := HSW.y hb; refine hK.out _ _ (Mv.below HSW.out) (fun hHeld => ?_); clear hK K hb
        (try simp only [Act.put, sS0, sS1, sS2])
        refine wpAnyH_one 3 rfl (by kernel_rfl) rfl (fun K hK => ?_); refine wp_store_part 35 (.tmp 7) (.tmp 29) rfl gV (0) (nr (t.tp.b p r) t.tp.D).cells rfl rfl 35 (nr (t.tp.y p r) t.tp.D).cells (nr (t.tp.b p r) t.tp.D).cells (XV.out.below HSW.out XV.out.lt) (by rw [RV.cells_size, RV.cells_size]; omega) (putA_all _ _ rfl) size_ratio (RV.cells_one _) ?_; rintro w28 zm zs zb; refine hK.out _ _ (Mv.trans (Mv.below HSW.out) zm) (fun hHeld => ?_); clear hK K; simp only [Act.put, sS0, sS1, sS2]; refine wpAnyH_done (by kernel_rfl) ?_ _; replace HB := HB.v hHeld (by have := HB.out.size; have := ORD.out; omega); replace XL := XL.w hHeld (by have := XL.out.lt; have := ORD.out; omega); replace XR := XR.w hHeld (by have := XR.out.lt; have := ORD.out; omega); replace XV : Sl (Blk w28 gV 35 (nr (t.tp.b p r) t.tp.D).cells) := ⟨zb⟩; clear zm zs zb HSW; (try clear hHeld)
        go_wp2_with ((with_reducible show wpList _ _ _ _ _ _); first
          | (refine wpList_load_whole rfl 35 (.tmp 7) rfl gV rfl 35 (nr (t.tp.b p r) t.tp.D).cells _ XV.out Tryz.underlying35 rfl size_ratio ?_)
          | (refine wpList_store_whole rfl 35 (.tmp 6) (.tmp 30) rfl gR (nr (t.tp.b p r) t.tp.D).cells rfl rfl 35 RVzero.cells XR.out (by rw [RV.cells_size, RV.cells_size]) size_ratio (RV.cells_one _) ?_; rintro w29 zm zs zb; replace HB := HB.v zm (by have := ORD.out; omega); replace XL := XL.w zm (by have := XL.out.lt; have := ORD.out; omega); replace XV := XV.w zm (by have := XV.out.lt; have := ORD.out; omega); replace XR : Sl (Blk w29 gR 35 (nr (t.tp.b p r) t.tp.D).cells) := ⟨zb⟩; clear zm zs zb))
        refine bodyPost_ret (results_cell_row rfl _ _ gR _ _ _ _ rfl XR.out Tryz.underlying35 rfl size_ratio) rfl ?_; exact ⟨rfl, HB.out⟩
    · have hin : (nr (t.tp.y p r) t.tp.D) = (nr (t.tp.b p r) t.tp.D) := HTO.out.way_in hp12 hr12 (HO1.out.1 (by show 0 ≤ c; omega)); replace XV : Sl (Blk z10 gV 35 (nr (t.tp.b p r) t.tp.D).cells) := ⟨by rw [← hin]; exact XV.out⟩; clear hin
      go_wp2_with ((with_reducible show wpList _ _ _ _ _ _); first
        | (refine wpList_load_whole rfl 35 (.tmp 7) rfl gV rfl 35 (nr (t.tp.b p r) t.tp.D).cells _ XV.out Tryz.underlying35 rfl size_ratio ?_)
        | (refine wpList_store_whole rfl 35 (.tmp 6) (.tmp 30) rfl gR (nr (t.tp.b p r) t.tp.D).cells rfl rfl 35 RVzero.cells XR.out (by rw [RV.cells_size, RV.cells_size]) size_ratio (RV.cells_one _) ?_; rintro w26 zm zs zb; replace HB := HB.v zm (by have := ORD.out; omega); replace XL := XL.w zm (by have := XL.out.lt; have := ORD.out; omega); replace XV := XV.w zm (by have := XV.out.lt; have := ORD.out; omega); replace XR : Sl (Blk w26 gR 35 (nr (t.tp.b p r) t.tp.D).cells) := ⟨zb⟩; clear zm zs zb))
      refine bodyPost_ret (results_cell_row rfl _ _ gR _ _ _ _ rfl XR.out Tryz.underlying35 rfl size_ratio) rfl ?_; exact ⟨rfl, HB.out⟩
end Go.Proofs.YtmcoadmnkelkkaaGreatDoor
namespace Go.Proofs.YtmcoadmnkelkkaaGreatDoor
set_option linter.unusedSimpArgs false
open Go.RowKit
set_option linter.unusedVariables false
attribute [-simp] Tryz.isAgg35 Tryz.isAgg26 Tryz.isAgg24 Tryz.isAgg23
end Go.Proofs.YtmcoadmnkelkkaaGreatDoor
namespace Go.Proofs.YtmcoadmnkelkkaaGreatDoor
set_option linter.unusedSimpArgs false
open Go.RowKit
set_option linter.unusedVariables false
attribute [-simp] Tryz.isAgg35 Tryz.isAgg26 Tryz.isAgg24 Tryz.isAgg23
set_option maxHeartbeats 6400000 in
set_option maxRecDepth 100000 in
theorem r5Cents_any (t : TV) (hs : t.nm.size ≤ maxLen) {w0 : World} (hT : PrT w0) (w : World) :
    Calls Tryz.prog 23 #[.agg t.cells] w fun e w' => CentsT w w' e t ∧ Below w.heap.size w w' := by
  have HB : Sl (Below w.heap.size w w) := ⟨Below.refl _ _⟩; have HNO : Sl (∀ W : World, Calls Tryz.prog 19 #[.agg t.cells] W fun e w' => NotR W w' e t ∧ Below W.heap.size W w') := ⟨fun W => r5Notes_any t hs hT W⟩; clear hT hs; obtain ⟨c, hc⟩ : ∃ c, t.chk nameS = c := ⟨_, rfl⟩; have HC : Sl _ := ⟨hc⟩; clear hc; obtain ⟨i0, hi0, hz0, hz1, hz2⟩ := info_i64; have HI : Sl _ := ⟨And.intro hi0 (And.intro hz0 (And.intro hz1 hz2))⟩; clear hi0 hz0 hz1 hz2; go_enter Tryz.func23, Tryz.ntmps23
  go_wp2_with ((with_reducible show wpList _ _ _ _ _ _); first
    | (refine wpList_box_new 1 rfl rfl 26 (.tmp 0) rfl t.cells rfl (box_temper t) ?_; rintro w1 gT zg zm zs zb; have ORD : Sl (w.heap.size ≤ gT) := ⟨by have := HB.out.size; omega⟩; replace HB := HB.v zm (by have := HB.out.size; have := ORD.out; omega); have XT : Sl (Blk w1 gT 26 t.cells) := ⟨zb⟩; clear zg zm zs zb)
    | (refine wpList_load_whole rfl 26 (.tmp 1) rfl gT rfl 26 t.cells _ XT.out Tryz.underlying26 rfl (size_temper t) ?_))
  by_cases h0 : c = 0
  · subst h0; have HTO : Sl _ := ⟨TV.tp_ok HC.out⟩; refine (HNO.out _).mono ?_; rintro e w2 ⟨⟨_, hf⟩, hb⟩; obtain ⟨gL, rfl, hge, zb⟩ := hf HC.out; clear hf; replace HB := HB.y hb; replace XT := XT.x hb; have XL : Sl (Blk w2 gL 35 (flatR t.N)) := ⟨zb⟩; clear hb hge zb; have HL : Sl (Below w2.heap.size w2 w2) := ⟨Below.refl _ _⟩; have XO : Sl (w2.ownsRow w2.heap.size 2 1 (.slice none 0 0) 0 (ints (t.cl 0))) := ⟨World.ownsRow_nil _ _ _ _⟩; go_wp2_with fail
    go_loopw [6, 7] (fun s6 s7 wr => ∃ (k : Nat) (v5 : Value), k ≤ 12 ∧ s7 = .int .i64 k ∧ v5 = s6 ∧ Sl (Below w2.heap.size w2 wr) ∧ Sl (wr.ownsRow w2.heap.size 2 1 v5 k (ints (t.cl k)))) (fun _ s7 _ => 12 - (RowKit.intOf s7).toNat)
    case atStart => exact ⟨0, _, by decide, rfl, rfl, HL, XO⟩
    case round =>
      clear HL XO; obtain ⟨k, v5, hk, rfl, rfl, HL, XO⟩ := hrel
      by_cases hk12 : k < 12
      · obtain ⟨m, hm⟩ : ∃ m, cmN (t.tp.n (7 * k % 12)) t.tp.D = m := ⟨_, rfl⟩; have HM : Sl _ := ⟨hm⟩; have hk1 : (0 : Int) ≤ (k : Int) := (by omega); have hk2 : (k : Int) < 12 := (by omega)
        have HCE : Sl (∀ W : World, Calls Tryz.prog 58 #[.agg (t.N k).cells] W fun e w' => (∃ b, e = .returned (.tuple #[.int .i64 m, .bool b, .int .i64 0])) ∧ Below W.heap.size W w') := ⟨fun W => by
          have hD := HTO.out.hD; obtain ⟨h1, h2⟩ := HTO.out.n_range (k := 7 * k % 12) (by omega); refine (r4Cents_any (t.N k) W).mono fun e w' h => ⟨?_, h.2⟩
          obtain ⟨⟨b, he, _⟩, _⟩ := cents_tame (HTO.out.n_fits (k := 7 * k % 12) (by omega)) (h1.mono (by omega)) h2 h.1; rw [hm] at he
          exact ⟨b, he⟩⟩
        clear hm; have XL2 : Sl (Blk wr gL 35 (flatR t.N)) := ⟨XL.out.below HL.out XL.out.lt⟩
        go_wp2_with ((with_reducible show wpList _ _ _ _ _ _); first
          | (refine wpList_load_part rfl 35 (.tmp 26) rfl gL ((k * 7)) rfl 35 (flatR t.N) (t.N k).cells _ XL2.out (extR _ hk12) Tryz.underlying35 rfl size_ratio ?_))
        refine (HCE.out _).mono ?_; rintro e wc ⟨⟨bb, rfl⟩, hb⟩; replace HL : Sl (Below w2.heap.size w2 wc) := ⟨HL.out.trans (hb.mono HL.out.size)⟩; replace XO : Sl (wc.ownsRow w2.heap.size 2 1 v5 k (ints (t.cl k))) := ⟨own_mv XO.out (Mv.of_below hb) (fun zk hk => by have := (XO.out.lt zk hk).2; omega)⟩; clear hb XL2
        go_wp2_with ((with_reducible show wpList _ _ _ _ _ _); first
          | (at_builtin; go_loud (refine wpList_append_any _ rfl (.tmp 32) (.tmp 34) _ rfl w2.heap.size 2 i0 _ 1 8 Tryz.underlying47 HI.out.1 HI.out.2.1 HI.out.2.2.1 HI.out.2.2.2 rfl (by decide) v5 k _ rfl (own_alloc XO.out _) _ (some ⟨wc.heap.size, 0, none⟩) 1 1 [.int .i64 m] rfl (reads_i1 _ _ _) (by intro u hu; simp at hu; subst hu; rfl) (by unfold maxLen; omega) (by omega) (by have := HL.out.size; simp; omega) ?_); rintro v6 wN hown hg hat; have XQ : Sl (wN.ownsRow w2.heap.size 2 1 v6 (k + 1) (ints (t.cl (k + 1)))) := ⟨by rw [TV.cl_succ, ints_snoc, HM.out]; exact hown⟩; have HLN : Sl (Below w2.heap.size w2 wN) := ⟨below_grown2 HL.out HL.out.size XO.out hg⟩; clear hown hg hat))
        exact ⟨⟨k + 1, v6, hk12, by go_num, rfl, HLN, XQ⟩, by simp [RowKit.intOf]; omega⟩
      · obtain rfl : k = 12 := (by omega); clear hk12 hk; go_wp2_with fail; go_ret2; exact ⟨⟨fun h => absurd HC.out h, fun _ => ⟨v5, rfl, own_base XO.out HB.out.size⟩⟩, HB.out.trans (HL.out.mono HB.out.size)⟩
  · have hz : ((c : Int) != 0) = true := (by rw [bne_iff_ne]; exact h0); refine (HNO.out _).mono ?_; rintro e w23 ⟨⟨hf, _⟩, hb⟩; obtain rfl := hf (by rw [HC.out]; exact h0); clear hf; rw [HC.out]; replace HB := HB.y hb; replace XT := XT.x hb; clear hb; go_wp2_with fail; go_ret2; exact ⟨⟨fun _ => by rw [HC.out]; rfl, fun h => absurd (HC.out.symm.trans h) h0⟩, HB.out⟩
end Go.Proofs.YtmcoadmnkelkkaaGreatDoor
namespace Go.Proofs.YtmcoadmnkelkkaaGreatDoor
set_option linter.unusedSimpArgs false
open Go.RowKit
set_option linter.unusedVariables false
attribute [-simp] Tryz.isAgg35 Tryz.isAgg26 Tryz.isAgg24 Tryz.isAgg23
set_option maxHeartbeats 6400000 in
set_option maxRecDepth 100000 in
theorem r5excess_any (t : TV) (hc : t.chk nameS = 0) (gL : Nat) (a b : Nat) (ha : a < 12) (hb : b < 24) {p : Nat → Int} (hp : Pure p) (w : World) (hT : PrT w) (hB : Blk w gL 35 (flatR t.N)) :
    Calls Tryz.prog 61 #[.slice (some ⟨gL, 0, none⟩) 12 12, .int .i64 a, .int .i64 b, .agg (nr (fun j => p j * t.tp.D) t.tp.D).cells] w fun e w' => e = .returned (.int .i64 (t.xc p a b)) ∧ Below w.heap.size w w' := by
  have HB : Sl (Below w.heap.size w w) := ⟨Below.refl _ _⟩; have HT : Sl _ := ⟨hT⟩; have HTO : Sl _ := ⟨TV.tp_ok hc⟩; have HCK : Sl _ := ⟨hc⟩; have HPP : Sl _ := ⟨hp⟩; have XL : Sl (Blk w gL 35 (flatR t.N)) := ⟨hB⟩; have ORD : Sl (gL < w.heap.size) := ⟨hB.lt⟩; clear hT hc hB hp; obtain ⟨q, hq⟩ : ∃ q, b % 12 = q := ⟨_, rfl⟩; have hq12 : q < 12 := (by omega); have hqi : (b : Int) % 12 = (q : Int) := (by omega); have hqt : (b : Int).tmod 12 = (q : Int) := (by rw [Int.tmod_eq_emod_of_nonneg (by omega)]; exact hqi); have hb0 : (0 : Int) ≤ (b : Int) := (by omega); obtain ⟨m, hm⟩ : ∃ m, t.xc p a b = m := ⟨_, rfl⟩; rw [hm]
  have HBE : Sl (∀ W : World, PrT W → Blk W gL 35 (flatR t.N) → Calls Tryz.prog 56 #[.slice (some ⟨gL, 0, none⟩) 12 12, .int .i64 a, .int .i64 (q : Int)] W fun e w' => e = .returned (.agg (t.B a b).cells) ∧ Below W.heap.size W w') := ⟨fun W h h2 => by
    have := r5between_any t HCK.out gL a q ha hq12 W h h2; unfold TV.B at this; unfold TV.B; rw [Nat.mod_eq_of_lt hq12] at this; rw [hq]
    exact this⟩
  have HOV : Sl (∀ W : World, Calls Tryz.prog 51 #[.agg (t.B a b).cells, .agg (nr (fun j => p j * t.tp.D) t.tp.D).cells] W fun e w' => e = .returned (.agg (nr (t.X p a b) t.tp.D).cells) ∧ Below W.heap.size W w') := ⟨fun W => r5div_any _ _ _ W (HTO.out.x_join HPP.out (by omega) (by omega))⟩
  have HCE : Sl (∀ W : World, Calls Tryz.prog 58 #[.agg (nr (t.X p a b) t.tp.D).cells] W fun e w' => (∃ b, e = .returned (.tuple #[.int .i64 m, .bool b, .int .i64 0])) ∧ Below W.heap.size W w') := ⟨fun W => by
    obtain ⟨h1, h2⟩ := HTO.out.x_rng HPP.out (a := 7 * a % 12) (b := 7 * (b % 12) % 12) (by omega) (by omega); refine (r4Cents_any _ W).mono fun e w' h => ⟨?_, h.2⟩
    obtain ⟨⟨b, he, _⟩, _⟩ := cents_tame (HTO.out.x_fits HPP.out (by omega) (by omega)) h1 h2 h.1; unfold TV.xc TV.X at hm; rw [hm] at he
    exact ⟨b, he⟩⟩
  clear hm hq; have ha0 : (0 : Int) ≤ (a : Int) := by omega
  have ha1 : (a : Int) < 12 := (by omega); have hix : (Instr.box 35 (.agg (nr (fun j => p j * t.tp.D) t.tp.D).cells)) = Instr.box 35 (.agg (nr (fun j => p j * t.tp.D) t.tp.D).cells) := rfl; go_enter Tryz.func61, Tryz.ntmps61
  go_wp2_with ((with_reducible show wpList _ _ _ _ _ _); first
    | (refine wpList_box_new 7 rfl rfl 35 (.tmp 3) rfl (nr (fun j => p j * t.tp.D) t.tp.D).cells rfl (box_ratio _) ?_; rintro w1 gP zg zm zs zb; replace ORD : Sl (gL < w.heap.size ∧ w.heap.size ≤ gP) := ⟨by have := HB.out.size; have := ORD.out; have := XL.out.lt; omega⟩; replace HB := HB.v zm (by have := HB.out.size; have := ORD.out; omega); replace XL := XL.w zm (by have := XL.out.lt; have := ORD.out; omega); have XP : Sl (Blk w1 gP 35 (nr (fun j => p j * t.tp.D) t.tp.D).cells) := ⟨zb⟩; clear zg zm zs zb))
  have hm : Mv w1.heap.size w1 w1.drew := Mv.drew _ _; have hs : RowKit.Below w1.heap.size w1 w1.drew := below_drewN (Below.refl _ _) 1; have HSW : Sl _ := ⟨hs⟩; clear hs; refine wp_region_held_drew (S := fun w' => Mv w1.heap.size w1 w') (by kernel_rfl) hm (fun hHeld => ?_); clear hm; refine wpAnyH_pure 0 (v := .slice (some ⟨gL, 0, none⟩) 12 12) rfl (by kernel_rfl) (by kernel_rfl) (by kernel_rfl) (fun _ _ _ h => h) rfl (fun _ => rfl) (by assumption) ?_; simp only [Act.put, sS0, sS1, sS2]; refine wpAnyH_pure 1 (v := .int .i64 (a : Int)) rfl (by kernel_rfl) (by kernel_rfl) (by kernel_rfl) (fun _ _ _ h => h) rfl (fun _ => rfl) (by assumption) ?_; simp only [Act.put, sS0, sS1, sS2]; refine wpAnyH_pure 2 (v := .int .i64 (b : Int)) rfl (by kernel_rfl) (by kernel_rfl) (by kernel_rfl) (fun _ _ _ h => h) rfl (fun _ => rfl) (by assumption) ?_; simp only [Act.put, sS0, sS1, sS2]; refine wpAnyH_pure 3 (v := .int .i64 (q : Int)) rfl (by kernel_rfl) (by kernel_rfl) (by kernel_rfl) (fun _ _ _ h => h) rfl (fun _ => by go_simp) (by assumption) ?_; simp only [Act.put, sS0, sS1, sS2]
  refine wpAnyH_load 5 35 (.tmp 7) rfl rfl rfl gP (0) rfl (nr (fun j => p j * t.tp.D) t.tp.D).cells _ (fun w' h => by
    have e := XP.out.mv h (by have := XP.out.lt; (try have := ORD.out); omega)
    exact e.all) Tryz.underlying35 rfl size_ratio (by kernel_rfl) (by kernel_rfl) (by kernel_rfl) (fun _ _ _ h => h) (by assumption) ?_
  simp only [Act.put, sS0, sS1, sS2]; refine wpAnyH_one 4 rfl (by kernel_rfl) rfl (fun K hK => ?_); go_simp; go_at_call 56
  (with_reducible refine (HBE.out _ (HT.out.below (HB.out.trans (HSW.out.mono HB.out.size))) (XL.out.below HSW.out XL.out.lt)).mono ?_)
  rintro e z2 ⟨rfl, hb⟩; replace HSW := HSW.y hb; refine hK.out _ _ (Mv.below HSW.out) (fun hHeld => ?_); clear hK K hb
  (try simp only [Act.put, sS0, sS1, sS2])
  refine wpAnyH_one 6 rfl (by kernel_rfl) rfl (fun K hK => ?_); go_simp; go_at_call 51
  (with_reducible refine (HOV.out _).mono ?_)
  rintro e z3 ⟨rfl, hb⟩; replace HSW := HSW.y hb; refine hK.out _ _ (Mv.below HSW.out) (fun hHeld => ?_); clear hK K hb
  (try simp only [Act.put, sS0, sS1, sS2])
  refine wpAnyH_one 7 rfl (by kernel_rfl) rfl (fun K hK => ?_); go_simp; go_at_call 58
  (with_reducible refine (HCE.out _).mono ?_)
  rintro e z4 ⟨⟨bb, rfl⟩, hb⟩; replace HSW := HSW.y hb; refine hK.out _ _ (Mv.below HSW.out) (fun hHeld => ?_); clear hK K hb
  (try simp only [Act.put, sS0, sS1, sS2])
  refine wpAnyH_pure 8 (v := .tuple #[.int .i64 m, .bool bb, .int .i64 0]) rfl (by kernel_rfl) (by kernel_rfl) (by kernel_rfl) (fun _ _ _ h => h) rfl (fun _ => rfl) (by assumption) ?_; simp only [Act.put, sS0, sS1, sS2]; refine wpAnyH_pure 9 (v := .int .i64 m) rfl (by kernel_rfl) (by kernel_rfl) (by kernel_rfl) (fun _ _ _ h => h) rfl (fun _ => by go_simp) (by assumption) ?_; simp only [Act.put, sS0, sS1, sS2]; refine wpAnyH_pure 10 (v := .bool bb) rfl (by kernel_rfl) (by kernel_rfl) (by kernel_rfl) (fun _ _ _ h => h) rfl (fun _ => by go_simp) (by assumption) ?_; simp only [Act.put, sS0, sS1, sS2]; refine wpAnyH_pure 11 (v := .int .i64 0) rfl (by kernel_rfl) (by kernel_rfl) (by kernel_rfl) (fun _ _ _ h => h) rfl (fun _ => by go_simp) (by assumption) ?_; simp only [Act.put, sS0, sS1, sS2]; refine wpAnyH_pure 12 (v := .int .i64 m) rfl (by kernel_rfl) (by kernel_rfl) (by kernel_rfl) (fun _ _ _ h => h) rfl (fun _ => by go_simp) (by assumption) ?_; simp only [Act.put, sS0, sS1, sS2]; refine wpAnyH_pure 13 (v := .bool bb) rfl (by kernel_rfl) (by kernel_rfl) (by kernel_rfl) (fun _ _ _ h => h) rfl (fun _ => by go_simp) (by assumption) ?_; simp only [Act.put, sS0, sS1, sS2]; refine wpAnyH_pure 14 (v := .int .i64 0) rfl (by kernel_rfl) (by kernel_rfl) (by kernel_rfl) (fun _ _ _ h => h) rfl (fun _ => by go_simp) (by assumption) ?_; simp only [Act.put, sS0, sS1, sS2]; refine wpAnyH_done (by kernel_rfl) ?_ _; replace HB := HB.y HSW.out; replace XL := XL.x HSW.out; replace XP := XP.x HSW.out; clear HSW; (try clear hHeld); go_wp2_with fail; go_ret; exact ⟨rfl, HB.out⟩
end Go.Proofs.YtmcoadmnkelkkaaGreatDoor
namespace Go.Proofs.YtmcoadmnkelkkaaGreatDoor
set_option linter.unusedSimpArgs false
open Go.RowKit
set_option linter.unusedVariables false
attribute [-simp] Tryz.isAgg35 Tryz.isAgg26 Tryz.isAgg24 Tryz.isAgg23
set_option maxHeartbeats 6400000 in
set_option maxRecDepth 100000 in
theorem r5Triad_any (t : TV) (hs : t.nm.size ≤ maxLen) (a : Int) (w : World) (hT : PrT w) :
    Calls Tryz.prog 28 #[.agg t.cells, .int .i64 a] w fun e w' => e = .returned (.tuple #[.int .i64 (t.tri a).1, .int .i64 (t.tri a).2.1, .int .i64 (t.tri a).2.2]) ∧ Below w.heap.size w w' := by
  have HB : Sl (Below w.heap.size w w) := ⟨Below.refl _ _⟩; have HT : Sl _ := ⟨hT⟩; have HNO : Sl (∀ W : World, Calls Tryz.prog 19 #[.agg t.cells] W fun e w' => NotR W w' e t ∧ Below W.heap.size W w') := ⟨fun W => r5Notes_any t hs hT W⟩; clear hT hs; obtain ⟨c, hc⟩ : ∃ c, t.chk nameS = c := ⟨_, rfl⟩; have HC : Sl _ := ⟨hc⟩; clear hc; obtain ⟨sr, hsr⟩ : ∃ s, t.tri a = s := ⟨_, rfl⟩; rw [hsr]; have HSR : Sl _ := ⟨hsr⟩; clear hsr; go_enter Tryz.func28, Tryz.ntmps28
  go_wp2_with ((with_reducible show wpList _ _ _ _ _ _); first
    | (refine wpList_box_new 2 rfl rfl 26 (.tmp 0) rfl t.cells rfl (box_temper t) ?_; rintro w1 gT zg zm zs zb; have ORD : Sl (w.heap.size ≤ gT) := ⟨by have := HB.out.size; omega⟩; replace HB := HB.v zm (by have := HB.out.size; have := ORD.out; omega); have XT : Sl (Blk w1 gT 26 t.cells) := ⟨zb⟩; clear zg zm zs zb)
    | (refine wpList_load_whole rfl 26 (.tmp 2) rfl gT rfl 26 t.cells _ XT.out Tryz.underlying26 rfl (size_temper t) ?_))
  by_cases h0 : c = 0
  · subst h0; refine (HNO.out _).mono ?_; rintro e w2 ⟨⟨_, hf⟩, hb⟩; obtain ⟨gL, rfl, hge, zb⟩ := hf HC.out; clear hf; replace HB := HB.y hb; replace XT := XT.x hb; have XL : Sl (Blk w2 gL 35 (flatR t.N)) := ⟨zb⟩; clear hb hge zb
    by_cases ka0 : a < 0
    · have HV : Sl (sr = (0, 0, 2)) := ⟨by rw [← HSR.out]; unfold TV.tri; rw [if_pos HC.out, if_neg (fun h => by rw [clsB_true] at h; omega)]⟩; go_wp2_with fail
      go_ret3
      exact ⟨by rw [HV.out]; rfl, HB.out⟩
    · skip
      by_cases ka1 : 11 < a
      · have HV : Sl (sr = (0, 0, 2)) := ⟨by rw [← HSR.out]; unfold TV.tri; rw [if_pos HC.out, if_neg (fun h => by rw [clsB_true] at h; omega)]⟩; go_wp2_with fail
        go_ret3
        exact ⟨by rw [HV.out]; rfl, HB.out⟩
      · skip; obtain ⟨x, rfl⟩ : ∃ x : Nat, a = (x : Int) := ⟨a.toNat, by omega⟩; have hx : x < 12 := by omega
        have HV : Sl (sr = (t.xc b54 x (x + 4), t.xc b32 x (x + 7), 0)) := ⟨by rw [← HSR.out]; unfold TV.tri; rw [if_pos HC.out, if_pos (by rw [clsB_true]; omega)]; rfl⟩; have HTO : Sl _ := ⟨TV.tp_ok HC.out⟩; have HW1 : Sl (∀ W : World, Calls Tryz.prog 48 #[.int .i64 5, .int .i64 4] W fun e w' => e = .returned (.agg (nr (fun j => b54 j * t.tp.D) t.tp.D).cells) ∧ Below W.heap.size W w') := ⟨fun W => r5ratio_any _ _ _ W (thi_up HTO.out.hD.1)⟩; have HW2 : Sl (∀ W : World, Calls Tryz.prog 48 #[.int .i64 3, .int .i64 2] W fun e w' => e = .returned (.agg (nr (fun j => b32 j * t.tp.D) t.tp.D).cells) ∧ Below W.heap.size W w') := ⟨fun W => r5ratio_any _ _ _ W (fif_up HTO.out.hD.1)⟩
        have HX1 : Sl (∀ W : World, PrT W → Blk W gL 35 (flatR t.N) → Calls Tryz.prog 61 #[.slice (some ⟨gL, 0, none⟩) 12 12, .int .i64 (x : Int), .int .i64 ((x : Int) + 4), .agg (nr (fun j => b54 j * t.tp.D) t.tp.D).cells] W fun e w' => e = .returned (.int .i64 (t.xc b54 x (x + 4))) ∧ Below W.heap.size W w') := ⟨fun W h h2 => by
          have := r5excess_any t HC.out gL x (x + 4) hx (by omega) pure54 W h h2; rw [show ((x + 4 : Nat) : Int) = (x : Int) + 4 by omega] at this
          exact this⟩
        have HX2 : Sl (∀ W : World, PrT W → Blk W gL 35 (flatR t.N) → Calls Tryz.prog 61 #[.slice (some ⟨gL, 0, none⟩) 12 12, .int .i64 (x : Int), .int .i64 ((x : Int) + 7), .agg (nr (fun j => b32 j * t.tp.D) t.tp.D).cells] W fun e w' => e = .returned (.int .i64 (t.xc b32 x (x + 7))) ∧ Below W.heap.size W w') := ⟨fun W h h2 => by
          have := r5excess_any t HC.out gL x (x + 7) hx (by omega) pure32 W h h2; rw [show ((x + 7 : Nat) : Int) = (x : Int) + 7 by omega] at this
          exact this⟩
        have hx0 : (0 : Int) ≤ (x : Int) := (by omega); have hx1 : (x : Int) < 12 := (by omega); go_wp2_with fail; refine (HW1.out _).mono ?_; rintro e w23 ⟨rfl, hb⟩; replace HB := HB.y hb; replace XT := XT.x hb; replace XL := XL.x hb; clear hb; go_wp2_with fail; refine (HX1.out _ (HT.out.below HB.out) XL.out).mono ?_; rintro e w24 ⟨rfl, hb⟩; replace HB := HB.y hb; replace XT := XT.x hb; replace XL := XL.x hb; clear hb; go_wp2_with fail; refine (HW2.out _).mono ?_; rintro e w25 ⟨rfl, hb⟩; replace HB := HB.y hb; replace XT := XT.x hb; replace XL := XL.x hb; clear hb; go_wp2_with fail; refine (HX2.out _ (HT.out.below HB.out) XL.out).mono ?_; rintro e w26 ⟨rfl, hb⟩; replace HB := HB.y hb; replace XT := XT.x hb; replace XL := XL.x hb; clear hb; go_wp2_with fail
        go_ret3
        exact ⟨by rw [HV.out]; rfl, HB.out⟩
  · have hz : ((c : Int) != 0) = true := (by rw [bne_iff_ne]; exact h0); have HV : Sl (sr = (0, 0, c)) := ⟨by rw [← HSR.out]; unfold TV.tri; rw [if_neg (by rw [HC.out]; exact h0), HC.out]⟩; refine (HNO.out _).mono ?_; rintro e w37 ⟨⟨hf, _⟩, hb⟩; obtain rfl := hf (by rw [HC.out]; exact h0); clear hf; rw [HC.out]; replace HB := HB.y hb; replace XT := XT.x hb; clear hb h0; go_wp2_with fail
    go_ret3
    exact ⟨by rw [HV.out]; rfl, HB.out⟩
end Go.Proofs.YtmcoadmnkelkkaaGreatDoor
namespace Go.Proofs.YtmcoadmnkelkkaaGreatDoor
set_option linter.unusedSimpArgs false
open Go.RowKit
set_option linter.unusedVariables false
attribute [-simp] Tryz.isAgg67 Tryz.isAgg35 Tryz.isAgg26 Tryz.isAgg24 Tryz.isAgg23
theorem size_i64 : (Tryz.prog.info? 2).map (·.size) = some 1 := by kernel_rfl
theorem cm_bd {u : Nat → Int} {D : Int} (hu : fitsV u D) (h1 : TT (-D) u) (h2 : SS D u) {w : World} (hT : PrT w) : -1200000 ≤ cmN u D ∧ cmN u D < 1200000 := by
  obtain ⟨e, w1, _, ⟨hc, _⟩, _⟩ := Cents_any (nr u D) w hT []; exact (cents_tame hu h1 h2 hc).2
noncomputable def TV.c (t : TV) (j : Nat) : Int := cmN (t.tp.n (7 * j % 12)) t.tp.D
theorem TV.c_bd {t : TV} (h : t.chk nameS = 0) {w : World} (hT : PrT w) (j : Nat) : -1200000 ≤ t.c j ∧ t.c j < 1200000 := by
  have ho := TV.tp_ok h; obtain ⟨h1, h2⟩ := ho.n_range (k := 7 * j % 12) (by omega); exact cm_bd (ho.n_fits (by omega)) (h1.mono (by have := ho.hD; omega)) h2 hT
theorem TV.cl_at (t : TV) {j : Nat} (hj : j < 12) : (t.cl 12)[j]?.getD 0 = t.c j := by
  unfold TV.cl TV.c; rw [List.getElem?_map, List.getElem?_range hj]; rfl
noncomputable def TV.of (t : TV) (k j : Nat) : Int := if j < k then t.c j - 100000 * (j : Int) else t.c j
set_option maxHeartbeats 6400000 in
set_option maxRecDepth 100000 in
theorem sameLongs_none (w : World) : Calls Tryz.prog 26 #[.slice none 0 0, .slice none 0 0] w fun e w' => e = .returned (.bool true) ∧ Below w.heap.size w w' := by
  have HB : Sl (Below w.heap.size w w) := ⟨Below.refl _ _⟩; go_enter Tryz.func26, Tryz.ntmps26; go_wp2_with fail
  go_loopw [5] (fun s5 wr => s5 = .int .i64 0 ∧ Sl (Below w.heap.size w wr)) (fun _ _ => 0)
  case atStart => exact ⟨rfl, HB⟩
  case round =>
    clear HB; obtain ⟨rfl, HB⟩ := hrel; go_wp2_with fail; go_ret; exact ⟨rfl, HB.out⟩
set_option maxHeartbeats 6400000 in
set_option maxRecDepth 100000 in
theorem sameLongs_any (f : Nat → Int) (g1 g2 n c1 c2 : Nat) (w : World) (hn : n ≤ 12) (h1 : IB w g1 n f) (h2 : IB w g2 n f) : Calls Tryz.prog 26 #[.slice (some ⟨g1, 0, none⟩) n c1, .slice (some ⟨g2, 0, none⟩) n c2] w fun e w' => e = .returned (.bool true) ∧ Below w.heap.size w w' := by
  have HB : Sl (Below w.heap.size w w) := ⟨Below.refl _ _⟩; have XA : Sl (IB w g1 n f) := ⟨h1⟩; have XC : Sl (IB w g2 n f) := ⟨h2⟩; clear h1 h2; go_enter Tryz.func26, Tryz.ntmps26; go_wp2_with fail
  go_loopw [5] (fun s5 wr => ∃ k : Nat, k ≤ n ∧ s5 = .int .i64 k ∧ Sl (Below w.heap.size w wr)) (fun s5 _ => n - (RowKit.intOf s5).toNat)
  case atStart => exact ⟨0, Nat.zero_le _, rfl, HB⟩
  case round =>
    clear HB; obtain ⟨k, hk, rfl, HB⟩ := hrel; replace XA : Sl (IB wr g1 n f) := ⟨XA.out.below HB.out XA.out.lt⟩; replace XC : Sl (IB wr g2 n f) := ⟨XC.out.below HB.out XC.out.lt⟩
    by_cases hkn : k < n
    · have hk1 : (0 : Int) ≤ (k : Int) := (by omega); have hk2 : (k : Int) < (n : Int) := (by omega); have hn1 : (n : Int) ≤ 12 := (by omega); obtain ⟨z, hz⟩ : ∃ z, f k = z := ⟨_, rfl⟩; have HZ : Sl _ := ⟨hz⟩; clear hz; go_wp2_with fail; have hm : Mv wr.heap.size wr wr.drew := Mv.drew _ _; have hs : RowKit.Below wr.heap.size wr wr.drew := below_drewN (Below.refl _ _) 1; have HSW : Sl _ := ⟨hs⟩; clear hs; refine wp_region_held_drew (S := fun w' => Mv wr.heap.size wr w') (by kernel_rfl) hm (fun hHeld => ?_); clear hm; refine wpAnyH_pure 0 (v := .slice (some ⟨g1, 0, none⟩) n c1) rfl (by kernel_rfl) (by kernel_rfl) (by kernel_rfl) (fun _ _ _ h => h) rfl (fun _ => rfl) (by assumption) ?_; simp only [Act.put, sS0, sS1, sS2]; refine wpAnyH_pure 1 (v := .int .i64 (k : Int)) rfl (by kernel_rfl) (by kernel_rfl) (by kernel_rfl) (fun _ _ _ h => h) rfl (fun _ => rfl) (by assumption) ?_; simp only [Act.put, sS0, sS1, sS2]; refine wpAnyH_pure 2 (v := .pointer (some ⟨g1, k, none⟩)) rfl (by kernel_rfl) (by kernel_rfl) (by kernel_rfl) (fun _ _ _ h => h) rfl (fun _ => by go_simp) (by assumption) ?_; simp only [Act.put, sS0, sS1, sS2]
      refine wpAnyH_cell 3 (v := .int .i64 z) rfl rfl (fun w' h => by
        have e := (XA.out.mv h (by have := XA.out.lt; omega)).cell hkn; rw [HZ.out] at e
        go_simp) (by kernel_rfl) (by kernel_rfl) (by kernel_rfl) (fun _ _ _ h => h) (by assumption) ?_
      simp only [Act.put, sS0, sS1, sS2]; refine wpAnyH_pure 4 (v := .slice (some ⟨g2, 0, none⟩) n c2) rfl (by kernel_rfl) (by kernel_rfl) (by kernel_rfl) (fun _ _ _ h => h) rfl (fun _ => rfl) (by assumption) ?_; simp only [Act.put, sS0, sS1, sS2]; refine wpAnyH_pure 5 (v := .int .i64 (k : Int)) rfl (by kernel_rfl) (by kernel_rfl) (by kernel_rfl) (fun _ _ _ h => h) rfl (fun _ => rfl) (by assumption) ?_; simp only [Act.put, sS0, sS1, sS2]; refine wpAnyH_pure 6 (v := .pointer (some ⟨g2, k, none⟩)) rfl (by kernel_rfl) (by kernel_rfl) (by kernel_rfl) (fun _ _ _ h => h) rfl (fun _ => by go_simp) (by assumption) ?_; simp only [Act.put, sS0, sS1, sS2]
      refine wpAnyH_cell 7 (v := .int .i64 z) rfl rfl (fun w' h => by
        have e := (XC.out.mv h (by have := XC.out.lt; omega)).cell hkn; rw [HZ.out] at e
        go_simp) (by kernel_rfl) (by kernel_rfl) (by kernel_rfl) (fun _ _ _ h => h) (by assumption) ?_
      simp only [Act.put, sS0, sS1, sS2]; refine wpAnyH_pure 8 (v := .bool false) rfl (by kernel_rfl) (by kernel_rfl) (by kernel_rfl) (fun _ _ _ h => h) rfl (fun _ => by go_simp) (by assumption) ?_; simp only [Act.put, sS0, sS1, sS2]; refine wpAnyH_done (by kernel_rfl) ?_ _; replace HB : Sl (Below w.heap.size w wr.drew) := ⟨HB.out.trans (HSW.out.mono HB.out.size)⟩; replace XA := XA.xi HSW.out; replace XC := XC.xi HSW.out; clear HSW; (try clear hHeld); go_wp2_with fail; exact ⟨⟨k + 1, hkn, by go_num, HB⟩, by simp [RowKit.intOf]; omega⟩
    · obtain rfl : k = n := (by omega); go_wp2_with fail; go_ret; exact ⟨rfl, HB.out⟩
set_option maxHeartbeats 6400000 in
set_option maxRecDepth 100000 in
theorem sameInts_none (w : World) : Calls Tryz.prog 33 #[.slice none 0 0, .slice none 0 0] w fun e w' => e = .returned (.bool true) ∧ Below w.heap.size w w' := by
  have HB : Sl (Below w.heap.size w w) := ⟨Below.refl _ _⟩; go_enter Tryz.func33, Tryz.ntmps33; go_wp2_with fail
  go_loopw [5] (fun s5 wr => s5 = .int .i64 0 ∧ Sl (Below w.heap.size w wr)) (fun _ _ => 0)
  case atStart => exact ⟨rfl, HB⟩
  case round =>
    clear HB; obtain ⟨rfl, HB⟩ := hrel; go_wp2_with fail; go_ret; exact ⟨rfl, HB.out⟩
set_option maxHeartbeats 6400000 in
set_option maxRecDepth 100000 in
theorem sameInts_any (f : Nat → Int) (g1 g2 n c1 c2 : Nat) (w : World) (hn : n ≤ 12) (h1 : IB w g1 n f) (h2 : IB w g2 n f) : Calls Tryz.prog 33 #[.slice (some ⟨g1, 0, none⟩) n c1, .slice (some ⟨g2, 0, none⟩) n c2] w fun e w' => e = .returned (.bool true) ∧ Below w.heap.size w w' := by
  have HB : Sl (Below w.heap.size w w) := ⟨Below.refl _ _⟩; have XA : Sl (IB w g1 n f) := ⟨h1⟩; have XC : Sl (IB w g2 n f) := ⟨h2⟩; clear h1 h2; go_enter Tryz.func33, Tryz.ntmps33; go_wp2_with fail
  go_loopw [5] (fun s5 wr => ∃ k : Nat, k ≤ n ∧ s5 = .int .i64 k ∧ Sl (Below w.heap.size w wr)) (fun s5 _ => n - (RowKit.intOf s5).toNat)
  case atStart => exact ⟨0, Nat.zero_le _, rfl, HB⟩
  case round =>
    clear HB; obtain ⟨k, hk, rfl, HB⟩ := hrel; replace XA : Sl (IB wr g1 n f) := ⟨XA.out.below HB.out XA.out.lt⟩; replace XC : Sl (IB wr g2 n f) := ⟨XC.out.below HB.out XC.out.lt⟩
    by_cases hkn : k < n
    · have hk1 : (0 : Int) ≤ (k : Int) := (by omega); have hk2 : (k : Int) < (n : Int) := (by omega); have hn1 : (n : Int) ≤ 12 := (by omega); obtain ⟨z, hz⟩ : ∃ z, f k = z := ⟨_, rfl⟩; have HZ : Sl _ := ⟨hz⟩; clear hz; go_wp2_with fail; have hm : Mv wr.heap.size wr wr.drew := Mv.drew _ _; have hs : RowKit.Below wr.heap.size wr wr.drew := below_drewN (Below.refl _ _) 1; have HSW : Sl _ := ⟨hs⟩; clear hs; refine wp_region_held_drew (S := fun w' => Mv wr.heap.size wr w') (by kernel_rfl) hm (fun hHeld => ?_); clear hm; refine wpAnyH_pure 0 (v := .slice (some ⟨g1, 0, none⟩) n c1) rfl (by kernel_rfl) (by kernel_rfl) (by kernel_rfl) (fun _ _ _ h => h) rfl (fun _ => rfl) (by assumption) ?_; simp only [Act.put, sS0, sS1, sS2]; refine wpAnyH_pure 1 (v := .int .i64 (k : Int)) rfl (by kernel_rfl) (by kernel_rfl) (by kernel_rfl) (fun _ _ _ h => h) rfl (fun _ => rfl) (by assumption) ?_; simp only [Act.put, sS0, sS1, sS2]; refine wpAnyH_pure 2 (v := .pointer (some ⟨g1, k, none⟩)) rfl (by kernel_rfl) (by kernel_rfl) (by kernel_rfl) (fun _ _ _ h => h) rfl (fun _ => by go_simp) (by assumption) ?_; simp only [Act.put, sS0, sS1, sS2]
      refine wpAnyH_cell 3 (v := .int .i64 z) rfl rfl (fun w' h => by
        have e := (XA.out.mv h (by have := XA.out.lt; omega)).cell hkn; rw [HZ.out] at e
        go_simp) (by kernel_rfl) (by kernel_rfl) (by kernel_rfl) (fun _ _ _ h => h) (by assumption) ?_
      simp only [Act.put, sS0, sS1, sS2]; refine wpAnyH_pure 4 (v := .slice (some ⟨g2, 0, none⟩) n c2) rfl (by kernel_rfl) (by kernel_rfl) (by kernel_rfl) (fun _ _ _ h => h) rfl (fun _ => rfl) (by assumption) ?_; simp only [Act.put, sS0, sS1, sS2]; refine wpAnyH_pure 5 (v := .int .i64 (k : Int)) rfl (by kernel_rfl) (by kernel_rfl) (by kernel_rfl) (fun _ _ _ h => h) rfl (fun _ => rfl) (by assumption) ?_; simp only [Act.put, sS0, sS1, sS2]; refine wpAnyH_pure 6 (v := .pointer (some ⟨g2, k, none⟩)) rfl (by kernel_rfl) (by kernel_rfl) (by kernel_rfl) (fun _ _ _ h => h) rfl (fun _ => by go_simp) (by assumption) ?_; simp only [Act.put, sS0, sS1, sS2]
      refine wpAnyH_cell 7 (v := .int .i64 z) rfl rfl (fun w' h => by
        have e := (XC.out.mv h (by have := XC.out.lt; omega)).cell hkn; rw [HZ.out] at e
        go_simp) (by kernel_rfl) (by kernel_rfl) (by kernel_rfl) (fun _ _ _ h => h) (by assumption) ?_
      simp only [Act.put, sS0, sS1, sS2]; refine wpAnyH_pure 8 (v := .bool false) rfl (by kernel_rfl) (by kernel_rfl) (by kernel_rfl) (fun _ _ _ h => h) rfl (fun _ => by go_simp) (by assumption) ?_; simp only [Act.put, sS0, sS1, sS2]; refine wpAnyH_done (by kernel_rfl) ?_ _; replace HB : Sl (Below w.heap.size w wr.drew) := ⟨HB.out.trans (HSW.out.mono HB.out.size)⟩; replace XA := XA.xi HSW.out; replace XC := XC.xi HSW.out; clear HSW; (try clear hHeld); go_wp2_with fail; exact ⟨⟨k + 1, hkn, by go_num, HB⟩, by simp [RowKit.intOf]; omega⟩
    · obtain rfl : k = n := (by omega); go_wp2_with fail; go_ret; exact ⟨rfl, HB.out⟩
def ILR (w w' : World) (e : Ending) (c : Int) (n : Nat) (f : Nat → Int) : Prop :=
  (c ≠ 0 → e = .returned (.tuple #[.slice none 0 0, .int .i64 c])) ∧
  (c = 0 → n = 0 → e = .returned (.tuple #[.slice none 0 0, .int .i64 0])) ∧
  (c = 0 → 0 < n → ∃ g cap, e = .returned (.tuple #[.slice (some ⟨g, 0, none⟩) n cap, .int .i64 0]) ∧ w.heap.size ≤ g ∧ IB w' g n f)
theorem TV.of_step (t : TV) (k : Nat) : ∀ j, j < 12 → upd (t.of k) k (t.c k - 100000 * (k : Int)) j = t.of (k + 1) j := fun j _ => by
  unfold upd TV.of
  by_cases h : j = k
  · subst h; rw [if_pos rfl, if_pos (by omega)]
  · rw [if_neg h]
    by_cases h2 : j < k
    · rw [if_pos h2, if_pos (by omega)]
    · rw [if_neg h2, if_neg (by omega)]
theorem TV.of_at (t : TV) (k : Nat) : t.of k k = t.c k := by unfold TV.of; rw [if_neg (by omega)]
set_option maxHeartbeats 6400000 in
set_option maxRecDepth 100000 in
theorem tOff_any (t : TV) (hs : t.nm.size ≤ maxLen) {w0 : World} (hT0 : PrT w0) (w : World) (hT : PrT w) : Calls Tryz.prog 24 #[.agg t.cells] w fun e w' => ILR w w' e (t.chk nameS) 12 (t.of 12) ∧ Below w.heap.size w w' := by
  have HB : Sl (Below w.heap.size w w) := ⟨Below.refl _ _⟩; have HT : Sl _ := ⟨hT⟩; have HCE : Sl (∀ W : World, PrT W → Calls Tryz.prog 22 #[.agg t.cells] W fun e w' => CentsT W w' e t ∧ Below W.heap.size W w') := ⟨fun W h => tCents_any t hs W h⟩; clear hT hs hT0; obtain ⟨c, hc⟩ : ∃ c, t.chk nameS = c := ⟨_, rfl⟩; rw [hc]; have HC : Sl _ := ⟨hc⟩; clear hc; go_enter Tryz.func24, Tryz.ntmps24
  go_wp2_with ((with_reducible show wpList _ _ _ _ _ _); first
    | (refine wpList_box_new 1 rfl rfl 26 (.tmp 0) rfl t.cells rfl (box_temper t) ?_; rintro w1 gT zg zm zs zb; have ORD : Sl (w.heap.size ≤ gT) := ⟨by have := HB.out.size; omega⟩; replace HB := HB.v zm (by have := HB.out.size; have := ORD.out; omega); have XT : Sl (Blk w1 gT 26 t.cells) := ⟨zb⟩; clear zg zm zs zb)
    | (refine wpList_load_whole rfl 26 (.tmp 1) rfl gT rfl 26 t.cells _ XT.out Tryz.underlying26 rfl (size_temper t) ?_))
  by_cases h0 : c = 0
  · subst h0; refine (HCE.out _ (HT.out.below HB.out)).mono ?_; rintro e w2 ⟨⟨_, hf⟩, hb⟩; obtain ⟨v, rfl, hv⟩ := hf HC.out; clear hf; obtain ⟨gL, cap, rfl, hge, zb⟩ := IB.of_own hv (by decide); clear hv; have XL : Sl (IB w2 gL 12 (t.of 0)) := ⟨zb.congr fun j hj => by rw [t.cl_at hj]; rfl⟩; clear zb; replace ORD : Sl (w.heap.size ≤ gT ∧ gT < gL) := ⟨by have := HB.out.size; have := ORD.out; have := XT.out.lt; omega⟩; replace HB := HB.y hb; replace XT := XT.x hb; clear hb hge; have HBD : Sl _ := ⟨fun j => TV.c_bd HC.out HT.out j⟩; go_wp2_with fail
    go_loopw [14] (fun sk wr => ∃ k : Nat, k ≤ 12 ∧ sk = .int .i64 k ∧ Sl (Below w.heap.size w wr) ∧ Sl (IB wr gL 12 (t.of k))) (fun sk _ => 12 - (RowKit.intOf sk).toNat)
    case atStart => exact ⟨0, by decide, rfl, HB, XL⟩
    case round =>
      clear HB XL XT; obtain ⟨k, hk, rfl, HB, XL⟩ := hrel
      by_cases hk12 : k < 12
      · have hk1 : (0 : Int) ≤ (k : Int) := (by omega); have hk2 : (k : Int) < 12 := (by omega); obtain ⟨m, hm⟩ : ∃ m, t.c k = m := ⟨_, rfl⟩; obtain ⟨hm1, hm2⟩ := HBD.out k; rw [hm] at hm1 hm2; have hcl := XL.out.cell hk12; rw [t.of_at, hm] at hcl; have HM : Sl _ := ⟨hm⟩; clear hm
        go_wp2_with ((with_reducible show wpList _ _ _ _ _ _); first
          | (refine wpList_store_ib rfl 2 (.tmp 24) _ rfl gL 12 (k) ((m - 100000 * (k : Int))) (t.of k) rfl rfl XL.out hk12 size_i64 ?_; rintro w3 zm zs zb; replace HB := HB.v zm (by have := HB.out.size; have := ORD.out; omega); replace XL : Sl (IB w3 gL 12 (upd (t.of k) k (m - 100000 * (k : Int)))) := ⟨zb⟩; clear zm zs zb))
        exact ⟨⟨k + 1, hk12, by go_num, HB, ⟨XL.out.congr (by rw [← HM.out]; exact t.of_step k)⟩⟩, by simp [RowKit.intOf]; omega⟩
      · obtain rfl : k = 12 := (by omega); go_wp2_with fail; go_ret2; exact ⟨⟨fun h => absurd rfl h, fun _ h => absurd h (by decide), fun _ _ => ⟨gL, cap, rfl, by have := ORD.out; omega, XL.out⟩⟩, HB.out⟩
  · skip; refine (HCE.out _ (HT.out.below HB.out)).mono ?_; rintro e w24 ⟨⟨hf, _⟩, hb⟩; obtain rfl := hf (by rw [HC.out]; exact h0); clear hf; rw [HC.out]; replace HB := HB.y hb; replace XT := XT.x hb; clear hb XT; go_wp2_with fail
    go_loopw [14] (fun sk wr => sk = .int .i64 0 ∧ Sl (Below w.heap.size w wr)) (fun _ _ => 0)
    case atStart => exact ⟨rfl, HB⟩
    case round =>
      clear HB; obtain ⟨rfl, HB⟩ := hrel; go_wp2_with fail; go_ret2; exact ⟨⟨fun _ => rfl, fun h => absurd h h0, fun h => absurd h h0⟩, HB.out⟩
set_option maxHeartbeats 6400000 in
set_option maxRecDepth 100000 in
theorem r5Off_any (t : TV) (hs : t.nm.size ≤ maxLen) {w0 : World} (hT0 : PrT w0) (w : World) (hT : PrT w) : Calls Tryz.prog 25 #[.agg t.cells] w fun e w' => ILR w w' e (t.chk nameS) 12 (t.of 12) ∧ Below w.heap.size w w' := by
  have HB : Sl (Below w.heap.size w w) := ⟨Below.refl _ _⟩; have HT : Sl _ := ⟨hT⟩; have HCE : Sl (∀ W : World, PrT W → Calls Tryz.prog 23 #[.agg t.cells] W fun e w' => CentsT W w' e t ∧ Below W.heap.size W w') := ⟨fun W h => r5Cents_any t hs hT0 W⟩; clear hT hs hT0; obtain ⟨c, hc⟩ : ∃ c, t.chk nameS = c := ⟨_, rfl⟩; rw [hc]; have HC : Sl _ := ⟨hc⟩; clear hc; go_enter Tryz.func25, Tryz.ntmps25
  go_wp2_with ((with_reducible show wpList _ _ _ _ _ _); first
    | (refine wpList_box_new 1 rfl rfl 26 (.tmp 0) rfl t.cells rfl (box_temper t) ?_; rintro w1 gT zg zm zs zb; have ORD : Sl (w.heap.size ≤ gT) := ⟨by have := HB.out.size; omega⟩; replace HB := HB.v zm (by have := HB.out.size; have := ORD.out; omega); have XT : Sl (Blk w1 gT 26 t.cells) := ⟨zb⟩; clear zg zm zs zb)
    | (refine wpList_load_whole rfl 26 (.tmp 1) rfl gT rfl 26 t.cells _ XT.out Tryz.underlying26 rfl (size_temper t) ?_))
  by_cases h0 : c = 0
  · subst h0; refine (HCE.out _ (HT.out.below HB.out)).mono ?_; rintro e w2 ⟨⟨_, hf⟩, hb⟩; obtain ⟨v, rfl, hv⟩ := hf HC.out; clear hf; obtain ⟨gL, cap, rfl, hge, zb⟩ := IB.of_own hv (by decide); clear hv; have XL : Sl (IB w2 gL 12 (t.of 0)) := ⟨zb.congr fun j hj => by rw [t.cl_at hj]; rfl⟩; clear zb; replace ORD : Sl (w.heap.size ≤ gT ∧ gT < gL) := ⟨by have := HB.out.size; have := ORD.out; have := XT.out.lt; omega⟩; replace HB := HB.y hb; replace XT := XT.x hb; clear hb hge; have HBD : Sl _ := ⟨fun j => TV.c_bd HC.out HT.out j⟩; go_wp2_with fail
    go_loopw [6] (fun sk wr => ∃ k : Nat, k ≤ 12 ∧ sk = .int .i64 k ∧ Sl (Below w.heap.size w wr) ∧ Sl (IB wr gL 12 (t.of k))) (fun sk _ => 12 - (RowKit.intOf sk).toNat)
    case atStart => exact ⟨0, by decide, rfl, HB, XL⟩
    case round =>
      clear HB XL XT; obtain ⟨k, hk, rfl, HB, XL⟩ := hrel
      by_cases hk12 : k < 12
      · have hk1 : (0 : Int) ≤ (k : Int) := (by omega); have hk2 : (k : Int) < 12 := (by omega); obtain ⟨m, hm⟩ : ∃ m, t.c k = m := ⟨_, rfl⟩; obtain ⟨hm1, hm2⟩ := HBD.out k; rw [hm] at hm1 hm2; have hcl := XL.out.cell hk12; rw [t.of_at, hm] at hcl; have HM : Sl _ := ⟨hm⟩; clear hm
        go_wp2_with ((with_reducible show wpList _ _ _ _ _ _); first
          | (refine wpList_store_ib rfl 2 (.tmp 27) _ rfl gL 12 (k) ((m - 100000 * (k : Int))) (t.of k) rfl rfl XL.out hk12 size_i64 ?_; rintro w3 zm zs zb; replace HB := HB.v zm (by have := HB.out.size; have := ORD.out; omega); replace XL : Sl (IB w3 gL 12 (upd (t.of k) k (m - 100000 * (k : Int)))) := ⟨zb⟩; clear zm zs zb))
        exact ⟨⟨k + 1, hk12, by go_num, HB, ⟨XL.out.congr (by rw [← HM.out]; exact t.of_step k)⟩⟩, by simp [RowKit.intOf]; omega⟩
      · obtain rfl : k = 12 := (by omega); go_wp2_with fail; go_ret2; exact ⟨⟨fun h => absurd rfl h, fun _ h => absurd h (by decide), fun _ _ => ⟨gL, cap, rfl, by have := ORD.out; omega, XL.out⟩⟩, HB.out⟩
  · skip; refine (HCE.out _ (HT.out.below HB.out)).mono ?_; rintro e w24 ⟨⟨hf, _⟩, hb⟩; obtain rfl := hf (by rw [HC.out]; exact h0); clear hf; rw [HC.out]; replace HB := HB.y hb; replace XT := XT.x hb; clear hb XT; go_wp2_with fail
    go_loopw [6] (fun sk wr => sk = .int .i64 0 ∧ Sl (Below w.heap.size w wr)) (fun _ _ => 0)
    case atStart => exact ⟨rfl, HB⟩
    case round =>
      clear HB; obtain ⟨rfl, HB⟩ := hrel; go_wp2_with fail; go_ret2; exact ⟨⟨fun _ => rfl, fun h => absurd h h0, fun h => absurd h h0⟩, HB.out⟩
end Go.Proofs.YtmcoadmnkelkkaaGreatDoor
namespace Go.Proofs.YtmcoadmnkelkkaaGreatDoor
set_option linter.unusedSimpArgs false
open Go.RowKit
set_option linter.unusedVariables false
attribute [-simp] Tryz.isAgg67 Tryz.isAgg35 Tryz.isAgg26 Tryz.isAgg24 Tryz.isAgg23
def absI (z : Int) : Int := max z (-z)
theorem absI_bd {z m : Int} (h1 : -m ≤ z) (h2 : z ≤ m) : 0 ≤ absI z ∧ absI z ≤ m := by
  unfold absI; rw [Int.max_def]
  split <;> omega
theorem tsize_any (z : Int) (w : World) (h1 : -2400000 ≤ z) (h2 : z ≤ 2400000) : Calls Tryz.prog 62 #[.int .i64 z] w fun e w' => e = .returned (.int .i64 (absI z)) ∧ Below w.heap.size w w' := by
  have HB : Sl (Below w.heap.size w w) := ⟨Below.refl _ _⟩; obtain ⟨a, ha⟩ : ∃ a, absI z = a := ⟨_, rfl⟩; rw [ha]; have hif : max z (-z) = a := ha; clear ha; go_enter Tryz.func62, Tryz.ntmps62; go_wp2_with fail; go_ret; exact ⟨rfl, HB.out⟩
theorem info_int : ∃ i : TypeInfo, Tryz.prog.info? 3 = some i ∧ i.zero = some (.int .i64 0) ∧ i.size = 1 ∧ i.bytes = 8 := by
  have h : (Tryz.prog.info? 3).isSome = true := (by kernel_rfl); obtain ⟨i, hi⟩ := Option.isSome_iff_exists.1 h; have h1 : (Tryz.prog.info? 3).bind (·.zero) = some (.int .i64 0) := (by kernel_rfl); have h2 : (Tryz.prog.info? 3).map (·.size) = some 1 := (by kernel_rfl); have h3 : (Tryz.prog.info? 3).map (·.bytes) = some 8 := (by kernel_rfl); rw [hi] at h1 h2 h3; exact ⟨i, hi, by simpa using h1, by simpa using h2, by simpa using h3⟩
theorem TV.xc_bd {t : TV} (h : t.chk nameS = 0) {w : World} (hT : PrT w) {p : Nat → Int} (hp : Pure p) (a b : Nat) : -1200000 ≤ t.xc p a b ∧ t.xc p a b ≤ 1200000 := by
  have ho := TV.tp_ok h; obtain ⟨h1, h2⟩ := ho.x_rng hp (a := 7 * a % 12) (b := 7 * (b % 12) % 12) (by omega) (by omega); have := cm_bd (ho.x_fits hp (by omega) (by omega)) h1 h2 hT; unfold TV.xc TV.X; omega
noncomputable def TV.w5 (t : TV) (j : Nat) : Int := absI (t.xc b32 j (j + 7))
noncomputable def TV.wl (t : TV) (most : Int) : Nat → List Int
  | 0 => []
  | k+1 => if most < t.w5 k then t.wl most k ++ [(k : Int)] else t.wl most k
theorem TV.wl_len (t : TV) (most : Int) : ∀ k, (t.wl most k).length ≤ k
  | 0 => Nat.le_refl _
  | k+1 => by
    have := TV.wl_len t most k; unfold TV.wl
    split
    · rw [List.length_append]; simp; exact this
    · omega
noncomputable def TV.wc (t : TV) (most : Int) : Int := if t.chk nameS = 0 then (if most < 0 ∨ 1200000 < most then 2 else 0) else t.chk nameS
noncomputable def WoR (w w' : World) (e : Ending) (t : TV) (most : Int) : Prop :=
  (t.wc most ≠ 0 → e = .returned (.tuple #[.slice none 0 0, .int .i64 (t.wc most)])) ∧
  (t.wc most = 0 → ∃ v, e = .returned (.tuple #[v, .int .i64 0]) ∧ w'.ownsRow w.heap.size 3 1 v (t.wl most 12).length (ints (t.wl most 12)) ∧ ((t.wl most 12).length = 0 → v = .slice none 0 0))
set_option maxHeartbeats 6400000 in
set_option maxRecDepth 100000 in
theorem tWolves_any (t : TV) (hs : t.nm.size ≤ maxLen) (most : Int) {w0 : World} (hT0 : PrT w0) (w : World) (hT : PrT w) : Calls Tryz.prog 31 #[.agg t.cells, .int .i64 most] w fun e w' => WoR w w' e t most ∧ Below w.heap.size w w' := by
  have HB : Sl (Below w.heap.size w w) := ⟨Below.refl _ _⟩; have HT : Sl _ := ⟨hT⟩; have HCK : Sl (∀ W : World, Calls Tryz.prog 41 #[.agg t.cells] W fun e w' => e = .returned (.int .i64 (t.chk nameS)) ∧ Below W.heap.size W w') := ⟨fun W => tcheck_any t W hs⟩; clear hT hs hT0; obtain ⟨c, hc⟩ : ∃ c, t.chk nameS = c := ⟨_, rfl⟩; rw [hc] at HCK; have HC : Sl _ := ⟨hc⟩; clear hc; obtain ⟨i0, hi0, hz0, hz1, hz2⟩ := info_int; have HI : Sl _ := ⟨And.intro hi0 (And.intro hz0 (And.intro hz1 hz2))⟩; clear hi0 hz0 hz1 hz2; go_enter Tryz.func31, Tryz.ntmps31
  go_wp2_with ((with_reducible show wpList _ _ _ _ _ _); first
    | (refine wpList_box_new 2 rfl rfl 26 (.tmp 0) rfl t.cells rfl (box_temper t) ?_; rintro w1 gT zg zm zs zb; have ORD : Sl (w.heap.size ≤ gT) := ⟨by have := HB.out.size; omega⟩; replace HB := HB.v zm (by have := HB.out.size; have := ORD.out; omega); have XT : Sl (Blk w1 gT 26 t.cells) := ⟨zb⟩; clear zg zm zs zb)
    | (refine wpList_load_whole rfl 26 (.tmp 2) rfl gT rfl 26 t.cells _ XT.out Tryz.underlying26 rfl (size_temper t) ?_))
  by_cases h0 : c = 0
  · subst h0; refine (HCK.out _).mono ?_; rintro e w2 ⟨rfl, hb⟩; replace HB := HB.y hb; replace XT := XT.x hb; clear hb
    by_cases k0 : most < 0
    · have HWC : Sl (t.wc most = 2) := ⟨by unfold TV.wc; rw [if_pos HC.out, if_pos (Or.inl k0)]⟩; go_wp2_with fail; go_ret2; exact ⟨⟨fun _ => by rw [HWC.out]; rfl, fun h => absurd (HWC.out.symm.trans h) (by decide)⟩, HB.out⟩
    · skip
      by_cases k1 : 1200000 < most
      · have HWC : Sl (t.wc most = 2) := ⟨by unfold TV.wc; rw [if_pos HC.out, if_pos (Or.inr k1)]⟩; go_wp2_with fail; go_ret2; exact ⟨⟨fun _ => by rw [HWC.out]; rfl, fun h => absurd (HWC.out.symm.trans h) (by decide)⟩, HB.out⟩
      · skip; have HWC : Sl (t.wc most = 0) := ⟨by unfold TV.wc; rw [if_pos HC.out, if_neg (by omega)]⟩; have hm0 : 0 ≤ most := (by omega); have hm1 : most ≤ 1200000 := (by omega); have hd0 : decide (most < 0) = false := decide_eq_false k0; have hd1 : decide (1200000 < most) = false := decide_eq_false k1; clear k0 k1; have HLO : Sl (∀ (W : World), PrT W → Blk W gT 26 t.cells → Calls Tryz.prog 43 #[.pointer (some ⟨gT, 0, none⟩)] W fun e w' => e = .returned (.agg (flatR (t.N))) ∧ Below W.heap.size W w') := ⟨fun W h hB => notes_any t HC.out gT W h hB⟩; go_wp2_with fail; refine (HLO.out _ (HT.out.below HB.out) XT.out).mono ?_; rintro e w23 ⟨rfl, hb⟩; replace HB := HB.y hb; replace XT := XT.x hb; clear hb
        go_wp2_with ((with_reducible show wpList _ _ _ _ _ _); first
          | (refine wpList_alloc_new 7 rfl rfl 67 rfl (flatR fun _ => RVzero) alloc_twelve ?_; rintro w24 gL zg zm zs zb; replace ORD : Sl (w.heap.size ≤ gT ∧ gT < gL) := ⟨by have := HB.out.size; have := ORD.out; have := XT.out.lt; omega⟩; replace HB := HB.v zm (by have := HB.out.size; have := ORD.out; omega); replace XT := XT.w zm (by have := XT.out.lt; have := ORD.out; omega); have XL : Sl (Blk w24 gL 67 (flatR fun _ => RVzero)) := ⟨zb⟩; clear zg zm zs zb)
          | (refine wpList_store_whole rfl 67 (.tmp 7) (.tmp 21) rfl gL (flatR t.N) rfl rfl 67 (flatR fun _ => RVzero) XL.out (by rw [flatR_size, flatR_size]) (size_twelve _) (flatR_one _) ?_; rintro w25 zm zs zb; replace HB := HB.v zm (by have := HB.out.size; have := ORD.out; omega); replace XT := XT.w zm (by have := XT.out.lt; have := ORD.out; omega); replace XL : Sl (Blk w25 gL 67 (flatR t.N)) := ⟨zb⟩; clear zm zs zb))
        clear hd0 hd1; have HL : Sl (Below w25.heap.size w25 w25) := ⟨Below.refl _ _⟩; have XO : Sl (w25.ownsRow w25.heap.size 3 1 (.slice none 0 0) 0 (ints [])) := ⟨World.ownsRow_nil _ _ _ _⟩
        go_loopw [8, 22] (fun so sk wr => ∃ (k n : Nat) (L : List Int) (v5 : Value), k ≤ 12 ∧ sk = .int .i64 k ∧ v5 = so ∧ n ≤ k ∧ Sl (t.wl most k = L ∧ L.length = n) ∧ Sl (Below w25.heap.size w25 wr) ∧ Sl (wr.ownsRow w25.heap.size 3 1 v5 n (ints L)) ∧ Sl (n = 0 → v5 = .slice none 0 0)) (fun _ sk _ => 12 - (RowKit.intOf sk).toNat)
        case atStart => exact ⟨0, 0, [], _, by decide, rfl, rfl, Nat.le_refl _, ⟨rfl, rfl⟩, HL, XO, ⟨fun _ => rfl⟩⟩
        case round =>
          clear HL XO; obtain ⟨k, n, LL, v5, hk, rfl, rfl, hnk, HLL, HL, XO, HZ⟩ := hrel
          by_cases hk12 : k < 12
          · have hk1 : (0 : Int) ≤ (k : Int) := (by omega); have hk2 : (k : Int) < 12 := (by omega); obtain ⟨x, hx⟩ : ∃ x, t.xc b32 k (k + 7) = x := ⟨_, rfl⟩; obtain ⟨hx1, hx2⟩ := TV.xc_bd HC.out HT.out pure32 k (k + 7); rw [hx] at hx1 hx2; obtain ⟨a, ha⟩ : ∃ a, absI x = a := ⟨_, rfl⟩; have hif : max x (-x) = a := ha; have hw5 : t.w5 k = a := (by unfold TV.w5; rw [hx]; exact ha); have HW5 : Sl _ := ⟨hw5⟩
            have HEX : Sl (∀ W : World, PrT W → Blk W gL 67 (flatR t.N) → Calls Tryz.prog 60 #[.pointer (some ⟨gL, 0, none⟩), .int .i64 (k : Int)] W fun e w' => e = .returned (.int .i64 x) ∧ Below W.heap.size W w') := ⟨fun W h h2 => by
              have := fifth_any t HC.out gL k hk12 W h h2; rw [hx] at this
              exact this⟩
            have HSZ : Sl (∀ W : World, Calls Tryz.prog 62 #[.int .i64 x] W fun e w' => e = .returned (.int .i64 a) ∧ Below W.heap.size W w') := ⟨fun W => by
              have := tsize_any x W (by omega) (by omega); rw [ha] at this
              exact this⟩
            clear ha hw5 hx; have XL2 : Sl (Blk wr gL 67 (flatR t.N)) := ⟨XL.out.below HL.out XL.out.lt⟩; have HT2 : Sl (PrT wr) := ⟨(HT.out.below HB.out).below HL.out⟩; go_wp2_with fail; refine (HEX.out _ HT2.out XL2.out).mono ?_; rintro e wa ⟨rfl, hb⟩; replace HL : Sl (Below w25.heap.size w25 wa) := ⟨HL.out.trans (hb.mono HL.out.size)⟩; replace XO : Sl (wa.ownsRow w25.heap.size 3 1 v5 n (ints LL)) := ⟨own_mv XO.out (Mv.of_below hb) (fun zk hk => by have := (XO.out.lt zk hk).2; omega)⟩; replace XL2 := XL2.x hb; replace HT2 : Sl (PrT wa) := ⟨HT2.out.below hb⟩; clear hb; go_wp2_with fail; refine (HSZ.out _).mono ?_; rintro e wb ⟨rfl, hb⟩; replace HL : Sl (Below w25.heap.size w25 wb) := ⟨HL.out.trans (hb.mono HL.out.size)⟩; replace XO : Sl (wb.ownsRow w25.heap.size 3 1 v5 n (ints LL)) := ⟨own_mv XO.out (Mv.of_below hb) (fun zk hk => by have := (XO.out.lt zk hk).2; omega)⟩; replace XL2 := XL2.x hb; replace HT2 : Sl (PrT wb) := ⟨HT2.out.below hb⟩; clear hb
            by_cases hq : most < a
            · have hd : decide (most < a) = true := decide_eq_true hq; have HQ : Sl _ := ⟨hq⟩; clear hq
              go_wp2_with ((with_reducible show wpList _ _ _ _ _ _); first
                | (at_builtin; go_loud (refine wpList_append_any _ rfl (.tmp 30) (.tmp 32) _ rfl w25.heap.size 3 i0 _ 1 8 Tryz.underlying53 HI.out.1 HI.out.2.1 HI.out.2.2.1 HI.out.2.2.2 rfl (by decide) v5 n _ rfl (own_alloc XO.out _) _ (some ⟨wb.heap.size, 0, none⟩) 1 1 [.int .i64 (k : Int)] rfl (reads_i1 _ _ _) (by intro u hu; simp at hu; subst hu; rfl) (by unfold maxLen; omega) (by omega) (by have := HL.out.size; simp; omega) ?_); rintro v6 wN hown hg hat; have XQ : Sl (wN.ownsRow w25.heap.size 3 1 v6 (n + 1) (ints (LL ++ [(k : Int)]))) := ⟨by rw [ints_snoc]; exact hown⟩; have HLN : Sl (Below w25.heap.size w25 wN) := ⟨below_grown2 HL.out HL.out.size XO.out hg⟩; clear hown hg hat))
              exact ⟨⟨k + 1, n + 1, LL ++ [(k : Int)], v6, hk12, by go_num, rfl, by omega, ⟨by rw [TV.wl, HW5.out, if_pos (by have := HQ.out; omega), HLL.out.1], by rw [List.length_append, HLL.out.2]; rfl⟩, HLN, XQ, ⟨fun h => by omega⟩⟩, by simp [RowKit.intOf]; omega⟩
            · have hd : decide (most < a) = false := decide_eq_false hq; have HQ : Sl _ := ⟨hq⟩; clear hq; go_wp2_with fail; exact ⟨⟨k + 1, n, LL, _, hk12, by go_num, rfl, by omega, ⟨by rw [TV.wl, HW5.out, if_neg (by have := HQ.out; omega), HLL.out.1], HLL.out.2⟩, HL, XO, HZ⟩, by simp [RowKit.intOf]; omega⟩
          · obtain rfl : k = 12 := (by omega); clear hk12 hk; go_wp2_with fail; go_ret2; exact ⟨⟨fun h => absurd HWC.out h, fun _ => ⟨_, rfl, by rw [HLL.out.1, HLL.out.2]; exact own_base XO.out HB.out.size, fun h => HZ.out (by rw [← HLL.out.2, ← HLL.out.1]; exact h)⟩⟩, HB.out.trans (HL.out.mono HB.out.size)⟩
  · have HWC : Sl (t.wc most = c) := ⟨by unfold TV.wc; rw [HC.out, if_neg h0]⟩; refine (HCK.out _).mono ?_; rintro e w76 ⟨rfl, hb⟩; replace HB := HB.y hb; replace XT := XT.x hb; clear hb; have hz : ((c : Int) != 0) = true := (by rw [bne_iff_ne]; exact h0); go_wp2_with fail; go_ret2; exact ⟨⟨fun _ => by rw [HWC.out]; rfl, fun h => absurd (HWC.out.symm.trans h) h0⟩, HB.out⟩
set_option maxHeartbeats 6400000 in
set_option maxRecDepth 100000 in
theorem r5Wolves_any (t : TV) (hs : t.nm.size ≤ maxLen) (most : Int) {w0 : World} (hT0 : PrT w0) (w : World) (hT : PrT w) : Calls Tryz.prog 32 #[.agg t.cells, .int .i64 most] w fun e w' => WoR w w' e t most ∧ Below w.heap.size w w' := by
  have HB : Sl (Below w.heap.size w w) := ⟨Below.refl _ _⟩; have HT : Sl _ := ⟨hT⟩; have HNO : Sl (∀ W : World, Calls Tryz.prog 19 #[.agg t.cells] W fun e w' => NotR W w' e t ∧ Below W.heap.size W w') := ⟨fun W => r5Notes_any t hs hT0 W⟩; clear hT hs hT0; obtain ⟨c, hc⟩ : ∃ c, t.chk nameS = c := ⟨_, rfl⟩; have HC : Sl _ := ⟨hc⟩; clear hc; obtain ⟨i0, hi0, hz0, hz1, hz2⟩ := info_int; have HI : Sl _ := ⟨And.intro hi0 (And.intro hz0 (And.intro hz1 hz2))⟩; clear hi0 hz0 hz1 hz2; go_enter Tryz.func32, Tryz.ntmps32
  go_wp2_with ((with_reducible show wpList _ _ _ _ _ _); first
    | (refine wpList_box_new 2 rfl rfl 26 (.tmp 0) rfl t.cells rfl (box_temper t) ?_; rintro w1 gT zg zm zs zb; have ORD : Sl (w.heap.size ≤ gT) := ⟨by have := HB.out.size; omega⟩; replace HB := HB.v zm (by have := HB.out.size; have := ORD.out; omega); have XT : Sl (Blk w1 gT 26 t.cells) := ⟨zb⟩; clear zg zm zs zb)
    | (refine wpList_load_whole rfl 26 (.tmp 2) rfl gT rfl 26 t.cells _ XT.out Tryz.underlying26 rfl (size_temper t) ?_))
  by_cases h0 : c = 0
  · subst h0; refine (HNO.out _).mono ?_; rintro e w2 ⟨⟨_, hf⟩, hb⟩; obtain ⟨gL, rfl, hge, zb⟩ := hf HC.out; clear hf; replace ORD : Sl (w.heap.size ≤ gT ∧ gT < gL) := ⟨by have := HB.out.size; have := XT.out.lt; have := ORD.out; omega⟩; replace HB := HB.y hb; replace XT := XT.x hb; have XL : Sl (Blk w2 gL 35 (flatR t.N)) := ⟨zb⟩; clear hb hge zb
    by_cases k0 : most < 0
    · have HWC : Sl (t.wc most = 2) := ⟨by unfold TV.wc; rw [if_pos HC.out, if_pos (Or.inl k0)]⟩; go_wp2_with fail; go_ret2; exact ⟨⟨fun _ => by rw [HWC.out]; rfl, fun h => absurd (HWC.out.symm.trans h) (by decide)⟩, HB.out⟩
    · skip
      by_cases k1 : 1200000 < most
      · have HWC : Sl (t.wc most = 2) := ⟨by unfold TV.wc; rw [if_pos HC.out, if_pos (Or.inr k1)]⟩; go_wp2_with fail; go_ret2; exact ⟨⟨fun _ => by rw [HWC.out]; rfl, fun h => absurd (HWC.out.symm.trans h) (by decide)⟩, HB.out⟩
      · skip; have HWC : Sl (t.wc most = 0) := ⟨by unfold TV.wc; rw [if_pos HC.out, if_neg (by omega)]⟩; have hm0 : 0 ≤ most := (by omega); have hm1 : most ≤ 1200000 := (by omega); have hd0 : decide (most < 0) = false := decide_eq_false k0; have hd1 : decide (1200000 < most) = false := decide_eq_false k1; clear k0 k1; go_wp2_with fail; clear hd0 hd1; have HL : Sl (Below w2.heap.size w2 w2) := ⟨Below.refl _ _⟩; have XO : Sl (w2.ownsRow w2.heap.size 3 1 (.slice none 0 0) 0 (ints [])) := ⟨World.ownsRow_nil _ _ _ _⟩
        go_loopw [8, 9] (fun so sk wr => ∃ (k n : Nat) (L : List Int) (v5 : Value), k ≤ 12 ∧ sk = .int .i64 k ∧ v5 = so ∧ n ≤ k ∧ Sl (t.wl most k = L ∧ L.length = n) ∧ Sl (Below w2.heap.size w2 wr) ∧ Sl (wr.ownsRow w2.heap.size 3 1 v5 n (ints L)) ∧ Sl (n = 0 → v5 = .slice none 0 0)) (fun _ sk _ => 12 - (RowKit.intOf sk).toNat)
        case atStart => exact ⟨0, 0, [], _, by decide, rfl, rfl, Nat.le_refl _, ⟨rfl, rfl⟩, HL, XO, ⟨fun _ => rfl⟩⟩
        case round =>
          clear HL XO; obtain ⟨k, n, LL, v5, hk, rfl, rfl, hnk, HLL, HL, XO, HZ⟩ := hrel
          by_cases hk12 : k < 12
          · have hk1 : (0 : Int) ≤ (k : Int) := (by omega); have hk2 : (k : Int) < 12 := (by omega); obtain ⟨x, hx⟩ : ∃ x, t.xc b32 k (k + 7) = x := ⟨_, rfl⟩; obtain ⟨hx1, hx2⟩ := TV.xc_bd HC.out HT.out pure32 k (k + 7); rw [hx] at hx1 hx2; obtain ⟨a, ha⟩ : ∃ a, absI x = a := ⟨_, rfl⟩; have hif : max x (-x) = a := ha; have hw5 : t.w5 k = a := (by unfold TV.w5; rw [hx]; exact ha); have HW5 : Sl _ := ⟨hw5⟩
            have HEX : Sl (∀ W : World, PrT W → Blk W gL 35 (flatR t.N) → Calls Tryz.prog 61 #[.slice (some ⟨gL, 0, none⟩) 12 12, .int .i64 (k : Int), .int .i64 ((k : Int) + 7), .agg (nr (fun j => b32 j * t.tp.D) t.tp.D).cells] W fun e w' => e = .returned (.int .i64 x) ∧ Below W.heap.size W w') := ⟨fun W h h2 => by
              have := r5excess_any t HC.out gL k (k + 7) hk12 (by omega) pure32 W h h2; rw [show ((k + 7 : Nat) : Int) = (k : Int) + 7 by omega] at this; rw [hx] at this
              exact this⟩
            have HSZ : Sl (∀ W : World, Calls Tryz.prog 62 #[.int .i64 x] W fun e w' => e = .returned (.int .i64 a) ∧ Below W.heap.size W w') := ⟨fun W => by
              have := tsize_any x W (by omega) (by omega); rw [ha] at this
              exact this⟩
            clear ha hw5 hx; have XL2 : Sl (Blk wr gL 35 (flatR t.N)) := ⟨XL.out.below HL.out XL.out.lt⟩; have HT2 : Sl (PrT wr) := ⟨(HT.out.below HB.out).below HL.out⟩; go_wp2_with fail; have HC4 : Sl (∀ W : World, Calls Tryz.prog 48 #[.int .i64 3, .int .i64 2] W fun e w' => e = .returned (.agg (nr (fun j => b32 j * t.tp.D) t.tp.D).cells) ∧ Below W.heap.size W w') := ⟨fun W => r5ratio_any _ _ _ W (fif_up (TV.tp_ok HC.out).hD.1)⟩; refine (HC4.out _).mono ?_; rintro e wa ⟨rfl, hb⟩; replace HL : Sl (Below w2.heap.size w2 wa) := ⟨HL.out.trans (hb.mono HL.out.size)⟩; replace XO : Sl (wa.ownsRow w2.heap.size 3 1 v5 n (ints LL)) := ⟨own_mv XO.out (Mv.of_below hb) (fun zk hk => by have := (XO.out.lt zk hk).2; omega)⟩; replace XL2 := XL2.x hb; replace HT2 : Sl (PrT wa) := ⟨HT2.out.below hb⟩; clear hb; go_wp2_with fail; refine (HEX.out _ HT2.out XL2.out).mono ?_; rintro e wb ⟨rfl, hb⟩; replace HL : Sl (Below w2.heap.size w2 wb) := ⟨HL.out.trans (hb.mono HL.out.size)⟩; replace XO : Sl (wb.ownsRow w2.heap.size 3 1 v5 n (ints LL)) := ⟨own_mv XO.out (Mv.of_below hb) (fun zk hk => by have := (XO.out.lt zk hk).2; omega)⟩; replace XL2 := XL2.x hb; replace HT2 : Sl (PrT wb) := ⟨HT2.out.below hb⟩; clear hb
            by_cases hq : most < a
            · have hd : decide (most < a) = true := decide_eq_true hq; have HQ : Sl _ := ⟨hq⟩; clear hq
              go_wp2_with ((with_reducible show wpList _ _ _ _ _ _); first
                | (at_builtin; go_loud (refine wpList_append_any _ rfl (.tmp 41) (.tmp 43) _ rfl w2.heap.size 3 i0 _ 1 8 Tryz.underlying53 HI.out.1 HI.out.2.1 HI.out.2.2.1 HI.out.2.2.2 rfl (by decide) v5 n _ rfl (own_alloc XO.out _) _ (some ⟨wb.heap.size, 0, none⟩) 1 1 [.int .i64 (k : Int)] rfl (reads_i1 _ _ _) (by intro u hu; simp at hu; subst hu; rfl) (by unfold maxLen; omega) (by omega) (by have := HL.out.size; simp; omega) ?_); rintro v6 wN hown hg hat; have XQ : Sl (wN.ownsRow w2.heap.size 3 1 v6 (n + 1) (ints (LL ++ [(k : Int)]))) := ⟨by rw [ints_snoc]; exact hown⟩; have HLN : Sl (Below w2.heap.size w2 wN) := ⟨below_grown2 HL.out HL.out.size XO.out hg⟩; clear hown hg hat))
              exact ⟨⟨k + 1, n + 1, LL ++ [(k : Int)], v6, hk12, by go_num, rfl, by omega, ⟨by rw [TV.wl, HW5.out, if_pos (by have := HQ.out; omega), HLL.out.1], by rw [List.length_append, HLL.out.2]; rfl⟩, HLN, XQ, ⟨fun h => by omega⟩⟩, by simp [RowKit.intOf]; omega⟩
            · have hd : decide (most < a) = false := decide_eq_false hq; have HQ : Sl _ := ⟨hq⟩; clear hq; go_wp2_with fail; exact ⟨⟨k + 1, n, LL, _, hk12, by go_num, rfl, by omega, ⟨by rw [TV.wl, HW5.out, if_neg (by have := HQ.out; omega), HLL.out.1], HLL.out.2⟩, HL, XO, HZ⟩, by simp [RowKit.intOf]; omega⟩
          · obtain rfl : k = 12 := (by omega); clear hk12 hk; go_wp2_with fail; go_ret2; exact ⟨⟨fun h => absurd HWC.out h, fun _ => ⟨_, rfl, by rw [HLL.out.1, HLL.out.2]; exact own_base XO.out HB.out.size, fun h => HZ.out (by rw [← HLL.out.2, ← HLL.out.1]; exact h)⟩⟩, HB.out.trans (HL.out.mono HB.out.size)⟩
  · have HWC : Sl (t.wc most = c) := ⟨by unfold TV.wc; rw [HC.out, if_neg h0]⟩; refine (HNO.out _).mono ?_; rintro e w73 ⟨⟨hf, _⟩, hb⟩; obtain rfl := hf (by rw [HC.out]; exact h0); clear hf; rw [HC.out]; replace HB := HB.y hb; replace XT := XT.x hb; clear hb; have hz : ((c : Int) != 0) = true := (by rw [bne_iff_ne]; exact h0); go_wp2_with fail; go_ret2; exact ⟨⟨fun _ => by rw [HWC.out]; rfl, fun h => absurd (HWC.out.symm.trans h) h0⟩, HB.out⟩
end Go.Proofs.YtmcoadmnkelkkaaGreatDoor
namespace Go.Proofs.YtmcoadmnkelkkaaGreatDoor
set_option linter.unusedSimpArgs false
open Go.RowKit
set_option linter.unusedVariables false
def fl (f : Nat → Int) (n : Nat) : List Int := (List.range n).map f
theorem fl_len (f : Nat → Int) (n : Nat) : (fl f n).length = n := by unfold fl; simp
theorem fl_at (f : Nat → Int) {n j : Nat} (hj : j < n) : (fl f n)[j]? = some (f j) := by
  unfold fl; rw [List.getElem?_map, List.getElem?_range hj]; rfl
theorem fl_ext {f g : Nat → Int} {n : Nat} (h : ∀ j, j < n → f j = g j) : fl f n = fl g n := by
  unfold fl; exact List.map_congr_left fun j hj => h j (List.mem_range.1 hj)
theorem fl_snoc (f : Nat → Int) (n : Nat) (x : Int) : ints (fl f n) ++ [.int .i64 x] = ints (fl (upd f n x) (n + 1)) := by
  rw [← ints_snoc]
  have e : fl (upd f n x) (n + 1) = fl (upd f n x) n ++ [x] := by
    unfold fl; rw [List.range_succ, List.map_append]; simp [upd]
  rw [e, fl_ext (f := upd f n x) (g := f) fun j hj => by unfold upd; rw [if_neg (by omega)]]
theorem fl_set (f : Nat → Int) {n j : Nat} (hj : j < n) (x : Int) : (ints (fl f n)).set j (.int .i64 x) = ints (fl (upd f j x) n) := by
  refine List.ext_getElem? fun i => ?_
  by_cases hi : i < n
  · have e1 : (ints (fl (upd f j x) n))[i]? = some (.int .i64 (upd f j x i)) := (by unfold ints; rw [List.getElem?_map, fl_at _ hi]; rfl); have e2 : (ints (fl f n))[i]? = some (.int .i64 (f i)) := (by unfold ints; rw [List.getElem?_map, fl_at _ hi]; rfl); rw [e1]; unfold upd
    by_cases hij : i = j
    · subst hij; rw [List.getElem?_set_self (by unfold ints; rw [List.length_map, fl_len]; exact hi), if_pos rfl]
    · rw [List.getElem?_set_ne (by omega), e2, if_neg hij]
  · rw [List.getElem?_eq_none (by rw [List.length_set]; unfold ints; rw [List.length_map, fl_len]; omega), List.getElem?_eq_none (by unfold ints; rw [List.length_map, fl_len]; omega)]
section
variable {w w' : World} {base g n cap : Nat} {e : TypeId} {v : Value} {f : Nat → Int}
theorem own_ptr (h : w.ownsRow base e 1 v n (ints (fl f n))) (hn : 0 < n) : ∃ g cap, v = .slice (some ⟨g, 0, none⟩) n cap ∧ base ≤ g ∧ g < w.heap.size := by
  obtain ⟨_, h0 | ⟨g, cap, cur, rfl, hb, hh, hnc, _⟩⟩ := h
  · omega
  · exact ⟨g, cap, rfl, hb, Blk.lt (t := e) (cs := cur) hh⟩
theorem own_cell (h : w.ownsRow base e 1 (.slice (some ⟨g, 0, none⟩) n cap) n (ints (fl f n))) {j : Nat} (hj : j < n) : w.cell? ⟨g, j, none⟩ = some (.int .i64 (f j)) := by
  rw [h.cellAt j (by omega)]; unfold ints; rw [List.getElem?_map, fl_at _ hj]; rfl
theorem own_setc (h : w.ownsRow base e 1 (.slice (some ⟨g, 0, none⟩) n cap) n (ints (fl f n))) {j : Nat} (hj : j < n) (x : Int) : (w.setCell ⟨g, j, none⟩ (.int .i64 x)).ownsRow base e 1 (.slice (some ⟨g, 0, none⟩) n cap) n (ints (fl (upd f j x) n)) := by
  have := (h.stored j (.int .i64 x)).1
  rwa [fl_set f hj] at this
theorem own_far (h : w.ownsRow base e 1 v n (ints (fl f n))) (k o : Nat) (u : Value) (hne : ∀ b, v.ownBlock = some b → b ≠ k) : (w.setCell ⟨k, o, none⟩ u).ownsRow base e 1 v n (ints (fl f n)) :=
  own_mv h (Mv.setc w k o u) hne
theorem own_grown {size : Nat} {xs : List Value} {row : Option Nat} (h : w.ownsRow base e size v n xs) (hg : w.grownBy w' row) (hne : ∀ b, v.ownBlock = some b → some b ≠ row) : w'.ownsRow base e size v n xs := by
  refine ⟨h.1, ?_⟩; rcases h.2 with h0 | ⟨b, cap, cur, e1, hb, hh, h1⟩
  · exact .inl h0
  · subst e1; exact .inr ⟨b, cap, cur, rfl, hb, (hg.block b (Blk.lt (t := e) (cs := cur) hh) (hne b rfl)).trans hh, h1⟩
theorem own_slice {size : Nat} {xs : List Value} (h : w.ownsRow base e size v n xs) : ∃ A c, v = .slice A n c := by
  rcases h.2 with ⟨h0, rfl⟩ | ⟨b, cap, cur, e1, _⟩
  · exact ⟨none, 0, h0⟩
  · exact ⟨_, cap, e1⟩
theorem own_two {e' : TypeId} {v' : Value} {base' n' : Nat} {xs xs' : List Value} (h : w.ownsRow base e 1 v n xs) (h' : w.ownsRow base' e' 1 v' n' xs') (hne : e ≠ e') : ∀ b, v.ownBlock = some b → some b ≠ v'.ownBlock := by
  intro b hb hb'; rcases h'.2 with ⟨rfl, _⟩ | ⟨b', cap, cur, rfl, _, hh, _⟩
  · cases hb'
  · exact own_blk_ne (t := e') (cs := cur) h (g := b') hh hne (by rw [hb, hb']; rfl)
theorem own_ib (h : w.ownsRow base e 1 v n (ints (fl f n))) (hn : 0 < n) : ∃ g cap, v = .slice (some ⟨g, 0, none⟩) n cap ∧ base ≤ g ∧ IB w g n f := by
  obtain ⟨g, cap, e1, hb, h1⟩ := IB.of_own h hn; exact ⟨g, cap, e1, hb, h1.congr fun j hj => by rw [fl_at f hj]; rfl⟩
end
end Go.Proofs.YtmcoadmnkelkkaaGreatDoor
namespace Go.Proofs.YtmcoadmnkelkkaaGreatDoor
set_option linter.unusedSimpArgs false
open Go.RowKit
set_option linter.unusedVariables false
section
variable {P : Program} {ops : Array Oper} {Q : Exit → Act → World → Prop} {md : Region.Mode} {S : World → Prop}
theorem wpAnyH_cellg (i : Nat) {oi : Oper} {fuel : Nat} {listed : Array Bool} {a : Act} {w : World} {v : Value} (hi0 : ops.toList[i]? = some oi) (hg : Region.wanted oi (yielded ops a.tmps) = true)
    (hy : ∀ w, S w → (execOp a.eval oi).run P w = .ok (.value v) w)
    (hs : Region.noSelect ops = true) (hf : Region.free md ops listed i = true) (hr : (Region.ready md ops listed).contains i = true)
    (hQ : ∀ c a w, Q (.panic c) (a.put oi.dst v) w → Q (.panic c) a w) (hS : S w)
    (h : wpAnyH P md ops Q S fuel (listed.setIfInBounds i true) (a.put oi.dst v) w) : wpAnyH P md ops Q S (fuel + 1) listed a w :=
  have hi : ops[i]? = some oi := (by rw [← Array.getElem?_toList]; exact hi0)
  wpAnyH_take hi hs hf hr hQ (.inl ⟨hg, hy⟩) hS h
theorem wpAnyH_pureg (i : Nat) {oi : Oper} {v : Value} {fuel : Nat} {listed : Array Bool} {a : Act} {w : World} (hi0 : ops.toList[i]? = some oi)
    (hs : Region.noSelect ops = true) (hf : Region.free md ops listed i = true) (hr : (Region.ready md ops listed).contains i = true)
    (hQ : ∀ c a w, Q (.panic c) (a.put oi.dst v) w → Q (.panic c) a w) (hg : Region.wanted oi (yielded ops a.tmps) = true) (hy : ∀ w, (execOp a.eval oi).run P w = .ok (.value v) w) (hS : S w)
    (h : wpAnyH P md ops Q S fuel (listed.setIfInBounds i true) (a.put oi.dst v) w) : wpAnyH P md ops Q S (fuel + 1) listed a w :=
  have hi : ops[i]? = some oi := (by rw [← Array.getElem?_toList]; exact hi0)
  wpAnyH_take hi hs hf hr hQ (.inl ⟨hg, fun w _ => hy w⟩) hS h
theorem wpAnyH_no (i : Nat) {oi : Oper} {fuel : Nat} {listed : Array Bool} {a : Act} {w : World} (hi0 : ops.toList[i]? = some oi)
    (hs : Region.noSelect ops = true) (hf : Region.free md ops listed i = true) (hr : (Region.ready md ops listed).contains i = true)
    (hQ : ∀ c a w, Q (.panic c) (a.put oi.dst undef) w → Q (.panic c) a w) (hg : Region.wanted oi (yielded ops a.tmps) = false) (hS : S w)
    (h : wpAnyH P md ops Q S fuel (listed.setIfInBounds i true) (a.put oi.dst undef) w) : wpAnyH P md ops Q S (fuel + 1) listed a w :=
  have hi : ops[i]? = some oi := (by rw [← Array.getElem?_toList]; exact hi0)
  wpAnyH_take hi hs hf hr hQ (.inr ⟨hg, rfl⟩) hS h
end
end Go.Proofs.YtmcoadmnkelkkaaGreatDoor
