/- The reference of chapter 04: gcd, Check. The reference of chapter 04: Primes, Terms. -/
import Derived.Test.YtalodfjplegibaaGreatDoorRatH
import Derived.Test.YtalodfjplegibaaGreatDoorRatI
import Derived.Deep.RegionLaw
namespace Go.Proofs.YtalodfjplegibaaGreatDoor
set_option linter.unusedSimpArgs false
open Go.RowKit
set_option linter.unusedVariables false

set_option maxHeartbeats 800000 in
theorem r4gcd_any (a b : Nat) (w : World) (ha : a < 4000000000000000000) (hb : b < 4000000000000000000) :
    Calls Tryz.prog 23 #[.int .i64 a, .int .i64 b] w fun e w' => e = .returned (.int .i64 (Nat.gcd a b)) ∧ ∃ m, w' = w.drewN m := by
  go_enter Tryz.func23, Tryz.ntmps23
  go_wp2_with fail
  go_loopw [0, 1] (fun s0 s1 wr => ∃ (x y : Nat), s0 = .int .i64 x ∧ s1 = .int .i64 y ∧ x < 4000000000000000000 ∧ y < 4000000000000000000 ∧ Sl (Nat.gcd x y = Nat.gcd a b ∧ ∃ m, wr = w.drewN m)) (fun _ s1 _ => (RowKit.intOf s1).toNat)
  case atStart => exact ⟨a, b, rfl, rfl, ha, hb, ⟨rfl, 0, rfl⟩⟩
  case round =>
    clear ha hb
    obtain ⟨x, y, rfl, rfl, hx, hy, HG⟩ := hrel
    rcases Nat.eq_zero_or_pos y with h0 | h0
    · subst h0
      go_wp2_with fail
      go_ret
      obtain ⟨h1, m, h2⟩ := HG.out
      rw [Nat.gcd_zero_right] at h1
      exact ⟨by rw [← h1]; rfl, m, h2⟩
    · have hne : ((y : Int) == 0) = false := by rw [beq_eq_false_iff_ne]; omega
      have hmod : (x : Int).tmod (y : Int) = ((x % y : Nat) : Int) := by rw [Int.tmod_eq_emod_of_nonneg (by omega)]; omega
      have hlt : x % y < y := Nat.mod_lt _ h0
      have HGN : Sl (Nat.gcd y (x % y) = Nat.gcd a b) := ⟨by rw [← HG.out.1, Nat.gcd_comm y, ← Nat.gcd_rec, Nat.gcd_comm]⟩
      generalize x % y = r at *
      go_wp2_with fail
      go_quiet (fail)
      go_wp2_with fail
      obtain ⟨m, hm⟩ := HG.out.2
      refine ⟨⟨y, r, rfl, rfl, hy, by omega, ⟨HGN.out, m + nq, by rw [hm]; simp⟩⟩, by simp [RowKit.intOf]; omega⟩
theorem RV.cell_num (r : RV) {i : Nat} (hi : i < 6) : r.cells[i]? = some (.int .i64 (r.num i)) := by
  have h6 : i = 0 ∨ i = 1 ∨ i = 2 ∨ i = 3 ∨ i = 4 ∨ i = 5 := by omega
  rcases h6 with rfl | rfl | rfl | rfl | rfl | rfl <;> rfl
set_option maxHeartbeats 3200000 in
set_option maxRecDepth 100000 in
theorem r4Check_any (r : RV) (w : World) : Calls Tryz.prog 31 #[.agg r.cells] w fun e w' => e = .returned (.int .i64 (checkS r)) ∧ Below w.heap.size w w' := by
  have hu := (Below.refl w.heap.size w).alloc (Nat.le_refl _) (.cells r.cells 24)
  have X0 := Blk.new w 24 r.cells
  have HU : Sl _ := ⟨And.intro hu X0⟩
  have hcells : r.cells = #[.int .i64 r.n0, .int .i64 r.n1, .int .i64 r.n2, .int .i64 r.n3, .int .i64 r.n4, .int .i64 r.n5, .int .i64 r.d] := rfl
  rw [hcells]
  have HCE : Sl _ := ⟨hcells⟩
  clear hu X0 hcells
  by_cases hd : r.d < 1 ∨ 1000 < r.d
  · have HR : Sl (checkS r = 2) := ⟨by unfold checkS; rw [if_pos hd]⟩
    rw [HCE.out] at HU
    rcases Decidable.em (r.d < 1) with h1 | h1
    · clear hd
      go_enter Tryz.func31, Tryz.ntmps31
      go_wp2_with fail
      go_ret
      exact ⟨by rw [HR.out]; rfl, HU.out.1⟩
    · have h2 : 1000 < r.d := by omega
      have h3 : ¬ r.d < 1 := by omega
      clear hd
      go_enter Tryz.func31, Tryz.ntmps31
      go_wp2_with fail
      go_ret
      exact ⟨by rw [HR.out]; rfl, HU.out.1⟩
  · have hd1 : ¬ r.d < 1 := by omega
    have hd2 : ¬ 1000 < r.d := by omega
    have HD : Sl _ := ⟨hd⟩
    clear hd
    go_enter Tryz.func31, Tryz.ntmps31
    go_wp2_with fail
    rw [← HCE.out]
    generalize w.alloc (.cells r.cells 24) = w0 at *
    go_loopw [3, 4] (fun s3 s4 wr => ∃ i : Nat, i ≤ 6 ∧ s4 = .int .i64 i ∧ s3 = .int .i64 (r.gcd i : Nat) ∧ Sl (Below w.heap.size w wr ∧ Blk wr w.heap.size 24 r.cells ∧ ∀ j, j < i → inR (r.num j))) (fun _ s4 _ => 6 - (RowKit.intOf s4).toNat)
    case atStart => exact ⟨0, by decide, rfl, ret_val (by show r.d = ((r.d.natAbs : Nat) : Int); omega), ⟨HU.out.1, HU.out.2, fun j hj => absurd hj (Nat.not_lt_zero _)⟩⟩
    case round =>
      obtain ⟨i, hi, rfl, rfl, HR⟩ := hrel
      by_cases hi6 : i < 6
      · obtain ⟨z, hz⟩ : ∃ z, r.num i = z := ⟨_, rfl⟩
        have hc : wr.cell? ⟨w.heap.size, i, none⟩ = some (.int .i64 z) := by rw [HR.out.2.1.cell, RV.cell_num r hi6, hz]
        obtain ⟨g, hg⟩ : ∃ g, r.gcd i = g := ⟨_, rfl⟩
        obtain ⟨g', hg'⟩ : ∃ g', r.gcd (i + 1) = g' := ⟨_, rfl⟩
        have hgp := RV.gcd_pos (r := r) (by omega) i
        rw [hg] at hgp
        have hgd : Nat.gcd g z.natAbs = g' := by rw [← hg', ← hg, ← hz]; rfl
        rw [hg]
        have HZ : Sl _ := ⟨And.intro hz (And.intro hg hg')⟩
        clear hz hg hg'
        by_cases hin : inR z
        · have h1 : ¬ z < -100000 := by have := hin.1; omega
          have h2 : ¬ 100000 < z := by have := hin.2; omega
          have hwz : IntKind.i64.wrap (-z) = -z := by rw [IntKind.wrap_i64]; have := hin.1; have := hin.2; omega
          rcases Decidable.em (0 ≤ z) with h0 | h0
          · have hm1 : max z (-z) = z := by omega
            have hm2 : ¬ z < -z := by omega
            have hm3 : -z ≤ z := by omega
            have VA : Sl (∀ q, Calls Tryz.prog 23 #[.int .i64 g, .int .i64 z] (wr.drewN q) fun e w'' => e = .returned (.int .i64 g') ∧ ∃ m, w'' = wr.drewN m) := ⟨fun q => by
              have h := r4gcd_any g z.natAbs (wr.drewN q) (by omega) (by have := hin.1; have := hin.2; omega)
              rw [hgd, show ((z.natAbs : Nat) : Int) = z by omega] at h
              exact h.mono fun e w'' h => ⟨h.1, by obtain ⟨m, hm⟩ := h.2; exact ⟨q + m, by rw [hm, drew2]⟩⟩⟩
            have HIN : Sl _ := ⟨hin⟩
            clear hgd hgp hin
            go_wp2_with fail
            go_quiet ((go_at_call 23; (with_reducible exact VA.out _)))
            go_wp2_with fail
            refine ⟨⟨i + 1, hi6, by go_num, ret_val (by rw [HZ.out.2.2]), ⟨below_drewN HR.out.1 _, HR.out.2.1.drewN _, fun j hj => ?_⟩⟩, by simp [RowKit.intOf]; omega⟩
            rcases Nat.lt_or_ge j i with h | h
            · exact HR.out.2.2 j h
            · have : j = i := by omega
              rw [this, HZ.out.1]; exact HIN.out
          · have hm1 : max z (-z) = -z := by omega
            have hm3 : z < -z := by omega
            have VA : Sl (∀ q, Calls Tryz.prog 23 #[.int .i64 g, .int .i64 (-z)] (wr.drewN q) fun e w'' => e = .returned (.int .i64 g') ∧ ∃ m, w'' = wr.drewN m) := ⟨fun q => by
              have h := r4gcd_any g z.natAbs (wr.drewN q) (by omega) (by have := hin.1; have := hin.2; omega)
              rw [hgd, show ((z.natAbs : Nat) : Int) = (-z) by omega] at h
              exact h.mono fun e w'' h => ⟨h.1, by obtain ⟨m, hm⟩ := h.2; exact ⟨q + m, by rw [hm, drew2]⟩⟩⟩
            have HIN : Sl _ := ⟨hin⟩
            clear hgd hgp hin
            go_wp2_with fail
            go_quiet ((go_at_call 23; (with_reducible exact VA.out _)))
            go_wp2_with fail
            refine ⟨⟨i + 1, hi6, by go_num, ret_val (by rw [HZ.out.2.2]), ⟨below_drewN HR.out.1 _, HR.out.2.1.drewN _, fun j hj => ?_⟩⟩, by simp [RowKit.intOf]; omega⟩
            rcases Nat.lt_or_ge j i with h | h
            · exact HR.out.2.2 j h
            · have : j = i := by omega
              rw [this, HZ.out.1]; exact HIN.out
        · have hres : Sl (checkS r = 2) := ⟨by
            unfold checkS
            rw [if_neg HD.out, if_neg]
            intro h
            have := h i hi6
            rw [HZ.out.1] at this
            exact hin this⟩
          clear hgd
          rcases Decidable.em (z < -100000) with h1 | h1
          · clear hin
            go_wp2_with fail
            go_ret
            exact ⟨by rw [hres.out]; rfl, HR.out.1⟩
          · have h2 : 100000 < z := by
              rcases Decidable.em (100000 < z) with h | h
              · exact h
              · exact absurd ⟨by omega, by omega⟩ hin
            clear hin
            go_wp2_with fail
            go_ret
            exact ⟨by rw [hres.out]; rfl, HR.out.1⟩
      · obtain rfl : i = 6 := by omega
        have hall : ∀ i, i < 6 → inR (r.num i) := HR.out.2.2
        obtain ⟨g, hg⟩ : ∃ g, r.gcd 6 = g := ⟨_, rfl⟩
        rw [hg]
        by_cases h1 : g = 1
        · have hres : Sl (checkS r = 0) := ⟨by unfold checkS; rw [if_neg HD.out, if_pos hall, if_pos (hg.trans h1)]⟩
          subst h1
          clear hall hg
          go_wp2_with fail
          go_ret
          exact ⟨by rw [hres.out]; rfl, HR.out.1⟩
        · have hres : Sl (checkS r = 6) := ⟨by unfold checkS; rw [if_neg HD.out, if_pos hall, if_neg (by rw [hg]; exact h1)]⟩
          have h2 : ((g : Int) == 1) = false := by rw [beq_eq_false_iff_ne]; omega
          clear hall hg
          go_wp2_with fail
          go_ret
          exact ⟨by rw [hres.out]; rfl, HR.out.1⟩
end Go.Proofs.YtalodfjplegibaaGreatDoor
namespace Go.Proofs.YtalodfjplegibaaGreatDoor
set_option linter.unusedSimpArgs false
open Go.RowKit
set_option linter.unusedVariables false

def primeCells : Array Value := #[.int .i64 2, .int .i64 3, .int .i64 5, .int .i64 7, .int .i64 11, .int .i64 13]
theorem primeCells_at {i : Nat} (hi : i < 6) : primeCells[i]? = some (.int .i64 (prime i : Nat)) := by
  have h6 : i = 0 ∨ i = 1 ∨ i = 2 ∨ i = 3 ∨ i = 4 ∨ i = 5 := by omega
  rcases h6 with rfl | rfl | rfl | rfl | rfl | rfl <;> rfl
theorem Primes_any (w : World) : Calls Tryz.prog 48 #[] w fun e w' => e = .returned (.slice (some ⟨w.heap.size, 0, none⟩) 6 6) ∧ w' = w.alloc (.cells primeCells 2) := by
  go_enter Tryz.func48, Tryz.ntmps48
  go_wp2_with fail
  go_ret
  exact ⟨rfl, rfl⟩
set_option maxHeartbeats 3200000 in
set_option maxRecDepth 100000 in
theorem r4Terms_any (r : RV) (w : World) : Calls Tryz.prog 22 #[.agg r.cells] w fun e w' => TermsRes w' e r ∧ Below w.heap.size w w' := by
  have hu := (Below.refl w.heap.size w).alloc (Nat.le_refl _) (.cells r.cells 24)
  have X0 := Blk.new w 24 r.cells
  have HC : Sl _ := ⟨fun W : World => r4Check_any r W⟩
  have HU : Sl _ := ⟨And.intro hu X0⟩
  have hcells : r.cells = #[.int .i64 r.n0, .int .i64 r.n1, .int .i64 r.n2, .int .i64 r.n3, .int .i64 r.n4, .int .i64 r.n5, .int .i64 r.d] := rfl
  have HCE : Sl _ := ⟨hcells⟩
  rw [hcells] at HC ⊢
  clear hu X0 hcells
  obtain ⟨er, her⟩ : ∃ er, checkS r = er := ⟨_, rfl⟩
  rw [her] at HC
  have HE : Sl _ := ⟨her⟩
  clear her
  by_cases h0 : er = 0
  · subst h0
    obtain ⟨i0, hi0, hz0, hz1, hz2⟩ := info_term
    have HI : Sl _ := ⟨And.intro hi0 (And.intro hz0 (And.intro hz1 hz2))⟩
    clear hi0 hz0 hz1 hz2
    go_enter Tryz.func22, Tryz.ntmps22
    go_wp2_with fail
    rw [← HCE.out]
    generalize w.alloc (.cells r.cells 24) = w0 at *
    rw [HCE.out]
    refine (HC.out _).mono ?_; rintro e w1 ⟨rfl, hb1⟩
    have X1 := HU.out.2.below hb1 HU.out.2.lt
    have HB1 := HU.out.1.trans (hb1.mono HU.out.1.size)
    clear hb1
    go_wp2_with fail
    refine (Primes_any w1).mono ?_; rintro e w2 ⟨rfl, rfl⟩
    have Q2 := Blk.new w1 2 primeCells
    have X2 := X1.alloc (.cells primeCells 2)
    have B2 := HB1.alloc HB1.size (.cells primeCells 2)
    generalize hG : w1.heap.size = G at *
    generalize w1.alloc (.cells primeCells 2) = w2 at *
    have HW : Sl _ := ⟨And.intro B2 (And.intro X2 Q2)⟩
    clear X1 HB1 Q2 X2 B2 hG
    go_wp2_with fail
    go_loopw [6, 8] (fun s6 s8 wr => ∃ (i n c : Nat) (A : Option Addr), i ≤ 6 ∧ s8 = .int .i64 i ∧ s6 = .slice A n c ∧ Sl (Below w2.heap.size w2 wr ∧ n = (termsN r i).length ∧ wr.ownsRow w2.heap.size 35 2 (.slice A n c) n (flatT (termsN r i)))) (fun _ s8 _ => 6 - (RowKit.intOf s8).toNat)
    case atStart => exact ⟨0, 0, 0, none, by decide, rfl, rfl, ⟨Below.refl _ _, rfl, World.ownsRow_nil _ _ _ _⟩⟩
    case round =>
      obtain ⟨i, n, c, A, hi, rfl, rfl, HR⟩ := hrel
      have hn6 : n ≤ 6 := by have := termsN_len r i; have := HR.out.2.1; omega
      have HX : Sl _ := ⟨HW.out.2.1.below HR.out.1 HW.out.2.1.lt⟩
      have HQ : Sl _ := ⟨HW.out.2.2.below HR.out.1 HW.out.2.2.lt⟩
      by_cases hi6 : i < 6
      · obtain ⟨z, hz⟩ : ∃ z, r.num i = z := ⟨_, rfl⟩
        obtain ⟨p, hp⟩ : ∃ p, prime i = p := ⟨_, rfl⟩
        have hzc : wr.cell? ⟨w.heap.size, i, none⟩ = some (.int .i64 z) := by rw [HX.out.cell, RV.cell_num r hi6, hz]
        have hpc : wr.cell? ⟨G, i, none⟩ = some (.int .i64 (p : Nat)) := by rw [HQ.out.cell, primeCells_at hi6, hp]
        have HZ : Sl _ := ⟨And.intro hz hp⟩
        clear hz hp
        by_cases hz0 : z = 0
        · subst hz0
          go_wp2_with fail
          have ht : termsN r (i + 1) = termsN r i := by rw [termsN, if_pos HZ.out.1]
          refine ⟨⟨i + 1, n, c, A, hi6, by go_num, rfl, ⟨HR.out.1, by rw [ht]; exact HR.out.2.1, by rw [ht]; exact HR.out.2.2⟩⟩, by simp [RowKit.intOf]; omega⟩
        · have HNW : Sl (Reads ((wr.drewN 1).alloc (.cells #[.int .i64 (p : Int), .int .i64 z] 35)) (wr.heap.size + 1) 2 (some ⟨wr.heap.size, 0, none⟩) 1 [.int .i64 (p : Int), .int .i64 z]) := ⟨by
            refine ⟨rfl, fun _ => ⟨_, rfl, Nat.lt_succ_self _, fun j u hu => ?_⟩⟩
            have hb := Blk.new (wr.drewN 1) 35 #[.int .i64 (p : Int), .int .i64 z]
            have e : (⟨wr.heap.size, 0, none⟩ : Addr).add j = ⟨(wr.drewN 1).heap.size, j, none⟩ := by
              unfold Addr.add
              by_cases h : j = 0
              · subst h; simp
              · simp [h]
            rw [e, hb.cell]
            simpa using hu⟩
          have HO : Sl (((wr.drewN 1).alloc (.cells #[.int .i64 (p : Int), .int .i64 z] 35)).ownsRow w2.heap.size 35 2 (.slice A n c) n (flatT (termsN r i))) := ⟨own_alloc (w := wr.drewN 1) HR.out.2.2 _⟩
          have hba := (below_drewN HR.out.1 1).alloc HR.out.1.size (.cells #[.int .i64 (p : Int), .int .i64 z] 35)
          have HBA : Sl _ := ⟨hba⟩
          have HSZ : Sl (w2.heap.size ≤ ((wr.drewN 1).alloc (.cells #[.int .i64 (p : Int), .int .i64 z] 35)).heap.size) := ⟨hba.size⟩
          clear hba
          go_wp2_with fail
          go_region_law (refine step_append_any _ rfl (.tmp 24) (.tmp 34) _ rfl w2.heap.size 35 i0 _ 2 16 Tryz.underlying36 HI.out.1 HI.out.2.1 HI.out.2.2.1 HI.out.2.2.2 rfl (by decide) (.slice A n c) n _ (by simp [Act.eval, Act.put]) HO.out _ (some ⟨wr.heap.size, 0, none⟩) 1 1 [.int .i64 (p : Int), .int .i64 z] (by simp [Act.eval, Act.put]) HNW.out (by simp; exact ⟨rfl, rfl⟩) (by unfold maxLen; omega) (by omega) HSZ.out ?_; intro v1 w5 hown1 hg1 hat1)
          all_goals (
            obtain ⟨g5, c5, rfl, hfb, hfl⟩ := hown1.form (Nat.succ_pos n)
            have ht : termsN r (i + 1) = termsN r i ++ [(p, z)] := by rw [termsN, if_neg (by rw [HZ.out.1]; exact hz0), HZ.out.1, HZ.out.2]
            have hfin : Sl (Below w2.heap.size w2 w5 ∧ n + 1 = (termsN r (i + 1)).length ∧ w5.ownsRow w2.heap.size 35 2 (.slice (some ⟨g5, 0, none⟩) (n + 1) c5) (n + 1) (flatT (termsN r (i + 1)))) := ⟨HBA.out.grown hg1 HSZ.out (fun k hk => (HO.out.lt k hk).1), by rw [ht, List.length_append, ← HR.out.2.1]; rfl, by rw [ht, flatT_snoc]; exact hown1⟩
            clear hown1 hg1 hat1 ht hfb hfl
            go_wp2_with fail
            exact ⟨⟨i + 1, n + 1, c5, _, hi6, by go_num, rfl, hfin⟩, by simp [RowKit.intOf]; omega⟩)
      · obtain rfl : i = 6 := by omega
        have y6 := HX.out.cell 6
        rw [HCE.out] at y6
        simp at y6
        clear hi6
        go_wp2_with fail
        go_quiet (fail)
        go_wp2_with fail
        go_ret3
        have hBB := HW.out.1.trans (HR.out.1.mono HW.out.1.size)
        refine ⟨⟨fun h => absurd HE.out h, fun _ => ⟨A, n, c, rfl, HR.out.2.1.symm, ?_⟩⟩, below_drewN hBB _⟩
        exact (Reads.of_own HR.out.2.2).drewN _
  · go_enter Tryz.func22, Tryz.ntmps22
    rw [HCE.out] at HU
    go_wp2_with fail
    generalize w.alloc (.cells #[.int .i64 r.n0, .int .i64 r.n1, .int .i64 r.n2, .int .i64 r.n3, .int .i64 r.n4, .int .i64 r.n5, .int .i64 r.d] 24) = w0 at *
    refine (HC.out _).mono ?_; rintro e w1 ⟨rfl, hb1⟩
    have HB1 : Sl _ := ⟨HU.out.1.trans (hb1.mono HU.out.1.size)⟩
    go_wp2_with fail
    go_ret3
    exact ⟨⟨fun _ => by rw [HE.out]; rfl, fun h => absurd (HE.out.symm.trans h) h0⟩, HB1.out⟩
end Go.Proofs.YtalodfjplegibaaGreatDoor
