/- The reference of chapter 04: Primes, Terms. -/
import Derived.Test.YtcmofoggdchofaaDoorRatO
import Derived.Test.YtcmofoggdchofaaDoorRatI
import Derived.Deep.RegionLaw
namespace Go.Proofs.YtcmofoggdchofaaDoor
set_option linter.unusedSimpArgs false
open Go.RowKit
set_option linter.unusedVariables false

def primeCells : Array Value := #[.int .i64 2, .int .i64 3, .int .i64 5, .int .i64 7, .int .i64 11, .int .i64 13]
theorem primeCells_at {i : Nat} (hi : i < 6) : primeCells[i]? = some (.int .i64 (prime i : Nat)) := by
  have h6 : i = 0 ∨ i = 1 ∨ i = 2 ∨ i = 3 ∨ i = 4 ∨ i = 5 := by omega
  rcases h6 with rfl | rfl | rfl | rfl | rfl | rfl <;> rfl
theorem Primes_any (w : World) : Calls Tryd.prog 28 #[] w fun e w' => e = .returned (.slice (some ⟨w.heap.size, 0, none⟩) 6 6) ∧ w' = w.alloc (.cells primeCells 2) := by
  go_enter Tryd.func28, Tryd.ntmps28
  go_wp2_with fail
  go_ret
  exact ⟨rfl, rfl⟩
set_option maxHeartbeats 3200000 in
set_option maxRecDepth 100000 in
theorem r4Terms_any (r : RV) (w : World) : Calls Tryd.prog 10 #[.agg r.cells] w fun e w' => TermsRes w' e r ∧ Below w.heap.size w w' := by
  have hu := (Below.refl w.heap.size w).alloc (Nat.le_refl _) (.cells r.cells 24)
  have X0 := Blk.new w 24 r.cells
  have HC : Sl _ := ⟨fun W : World => r4Check_any r W⟩
  have HU : Sl _ := ⟨And.intro hu X0⟩
  have hcells : r.cells = #[.int .i64 r.n0, .int .i64 r.n1, .int .i64 r.n2, .int .i64 r.n3, .int .i64 r.n4, .int .i64 r.n5, .int .i64 r.d] := rfl
  have HCE : Sl _ := ⟨hcells⟩
  rw [hcells] at HC ⊢
  clear hu X0 hcells
  obtain ⟨er, her⟩ : ∃ er, checkS r = er := ⟨_, rfl⟩
  rw [her] at HC
  have HE : Sl _ := ⟨her⟩
  clear her
  by_cases h0 : er = 0
  · subst h0
    obtain ⟨i0, hi0, hz0, hz1, hz2⟩ := info_term
    have HI : Sl _ := ⟨And.intro hi0 (And.intro hz0 (And.intro hz1 hz2))⟩
    clear hi0 hz0 hz1 hz2
    go_enter Tryd.func10, Tryd.ntmps10
    go_wp2_with fail
    rw [← HCE.out]
    generalize w.alloc (.cells r.cells 24) = w0 at *
    rw [HCE.out]
    refine (HC.out _).mono ?_; rintro e w1 ⟨rfl, hb1⟩
    have X1 := HU.out.2.below hb1 HU.out.2.lt
    have HB1 := HU.out.1.trans (hb1.mono HU.out.1.size)
    clear hb1
    go_wp2_with fail
    refine (Primes_any w1).mono ?_; rintro e w2 ⟨rfl, rfl⟩
    have Q2 := Blk.new w1 2 primeCells
    have X2 := X1.alloc (.cells primeCells 2)
    have B2 := HB1.alloc HB1.size (.cells primeCells 2)
    generalize hG : w1.heap.size = G at *
    generalize w1.alloc (.cells primeCells 2) = w2 at *
    have HW : Sl _ := ⟨And.intro B2 (And.intro X2 Q2)⟩
    clear X1 HB1 Q2 X2 B2 hG
    go_wp2_with fail
    go_loopw [6, 8] (fun s6 s8 wr => ∃ (i n c : Nat) (A : Option Addr), i ≤ 6 ∧ s8 = .int .i64 i ∧ s6 = .slice A n c ∧ Sl (Below w2.heap.size w2 wr ∧ n = (termsN r i).length ∧ wr.ownsRow w2.heap.size 51 2 (.slice A n c) n (flatT (termsN r i)))) (fun _ s8 _ => 6 - (RowKit.intOf s8).toNat)
    case atStart => exact ⟨0, 0, 0, none, by decide, rfl, rfl, ⟨Below.refl _ _, rfl, World.ownsRow_nil _ _ _ _⟩⟩
    case round =>
      obtain ⟨i, n, c, A, hi, rfl, rfl, HR⟩ := hrel
      have hn6 : n ≤ 6 := by have := termsN_len r i; have := HR.out.2.1; omega
      have HX : Sl _ := ⟨HW.out.2.1.below HR.out.1 HW.out.2.1.lt⟩
      have HQ : Sl _ := ⟨HW.out.2.2.below HR.out.1 HW.out.2.2.lt⟩
      by_cases hi6 : i < 6
      · obtain ⟨z, hz⟩ : ∃ z, r.num i = z := ⟨_, rfl⟩
        obtain ⟨p, hp⟩ : ∃ p, prime i = p := ⟨_, rfl⟩
        have hzc : wr.cell? ⟨w.heap.size, i, none⟩ = some (.int .i64 z) := by rw [HX.out.cell, RV.cell_num r hi6, hz]
        have hpc : wr.cell? ⟨G, i, none⟩ = some (.int .i64 (p : Nat)) := by rw [HQ.out.cell, primeCells_at hi6, hp]
        have HZ : Sl _ := ⟨And.intro hz hp⟩
        clear hz hp
        by_cases hz0 : z = 0
        · subst hz0
          go_wp2_with fail
          have ht : termsN r (i + 1) = termsN r i := by rw [termsN, if_pos HZ.out.1]
          refine ⟨⟨i + 1, n, c, A, hi6, by go_num, rfl, ⟨HR.out.1, by rw [ht]; exact HR.out.2.1, by rw [ht]; exact HR.out.2.2⟩⟩, by simp [RowKit.intOf]; omega⟩
        · have HNW : Sl (Reads ((wr.drewN 1).alloc (.cells #[.int .i64 (p : Int), .int .i64 z] 51)) (wr.heap.size + 1) 2 (some ⟨wr.heap.size, 0, none⟩) 1 [.int .i64 (p : Int), .int .i64 z]) := ⟨by
            refine ⟨rfl, fun _ => ⟨_, rfl, Nat.lt_succ_self _, fun j u hu => ?_⟩⟩
            have hb := Blk.new (wr.drewN 1) 51 #[.int .i64 (p : Int), .int .i64 z]
            have e : (⟨wr.heap.size, 0, none⟩ : Addr).add j = ⟨(wr.drewN 1).heap.size, j, none⟩ := by
              unfold Addr.add
              by_cases h : j = 0
              · subst h; simp
              · simp [h]
            rw [e, hb.cell]
            simpa using hu⟩
          have HO : Sl (((wr.drewN 1).alloc (.cells #[.int .i64 (p : Int), .int .i64 z] 51)).ownsRow w2.heap.size 51 2 (.slice A n c) n (flatT (termsN r i))) := ⟨own_alloc (w := wr.drewN 1) HR.out.2.2 _⟩
          have hba := (below_drewN HR.out.1 1).alloc HR.out.1.size (.cells #[.int .i64 (p : Int), .int .i64 z] 51)
          have HBA : Sl _ := ⟨hba⟩
          have HSZ : Sl (w2.heap.size ≤ ((wr.drewN 1).alloc (.cells #[.int .i64 (p : Int), .int .i64 z] 51)).heap.size) := ⟨hba.size⟩
          clear hba
          go_wp2_with fail
          go_region_law (refine step_append_any _ rfl (.tmp 24) (.tmp 34) _ rfl w2.heap.size 51 i0 _ 2 16 Tryd.underlying28 HI.out.1 HI.out.2.1 HI.out.2.2.1 HI.out.2.2.2 rfl (by decide) (.slice A n c) n _ (by simp [Act.eval, Act.put]) HO.out _ (some ⟨wr.heap.size, 0, none⟩) 1 1 [.int .i64 (p : Int), .int .i64 z] (by simp [Act.eval, Act.put]) HNW.out (by simp; exact ⟨rfl, rfl⟩) (by unfold maxLen; omega) (by omega) HSZ.out ?_; intro v1 w5 hown1 hg1 hat1)
          all_goals (
            obtain ⟨g5, c5, rfl, hfb, hfl⟩ := hown1.form (Nat.succ_pos n)
            have ht : termsN r (i + 1) = termsN r i ++ [(p, z)] := by rw [termsN, if_neg (by rw [HZ.out.1]; exact hz0), HZ.out.1, HZ.out.2]
            have hfin : Sl (Below w2.heap.size w2 w5 ∧ n + 1 = (termsN r (i + 1)).length ∧ w5.ownsRow w2.heap.size 51 2 (.slice (some ⟨g5, 0, none⟩) (n + 1) c5) (n + 1) (flatT (termsN r (i + 1)))) := ⟨HBA.out.grown hg1 HSZ.out (fun k hk => (HO.out.lt k hk).1), by rw [ht, List.length_append, ← HR.out.2.1]; rfl, by rw [ht, flatT_snoc]; exact hown1⟩
            clear hown1 hg1 hat1 ht hfb hfl
            go_wp2_with fail
            exact ⟨⟨i + 1, n + 1, c5, _, hi6, by go_num, rfl, hfin⟩, by simp [RowKit.intOf]; omega⟩)
      · obtain rfl : i = 6 := by omega
        have y6 := HX.out.cell 6
        rw [HCE.out] at y6
        simp at y6
        clear hi6
        go_wp2_with fail
        go_quiet (fail)
        go_wp2_with fail
        go_ret3
        have hBB := HW.out.1.trans (HR.out.1.mono HW.out.1.size)
        refine ⟨⟨fun h => absurd HE.out h, fun _ => ⟨A, n, c, rfl, HR.out.2.1.symm, ?_⟩⟩, below_drewN hBB _⟩
        exact (Reads.of_own HR.out.2.2).drewN _
  · go_enter Tryd.func10, Tryd.ntmps10
    rw [HCE.out] at HU
    go_wp2_with fail
    generalize w.alloc (.cells #[.int .i64 r.n0, .int .i64 r.n1, .int .i64 r.n2, .int .i64 r.n3, .int .i64 r.n4, .int .i64 r.n5, .int .i64 r.d] 24) = w0 at *
    refine (HC.out _).mono ?_; rintro e w1 ⟨rfl, hb1⟩
    have HB1 : Sl _ := ⟨HU.out.1.trans (hb1.mono HU.out.1.size)⟩
    go_wp2_with fail
    go_ret3
    exact ⟨⟨fun _ => by rw [HE.out]; rfl, fun h => absurd (HE.out.symm.trans h) h0⟩, HB1.out⟩
end Go.Proofs.YtcmofoggdchofaaDoor
