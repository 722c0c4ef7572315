/- Package ratios: what the quick bounds say of a product. -/
import Derived.Test.YtalodfjplegibaaGreatDoorMixT
import Derived.Deep.RegionLaw
namespace Go.Proofs.YtalodfjplegibaaGreatDoor
set_option linter.unusedSimpArgs false
open Go.RowKit
set_option linter.unusedVariables false

/-- the sums are not too long -/
theorem gsum_le : ∀ l : List (Nat × Int), (∀ x ∈ l, x.2.natAbs < 1000000000000000000) → (∀ x ∈ l, (qk x.1).1 < 1000000000000 ∧ (qk x.1).2 < 1000000000000) →
    (gsum l).1.1 ≤ l.length * 1000000000000000000000000000000 ∧ (gsum l).1.2 ≤ l.length * 1000000000000000000000000000000 ∧ (gsum l).2.1 ≤ l.length * 1000000000000000000000000000000 ∧ (gsum l).2.2 ≤ l.length * 1000000000000000000000000000000
  | [], _, _ => by simp [gsum]
  | (n, k) :: l, h1, h2 => by
    obtain ⟨a, b, c, d⟩ := gsum_le l (fun x hx => h1 x (List.mem_cons_of_mem _ hx)) (fun x hx => h2 x (List.mem_cons_of_mem _ hx))
    have e1 := h1 _ List.mem_cons_self
    obtain ⟨e2, e3⟩ := h2 _ List.mem_cons_self
    simp only [] at e1 e2 e3
    have m1 : (qk n).1 * k.natAbs ≤ 1000000000000 * 1000000000000000000 := Nat.mul_le_mul (by omega) (by omega)
    have m2 : (qk n).2 * k.natAbs ≤ 1000000000000 * 1000000000000000000 := Nat.mul_le_mul (by omega) (by omega)
    rw [gsum, List.length_cons]
    split <;> simp only [] <;> omega
theorem gsum_fit (l : List (Nat × Int)) (i n : Nat) (hg : Good l) (hi : i ≤ n) (hn : n ≤ 1000) {q k : Nat} (hq : q < 1000000000000) (hk : k < 1000000000000000000) :
    (gsum (l.take i)).1.1 + q * k < W64 * W64 ∧ (gsum (l.take i)).1.2 + q * k < W64 * W64 ∧ (gsum (l.take i)).2.1 + q * k < W64 * W64 ∧ (gsum (l.take i)).2.2 + q * k < W64 * W64 := by
  obtain ⟨a, b, c, d⟩ := gsum_le (l.take i) (fun x hx => hg.k x (List.mem_of_mem_take hx)) (fun x hx => hg.b x (List.mem_of_mem_take hx))
  have hl : (l.take i).length ≤ 1000 := Nat.le_trans (List.length_take_le _ _) (by omega)
  have m1 : q * k ≤ 1000000000000 * 1000000000000000000 := Nat.mul_le_mul (by omega) (by omega)
  have m2 := Nat.mul_le_mul_right 1000000000000000000000000000000 hl
  unfold W64
  omega
set_option maxHeartbeats 12800000 in
set_option maxRecDepth 100000 in
theorem guess_any (A : Option Addr) (n c : Nat) (l : List (Nat × Int)) (w : World) (hl : TR w A n l) (hn : n ≤ 1000) (hg : Good l) :
    Calls Tryz.prog 56 #[.slice A n c] w fun e w' => e = .returned (.tuple #[.int .i64 ((guessF l).getD 0), .bool (guessF l).isSome]) ∧ Below w.heap.size w w' := by
  have HL : Sl _ := ⟨hl⟩
  have HG : Sl _ := ⟨hg⟩
  clear hl hg
  have hf : guessF l = guessG (gsum l) := rfl
  rw [hf]
  clear hf
  have hu : Below w.heap.size w ((w.alloc (.cells (pair128 0 0) 115)).alloc (.cells (pair128 0 0) 115)) := ((Below.refl _ _).alloc (Nat.le_refl _) _).alloc (by simp) _
  have hb1 := (Blk.new w 115 (pair128 0 0)).alloc (.cells (pair128 0 0) 115)
  have hb2 := Blk.new (w.alloc (.cells (pair128 0 0) 115)) 115 (pair128 0 0)
  have e1 : (w.alloc (.cells (pair128 0 0) 115)).heap.size = w.heap.size + 1 := by simp
  rw [e1] at hb2
  clear e1
  have HU : Sl _ := ⟨hu⟩
  have HB : Sl _ := ⟨And.intro hb1 hb2⟩
  clear hu hb1 hb2
  have hz : pair128 0 0 = #[.int .u64 0, .int .u64 0, .int .u64 0, .int .u64 0] := rfl
  rw [hz] at HU HB
  clear hz
  go_enter Tryz.func56, Tryz.ntmps56
  go_wp2_with fail
  generalize (w.alloc (.cells #[.int .u64 0, .int .u64 0, .int .u64 0, .int .u64 0] 115)).alloc (.cells #[.int .u64 0, .int .u64 0, .int .u64 0, .int .u64 0] 115) = w0 at *
  go_loopw [12] (fun s12 wr => ∃ i : Nat, i ≤ n ∧ s12 = .int .i64 i ∧ Sl (Blk wr w.heap.size 115 (pair128 (gsum (l.take i)).1.1 (gsum (l.take i)).1.2) ∧ Blk wr (w.heap.size + 1) 115 (pair128 (gsum (l.take i)).2.1 (gsum (l.take i)).2.2)) ∧ Below w.heap.size w wr) (fun s12 _ => n - (RowKit.intOf s12).toNat)
  case atStart => 
    have h0 : gsum (l.take 0) = ((0, 0), (0, 0)) := by rw [List.take_zero]; rfl
    exact ⟨0, Nat.zero_le _, rfl, by rw [h0]; exact ⟨HB.out⟩, HU.out⟩
  case round =>
    clear HB HU
    obtain ⟨i, hi, rfl, HB, hB⟩ := hrel
    by_cases hin : i < n
    · obtain ⟨⟨nn, kk⟩, hx⟩ : ∃ x, l[i]? = some x := ⟨_, List.getElem?_eq_getElem (by rw [HL.out.1]; exact hin)⟩
      obtain ⟨ad, rfl, hab, c1, c2⟩ := (HL.out.below hB).cells hx
      have e1 : (ad.add (i * 2)).add 1 = ⟨(ad.add (i * 2)).block, (ad.add (i * 2)).off + 1, none⟩ := by
        generalize ad.add (i * 2) = a1
        simp [Addr.add]
      rw [← add_of_add, e1] at c2
      clear e1
      have hmem := List.mem_of_getElem? hx
      have hts : l.take (i + 1) = l.take i ++ [(nn, kk)] := by
        rw [List.take_add_one, hx]; rfl
      have HTS : Sl _ := ⟨hts⟩
      have HQ : Sl _ := ⟨HG.out.q _ hmem⟩
      have hk1 := HG.out.k _ hmem
      have HQB : Sl _ := ⟨HG.out.b _ hmem⟩
      simp only [] at hk1
      have hsl := HB.out.1.lt
      have hal : Below wr.heap.size wr (wr.alloc (.cells #[.int .i64 (nn : Int), .int .i64 kk] 35)) := (Below.refl _ _).alloc (Nat.le_refl _) _
      have X1 := Blk.new wr 35 #[.int .i64 (nn : Int), .int .i64 kk]
      have U1 := HB.out.1.below hal HB.out.1.lt
      have D1 := HB.out.2.below hal HB.out.2.lt
      have hlt1 := HB.out.1.lt
      have hlt2 := HB.out.2.lt
      have hB1 := hB.trans (hal.mono hB.size)
      have hz1 : (wr.alloc (.cells #[.int .i64 (nn : Int), .int .i64 kk] 35)).heap.size = wr.heap.size + 1 := by simp
      clear hmem hts hal HB
      go_wp2_with fail
      generalize hw1 : wr.alloc (.cells #[.int .i64 (nn : Int), .int .i64 kk] 35) = w1 at *
      clear hw1
      generalize hG : wr.heap.size = G at *
      refine (HQ.out w1).mono ?_; rintro e w2 ⟨rfl, m, rfl⟩
      have X2 : Blk (w1.drewN m) G _ _ := X1.drewN m
      have U2 : Blk (w1.drewN m) w.heap.size _ _ := U1.drewN m
      have D2 : Blk (w1.drewN m) (w.heap.size + 1) _ _ := D1.drewN m
      have hB2 := below_drewN hB1 m
      have hs2 : (w1.drewN m).heap.size = G + 1 := hz1
      clear X1 U1 D1 hB1 hz1 c1 c2 HQ
      generalize w1.drewN m = w2 at *
      generalize hq1 : (qk nn).1 = q1 at *
      generalize hq2 : (qk nn).2 = q2 at *
      have HQ12 : Sl _ := ⟨And.intro hq1 hq2⟩
      clear hq1 hq2
      generalize hg1 : (gsum (l.take i)).1.1 = a1 at *
      generalize hg2 : (gsum (l.take i)).1.2 = a2 at *
      generalize hg3 : (gsum (l.take i)).2.1 = b1 at *
      generalize hg4 : (gsum (l.take i)).2.2 = b2 at *
      have HGS : Sl _ := ⟨And.intro hg1 (And.intro hg2 (And.intro hg3 hg4))⟩
      clear hg1 hg2 hg3 hg4
      by_cases hk : 0 ≤ kk
      · obtain ⟨kn, rfl⟩ := Int.eq_ofNat_of_zero_le hk
        have hkn : kn < 1000000000000000000 := by omega
        have HSM : Sl (a1 + q1 * kn < W64 * W64 ∧ a2 + q2 * kn < W64 * W64) := ⟨by
          have f1 := gsum_fit l i n HG.out hi hn HQB.out.1 hkn
          have f2 := gsum_fit l i n HG.out hi hn HQB.out.2 hkn
          rw [HGS.out.1, HGS.out.2.1, HGS.out.2.2.1, HGS.out.2.2.2] at f1
          rw [HGS.out.1, HGS.out.2.1, HGS.out.2.2.1, HGS.out.2.2.2] at f2
          exact ⟨f1.1, f2.2.1⟩⟩
        have hp1 := fun W : World => lplus_any a1 q1 kn W HSM.out.1 (by have := HQB.out.1; unfold W64; omega) (by unfold W64; omega)
        have hp2 := fun W : World => lplus_any a2 q2 kn W HSM.out.2 (by have := HQB.out.2; unfold W64; omega) (by unfold W64; omega)
        unfold lv128 at hp1 hp2
        unfold pair128 at U2
        obtain ⟨r1, hr1⟩ : ∃ r, a1 + q1 * kn = r := ⟨_, rfl⟩
        obtain ⟨r2, hr2⟩ : ∃ r, a2 + q2 * kn = r := ⟨_, rfl⟩
        rw [hr1] at hp1
        rw [hr2] at hp2
        have HR12 : Sl _ := ⟨And.intro hr1 hr2⟩
        clear hr1 hr2
        have HP3 : Sl (pair128 r1 r2 = #[.int .u64 (r1 / W64 : Nat), .int .u64 (r1 % W64 : Nat), .int .u64 (r2 / W64 : Nat), .int .u64 (r2 % W64 : Nat)]) := ⟨rfl⟩
        generalize a1 / W64 = h1 at *
        generalize a1 % W64 = l1 at *
        generalize a2 / W64 = h2 at *
        generalize a2 % W64 = l2 at *
        generalize r1 / W64 = rh1 at *
        generalize r1 % W64 = rl1 at *
        generalize r2 / W64 = rh2 at *
        generalize r2 % W64 = rl2 at *
        have HP1 : Sl _ := ⟨hp1⟩
        have HP2 : Sl _ := ⟨hp2⟩
        clear hp1 hp2 hk
        have hS : Sl (∀ w' : World, RowKit.Below w2.heap.size w2 w' → w'.cell? ⟨w.heap.size, 0, none⟩ = some (.int .u64 (h1 : Int)) ∧ w'.cell? ⟨w.heap.size, 1, none⟩ = some (.int .u64 (l1 : Int)) ∧ w'.cell? ⟨w.heap.size, 2, none⟩ = some (.int .u64 (h2 : Int)) ∧ w'.cell? ⟨w.heap.size, 3, none⟩ = some (.int .u64 (l2 : Int)) ∧ w'.cell? ⟨G, 1, none⟩ = some (.int .i64 (kn : Int))) := ⟨fun w' h => by
          have e := U2.below h U2.lt
          exact ⟨e.cell 0, e.cell 1, e.cell 2, e.cell 3, (X2.below h X2.lt).cell 1⟩⟩
        obtain ⟨p0, p1, p2, p3, x1⟩ := hS.out w2.drew (below_drewN (Below.refl _ _) 1)
        have x2 := X2.cell 1
        simp at x2
        have hwr : IntKind.u64.wrap (kn : Int) = (kn : Int) := by rw [IntKind.wrap_u64]; omega
        have hUF : Sl (∀ w' : World, RowKit.Below w2.heap.size w2 w' → Blk w' w.heap.size _ _) := ⟨fun w' h => U2.below h U2.lt⟩
        have hfz : Sl (∀ w' : World, RowKit.Below w2.heap.size w2 w' → w'.frozen? ⟨w.heap.size, 0, none⟩ = false ∧ w'.frozen? ⟨w.heap.size, 1, none⟩ = false ∧ w'.frozen? ⟨w.heap.size, 2, none⟩ = false ∧ w'.frozen? ⟨w.heap.size, 3, none⟩ = false) := ⟨fun w' h => by
          have e := U2.below h U2.lt
          exact ⟨e.frozen 0, e.frozen 1, e.frozen 2, e.frozen 3⟩⟩
        have hd : RowKit.Below w2.heap.size w2 w2.drew := below_drewN (Below.refl _ _) 1
        have hne : G ≠ w.heap.size := by omega
        have hSX : Sl (∀ w' : World, RowKit.Below w2.heap.size w2 w' → w'.cell? ⟨G, 1, none⟩ = some (.int .i64 (kn : Int))) := ⟨fun w' h => (X2.below h X2.lt).cell 1⟩
        have hSA : Sl (∀ (w' : World) (y0 y1 : Value), RowKit.Below w2.heap.size w2 w' → ((w'.setCell ⟨w.heap.size, 0, none⟩ y0).setCell ⟨w.heap.size, 1, none⟩ y1).cell? ⟨G, 1, none⟩ = some (.int .i64 (kn : Int))) := ⟨fun w' y0 y1 h => (((X2.below h X2.lt).far (p := ⟨w.heap.size, 0, none⟩) hne y0).far (p := ⟨w.heap.size, 1, none⟩) hne y1).cell 1⟩
        have hSC : Sl (∀ (w' : World) (y0 y1 y2 y3 : Value), RowKit.Below w2.heap.size w2 w' → ((((w'.setCell ⟨w.heap.size, 0, none⟩ y0).setCell ⟨w.heap.size, 1, none⟩ y1).setCell ⟨w.heap.size, 2, none⟩ y2).setCell ⟨w.heap.size, 3, none⟩ y3).cell? ⟨G, 1, none⟩ = some (.int .i64 (kn : Int))) := ⟨fun w' y0 y1 y2 y3 h => (((((X2.below h X2.lt).far (p := ⟨w.heap.size, 0, none⟩) hne y0).far (p := ⟨w.heap.size, 1, none⟩) hne y1).far (p := ⟨w.heap.size, 2, none⟩) hne y2).far (p := ⟨w.heap.size, 3, none⟩) hne y3).cell 1⟩
        have HALL : Sl _ := ⟨And.intro hi (And.intro hB (And.intro hx (And.intro HL (And.intro HTS (And.intro hB2 (And.intro hs2 (And.intro HQ12 (And.intro HGS (And.intro HR12 (And.intro HP3 (And.intro D2 (And.intro U2 (And.intro X2 (And.intro hG (And.intro hab (And.intro hlt1 hlt2))))))))))))))))⟩
        have HIN : Sl _ := ⟨And.intro hin (And.intro hn hne)⟩
        go_wp2_with fail
        clear x2 hi hB hx HL HTS hB2 hs2 HQ12 HGS HR12 HP3 D2 U2 X2 hG hab hlt1 hlt2 hsl hk1 HQB HSM hUF HG hkn hn hin hne
        go_region_law (first
            | (go_simp; go_at_call 75; (with_reducible refine (HP1.out _).mono ?_); rintro e w3 ⟨rfl, hb3⟩; have hs3 := hd.trans (hb3.mono hd.size); obtain ⟨_, _, q2', q3', xx⟩ := hS.out w3 hs3; try go_wp2_with fail)
            | (go_simp; go_at_call 75; (with_reducible refine (HP2.out _).mono ?_); rintro e w4 ⟨rfl, hb4⟩; have hs4 := hs3.trans (hb4.mono hs3.size); obtain ⟨z0, z1, z2, z3⟩ := hfz.out w4 hs4; obtain ⟨y0, y1, y2, y3, yy⟩ := hS.out w4 hs4; try go_wp2_with fail)
            | fail)
        all_goals (
          try clear hwr
          obtain ⟨hi, hB, hx, HL, HTS, hB2, hs2, HQ12, HGS, HR12, HP3, D2, U2, X2, hG, hab, hlt1, hlt2⟩ := HALL.out
          have hin := HIN.out.1
          have hn := HIN.out.2.1
          have hgs := gsum_snoc nn (kn : Int) (l.take i)
          rw [← HTS.out, if_pos (by omega), HGS.out.1, HGS.out.2.1, HQ12.out.1, HQ12.out.2, show ((kn : Int)).natAbs = kn from rfl, HR12.out.1, HR12.out.2] at hgs
          have hdn : w.heap.size + 1 ≠ w.heap.size := by omega
          have U4 := (((((U2.below hs4 U2.lt).set_ 0 (.int .u64 (rh1 : Int))).set_ 1 (.int .u64 (rl1 : Int))).set_ 2 (.int .u64 (rh2 : Int))).set_ 3 (.int .u64 (rl2 : Int)))
          have D4 := (((((D2.below hs4 D2.lt).far (p := ⟨w.heap.size, 0, none⟩) hdn (.int .u64 (rh1 : Int))).far (p := ⟨w.heap.size, 1, none⟩) hdn (.int .u64 (rl1 : Int))).far (p := ⟨w.heap.size, 2, none⟩) hdn (.int .u64 (rh2 : Int))).far (p := ⟨w.heap.size, 3, none⟩) hdn (.int .u64 (rl2 : Int)))
          have HB4 : Sl (Blk ((((w4.setCell ⟨w.heap.size, 0, none⟩ (.int .u64 (rh1 : Int))).setCell ⟨w.heap.size, 1, none⟩ (.int .u64 (rl1 : Int))).setCell ⟨w.heap.size, 2, none⟩ (.int .u64 (rh2 : Int))).setCell ⟨w.heap.size, 3, none⟩ (.int .u64 (rl2 : Int))) w.heap.size 115 (pair128 (gsum (l.take (i + 1))).1.1 (gsum (l.take (i + 1))).1.2) ∧ Blk ((((w4.setCell ⟨w.heap.size, 0, none⟩ (.int .u64 (rh1 : Int))).setCell ⟨w.heap.size, 1, none⟩ (.int .u64 (rl1 : Int))).setCell ⟨w.heap.size, 2, none⟩ (.int .u64 (rh2 : Int))).setCell ⟨w.heap.size, 3, none⟩ (.int .u64 (rl2 : Int))) (w.heap.size + 1) 115 (pair128 (gsum (l.take (i + 1))).2.1 (gsum (l.take (i + 1))).2.2)) := ⟨by
            rw [hgs]
            refine ⟨?_, ?_⟩
            · show Blk _ _ _ (pair128 r1 r2)
              rw [HP3.out]
              exact U4
            · rw [← HGS.out.2.2.1, ← HGS.out.2.2.2] at D4
              exact D4⟩
          have hB4 : RowKit.Below w.heap.size w ((((w4.setCell ⟨w.heap.size, 0, none⟩ (.int .u64 (rh1 : Int))).setCell ⟨w.heap.size, 1, none⟩ (.int .u64 (rl1 : Int))).setCell ⟨w.heap.size, 2, none⟩ (.int .u64 (rh2 : Int))).setCell ⟨w.heap.size, 3, none⟩ (.int .u64 (rl2 : Int))) :=
            ((((hB2.trans (hs4.mono hB2.size)).setCell (p := ⟨w.heap.size, 0, none⟩) (Nat.le_refl _) _).setCell (p := ⟨w.heap.size, 1, none⟩) (Nat.le_refl _) _).setCell (p := ⟨w.heap.size, 2, none⟩) (Nat.le_refl _) _).setCell (p := ⟨w.heap.size, 3, none⟩) (Nat.le_refl _) _
          have HBB : Sl _ := ⟨hB4⟩
          clear hgs U4 D4 hB4 D2 U2 X2 hx hs2 hG HALL HP3 hB hB2
          go_wp2_with fail
          exact ⟨⟨i + 1, hin, by go_num, HB4, HBB.out⟩, by simp [RowKit.intOf]; omega⟩)
      · obtain ⟨kn, hkn0⟩ : ∃ kn : Nat, kk = -(kn : Int) := ⟨kk.natAbs, by omega⟩
        subst hkn0
        have hk0 : 0 < kn := by omega
        have hkn : kn < 1000000000000000000 := by omega
        have HSM : Sl (b1 + q1 * kn < W64 * W64 ∧ b2 + q2 * kn < W64 * W64) := ⟨by
          have f1 := gsum_fit l i n HG.out hi hn HQB.out.1 hkn
          have f2 := gsum_fit l i n HG.out hi hn HQB.out.2 hkn
          rw [HGS.out.1, HGS.out.2.1, HGS.out.2.2.1, HGS.out.2.2.2] at f1
          rw [HGS.out.1, HGS.out.2.1, HGS.out.2.2.1, HGS.out.2.2.2] at f2
          exact ⟨f1.2.2.1, f2.2.2.2⟩⟩
        have hp1 := fun W : World => lplus_any b1 q1 kn W HSM.out.1 (by have := HQB.out.1; unfold W64; omega) (by unfold W64; omega)
        have hp2 := fun W : World => lplus_any b2 q2 kn W HSM.out.2 (by have := HQB.out.2; unfold W64; omega) (by unfold W64; omega)
        unfold lv128 at hp1 hp2
        unfold pair128 at D2
        obtain ⟨r1, hr1⟩ : ∃ r, b1 + q1 * kn = r := ⟨_, rfl⟩
        obtain ⟨r2, hr2⟩ : ∃ r, b2 + q2 * kn = r := ⟨_, rfl⟩
        rw [hr1] at hp1
        rw [hr2] at hp2
        have HR12 : Sl _ := ⟨And.intro hr1 hr2⟩
        clear hr1 hr2
        have HP3 : Sl (pair128 r1 r2 = #[.int .u64 (r1 / W64 : Nat), .int .u64 (r1 % W64 : Nat), .int .u64 (r2 / W64 : Nat), .int .u64 (r2 % W64 : Nat)]) := ⟨rfl⟩
        generalize b1 / W64 = h1 at *
        generalize b1 % W64 = l1 at *
        generalize b2 / W64 = h2 at *
        generalize b2 % W64 = l2 at *
        generalize r1 / W64 = rh1 at *
        generalize r1 % W64 = rl1 at *
        generalize r2 / W64 = rh2 at *
        generalize r2 % W64 = rl2 at *
        have HP1 : Sl _ := ⟨hp1⟩
        have HP2 : Sl _ := ⟨hp2⟩
        clear hp1 hp2 hk
        have hS : Sl (∀ w' : World, RowKit.Below w2.heap.size w2 w' → w'.cell? ⟨w.heap.size + 1, 0, none⟩ = some (.int .u64 (h1 : Int)) ∧ w'.cell? ⟨w.heap.size + 1, 1, none⟩ = some (.int .u64 (l1 : Int)) ∧ w'.cell? ⟨w.heap.size + 1, 2, none⟩ = some (.int .u64 (h2 : Int)) ∧ w'.cell? ⟨w.heap.size + 1, 3, none⟩ = some (.int .u64 (l2 : Int)) ∧ w'.cell? ⟨G, 1, none⟩ = some (.int .i64 (-(kn : Int)))) := ⟨fun w' h => by
          have e := D2.below h D2.lt
          exact ⟨e.cell 0, e.cell 1, e.cell 2, e.cell 3, (X2.below h X2.lt).cell 1⟩⟩
        obtain ⟨p0, p1, p2, p3, x1⟩ := hS.out w2.drew (below_drewN (Below.refl _ _) 1)
        have x2 := X2.cell 1
        simp at x2
        have hwr : IntKind.u64.wrap (kn : Int) = (kn : Int) := by rw [IntKind.wrap_u64]; omega
        have hwi : IntKind.i64.wrap (kn : Int) = (kn : Int) := by rw [IntKind.wrap_i64]; omega
        have hUF : Sl (∀ w' : World, RowKit.Below w2.heap.size w2 w' → Blk w' (w.heap.size + 1) _ _) := ⟨fun w' h => D2.below h D2.lt⟩
        have hfz : Sl (∀ w' : World, RowKit.Below w2.heap.size w2 w' → w'.frozen? ⟨w.heap.size + 1, 0, none⟩ = false ∧ w'.frozen? ⟨w.heap.size + 1, 1, none⟩ = false ∧ w'.frozen? ⟨w.heap.size + 1, 2, none⟩ = false ∧ w'.frozen? ⟨w.heap.size + 1, 3, none⟩ = false) := ⟨fun w' h => by
          have e := D2.below h D2.lt
          exact ⟨e.frozen 0, e.frozen 1, e.frozen 2, e.frozen 3⟩⟩
        have hd : RowKit.Below w2.heap.size w2 w2.drew := below_drewN (Below.refl _ _) 1
        have hne : G ≠ w.heap.size + 1 := by omega
        have hSX : Sl (∀ w' : World, RowKit.Below w2.heap.size w2 w' → w'.cell? ⟨G, 1, none⟩ = some (.int .i64 (-(kn : Int)))) := ⟨fun w' h => (X2.below h X2.lt).cell 1⟩
        have hSA : Sl (∀ (w' : World) (y0 y1 : Value), RowKit.Below w2.heap.size w2 w' → ((w'.setCell ⟨w.heap.size + 1, 0, none⟩ y0).setCell ⟨w.heap.size + 1, 1, none⟩ y1).cell? ⟨G, 1, none⟩ = some (.int .i64 (-(kn : Int)))) := ⟨fun w' y0 y1 h => (((X2.below h X2.lt).far (p := ⟨w.heap.size + 1, 0, none⟩) hne y0).far (p := ⟨w.heap.size + 1, 1, none⟩) hne y1).cell 1⟩
        have hSC : Sl (∀ (w' : World) (y0 y1 y2 y3 : Value), RowKit.Below w2.heap.size w2 w' → ((((w'.setCell ⟨w.heap.size + 1, 0, none⟩ y0).setCell ⟨w.heap.size + 1, 1, none⟩ y1).setCell ⟨w.heap.size + 1, 2, none⟩ y2).setCell ⟨w.heap.size + 1, 3, none⟩ y3).cell? ⟨G, 1, none⟩ = some (.int .i64 (-(kn : Int)))) := ⟨fun w' y0 y1 y2 y3 h => (((((X2.below h X2.lt).far (p := ⟨w.heap.size + 1, 0, none⟩) hne y0).far (p := ⟨w.heap.size + 1, 1, none⟩) hne y1).far (p := ⟨w.heap.size + 1, 2, none⟩) hne y2).far (p := ⟨w.heap.size + 1, 3, none⟩) hne y3).cell 1⟩
        have HALL : Sl _ := ⟨And.intro hi (And.intro hB (And.intro hx (And.intro HL (And.intro HTS (And.intro hB2 (And.intro hs2 (And.intro HQ12 (And.intro HGS (And.intro HR12 (And.intro HP3 (And.intro D2 (And.intro U2 (And.intro X2 (And.intro hG (And.intro hab (And.intro hlt1 hlt2))))))))))))))))⟩
        have HIN : Sl _ := ⟨And.intro hin (And.intro hn hne)⟩
        go_wp2_with fail
        clear x2 hi hB hx HL HTS hB2 hs2 HQ12 HGS HR12 HP3 D2 U2 X2 hG hab hlt1 hlt2 hsl hk1 HQB HSM hUF HG hkn hn hin hne
        go_region_law (first
            | (go_simp; go_at_call 75; (with_reducible refine (HP1.out _).mono ?_); rintro e w3 ⟨rfl, hb3⟩; have hs3 := hd.trans (hb3.mono hd.size); obtain ⟨_, _, q2', q3', xx⟩ := hS.out w3 hs3; try go_wp2_with fail)
            | (go_simp; go_at_call 75; (with_reducible refine (HP2.out _).mono ?_); rintro e w4 ⟨rfl, hb4⟩; have hs4 := hs3.trans (hb4.mono hs3.size); obtain ⟨z0, z1, z2, z3⟩ := hfz.out w4 hs4; obtain ⟨y0, y1, y2, y3, yy⟩ := hS.out w4 hs4; try go_wp2_with fail)
            | fail)
        all_goals (
          try clear hwr hwi
          obtain ⟨hi, hB, hx, HL, HTS, hB2, hs2, HQ12, HGS, HR12, HP3, D2, U2, X2, hG, hab, hlt1, hlt2⟩ := HALL.out
          have hin := HIN.out.1
          have hn := HIN.out.2.1
          have hgs := gsum_snoc nn (-(kn : Int)) (l.take i)
          rw [← HTS.out, if_neg (by omega), HGS.out.2.2.1, HGS.out.2.2.2, HQ12.out.1, HQ12.out.2, show (-(kn : Int)).natAbs = kn by omega, HR12.out.1, HR12.out.2] at hgs
          have hdn : w.heap.size ≠ w.heap.size + 1 := by omega
          have U4 := (((((D2.below hs4 D2.lt).set_ 0 (.int .u64 (rh1 : Int))).set_ 1 (.int .u64 (rl1 : Int))).set_ 2 (.int .u64 (rh2 : Int))).set_ 3 (.int .u64 (rl2 : Int)))
          have D4 := (((((U2.below hs4 U2.lt).far (p := ⟨w.heap.size + 1, 0, none⟩) hdn (.int .u64 (rh1 : Int))).far (p := ⟨w.heap.size + 1, 1, none⟩) hdn (.int .u64 (rl1 : Int))).far (p := ⟨w.heap.size + 1, 2, none⟩) hdn (.int .u64 (rh2 : Int))).far (p := ⟨w.heap.size + 1, 3, none⟩) hdn (.int .u64 (rl2 : Int)))
          have HB4 : Sl (Blk ((((w4.setCell ⟨w.heap.size + 1, 0, none⟩ (.int .u64 (rh1 : Int))).setCell ⟨w.heap.size + 1, 1, none⟩ (.int .u64 (rl1 : Int))).setCell ⟨w.heap.size + 1, 2, none⟩ (.int .u64 (rh2 : Int))).setCell ⟨w.heap.size + 1, 3, none⟩ (.int .u64 (rl2 : Int))) w.heap.size 115 (pair128 (gsum (l.take (i + 1))).1.1 (gsum (l.take (i + 1))).1.2) ∧ Blk ((((w4.setCell ⟨w.heap.size + 1, 0, none⟩ (.int .u64 (rh1 : Int))).setCell ⟨w.heap.size + 1, 1, none⟩ (.int .u64 (rl1 : Int))).setCell ⟨w.heap.size + 1, 2, none⟩ (.int .u64 (rh2 : Int))).setCell ⟨w.heap.size + 1, 3, none⟩ (.int .u64 (rl2 : Int))) (w.heap.size + 1) 115 (pair128 (gsum (l.take (i + 1))).2.1 (gsum (l.take (i + 1))).2.2)) := ⟨by
            rw [hgs]
            refine ⟨?_, ?_⟩
            · rw [← HGS.out.1, ← HGS.out.2.1] at D4
              exact D4
            · show Blk _ _ _ (pair128 r1 r2)
              rw [HP3.out]
              exact U4⟩
          have hB4 : RowKit.Below w.heap.size w ((((w4.setCell ⟨w.heap.size + 1, 0, none⟩ (.int .u64 (rh1 : Int))).setCell ⟨w.heap.size + 1, 1, none⟩ (.int .u64 (rl1 : Int))).setCell ⟨w.heap.size + 1, 2, none⟩ (.int .u64 (rh2 : Int))).setCell ⟨w.heap.size + 1, 3, none⟩ (.int .u64 (rl2 : Int))) :=
            ((((hB2.trans (hs4.mono hB2.size)).setCell (p := ⟨w.heap.size + 1, 0, none⟩) (Nat.le_succ _) _).setCell (p := ⟨w.heap.size + 1, 1, none⟩) (Nat.le_succ _) _).setCell (p := ⟨w.heap.size + 1, 2, none⟩) (Nat.le_succ _) _).setCell (p := ⟨w.heap.size + 1, 3, none⟩) (Nat.le_succ _) _
          have HBB : Sl _ := ⟨hB4⟩
          clear hgs U4 D4 hB4 D2 U2 X2 hx hs2 hG HALL HP3 hB hB2
          go_wp2_with fail
          exact ⟨⟨i + 1, hin, by go_num, HB4, HBB.out⟩, by simp [RowKit.intOf]; omega⟩)
    · obtain rfl : i = n := by omega
      rw [List.take_of_length_le (by rw [HL.out.1]; exact Nat.le_refl _)] at HB
      clear HG HL
      obtain ⟨⟨⟨a1, a2⟩, b1, b2⟩, hgg⟩ : ∃ g, gsum l = g := ⟨_, rfl⟩
      rw [hgg] at HB
      have HGG : Sl _ := ⟨hgg⟩
      clear hgg
      have HBU := HB.out.1
      have HBD := HB.out.2
      simp only [] at HBU HBD
      clear HB
      have hO1 := lover_any a1 b2
      have hO2 := lover_any b1 a2
      unfold lv128 at hO1 hO2
      unfold pair128 at HBU HBD
      generalize a1 / W64 = a1h at *
      generalize a1 % W64 = a1l at *
      generalize a2 / W64 = a2h at *
      generalize a2 % W64 = a2l at *
      generalize b1 / W64 = b1h at *
      generalize b1 % W64 = b1l at *
      generalize b2 / W64 = b2h at *
      generalize b2 % W64 = b2l at *
      have u0 := HBU.cell 0
      have u1 := HBU.cell 1
      have d2 := HBD.cell 2
      have d3 := HBD.cell 3
      have HO1 : Sl _ := ⟨hO1⟩
      have HO2 : Sl _ := ⟨hO2⟩
      have HUU : Sl _ := ⟨And.intro HBU HBD⟩
      clear hO1 hO2 HBU HBD
      have hd : Below wr.heap.size wr wr := Below.refl _ _
      by_cases hc : b2 < a1
      · have hC : decide (b2 < a1) = true := decide_eq_true hc
        rw [hC] at HO1
        have HC : Sl _ := ⟨guessG_up (a := a1) (b := a2) (c := b1) hc⟩
        clear hC hc
        go_wp2_with fail
        refine (HO1.out wr).mono ?_; rintro e w5 ⟨rfl, hb5⟩
        go_wp2_with fail
        go_ret2
        exact ⟨by rw [HGG.out, HC.out]; rfl, hB.trans (hb5.mono hB.size)⟩
      · have hC : decide (b2 < a1) = false := decide_eq_false hc
        rw [hC] at HO1
        clear hC
        by_cases hc2 : a2 < b1
        · have hC : decide (a2 < b1) = true := decide_eq_true hc2
          rw [hC] at HO2
          have HC : Sl _ := ⟨guessG_down (a := a1) (b := a2) (c := b1) hc hc2⟩
          clear hC hc hc2
          go_wp2_with fail
          refine (HO1.out wr).mono ?_; rintro e w5 ⟨rfl, hb5⟩
          have hUU := HUU.out.1.below hb5 HUU.out.1.lt
          have hDD := HUU.out.2.below hb5 HUU.out.2.lt
          have v2 := hUU.cell 2
          have v3 := hUU.cell 3
          have e0 := hDD.cell 0
          have e1 := hDD.cell 1
          clear hUU hDD
          go_wp2_with fail
          refine (HO2.out w5).mono ?_; rintro e w6 ⟨rfl, hb6⟩
          go_wp2_with fail
          go_ret2
          exact ⟨by rw [HGG.out, HC.out]; rfl, (hB.trans (hb5.mono hB.size)).trans (hb6.mono (Nat.le_trans hB.size hb5.size))⟩
        · have hC : decide (a2 < b1) = false := decide_eq_false hc2
          rw [hC] at HO2
          have hg : guessG ((a1, a2), (b1, b2)) = none := by unfold guessG; rw [if_neg hc, if_neg hc2]
          have HC : Sl _ := ⟨hg⟩
          clear hC hc hc2 hg
          go_wp2_with fail
          refine (HO1.out wr).mono ?_; rintro e w5 ⟨rfl, hb5⟩
          have hUU := HUU.out.1.below hb5 HUU.out.1.lt
          have hDD := HUU.out.2.below hb5 HUU.out.2.lt
          have v2 := hUU.cell 2
          have v3 := hUU.cell 3
          have e0 := hDD.cell 0
          have e1 := hDD.cell 1
          clear hUU hDD
          go_wp2_with fail
          refine (HO2.out w5).mono ?_; rintro e w6 ⟨rfl, hb6⟩
          go_wp2_with fail
          go_ret2
          exact ⟨by rw [HGG.out, HC.out]; rfl, (hB.trans (hb5.mono hB.size)).trans (hb6.mono (Nat.le_trans hB.size hb5.size))⟩
end Go.Proofs.YtalodfjplegibaaGreatDoor
