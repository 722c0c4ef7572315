/- Chapter 04: the law RatiosOf: the walk. -/
import Derived.Test.YtcmofoggdchofaaDoorRatN
import Derived.Test.YtcmofoggdchofaaDoorRatS
import Derived.Test.YtcmofoggdchofaaDoorRatU
import Derived.Deep.RegionHeld3
namespace Go.Proofs.YtcmofoggdchofaaDoor
set_option linter.unusedSimpArgs false
open Go.RowKit
set_option linter.unusedVariables false

open Classical in
/-- the terms, the denominator and the error -/
noncomputable def tS (r : RV) : List (Nat × Int) × Int × Int := if checkS r = 0 then (termsN r 6, r.d, 0) else ([], 0, checkS r)
theorem TermsRes.form {w : World} {e : Ending} {r : RV} (h : TermsRes w e r) : ∃ A n c, e = .returned (.tuple #[.slice A n c, .int .i64 (tS r).2.1, .int .i64 (tS r).2.2]) ∧ TR w A n (tS r).1 ∧ n ≤ 6 := by
  unfold tS
  by_cases h0 : checkS r = 0
  · obtain ⟨A, n, c, h1, h2⟩ := h.2 h0
    rw [if_pos h0]
    exact ⟨A, n, c, h1, h2, by rw [← h2.1]; exact termsN_len r 6⟩
  · rw [if_neg h0]
    exact ⟨none, 0, 0, h.1 h0, ⟨rfl, Reads.none_⟩, by decide⟩
set_option maxHeartbeats 6400000 in
set_option maxRecDepth 100000 in
theorem ratiosOf_any (r : RV) (a b : Int) (w : World) (hT : PrT w) :
    Calls Tryd.prog 3 #[.agg r.cells, .int .i64 a, .int .i64 b] w fun e w' => e = .returned (.bool true) ∧ Below w.heap.size w w' := by
  have hu := (Below.refl w.heap.size w).alloc (Nat.le_refl _) (.cells r.cells 24)
  have X0 := Blk.new w 24 r.cells
  have HO1 := fun (W : World) (h : PrT W) => ROf_any a b W h
  have HO2 := fun (W : World) => r4Of_any a b W
  have HT1 := fun (W : World) (h : PrT W) => (Terms_any r W h).mono (R' := fun e w' => (∃ A n c, e = .returned (.tuple #[.slice A n c, .int .i64 (tS r).2.1, .int .i64 (tS r).2.2]) ∧ TR w' A n (tS r).1 ∧ n ≤ 6) ∧ Below W.heap.size W w') (fun e w' h => ⟨h.1.form, h.2⟩)
  have HT2 := fun (W : World) => (r4Terms_any r W).mono (R' := fun e w' => (∃ A n c, e = .returned (.tuple #[.slice A n c, .int .i64 (tS r).2.1, .int .i64 (tS r).2.2]) ∧ TR w' A n (tS r).1 ∧ n ≤ 6) ∧ Below W.heap.size W w') (fun e w' h => ⟨h.1.form, h.2⟩)
  have HC1 := fun (W : World) => rcheckR_any r W
  have HC2 := fun (W : World) => r4Check_any r W
  obtain ⟨⟨q, er⟩, hq⟩ : ∃ s, ofS a b = s := ⟨_, rfl⟩
  obtain ⟨⟨l, dd, te⟩, htS⟩ : ∃ s, tS r = s := ⟨_, rfl⟩
  obtain ⟨ce, hce⟩ : ∃ s, checkS r = s := ⟨_, rfl⟩
  rw [hq] at HO1 HO2
  rw [htS] at HT1 HT2
  rw [hce] at HC1 HC2
  clear hq htS hce
  unfold OfRes at HO1 HO2
  unfold RV.cells at *
  simp only [] at HO1 HO2 HT1 HT2
  have HA : Sl _ := ⟨And.intro HO1 (And.intro HO2 (And.intro HT1 (And.intro HT2 (And.intro HC1 HC2))))⟩
  have HU : Sl _ := ⟨And.intro hu (And.intro X0 hT)⟩
  clear HO1 HO2 HT1 HT2 HC1 HC2 hu X0 hT
  go_enter Tryd.func3, Tryd.ntmps3
  go_wp2_with fail
  generalize w.alloc (.cells #[.int .i64 r.n0, .int .i64 r.n1, .int .i64 r.n2, .int .i64 r.n3, .int .i64 r.n4, .int .i64 r.n5, .int .i64 r.d] 24) = w0 at *
  refine (HA.out.1 w0 (HU.out.2.2.below HU.out.1)).mono ?_; rintro e w1 ⟨rfl, hb1⟩
  have hB1 := HU.out.1.trans (hb1.mono HU.out.1.size)
  have X1 := HU.out.2.1.below hb1 HU.out.2.1.lt
  have hB2 := hB1.alloc hB1.size (.cells #[.int .i64 q.n0, .int .i64 q.n1, .int .i64 q.n2, .int .i64 q.n3, .int .i64 q.n4, .int .i64 q.n5, .int .i64 q.d] 24)
  have X2 := X1.alloc (.cells #[.int .i64 q.n0, .int .i64 q.n1, .int .i64 q.n2, .int .i64 q.n3, .int .i64 q.n4, .int .i64 q.n5, .int .i64 q.d] 24)
  have Y2 := Blk.new w1 24 #[.int .i64 q.n0, .int .i64 q.n1, .int .i64 q.n2, .int .i64 q.n3, .int .i64 q.n4, .int .i64 q.n5, .int .i64 q.d]
  have H2 : Sl _ := ⟨And.intro hB2 (And.intro X2 Y2)⟩
  clear hb1 hB1 X1 hB2 X2 Y2
  go_wp2_with fail
  generalize hg7 : w1.heap.size = g7 at *
  generalize w1.alloc (.cells #[.int .i64 q.n0, .int .i64 q.n1, .int .i64 q.n2, .int .i64 q.n3, .int .i64 q.n4, .int .i64 q.n5, .int .i64 q.d] 24) = w2 at *
  clear hg7
  refine (HA.out.2.1 w2).mono ?_; rintro e w3 ⟨rfl, hb3⟩
  have hB3 := H2.out.1.trans (hb3.mono H2.out.1.size)
  have X3 := (H2.out.2.1.below hb3 H2.out.2.1.lt).alloc (.cells #[.int .i64 q.n0, .int .i64 q.n1, .int .i64 q.n2, .int .i64 q.n3, .int .i64 q.n4, .int .i64 q.n5, .int .i64 q.d] 24)
  have Y3 := (H2.out.2.2.below hb3 H2.out.2.2.lt).alloc (.cells #[.int .i64 q.n0, .int .i64 q.n1, .int .i64 q.n2, .int .i64 q.n3, .int .i64 q.n4, .int .i64 q.n5, .int .i64 q.d] 24)
  have Z3 := Blk.new w3 24 #[.int .i64 q.n0, .int .i64 q.n1, .int .i64 q.n2, .int .i64 q.n3, .int .i64 q.n4, .int .i64 q.n5, .int .i64 q.d]
  have hB4 := hB3.alloc hB3.size (.cells #[.int .i64 q.n0, .int .i64 q.n1, .int .i64 q.n2, .int .i64 q.n3, .int .i64 q.n4, .int .i64 q.n5, .int .i64 q.d] 24)
  have x0 := X3.cell 0
  have x1 := X3.cell 1
  have x2 := X3.cell 2
  have x3 := X3.cell 3
  have x4 := X3.cell 4
  have x5 := X3.cell 5
  have x6 := X3.cell 6
  simp at x0 x1 x2 x3 x4 x5 x6
  have H4 : Sl _ := ⟨And.intro hB4 (And.intro X3 (And.intro Y3 Z3))⟩
  clear hb3 hB3 X3 Y3 Z3 hB4 H2
  go_wp2_with fail
  clear x0 x1 x2 x3 x4 x5 x6
  generalize hg9 : w3.heap.size = g9 at *
  generalize w3.alloc (.cells #[.int .i64 q.n0, .int .i64 q.n1, .int .i64 q.n2, .int .i64 q.n3, .int .i64 q.n4, .int .i64 q.n5, .int .i64 q.d] 24) = w4 at *
  clear hg9
  refine (HA.out.2.2.1 w4 (HU.out.2.2.below H4.out.1)).mono ?_; rintro e w5 ⟨⟨A1, n1, c1, rfl, t1, l1⟩, hb5⟩
  have X5 := H4.out.2.1.below hb5 H4.out.2.1.lt
  have x0 := X5.cell 0
  have x1 := X5.cell 1
  have x2 := X5.cell 2
  have x3 := X5.cell 3
  have x4 := X5.cell 4
  have x5 := X5.cell 5
  have x6 := X5.cell 6
  simp at x0 x1 x2 x3 x4 x5 x6
  have H5 : Sl _ := ⟨And.intro hb5 t1⟩
  clear hb5 t1 X5
  go_wp2_with fail
  clear x0 x1 x2 x3 x4 x5 x6
  refine (HA.out.2.2.2.1 w5).mono ?_; rintro e w6 ⟨⟨A2, n2, c2, rfl, t2, l2⟩, hb6⟩
  obtain rfl : n2 = n1 := by rw [← t2.1, ← H5.out.2.1]
  have hb46 := H5.out.1.trans (hb6.mono H5.out.1.size)
  have T1 := H5.out.2.below hb6
  have X6 := H4.out.2.1.below hb46 H4.out.2.1.lt
  have Y6 := H4.out.2.2.1.below hb46 H4.out.2.2.1.lt
  have Z6 := H4.out.2.2.2.below hb46 H4.out.2.2.2.lt
  have hB6 := H4.out.1.trans (hb46.mono H4.out.1.size)
  have H6 : Sl _ := ⟨And.intro hB6 (And.intro X6 (And.intro Y6 (And.intro Z6 (And.intro T1 t2))))⟩
  have HP6 : Sl _ := ⟨HU.out.2.2.below hB6⟩
  clear hb6 t2 hb46 T1 X6 Y6 Z6 hB6 H5 H4 HU
  go_wp2_with fail
  have HS : Sl (∀ w' : World, RowKit.Below w6.heap.size w6 w' → w'.cell? ⟨w.heap.size, 0, none⟩ = some (.int .i64 r.n0) ∧ w'.cell? ⟨w.heap.size, 1, none⟩ = some (.int .i64 r.n1) ∧ w'.cell? ⟨w.heap.size, 2, none⟩ = some (.int .i64 r.n2) ∧ w'.cell? ⟨w.heap.size, 3, none⟩ = some (.int .i64 r.n3) ∧ w'.cell? ⟨w.heap.size, 4, none⟩ = some (.int .i64 r.n4) ∧ w'.cell? ⟨w.heap.size, 5, none⟩ = some (.int .i64 r.n5) ∧ w'.cell? ⟨w.heap.size, 6, none⟩ = some (.int .i64 r.d) ∧ w'.cell? ⟨g7, 0, none⟩ = some (.int .i64 q.n0) ∧ w'.cell? ⟨g7, 1, none⟩ = some (.int .i64 q.n1) ∧ w'.cell? ⟨g7, 2, none⟩ = some (.int .i64 q.n2) ∧ w'.cell? ⟨g7, 3, none⟩ = some (.int .i64 q.n3) ∧ w'.cell? ⟨g7, 4, none⟩ = some (.int .i64 q.n4) ∧ w'.cell? ⟨g7, 5, none⟩ = some (.int .i64 q.n5) ∧ w'.cell? ⟨g7, 6, none⟩ = some (.int .i64 q.d) ∧ w'.cell? ⟨g9, 0, none⟩ = some (.int .i64 q.n0) ∧ w'.cell? ⟨g9, 1, none⟩ = some (.int .i64 q.n1) ∧ w'.cell? ⟨g9, 2, none⟩ = some (.int .i64 q.n2) ∧ w'.cell? ⟨g9, 3, none⟩ = some (.int .i64 q.n3) ∧ w'.cell? ⟨g9, 4, none⟩ = some (.int .i64 q.n4) ∧ w'.cell? ⟨g9, 5, none⟩ = some (.int .i64 q.n5) ∧ w'.cell? ⟨g9, 6, none⟩ = some (.int .i64 q.d)) := ⟨fun w' h => by
    have e1 := H6.out.2.1.below h H6.out.2.1.lt
    have e2 := H6.out.2.2.1.below h H6.out.2.2.1.lt
    have e3 := H6.out.2.2.2.1.below h H6.out.2.2.2.1.lt
    exact ⟨e1.cell 0, e1.cell 1, e1.cell 2, e1.cell 3, e1.cell 4, e1.cell 5, e1.cell 6, e2.cell 0, e2.cell 1, e2.cell 2, e2.cell 3, e2.cell 4, e2.cell 5, e2.cell 6, e3.cell 0, e3.cell 1, e3.cell 2, e3.cell 3, e3.cell 4, e3.cell 5, e3.cell 6⟩⟩
  have HSM : Sl (∀ W : World, RowKit.Below w6.heap.size w6 W → Calls Tryd.prog 13 #[.slice A1 n2 c1, .slice A2 n2 c2] W fun e w' => e = .returned (.bool true) ∧ ∃ m, w' = W.drewN m) := ⟨fun W h => Same_any A1 A2 n2 c1 c2 _ W (H6.out.2.2.2.2.1.below h) (H6.out.2.2.2.2.2.below h) (by omega)⟩
  have HAW : Sl (∀ W : World, RowKit.Below w6.heap.size w6 W → Calls Tryd.prog 14 #[] W fun e w' => e = .returned (.bool true) ∧ Below W.heap.size W w') := ⟨fun W h => awake4_any W (HP6.out.below h)⟩
  have heq := fun W : World => equal6 W q.n0 q.n1 q.n2 q.n3 q.n4 q.n5
  have hs : RowKit.Below w6.heap.size w6 w6.drew := below_drewN (Below.refl _ _) 1
  go_region_held3 (fun w' : World => w'.cell? ⟨w.heap.size, 0, none⟩ = some (.int .i64 r.n0) ∧ w'.cell? ⟨w.heap.size, 1, none⟩ = some (.int .i64 r.n1) ∧ w'.cell? ⟨w.heap.size, 2, none⟩ = some (.int .i64 r.n2) ∧ w'.cell? ⟨w.heap.size, 3, none⟩ = some (.int .i64 r.n3) ∧ w'.cell? ⟨w.heap.size, 4, none⟩ = some (.int .i64 r.n4) ∧ w'.cell? ⟨w.heap.size, 5, none⟩ = some (.int .i64 r.n5) ∧ w'.cell? ⟨w.heap.size, 6, none⟩ = some (.int .i64 r.d) ∧ w'.cell? ⟨g7, 0, none⟩ = some (.int .i64 q.n0) ∧ w'.cell? ⟨g7, 1, none⟩ = some (.int .i64 q.n1) ∧ w'.cell? ⟨g7, 2, none⟩ = some (.int .i64 q.n2) ∧ w'.cell? ⟨g7, 3, none⟩ = some (.int .i64 q.n3) ∧ w'.cell? ⟨g7, 4, none⟩ = some (.int .i64 q.n4) ∧ w'.cell? ⟨g7, 5, none⟩ = some (.int .i64 q.n5) ∧ w'.cell? ⟨g7, 6, none⟩ = some (.int .i64 q.d) ∧ w'.cell? ⟨g9, 0, none⟩ = some (.int .i64 q.n0) ∧ w'.cell? ⟨g9, 1, none⟩ = some (.int .i64 q.n1) ∧ w'.cell? ⟨g9, 2, none⟩ = some (.int .i64 q.n2) ∧ w'.cell? ⟨g9, 3, none⟩ = some (.int .i64 q.n3) ∧ w'.cell? ⟨g9, 4, none⟩ = some (.int .i64 q.n4) ∧ w'.cell? ⟨g9, 5, none⟩ = some (.int .i64 q.n5) ∧ w'.cell? ⟨g9, 6, none⟩ = some (.int .i64 q.d))
    (first | (refine HS.out _ ?_; assumption) | fail)
    (first
      | (go_at_call 11; (with_reducible refine (HA.out.2.2.2.2.1 _).mono ?_); rintro e y ⟨rfl, hb⟩; have hs := hs.trans (hb.mono hs.size))
      | (go_at_call 12; (with_reducible refine (HA.out.2.2.2.2.2 _).mono ?_); rintro e y ⟨rfl, hb⟩; have hs := hs.trans (hb.mono hs.size))
      | (go_at_call 13; have hh := HSM.out _ hs; (with_reducible refine hh.mono ?_); rintro e y ⟨rfl, m, rfl⟩; have hs := below_drewN hs m)
      | (go_at_call 14; have hh := HAW.out _ hs; (with_reducible refine hh.mono ?_); rintro e y ⟨rfl, hb⟩; have hs := hs.trans (hb.mono hs.size))
      | fail)
  all_goals (
    have hfin := H6.out.1.trans (hs.mono H6.out.1.size)
    have HFIN : Sl _ := ⟨hfin⟩
    clear hfin HS HSM HAW heq HA H6 HP6
    go_wp2_with fail
    go_ret
    exact ⟨rfl, HFIN.out⟩)
end Go.Proofs.YtcmofoggdchofaaDoor
