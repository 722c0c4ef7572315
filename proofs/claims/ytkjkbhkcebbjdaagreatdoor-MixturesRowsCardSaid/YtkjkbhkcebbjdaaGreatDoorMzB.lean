/- The law MixturesRows walks to true. -/
import Derived.Test.YtkjkbhkcebbjdaaGreatDoorMzA
namespace Go.Proofs.YtkjkbhkcebbjdaaGreatDoor
set_option linter.unusedSimpArgs false
open Go.RowKit
set_option linter.unusedVariables false

theorem Mx.rows_len (x : Mx) (key : Int) : (x.rows key).length ≤ 8 := by
  unfold Mx.rows
  split
  · rename_i h
    unfold Mx.rerr at h
    split at h
    · rename_i h2; exact absurd h h2
    · rename_i h2
      have hc : x.chk = 0 := Classical.byContradiction h2
      split at h
      · cases h
      · rename_i h3
        have hf := Mx.fine (Mx.chk_ok hc).1
        rw [x.row_len]
        exact hf.k1 _ (hf.ord.at_in (key := key) (by omega) (by omega)).1
  · simp
set_option maxHeartbeats 6400000 in
set_option maxRecDepth 100000 in
theorem mixturesRows_any (a b : Int) (A : Option Addr) (n c : Nat) (L : List Bk) (key : Int) (hk : i64 key) (w : World) (hM : MXA w A n c L) (ha : i64 a) (hb : i64 b) :
    Calls Tryz.prog 3 #[.agg #[.int .i64 a, .int .i64 b, .slice A n c], .int .i64 key] w fun e w' => e = .returned (.bool true) ∧ Below w.heap.size w w' := by
  have HU : Sl (Below w.heap.size w (w.alloc (.cells #[.int .i64 a, .int .i64 b, .slice A n c] 24))) := ⟨(Below.refl _ _).alloc (Nat.le_refl _) _⟩
  have HBK : Sl _ := ⟨Blk.new w 24 #[.int .i64 a, .int .i64 b, .slice A n c]⟩
  have HM : Sl _ := ⟨hM.below HU.out⟩
  have HAB : Sl (i64 a ∧ i64 b) := ⟨ha, hb⟩
  have HRO : Sl _ := ⟨fun (W : World) (h : MXA W A n c L) => Row_any a b A n c L key W h ha hb⟩
  have HRR : Sl _ := ⟨fun (W : World) (h : MXA W A n c L) => rRow_any a b A n c L key W h ha hb⟩
  have HC1 : Sl _ := ⟨fun (W : World) (h : MXA W A n c L) => Check_any a b A n c L W h ha hb⟩
  have HC2 : Sl _ := ⟨fun (W : World) (h : MXA W A n c L) => rCheck_any a b A n c L W h ha hb⟩
  obtain ⟨r, hr⟩ : ∃ r, (mxO a b L).chk = r := ⟨_, rfl⟩
  rw [hr] at HC1 HC2
  obtain ⟨re, hre⟩ : ∃ r, (mxO a b L).rerr key = r := ⟨_, rfl⟩
  obtain ⟨l, hl⟩ : ∃ l, (mxO a b L).rows key = l := ⟨_, rfl⟩
  have hl8 : l.length ≤ 8 := by rw [← hl]; exact Mx.rows_len _ _
  have HRE : Sl _ := ⟨And.intro hre hl⟩
  clear hM ha hb hr hre hl hk
  go_enter Tryz.func3, Tryz.ntmps3
  go_wp2_with fail
  generalize w.alloc (.cells #[.int .i64 a, .int .i64 b, .slice A n c] 24) = w0 at *
  refine (HRO.out w0 HM.out).mono ?_; rintro e w1 ⟨⟨A1, c1, he, hi1⟩, hb⟩
  rw [HRE.out.1, HRE.out.2] at he
  rw [HRE.out.2] at hi1
  subst he
  have HI1 : Sl (II w1 A1 l.length l) := ⟨hi1⟩
  replace HU : Sl (Below w.heap.size w w1) := ⟨HU.out.trans (hb.mono HU.out.size)⟩
  replace HBK : Sl (Blk w1 w.heap.size _ _) := ⟨HBK.out.below hb HBK.out.lt⟩
  replace HM : Sl (MXA w1 A n c L) := ⟨HM.out.below hb⟩
  clear hb hi1
  have c0 := HBK.out.cell 0
  have c1' := HBK.out.cell 1
  have c2 := HBK.out.cell 2
  simp at c0 c1' c2
  go_wp2_with fail
  refine (HRR.out w1 HM.out).mono ?_; rintro e w2 ⟨⟨A2, d2, he, hi2⟩, hb⟩
  rw [HRE.out.1, HRE.out.2] at he
  rw [HRE.out.2] at hi2
  subst he
  have HI2 : Sl (II w2 A2 l.length l) := ⟨hi2⟩
  replace HI1 : Sl (II w2 A1 l.length l) := ⟨HI1.out.below hb⟩
  replace HU : Sl (Below w.heap.size w w2) := ⟨HU.out.trans (hb.mono HU.out.size)⟩
  replace HBK : Sl (Blk w2 w.heap.size _ _) := ⟨HBK.out.below hb HBK.out.lt⟩
  replace HM : Sl (MXA w2 A n c L) := ⟨HM.out.below hb⟩
  clear hb hi2 c0 c1' c2 HRO HRR
  go_wp2_with fail
  have hS : Sl (∀ w' : World, RowKit.Below w2.heap.size w2 w' → w'.cell? ⟨w.heap.size, 0, none⟩ = some (.int .i64 a) ∧ w'.cell? ⟨w.heap.size, 1, none⟩ = some (.int .i64 b) ∧ w'.cell? ⟨w.heap.size, 2, none⟩ = some (.slice A n c) ∧ RowKit.Below w2.heap.size w2 w') := ⟨fun w' h => by
    have e0 := HBK.out.below h HBK.out.lt
    exact ⟨by rw [e0.cell]; rfl, by rw [e0.cell]; rfl, by rw [e0.cell]; rfl, h⟩⟩
  have T1 : Sl (∀ W : World, RowKit.Below w2.heap.size w2 W → Calls Tryz.prog 10 #[.agg #[.int .i64 a, .int .i64 b, .slice A n c]] W fun e w' => e = .returned (.int .i64 r) ∧ RowKit.Below w2.heap.size w2 w') := ⟨fun W h => (HC1.out W (HM.out.below h)).mono fun e w' g => ⟨g.1, h.trans (g.2.mono h.size)⟩⟩
  have T2 : Sl (∀ W : World, RowKit.Below w2.heap.size w2 W → Calls Tryz.prog 11 #[.agg #[.int .i64 a, .int .i64 b, .slice A n c]] W fun e w' => e = .returned (.int .i64 r) ∧ RowKit.Below w2.heap.size w2 w') := ⟨fun W h => (HC2.out W (HM.out.below h)).mono fun e w' g => ⟨g.1, h.trans (g.2.mono h.size)⟩⟩
  have T3 : Sl (∀ W : World, RowKit.Below w2.heap.size w2 W → Calls Tryz.prog 12 #[.slice A1 l.length c1, .slice A2 l.length d2] W fun e w' => e = .returned (.bool true) ∧ RowKit.Below w2.heap.size w2 w') := ⟨fun W h => (sameInts11_any A1 A2 l.length c1 d2 l W (HI1.out.below h) (HI2.out.below h) (by omega)).mono fun e w' g => ⟨g.1, by obtain ⟨m, hm⟩ := g.2; rw [hm]; exact below_drewN h m⟩⟩
  have T4 : Sl (∀ W : World, RowKit.Below w2.heap.size w2 W → Calls Tryz.prog 13 #[] W fun e w' => e = .returned (.bool true) ∧ RowKit.Below w2.heap.size w2 w') := ⟨fun W h => (awake11_any W).mono fun e w' g => ⟨g.1, h.trans (g.2.mono h.size)⟩⟩
  obtain ⟨q1, q2, q3, q4⟩ := hS.out w2 (Below.refl _ _)
  have q4d : RowKit.Below w2.heap.size w2 w2.drew := below_drewN q4 1
  clear HC1 HC2 HBK HM HI1 HI2
  go_region_held3 (fun w' => w'.cell? ⟨w.heap.size, 0, none⟩ = some (.int .i64 a) ∧ w'.cell? ⟨w.heap.size, 1, none⟩ = some (.int .i64 b) ∧ w'.cell? ⟨w.heap.size, 2, none⟩ = some (.slice A n c) ∧ RowKit.Below w2.heap.size w2 w')
    (first | exact hS.out _ (by assumption) | go_keep)
    (first
      | (go_at_call 10; (with_reducible refine (T1.out _ (by (go_split_ands; assumption))).mono ?_); rintro e w3 ⟨rfl, hb3⟩)
      | (go_at_call 11; (with_reducible refine (T2.out _ (by (go_split_ands; assumption))).mono ?_); rintro e w4 ⟨rfl, hb4⟩)
      | (go_at_call 12; (with_reducible refine (T3.out _ (by (go_split_ands; assumption))).mono ?_); rintro e w5 ⟨rfl, hb5⟩)
      | (go_at_call 13; (with_reducible refine (T4.out _ (by (go_split_ands; assumption))).mono ?_); rintro e w6 ⟨rfl, hb6⟩))
  all_goals (
    have hz : RowKit.Below w2.heap.size w2 w6 := by (go_split_ands; assumption)
    clear hS T1 T2 T3 T4 q1 q2 q3 q4 q4d
    go_wp2_with fail
    go_ret
    exact ⟨rfl, HU.out.trans (hz.mono HU.out.size)⟩)
end Go.Proofs.YtkjkbhkcebbjdaaGreatDoor
