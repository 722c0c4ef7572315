/- Package ratios: the closures of Floor. -/
import Derived.Test.YtcmofoggdchofaaDoorMixJ
import Derived.Test.YtcmofoggdchofaaDoorMixH
import Derived.Deep.RegionLawGrows
import Derived.Deep.RegionHeld3
namespace Go.Proofs.YtcmofoggdchofaaDoor
set_option linter.unusedSimpArgs false
open Go.RowKit
set_option linter.unusedVariables false

theorem info_term : ∃ i, Tryd.prog.info? 51 = some i ∧ i.zero = some (.agg #[.int .i64 0, .int .i64 0]) ∧ i.size = 2 ∧ i.bytes = 16 := by
  have h : (Tryd.prog.info? 51).map (fun i => (i.zero, i.size, i.bytes)) = some (some (.agg #[.int .i64 0, .int .i64 0]), 2, 16) := by kernel_rfl
  obtain ⟨i, hi, he⟩ := Option.map_eq_some_iff.1 h
  injection he with e1 e2
  injection e2 with e2 e3
  exact ⟨i, hi, e1, e2, e3⟩

theorem olds_at {w W : World} {ad b : Addr} {n j : Nat} {l : List (Nat × Int)} {u : Value} (h : TR w (some ad) n l) (hb : Below w.heap.size w W) (he : some ad = some b) (hu : (l.flatMap fun x => [Value.int .i64 (x.1 : Int), Value.int .i64 x.2])[j]? = some u) : W.cell? (b.add j) = some u := by
  cases he
  have hn : 0 < n := by
    have h1 := h.2.1
    have h2 := (List.getElem?_eq_some_iff.1 hu).1
    omega
  obtain ⟨a2, e, h3, h4⟩ := (h.2.below hb).2 hn
  cases e
  exact h4 j u hu
theorem news_at (w : World) (x : Int) {j : Nat} {u : Value} (hu : [Value.int .i64 2, Value.int .i64 x][j]? = some u) : (w.alloc (.cells #[.int .i64 2, .int .i64 x] 51)).cell? ((⟨w.heap.size, 0, none⟩ : Addr).add j) = some u := by
  have hb := Blk.new w 51 #[.int .i64 2, .int .i64 x]
  have e : (⟨w.heap.size, 0, none⟩ : Addr).add j = ⟨w.heap.size, j, none⟩ := by
    unfold Addr.add
    by_cases h : j = 0
    · subst h; simp
    · simp [h]
  rw [e, hb.cell]
  simpa using hu
set_option maxHeartbeats 1600000 in
set_option maxRecDepth 100000 in
theorem at_any (m den : Int) (pa pl pd ad : Addr) (L : Option Addr) (n cap cl : Nat) (l : List (Nat × Int)) (w : World) (ha : w.cell? pa = some (.slice (some ad) n cap)) (hl : w.cell? pl = some (.slice L n cl)) (hd : w.cell? pd = some (.int .i64 den))
    (hba : pa.block < w.heap.size) (hbl : pl.block < w.heap.size) (hbd : pd.block < w.heap.size) (hT : TR w (some ad) n l) (hn : n ≤ cap) (hn2 : n ≤ 100) (hm1 : -2000000000000 ≤ m) (hm2 : m ≤ 2000000000000) (hmd : -1000000000000000000 ≤ -m * den) (hmd2 : -m * den ≤ 1000000000000000000) :
    Calls Tryd.prog 51 #[.int .i64 m, .pointer (some pa), .pointer (some pl), .pointer (some pd)] w fun e w' => (∃ A' c', e = .returned (.slice A' (n + 1) c') ∧ TR w' A' (n + 1) (l ++ [(2, -m * den)])) ∧ Below w.heap.size w w' := by
  obtain ⟨i0, hi0, hz0, hz1, hz2⟩ := info_term
  have HI : Sl _ := ⟨And.intro hi0 (And.intro hz0 (And.intro hz1 hz2))⟩
  clear hi0 hz0 hz1 hz2
  have HT : Sl _ := ⟨hT⟩
  have hneg : IntKind.i64.wrap (-m) = -m := by rw [IntKind.wrap_i64]; omega
  have hmul : IntKind.i64.wrap (-m * den) = -m * den := by
    generalize -m * den = z at *
    rw [IntKind.wrap_i64]; omega
  have hS : Sl (∀ w' : World, RowKit.Below w.heap.size w w' → w'.cell? pa = some (.slice (some ad) n cap) ∧ w'.cell? pl = some (.slice L n cl) ∧ w'.cell? pd = some (.int .i64 den)) := ⟨fun w' h => ⟨(h.cell hba).trans ha, (h.cell hbl).trans hl, (h.cell hbd).trans hd⟩⟩
  have hmul2 : IntKind.i64.wrap (-(m * den)) = -m * den := by rw [Int.neg_mul] at hmul ⊢; exact hmul
  obtain ⟨x, hx⟩ : ∃ x, -m * den = x := ⟨_, rfl⟩
  rw [hx] at hmul2 hmd hmd2
  have hmul3 : IntKind.i64.wrap (-m * den) = x := by rw [hmul]; exact hx
  have HX : Sl _ := ⟨hx⟩
  have HN : Sl _ := ⟨And.intro hn hn2⟩
  clear hmul hx hT ha hl hd hba hbl hbd
  obtain ⟨p1, p2, p3⟩ := hS.out w (Below.refl _ _)
  go_enter Tryd.func51, Tryd.ntmps51
  go_wp2_with fail
  have hd : RowKit.Below w.heap.size w w.drew := below_drewN (Below.refl _ _) 1
  obtain ⟨d1, d2, d3⟩ := hS.out w.drew hd
  have hal : RowKit.Below w.heap.size w (w.drew.alloc (.cells #[.int .i64 2, .int .i64 x] 51)) := hd.alloc (Nat.le_refl _) _
  have HAL : Sl _ := ⟨hal⟩
  clear hal
  go_region_held3 (fun w' => w'.cell? pa = some (.slice (some ad) n cap) ∧ w'.cell? pl = some (.slice L n cl) ∧ w'.cell? pd = some (.int .i64 den))
    (first | (refine hS.out _ ?_; assumption) | (refine hS.out _ HAL.out) | go_keep)
    (first
      | (refine step_append_grows rfl (.tmp 11) (.tmp 17) _ rfl 51 i0 (.agg #[.int .i64 0, .int .i64 0]) 2 16 Tryd.underlying28 HI.out.1 HI.out.2.1 HI.out.2.2.1 HI.out.2.2.2 rfl (by decide) (some ad) n n (l.flatMap fun x => [.int .i64 (x.1 : Int), .int .i64 x.2]) (by simp [Act.eval, Act.put]) (fun h => by cases h) HT.out.2.1 (fun b hb j u hu => olds_at HT.out HAL.out hb hu) ⟨w.heap.size, 0, none⟩ 1 1 [.int .i64 2, .int .i64 x] (by simp [Act.eval, Act.put]) rfl (fun j u hu => news_at w.drew x hu) (by simp; exact ⟨rfl, rfl⟩) (by omega) (by have := HN.out.2; unfold maxLen; omega) (by have := HN.out.2; omega) ?_; intro v1 w1 hown hg; have hbw : RowKit.Below w.heap.size w w1 := HAL.out.grown hg (by simp) (fun k hk => by cases hk))
      | fail)
  all_goals (
    obtain ⟨g, cap2, rfl, _, _⟩ := hown.form (Nat.succ_pos n)
    have HO : Sl (TR w1 (some ⟨g, 0, none⟩) (n + 1) (l ++ [(2, -m * den)])) := ⟨by
      refine ⟨by rw [List.length_append, HT.out.1]; rfl, ?_⟩
      have h := Reads.of_own hown
      rw [HX.out, List.flatMap_append]
      exact h⟩
    have HBW : Sl _ := ⟨hbw⟩
    clear hown hg hbw hneg hmul2 hmul3
    go_wp2_with fail
    go_ret
    exact ⟨⟨_, _, rfl, HO.out⟩, HBW.out⟩)
/-- Floor's second closure: is the sign 0 or more? -/
theorem is_any (m den sg : Int) (pq pa pl pd ad : Addr) (L : Option Addr) (n cap cl : Nat) (l : List (Nat × Int)) (w : World) (hq : w.cell? pq = some (.func (.func 51) #[] #[.pointer (some pa), .pointer (some pl), .pointer (some pd)])) (ha : w.cell? pa = some (.slice (some ad) n cap)) (hl : w.cell? pl = some (.slice L n cl)) (hd : w.cell? pd = some (.int .i64 den))
    (hba : pa.block < w.heap.size) (hbl : pl.block < w.heap.size) (hbd : pd.block < w.heap.size) (hT : TR w (some ad) n l) (hn : n ≤ cap) (hn2 : n ≤ 100) (hm1 : -2000000000000 ≤ m) (hm2 : m ≤ 2000000000000) (hmd : -1000000000000000000 ≤ -m * den) (hmd2 : -m * den ≤ 1000000000000000000)
    (hk : SignTo (l ++ [(2, -m * den)]) sg) :
    Calls Tryd.prog 52 #[.int .i64 m, .pointer (some pq)] w fun e w' => e = .returned (.bool (decide (0 ≤ sg))) ∧ Below w.heap.size w w' := by
  have HC : Sl _ := ⟨at_any m den pa pl pd ad L n cap cl l w ha hl hd hba hbl hbd hT hn hn2 hm1 hm2 hmd hmd2⟩
  have HK : Sl _ := ⟨hk⟩
  clear ha hl hd hba hbl hbd hT hn hn2 hmd hmd2 hk
  have hrun : ∀ (args : Array Value) (w : World), (callFunc 51 args).run Tryd.prog w = .ok (.enter 51 args) w := fun a w => by go_simp
  by_cases h0 : 0 ≤ sg
  · have hdec : decide (0 ≤ sg) = true := decide_eq_true h0
    rw [hdec]
    clear hdec
    go_enter Tryd.func52, Tryd.ntmps52
    go_wp2_with fail
    refine HC.out.mono ?_; rintro e w1 ⟨⟨A1, c1, rfl, h1⟩, hb⟩
    have HS : Sl _ := ⟨HK.out A1 (n + 1) c1 w1 h1⟩
    clear h1
    go_wp2_with fail
    refine HS.out.mono ?_; rintro e w2 ⟨rfl, hb2⟩
    go_wp2_with fail
    go_ret
    exact ⟨by first | rfl | simp [h0], hb.trans (hb2.mono hb.size)⟩
  · have hdec : decide (0 ≤ sg) = false := decide_eq_false h0
    rw [hdec]
    clear hdec
    have h1 : sg < 0 := Int.not_le.1 h0
    go_enter Tryd.func52, Tryd.ntmps52
    go_wp2_with fail
    refine HC.out.mono ?_; rintro e w1 ⟨⟨A1, c1, rfl, h1⟩, hb⟩
    have HS : Sl _ := ⟨HK.out A1 (n + 1) c1 w1 h1⟩
    clear h1
    go_wp2_with fail
    refine HS.out.mono ?_; rintro e w2 ⟨rfl, hb2⟩
    go_wp2_with fail
    go_ret
    exact ⟨by first | rfl | (simp; omega), hb.trans (hb2.mono hb.size)⟩
end Go.Proofs.YtcmofoggdchofaaDoor
