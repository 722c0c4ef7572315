/- Package ratios: the greatest common divisor. Package ratios: terms in memory. Package ratios: the greatest number for which something is true. Package ratios: the closures of Floor. -/
import Derived.Test.YtalodfjplegibaaGreatDoorBase
import Derived.Deep.RegionLawGrows
import Derived.Deep.RegionHeld3
namespace Go.Proofs.YtalodfjplegibaaGreatDoor
set_option linter.unusedSimpArgs false
open Go.RowKit
set_option linter.unusedVariables false

set_option maxHeartbeats 800000 in
theorem rgcd_any (a b : Nat) (w : World) (ha : a < 4000000000000000000) (hb : b < 4000000000000000000) :
    Calls Tryz.prog 19 #[.int .i64 a, .int .i64 b] w fun e w' => e = .returned (.int .i64 (Nat.gcd a b)) ∧ ∃ m, w' = w.drewN m := by
  go_enter Tryz.func19, Tryz.ntmps19
  go_wp2_with fail
  go_loopw [0, 1] (fun s0 s1 wr => ∃ (x y : Nat), s0 = .int .i64 x ∧ s1 = .int .i64 y ∧ x < 4000000000000000000 ∧ y < 4000000000000000000 ∧ Sl (Nat.gcd x y = Nat.gcd a b ∧ ∃ m, wr = w.drewN m)) (fun _ s1 _ => (RowKit.intOf s1).toNat)
  case atStart => exact ⟨a, b, rfl, rfl, ha, hb, ⟨rfl, 0, rfl⟩⟩
  case round =>
    clear ha hb
    obtain ⟨x, y, rfl, rfl, hx, hy, HG⟩ := hrel
    rcases Nat.eq_zero_or_pos y with h0 | h0
    · subst h0
      go_wp2_with fail
      go_ret
      obtain ⟨h1, m, h2⟩ := HG.out
      rw [Nat.gcd_zero_right] at h1
      exact ⟨by rw [← h1]; rfl, m, h2⟩
    · have hne : ((y : Int) == 0) = false := by rw [beq_eq_false_iff_ne]; omega
      have hmod : (x : Int).tmod (y : Int) = ((x % y : Nat) : Int) := by rw [Int.tmod_eq_emod_of_nonneg (by omega)]; omega
      have hlt : x % y < y := Nat.mod_lt _ h0
      have HGN : Sl (Nat.gcd y (x % y) = Nat.gcd a b) := ⟨by rw [← HG.out.1, Nat.gcd_comm y, ← Nat.gcd_rec, Nat.gcd_comm]⟩
      generalize x % y = r at *
      go_wp2_with fail
      go_quiet (fail)
      go_wp2_with fail
      obtain ⟨m, hm⟩ := HG.out.2
      refine ⟨⟨y, r, rfl, rfl, hy, by omega, ⟨HGN.out, m + nq, by rw [hm]; simp⟩⟩, by simp [RowKit.intOf]; omega⟩
end Go.Proofs.YtalodfjplegibaaGreatDoor
namespace Go.Proofs.YtalodfjplegibaaGreatDoor
set_option linter.unusedSimpArgs false
open Go.RowKit
set_option linter.unusedVariables false

/-- terms lie here -/
def TR (w : World) (A : Option Addr) (n : Nat) (l : List (Nat × Int)) : Prop :=
  l.length = n ∧ Reads w w.heap.size 2 A n (l.flatMap fun x => [.int .i64 (x.1 : Int), .int .i64 x.2])
theorem TR.below {w w' : World} {A : Option Addr} {n : Nat} {l : List (Nat × Int)} (h : TR w A n l) (hb : Below w.heap.size w w') : TR w' A n l :=
  ⟨h.1, (h.2.below hb).more hb.size⟩
theorem flat2 (l : List (Nat × Int)) : ∀ i x, l[i]? = some x → (l.flatMap fun x => [Value.int .i64 (x.1 : Int), Value.int .i64 x.2])[i * 2]? = some (.int .i64 (x.1 : Int)) ∧ (l.flatMap fun x => [Value.int .i64 (x.1 : Int), Value.int .i64 x.2])[i * 2 + 1]? = some (.int .i64 x.2) := by
  induction l with
  | nil => intro i x h; cases h
  | cons y l ih =>
    intro i x h
    cases i with
    | zero => cases h; simp
    | succ i =>
      have h1 := ih i x (by simpa using h)
      have e1 : (i + 1) * 2 = i * 2 + 1 + 1 := by omega
      have e2 : (i + 1) * 2 + 1 = i * 2 + 1 + 1 + 1 := by omega
      rw [List.flatMap_cons, e1]
      simpa using h1
theorem TR.cells {w : World} {A : Option Addr} {n : Nat} {l : List (Nat × Int)} (h : TR w A n l) {i : Nat} {x : Nat × Int} (hi : l[i]? = some x) :
    ∃ ad, A = some ad ∧ ad.block < w.heap.size ∧ w.cell? (ad.add (i * 2)) = some (.int .i64 (x.1 : Int)) ∧ w.cell? (ad.add (i * 2 + 1)) = some (.int .i64 x.2) := by
  have hn : 0 < n := by rw [← h.1]; exact Nat.lt_of_le_of_lt (Nat.zero_le i) (List.getElem?_eq_some_iff.1 hi).1
  obtain ⟨ad, e, hb, hc⟩ := h.2.2 hn
  obtain ⟨h1, h2⟩ := flat2 l i x hi
  exact ⟨ad, e, hb, hc _ _ h1, hc _ _ h2⟩
/-- the sign that the program finds, wherever these terms lie -/
def SignTo (l : List (Nat × Int)) (s : Int) : Prop := ∀ (A : Option Addr) (n c : Nat) (W : World), TR W A n l → Calls Tryz.prog 35 #[.slice A n c] W fun e w' => e = .returned (.int .i64 s) ∧ Below W.heap.size W w'
end Go.Proofs.YtalodfjplegibaaGreatDoor
namespace Go.Proofs.YtalodfjplegibaaGreatDoor
set_option linter.unusedSimpArgs false
open Go.RowKit
set_option linter.unusedVariables false

/-- what greatest returns of a test P -/
def GrRes (P : Int → Bool) (low high : Int) (e : Ending) : Prop := ∃ m : Int, e = .returned (.int .i64 m) ∧ low ≤ m ∧ m < high ∧ (m = low ∨ P m = true) ∧ (m + 1 = high ∨ P (m + 1) = false)
set_option maxHeartbeats 800000 in
theorem greatest_any (q : Value) (P : Int → Bool) (low high : Int) (w : World) (hlh : low < high) (hl : -2000000000000 ≤ low) (hh : high ≤ 2000000000000)
    (hF : ∀ (m : Int) (W : World), low < m → m < high → Below w.heap.size w W → Calls Tryz.prog 37 #[.int .i64 m, q] W fun e w' => e = .returned (.bool (P m)) ∧ Below W.heap.size W w') :
    Calls Tryz.prog 38 #[.int .i64 low, .int .i64 high, .func (.func 37) #[] #[q]] w fun e w' => GrRes P low high e ∧ Below w.heap.size w w' := by
  have HF : Sl _ := ⟨hF⟩
  clear hF
  have hrun : ∀ (args : Array Value) (w : World), (callFunc 37 args).run Tryz.prog w = .ok (.enter 37 args) w := fun a w => by go_simp
  go_enter Tryz.func38, Tryz.ntmps38
  go_wp2_with fail
  go_loopw [0, 1] (fun s0 s1 wr => ∃ (lo hi : Int), s0 = .int .i64 lo ∧ s1 = .int .i64 hi ∧ low ≤ lo ∧ lo < hi ∧ hi ≤ high ∧ Sl ((lo = low ∨ P lo = true) ∧ (hi = high ∨ P hi = false)) ∧ Below w.heap.size w wr) (fun s0 s1 _ => (RowKit.intOf s1 - RowKit.intOf s0).toNat)
  case atStart => exact ⟨low, high, rfl, rfl, Int.le_refl _, hlh, Int.le_refl _, ⟨.inl rfl, .inl rfl⟩, Below.refl _ _⟩
  case round =>
    obtain ⟨lo, hi, rfl, rfl, h1, h2, h3, HP, hB⟩ := hrel
    by_cases hgo : 1 < hi - lo
    · obtain ⟨m, hm⟩ : ∃ m, lo + (hi - lo) / 2 = m := ⟨_, rfl⟩
      have hm1 : lo < m := by omega
      have hm2 : m < hi := by omega
      have hC := HF.out m wr (by omega) (by omega) hB
      have HC : Sl _ := ⟨hC⟩
      clear hC
      cases hPm : P m
      · rw [hPm] at HC
        have HPM : Sl _ := ⟨hPm⟩
        clear hPm
        go_wp2_with fail
        refine HC.out.mono ?_; rintro e w2 ⟨rfl, hb⟩
        go_wp2_with fail
        exact ⟨⟨lo, m, rfl, rfl, h1, hm1, by omega, ⟨HP.out.1, .inr HPM.out⟩, hB.trans (hb.mono hB.size)⟩, by simp [RowKit.intOf]; omega⟩
      · rw [hPm] at HC
        have HPM : Sl _ := ⟨hPm⟩
        clear hPm
        go_wp2_with fail
        refine HC.out.mono ?_; rintro e w2 ⟨rfl, hb⟩
        go_wp2_with fail
        exact ⟨⟨m, hi, rfl, rfl, by omega, hm2, h3, ⟨.inr HPM.out, HP.out.2⟩, hB.trans (hb.mono hB.size)⟩, by simp [RowKit.intOf]; omega⟩
    · obtain rfl : hi = lo + 1 := by omega
      go_wp2_with fail
      go_ret
      exact ⟨⟨lo, rfl, h1, by omega, HP.out.1, HP.out.2⟩, hB⟩
end Go.Proofs.YtalodfjplegibaaGreatDoor
namespace Go.Proofs.YtalodfjplegibaaGreatDoor
set_option linter.unusedSimpArgs false
open Go.RowKit
set_option linter.unusedVariables false

theorem info_term : ∃ i, Tryz.prog.info? 35 = some i ∧ i.zero = some (.agg #[.int .i64 0, .int .i64 0]) ∧ i.size = 2 ∧ i.bytes = 16 := by
  have h : (Tryz.prog.info? 35).map (fun i => (i.zero, i.size, i.bytes)) = some (some (.agg #[.int .i64 0, .int .i64 0]), 2, 16) := by kernel_rfl
  obtain ⟨i, hi, he⟩ := Option.map_eq_some_iff.1 h
  injection he with e1 e2
  injection e2 with e2 e3
  exact ⟨i, hi, e1, e2, e3⟩

theorem olds_at {w W : World} {ad b : Addr} {n j : Nat} {l : List (Nat × Int)} {u : Value} (h : TR w (some ad) n l) (hb : Below w.heap.size w W) (he : some ad = some b) (hu : (l.flatMap fun x => [Value.int .i64 (x.1 : Int), Value.int .i64 x.2])[j]? = some u) : W.cell? (b.add j) = some u := by
  cases he
  have hn : 0 < n := by
    have h1 := h.2.1
    have h2 := (List.getElem?_eq_some_iff.1 hu).1
    omega
  obtain ⟨a2, e, h3, h4⟩ := (h.2.below hb).2 hn
  cases e
  exact h4 j u hu
theorem news_at (w : World) (x : Int) {j : Nat} {u : Value} (hu : [Value.int .i64 2, Value.int .i64 x][j]? = some u) : (w.alloc (.cells #[.int .i64 2, .int .i64 x] 35)).cell? ((⟨w.heap.size, 0, none⟩ : Addr).add j) = some u := by
  have hb := Blk.new w 35 #[.int .i64 2, .int .i64 x]
  have e : (⟨w.heap.size, 0, none⟩ : Addr).add j = ⟨w.heap.size, j, none⟩ := by
    unfold Addr.add
    by_cases h : j = 0
    · subst h; simp
    · simp [h]
  rw [e, hb.cell]
  simpa using hu
set_option maxHeartbeats 1600000 in
set_option maxRecDepth 100000 in
theorem at_any (m den : Int) (pa pl pd ad : Addr) (L : Option Addr) (n cap cl : Nat) (l : List (Nat × Int)) (w : World) (ha : w.cell? pa = some (.slice (some ad) n cap)) (hl : w.cell? pl = some (.slice L n cl)) (hd : w.cell? pd = some (.int .i64 den))
    (hba : pa.block < w.heap.size) (hbl : pl.block < w.heap.size) (hbd : pd.block < w.heap.size) (hT : TR w (some ad) n l) (hn : n ≤ cap) (hn2 : n ≤ 100) (hm1 : -2000000000000 ≤ m) (hm2 : m ≤ 2000000000000) (hmd : -1000000000000000000 ≤ -m * den) (hmd2 : -m * den ≤ 1000000000000000000) :
    Calls Tryz.prog 36 #[.int .i64 m, .pointer (some pa), .pointer (some pl), .pointer (some pd)] w fun e w' => (∃ A' c', e = .returned (.slice A' (n + 1) c') ∧ TR w' A' (n + 1) (l ++ [(2, -m * den)])) ∧ Below w.heap.size w w' := by
  obtain ⟨i0, hi0, hz0, hz1, hz2⟩ := info_term
  have HI : Sl _ := ⟨And.intro hi0 (And.intro hz0 (And.intro hz1 hz2))⟩
  clear hi0 hz0 hz1 hz2
  have HT : Sl _ := ⟨hT⟩
  have hneg : IntKind.i64.wrap (-m) = -m := by rw [IntKind.wrap_i64]; omega
  have hmul : IntKind.i64.wrap (-m * den) = -m * den := by
    generalize -m * den = z at *
    rw [IntKind.wrap_i64]; omega
  have hS : Sl (∀ w' : World, RowKit.Below w.heap.size w w' → w'.cell? pa = some (.slice (some ad) n cap) ∧ w'.cell? pl = some (.slice L n cl) ∧ w'.cell? pd = some (.int .i64 den)) := ⟨fun w' h => ⟨(h.cell hba).trans ha, (h.cell hbl).trans hl, (h.cell hbd).trans hd⟩⟩
  have hmul2 : IntKind.i64.wrap (-(m * den)) = -m * den := by rw [Int.neg_mul] at hmul ⊢; exact hmul
  obtain ⟨x, hx⟩ : ∃ x, -m * den = x := ⟨_, rfl⟩
  rw [hx] at hmul2 hmd hmd2
  have hmul3 : IntKind.i64.wrap (-m * den) = x := by rw [hmul]; exact hx
  have HX : Sl _ := ⟨hx⟩
  have HN : Sl _ := ⟨And.intro hn hn2⟩
  clear hmul hx hT ha hl hd hba hbl hbd
  obtain ⟨p1, p2, p3⟩ := hS.out w (Below.refl _ _)
  go_enter Tryz.func36, Tryz.ntmps36
  go_wp2_with fail
  have hd : RowKit.Below w.heap.size w w.drew := below_drewN (Below.refl _ _) 1
  obtain ⟨d1, d2, d3⟩ := hS.out w.drew hd
  have hal : RowKit.Below w.heap.size w (w.drew.alloc (.cells #[.int .i64 2, .int .i64 x] 35)) := hd.alloc (Nat.le_refl _) _
  have HAL : Sl _ := ⟨hal⟩
  clear hal
  go_region_held3 (fun w' => w'.cell? pa = some (.slice (some ad) n cap) ∧ w'.cell? pl = some (.slice L n cl) ∧ w'.cell? pd = some (.int .i64 den))
    (first | (refine hS.out _ ?_; assumption) | (refine hS.out _ HAL.out) | go_keep)
    (first
      | (refine step_append_grows rfl (.tmp 11) (.tmp 17) _ rfl 35 i0 (.agg #[.int .i64 0, .int .i64 0]) 2 16 Tryz.underlying36 HI.out.1 HI.out.2.1 HI.out.2.2.1 HI.out.2.2.2 rfl (by decide) (some ad) n n (l.flatMap fun x => [.int .i64 (x.1 : Int), .int .i64 x.2]) (by simp [Act.eval, Act.put]) (fun h => by cases h) HT.out.2.1 (fun b hb j u hu => olds_at HT.out HAL.out hb hu) ⟨w.heap.size, 0, none⟩ 1 1 [.int .i64 2, .int .i64 x] (by simp [Act.eval, Act.put]) rfl (fun j u hu => news_at w.drew x hu) (by simp; exact ⟨rfl, rfl⟩) (by omega) (by have := HN.out.2; unfold maxLen; omega) (by have := HN.out.2; omega) ?_; intro v1 w1 hown hg; have hbw : RowKit.Below w.heap.size w w1 := HAL.out.grown hg (by simp) (fun k hk => by cases hk))
      | fail)
  all_goals (
    obtain ⟨g, cap2, rfl, _, _⟩ := hown.form (Nat.succ_pos n)
    have HO : Sl (TR w1 (some ⟨g, 0, none⟩) (n + 1) (l ++ [(2, -m * den)])) := ⟨by
      refine ⟨by rw [List.length_append, HT.out.1]; rfl, ?_⟩
      have h := Reads.of_own hown
      rw [HX.out, List.flatMap_append]
      exact h⟩
    have HBW : Sl _ := ⟨hbw⟩
    clear hown hg hbw hneg hmul2 hmul3
    go_wp2_with fail
    go_ret
    exact ⟨⟨_, _, rfl, HO.out⟩, HBW.out⟩)
/-- Floor's second closure: is the sign 0 or more? -/
theorem is_any (m den sg : Int) (pq pa pl pd ad : Addr) (L : Option Addr) (n cap cl : Nat) (l : List (Nat × Int)) (w : World) (hq : w.cell? pq = some (.func (.func 36) #[] #[.pointer (some pa), .pointer (some pl), .pointer (some pd)])) (ha : w.cell? pa = some (.slice (some ad) n cap)) (hl : w.cell? pl = some (.slice L n cl)) (hd : w.cell? pd = some (.int .i64 den))
    (hba : pa.block < w.heap.size) (hbl : pl.block < w.heap.size) (hbd : pd.block < w.heap.size) (hT : TR w (some ad) n l) (hn : n ≤ cap) (hn2 : n ≤ 100) (hm1 : -2000000000000 ≤ m) (hm2 : m ≤ 2000000000000) (hmd : -1000000000000000000 ≤ -m * den) (hmd2 : -m * den ≤ 1000000000000000000)
    (hk : SignTo (l ++ [(2, -m * den)]) sg) :
    Calls Tryz.prog 37 #[.int .i64 m, .pointer (some pq)] w fun e w' => e = .returned (.bool (decide (0 ≤ sg))) ∧ Below w.heap.size w w' := by
  have HC : Sl _ := ⟨at_any m den pa pl pd ad L n cap cl l w ha hl hd hba hbl hbd hT hn hn2 hm1 hm2 hmd hmd2⟩
  have HK : Sl _ := ⟨hk⟩
  clear ha hl hd hba hbl hbd hT hn hn2 hmd hmd2 hk
  have hrun : ∀ (args : Array Value) (w : World), (callFunc 36 args).run Tryz.prog w = .ok (.enter 36 args) w := fun a w => by go_simp
  by_cases h0 : 0 ≤ sg
  · have hdec : decide (0 ≤ sg) = true := decide_eq_true h0
    rw [hdec]
    clear hdec
    go_enter Tryz.func37, Tryz.ntmps37
    go_wp2_with fail
    refine HC.out.mono ?_; rintro e w1 ⟨⟨A1, c1, rfl, h1⟩, hb⟩
    have HS : Sl _ := ⟨HK.out A1 (n + 1) c1 w1 h1⟩
    clear h1
    go_wp2_with fail
    refine HS.out.mono ?_; rintro e w2 ⟨rfl, hb2⟩
    go_wp2_with fail
    go_ret
    exact ⟨by first | rfl | simp [h0], hb.trans (hb2.mono hb.size)⟩
  · have hdec : decide (0 ≤ sg) = false := decide_eq_false h0
    rw [hdec]
    clear hdec
    have h1 : sg < 0 := Int.not_le.1 h0
    go_enter Tryz.func37, Tryz.ntmps37
    go_wp2_with fail
    refine HC.out.mono ?_; rintro e w1 ⟨⟨A1, c1, rfl, h1⟩, hb⟩
    have HS : Sl _ := ⟨HK.out A1 (n + 1) c1 w1 h1⟩
    clear h1
    go_wp2_with fail
    refine HS.out.mono ?_; rintro e w2 ⟨rfl, hb2⟩
    go_wp2_with fail
    go_ret
    exact ⟨by first | rfl | (simp; omega), hb.trans (hb2.mono hb.size)⟩
end Go.Proofs.YtalodfjplegibaaGreatDoor
