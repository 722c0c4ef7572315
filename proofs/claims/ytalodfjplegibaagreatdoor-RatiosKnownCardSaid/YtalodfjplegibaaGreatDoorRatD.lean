/- Package ratios: sums: the bounds of both sums of a product's logarithm. -/
import Derived.Test.YtalodfjplegibaaGreatDoorRatC
import Derived.Test.YtalodfjplegibaaGreatDoorRatE
import Derived.Test.YtalodfjplegibaaGreatDoorMixG
import Derived.Deep.RegionLaw
namespace Go.Proofs.YtalodfjplegibaaGreatDoor
set_option linter.unusedSimpArgs false
open Go.RowKit
set_option linter.unusedVariables false

theorem sumB_snoc (B : Nat → Nat × Nat) (n : Nat) (k : Int) : ∀ l : List (Nat × Int), sumB B (l ++ [(n, k)]) = if 0 ≤ k then (((sumB B l).1.1 + (B n).1 * k.natAbs, (sumB B l).1.2 + (B n).2 * k.natAbs), (sumB B l).2) else ((sumB B l).1, ((sumB B l).2.1 + (B n).1 * k.natAbs, (sumB B l).2.2 + (B n).2 * k.natAbs))
  | [] => by simp [sumB]
  | (m, j) :: l => by
    rw [List.cons_append, sumB, sumB_snoc B n k l, sumB]
    split <;> split <;> simp only [] <;> (try split) <;> simp [Nat.add_comm, Nat.add_left_comm, Nat.add_assoc]
theorem sumB_le {B : Nat → Nat × Nat} {M K : Nat} : ∀ l : List (Nat × Int), (∀ x ∈ l, (B x.1).1 ≤ M ∧ (B x.1).2 ≤ M ∧ x.2.natAbs ≤ K) →
    (sumB B l).1.1 ≤ l.length * (M * K) ∧ (sumB B l).1.2 ≤ l.length * (M * K) ∧ (sumB B l).2.1 ≤ l.length * (M * K) ∧ (sumB B l).2.2 ≤ l.length * (M * K)
  | [], _ => by simp [sumB]
  | (n, k) :: l, h => by
    obtain ⟨a, b, c, d⟩ := sumB_le l fun x hx => h x (List.mem_cons_of_mem _ hx)
    obtain ⟨e1, e2, e3⟩ := h _ List.mem_cons_self
    simp only [] at e1 e2 e3
    have m1 : (B n).1 * k.natAbs ≤ M * K := Nat.mul_le_mul e1 e3
    have m2 : (B n).2 * k.natAbs ≤ M * K := Nat.mul_le_mul e2 e3
    rw [sumB, List.length_cons, Nat.add_mul, Nat.one_mul]
    split <;> simp only [] <;> omega
/-- log gives these bounds, wherever it is called -/
def LogOK (n P : Nat) (x : Nat × Nat) : Prop := ∀ W : World, Calls Tryz.prog 77 #[.int .i64 n, .int .i64 P] W fun e w' => TwoNum w' e x ∧ Below W.heap.size W w'
structure LogsOK (l : List (Nat × Int)) (P : Nat) (B : Nat → Nat × Nat) : Prop where
  log : ∀ x ∈ l, LogOK x.1 P (B x.1)
  le : ∀ x ∈ l, (B x.1).1 ≤ 2 ^ (P + 6) ∧ (B x.1).2 ≤ 2 ^ (P + 6) ∧ x.2.natAbs ≤ 1152921504606846976
theorem LogsOK.fit {l : List (Nat × Int)} {P : Nat} {B : Nat → Nat × Nat} (h : LogsOK l P B) (hP : P ≤ 2048) (hn : l.length ≤ 17) (i : Nat) {b k : Nat} (hb : b ≤ 2 ^ (P + 6)) (hk : k ≤ 1152921504606846976) :
    sat (b * k) = b * k ∧ sat ((sumB B (l.take i)).1.1 + b * k) = (sumB B (l.take i)).1.1 + b * k ∧ sat ((sumB B (l.take i)).1.2 + b * k) = (sumB B (l.take i)).1.2 + b * k ∧ sat ((sumB B (l.take i)).2.1 + b * k) = (sumB B (l.take i)).2.1 + b * k ∧ sat ((sumB B (l.take i)).2.2 + b * k) = (sumB B (l.take i)).2.2 + b * k := by
  obtain ⟨h1, h2, h3, h4⟩ := sumB_le (M := 2 ^ (P + 6)) (K := 1152921504606846976) (l.take i) fun x hx => h.le x (List.mem_of_mem_take hx)
  have hl : (l.take i).length ≤ 17 := Nat.le_trans (List.length_take_le' _ _) hn
  have hm := Nat.mul_le_mul_right (2 ^ (P + 6) * 1152921504606846976) hl
  have hbk : b * k ≤ 2 ^ (P + 6) * 1152921504606846976 := Nat.mul_le_mul hb hk
  have e : (2 : Nat) ^ (P + 6 + 66) = 2 ^ (P + 6) * 1152921504606846976 * 64 := by rw [Nat.pow_add, Nat.mul_assoc]
  have hp : 0 < 2 ^ (P + 6) * 1152921504606846976 := Nat.mul_pos (Nat.pow_pos (by decide)) (by decide)
  generalize 2 ^ (P + 6) * 1152921504606846976 = Z at *
  generalize b * k = y at *
  refine ⟨sat_eq (m := P + 6 + 66) (by omega) (by rw [e]; omega), sat_eq (m := P + 6 + 66) (by omega) (by rw [e]; omega), sat_eq (m := P + 6 + 66) (by omega) (by rw [e]; omega), sat_eq (m := P + 6 + 66) (by omega) (by rw [e]; omega), sat_eq (m := P + 6 + 66) (by omega) (by rw [e]; omega)⟩
theorem Num.nil (w : World) : Num w (.slice none 0 0) 0 := ⟨none, 0, 0, rfl, by rw [limbs_zero]; exact ⟨U_nil _ _, by decide, by decide⟩, by rw [limbs_zero]; decide⟩
/-- what sums returns -/
def SumRes (w : World) (e : Ending) (g : (Nat × Nat) × (Nat × Nat)) : Prop := ∃ v1 v2 v3 v4, e = .returned (.tuple #[.agg #[v1, v2], .agg #[v3, v4]]) ∧ Num w v1 g.1.1 ∧ Num w v2 g.1.2 ∧ Num w v3 g.2.1 ∧ Num w v4 g.2.2
structure FourNum (w : World) (g : (Nat × Nat) × (Nat × Nat)) (v1 v2 v3 v4 : Value) : Prop where
  a : Num w v1 g.1.1
  b : Num w v2 g.1.2
  c : Num w v3 g.2.1
  d : Num w v4 g.2.2
theorem FourNum.below {w w' : World} {g : (Nat × Nat) × (Nat × Nat)} {v1 v2 v3 v4 : Value} (h : FourNum w g v1 v2 v3 v4) (hb : Below w.heap.size w w') : FourNum w' g v1 v2 v3 v4 := ⟨h.a.below hb, h.b.below hb, h.c.below hb, h.d.below hb⟩
theorem Num.slice {w : World} {v : Value} {a : Nat} (h : Num w v a) : ∃ A n c, v = .slice A n c := by
  obtain ⟨A, n, c, rfl, _⟩ := h; exact ⟨A, n, c, rfl⟩
theorem pair_not_int (x y : Value) (hx : ∃ A n c, x = .slice A n c) (hy : ∃ A n c, y = .slice A n c) (i : Nat) (k : IntKind) (z : Int) : (#[x, y] : Array Value)[i]? ≠ some (.int k z) := by
  obtain ⟨A, n, c, rfl⟩ := hx
  obtain ⟨A', n', c', rfl⟩ := hy
  match i with
  | 0 => simp
  | 1 => simp
  | i+2 => simp
/-- a number does not lie in a block of other values -/
theorem Num.set {w : World} {v : Value} {a g : Nat} {t : TypeId} {cs : Array Value} (h : Num w v a) (hb : Blk w g t cs) (hx : ∀ (i : Nat) (k : IntKind) (z : Int), cs[i]? ≠ some (.int k z)) (i : Nat) (u : Value) : Num (w.setCell ⟨g, i, none⟩ u) v a := by
  obtain ⟨A, n, c, rfl, ⟨hU, h1, h2⟩, h3⟩ := h
  refine ⟨A, n, c, rfl, ⟨⟨⟨hU.1.1, fun hn => ?_⟩, hU.2⟩, h1, h2⟩, h3⟩
  obtain ⟨ad, e, hl, hc⟩ := hU.1.2 hn
  refine ⟨ad, e, by simpa using hl, fun j x hj => ?_⟩
  have hcj := hc j x hj
  rw [World.cell?_setCell_other w _ _ _ (fun e => ?_)]
  · exact hcj
  · rw [← e, hb.cell] at hcj
    rw [List.getElem?_map] at hj
    cases hl : (limbs a)[j]? with
    | none => rw [hl] at hj; cases hj
    | some y =>
      rw [hl] at hj
      injection hj with hj
      rw [← hj] at hcj
      exact hx _ _ _ hcj
theorem sums_end_up {w w3 y : World} {B : Nat → Nat × Nat} {nn kn i n3 c3 n6 c6 : Nat} {A3 A6 : Option Addr} {l : List (Nat × Int)} {v1 v2 v3 v4 : Value} (P3 : Blk w3 w.heap.size 95 #[v1, v2]) (O3 : Blk w3 (w.heap.size + 1) 95 #[v3, v4]) (F3 : FourNum w3 (sumB B (l.take i)) v1 v2 v3 v4) (B3 : Below w.heap.size w w3)
    (hs : Below w3.heap.size w3 y) (h3 : Num y (.slice A3 n3 c3) ((sumB B (l.take i)).1.1 + (B nn).1 * kn)) (h6 : Num y (.slice A6 n6 c6) ((sumB B (l.take i)).1.2 + (B nn).2 * kn)) (hx : l[i]? = some (nn, (kn : Int))) :
    Below w.heap.size w ((y.setCell ⟨w.heap.size, 0, none⟩ (.slice A3 n3 c3)).setCell ⟨w.heap.size, 1, none⟩ (.slice A6 n6 c6)) ∧ Blk ((y.setCell ⟨w.heap.size, 0, none⟩ (.slice A3 n3 c3)).setCell ⟨w.heap.size, 1, none⟩ (.slice A6 n6 c6)) w.heap.size 95 #[.slice A3 n3 c3, .slice A6 n6 c6] ∧ Blk ((y.setCell ⟨w.heap.size, 0, none⟩ (.slice A3 n3 c3)).setCell ⟨w.heap.size, 1, none⟩ (.slice A6 n6 c6)) (w.heap.size + 1) 95 #[v3, v4] ∧ FourNum ((y.setCell ⟨w.heap.size, 0, none⟩ (.slice A3 n3 c3)).setCell ⟨w.heap.size, 1, none⟩ (.slice A6 n6 c6)) (sumB B (l.take (i + 1))) (.slice A3 n3 c3) (.slice A6 n6 c6) v3 v4 := by
  have hF := F3.below hs
  have hP4 := P3.below hs P3.lt
  have hO4 := O3.below hs O3.lt
  have hB4 := B3.trans (hs.mono B3.size)
  have hb0 := pair_not_int _ _ F3.a.slice F3.b.slice
  have hP5 := hP4.set_ 0 (.slice A3 n3 c3)
  have hb1 := pair_not_int _ _ ⟨A3, n3, c3, rfl⟩ F3.b.slice
  have hP6 := hP5.set_ 1 (.slice A6 n6 c6)
  have hset : ∀ {v : Value} {a : Nat}, Num y v a → Num ((y.setCell ⟨w.heap.size, 0, none⟩ (.slice A3 n3 c3)).setCell ⟨w.heap.size, 1, none⟩ (.slice A6 n6 c6)) v a := fun h => (h.set hP4 hb0 0 _).set hP5 hb1 1 _
  have hgs := sumB_snoc B nn (kn : Int) (l.take i)
  rw [if_pos (by omega), show ((kn : Int)).natAbs = kn by omega] at hgs
  have htk : l.take (i + 1) = l.take i ++ [(nn, (kn : Int))] := by rw [List.take_add_one, hx]; rfl
  rw [← htk] at hgs
  have hN6 : FourNum ((y.setCell ⟨w.heap.size, 0, none⟩ (.slice A3 n3 c3)).setCell ⟨w.heap.size, 1, none⟩ (.slice A6 n6 c6)) (sumB B (l.take (i + 1))) (.slice A3 n3 c3) (.slice A6 n6 c6) v3 v4 := by rw [hgs]; exact ⟨hset h3, hset h6, hset hF.c, hset hF.d⟩
  have hne : (w.heap.size + 1) ≠ w.heap.size := by omega
  have hO6 := (hO4.far (p := ⟨w.heap.size, 0, none⟩) hne (.slice A3 n3 c3)).far (p := ⟨w.heap.size, 1, none⟩) hne (.slice A6 n6 c6)
  have hB6 := (hB4.setCell (p := ⟨w.heap.size, 0, none⟩) (by show w.heap.size ≤ w.heap.size; omega) (.slice A3 n3 c3)).setCell (p := ⟨w.heap.size, 1, none⟩) (by show w.heap.size ≤ w.heap.size; omega) (.slice A6 n6 c6)
  exact ⟨hB6, hP6, hO6, hN6⟩
theorem sums_end_down {w w3 y : World} {B : Nat → Nat × Nat} {nn kn i n3 c3 n6 c6 : Nat} {A3 A6 : Option Addr} {l : List (Nat × Int)} {v1 v2 v3 v4 : Value} (P3 : Blk w3 (w.heap.size + 1) 95 #[v3, v4]) (O3 : Blk w3 w.heap.size 95 #[v1, v2]) (F3 : FourNum w3 (sumB B (l.take i)) v1 v2 v3 v4) (B3 : Below w.heap.size w w3)
    (hs : Below w3.heap.size w3 y) (h3 : Num y (.slice A3 n3 c3) ((sumB B (l.take i)).2.1 + (B nn).1 * kn)) (h6 : Num y (.slice A6 n6 c6) ((sumB B (l.take i)).2.2 + (B nn).2 * kn)) (hx : l[i]? = some (nn, (-(kn : Int)))) (hk0 : 0 < kn) :
    Below w.heap.size w ((y.setCell ⟨(w.heap.size + 1), 0, none⟩ (.slice A3 n3 c3)).setCell ⟨(w.heap.size + 1), 1, none⟩ (.slice A6 n6 c6)) ∧ Blk ((y.setCell ⟨(w.heap.size + 1), 0, none⟩ (.slice A3 n3 c3)).setCell ⟨(w.heap.size + 1), 1, none⟩ (.slice A6 n6 c6)) w.heap.size 95 #[v1, v2] ∧ Blk ((y.setCell ⟨(w.heap.size + 1), 0, none⟩ (.slice A3 n3 c3)).setCell ⟨(w.heap.size + 1), 1, none⟩ (.slice A6 n6 c6)) (w.heap.size + 1) 95 #[.slice A3 n3 c3, .slice A6 n6 c6] ∧ FourNum ((y.setCell ⟨(w.heap.size + 1), 0, none⟩ (.slice A3 n3 c3)).setCell ⟨(w.heap.size + 1), 1, none⟩ (.slice A6 n6 c6)) (sumB B (l.take (i + 1))) v1 v2 (.slice A3 n3 c3) (.slice A6 n6 c6) := by
  have hF := F3.below hs
  have hP4 := P3.below hs P3.lt
  have hO4 := O3.below hs O3.lt
  have hB4 := B3.trans (hs.mono B3.size)
  have hb0 := pair_not_int _ _ F3.c.slice F3.d.slice
  have hP5 := hP4.set_ 0 (.slice A3 n3 c3)
  have hb1 := pair_not_int _ _ ⟨A3, n3, c3, rfl⟩ F3.d.slice
  have hP6 := hP5.set_ 1 (.slice A6 n6 c6)
  have hset : ∀ {v : Value} {a : Nat}, Num y v a → Num ((y.setCell ⟨(w.heap.size + 1), 0, none⟩ (.slice A3 n3 c3)).setCell ⟨(w.heap.size + 1), 1, none⟩ (.slice A6 n6 c6)) v a := fun h => (h.set hP4 hb0 0 _).set hP5 hb1 1 _
  have hgs := sumB_snoc B nn (-(kn : Int)) (l.take i)
  rw [if_neg (by omega), show ((-(kn : Int))).natAbs = kn by omega] at hgs
  have htk : l.take (i + 1) = l.take i ++ [(nn, (-(kn : Int)))] := by rw [List.take_add_one, hx]; rfl
  rw [← htk] at hgs
  have hN6 : FourNum ((y.setCell ⟨(w.heap.size + 1), 0, none⟩ (.slice A3 n3 c3)).setCell ⟨(w.heap.size + 1), 1, none⟩ (.slice A6 n6 c6)) (sumB B (l.take (i + 1))) v1 v2 (.slice A3 n3 c3) (.slice A6 n6 c6) := by rw [hgs]; exact ⟨hset hF.a, hset hF.b, hset h3, hset h6⟩
  have hne : w.heap.size ≠ (w.heap.size + 1) := by omega
  have hO6 := (hO4.far (p := ⟨(w.heap.size + 1), 0, none⟩) hne (.slice A3 n3 c3)).far (p := ⟨(w.heap.size + 1), 1, none⟩) hne (.slice A6 n6 c6)
  have hB6 := (hB4.setCell (p := ⟨(w.heap.size + 1), 0, none⟩) (by show w.heap.size ≤ (w.heap.size + 1); omega) (.slice A3 n3 c3)).setCell (p := ⟨(w.heap.size + 1), 1, none⟩) (by show w.heap.size ≤ (w.heap.size + 1); omega) (.slice A6 n6 c6)
  exact ⟨hB6, hO6, hP6, hN6⟩
theorem results_cells2 {P : Program} {fn : Func} {p q : Tmp} {ty : TypeId} (h : fn.results = #[.cell p ty, .cell q ty]) (tmps : Array Value) (w : World) (g g' : Nat) (t t' : TypeId) (cs ds : Array Value) (d : TypeDesc)
    (hp : tmps.getD p undef = .pointer (some ⟨g, 0, none⟩)) (hq : tmps.getD q undef = .pointer (some ⟨g', 0, none⟩)) (hg : Blk w g t cs) (hg' : Blk w g' t' ds)
    (hu : P.underlying ty = some d) (hd : (match d with | .struct _ | .array _ _ => true | _ => false) = true) (hi : (P.info? ty).map (·.size) = some cs.size) (hi' : (P.info? ty).map (·.size) = some ds.size) :
    (results fn tmps).run P w = .ok (.tuple #[.agg cs, .agg ds]) w := by
  have h1 := run_loadVar_row w g t ty cs (0, 0) d hg hu hd hi
  have h2 := run_loadVar_row w g' t' ty ds (0, 0) d hg' hu hd hi'
  have hp2 : tmps[p]?.getD undef = .pointer (some ⟨g, 0, none⟩) := by simpa using hp
  have hq2 : tmps[q]?.getD undef = .pointer (some ⟨g', 0, none⟩) := by simpa using hq
  simp [results, h, hp2, hq2, asAddr, h1, h2, Result.andThen]
set_option maxHeartbeats 12800000 in
set_option maxRecDepth 100000 in
theorem sums_any (A : Option Addr) (n c P : Nat) (l : List (Nat × Int)) (B : Nat → Nat × Nat) (w : World) (hl : TR w A n l) (hn : n ≤ 17) (hP : P ≤ 2048) (hL : LogsOK l P B) :
    Calls Tryz.prog 57 #[.slice A n c, .int .i64 P] w fun e w' => SumRes w' e (sumB B l) ∧ Below w.heap.size w w' := by
  have HL : Sl _ := ⟨hl⟩
  have HK : Sl _ := ⟨hL⟩
  clear hl hL
  have hu := ((Below.refl w.heap.size w).alloc (Nat.le_refl _) (.cells #[.slice none 0 0, .slice none 0 0] 95)).alloc (by simp) (.cells #[.slice none 0 0, .slice none 0 0] 95)
  have hb1 := (Blk.new w 95 #[.slice none 0 0, .slice none 0 0]).alloc (.cells #[.slice none 0 0, .slice none 0 0] 95)
  have hb2 := Blk.new (w.alloc (.cells #[.slice none 0 0, .slice none 0 0] 95)) 95 #[.slice none 0 0, .slice none 0 0]
  rw [show (w.alloc (.cells #[.slice none 0 0, .slice none 0 0] 95)).heap.size = w.heap.size + 1 by simp] at hb2
  have HB : Sl _ := ⟨And.intro hu (And.intro hb1 hb2)⟩
  clear hu hb1 hb2
  go_enter Tryz.func57, Tryz.ntmps57
  go_wp2_with fail
  generalize (w.alloc (.cells #[.slice none 0 0, .slice none 0 0] 95)).alloc (.cells #[.slice none 0 0, .slice none 0 0] 95) = w0 at *
  go_loopw [14] (fun s14 wr => ∃ (i : Nat) (v1 v2 v3 v4 : Value), i ≤ n ∧ s14 = .int .i64 i ∧ Sl (Below w.heap.size w wr ∧ Blk wr w.heap.size 95 #[v1, v2] ∧ Blk wr (w.heap.size + 1) 95 #[v3, v4] ∧ FourNum wr (sumB B (l.take i)) v1 v2 v3 v4)) (fun s14 _ => n - (RowKit.intOf s14).toNat)
  case atStart =>
    exact ⟨0, _, _, _, _, Nat.zero_le _, rfl, ⟨HB.out.1, HB.out.2.1, HB.out.2.2, ⟨Num.nil _, Num.nil _, Num.nil _, Num.nil _⟩⟩⟩
  case round =>
    clear HB
    obtain ⟨i, v1, v2, v3, v4, hi, rfl, HR⟩ := hrel
    by_cases hin : i < n
    · obtain ⟨⟨nn, kk⟩, hx⟩ : ∃ x, l[i]? = some x := ⟨_, List.getElem?_eq_getElem (by rw [HL.out.1]; exact hin)⟩
      obtain ⟨ad, rfl, hab, e1, e2⟩ := (HL.out.below HR.out.1).cells hx
      have e3 : (ad.add (i * 2)).add 1 = ⟨(ad.add (i * 2)).block, (ad.add (i * 2)).off + 1, none⟩ := by
        generalize ad.add (i * 2) = a1
        simp [Addr.add]
      rw [← add_of_add, e3] at e2
      have hlog := HK.out.log _ (List.mem_of_getElem? hx)
      have hle := HK.out.le _ (List.mem_of_getElem? hx)
      simp only [] at hlog hle e1 e2
      have HX : Sl _ := ⟨And.intro hx (And.intro hlog hle)⟩
      have X0 := Blk.new wr 35 #[.int .i64 (nn : Int), .int .i64 kk]
      have hBX := HR.out.1.alloc HR.out.1.size (.cells #[.int .i64 (nn : Int), .int .i64 kk] 35)
      have hXX := (Below.refl wr.heap.size wr).alloc (Nat.le_refl _) (.cells #[.int .i64 (nn : Int), .int .i64 kk] 35)
      have HXX : Sl _ := ⟨And.intro hXX (And.intro hBX X0)⟩
      clear hx hlog hle e3 hBX X0 hXX
      go_wp2_with fail
      generalize wr.alloc (.cells #[.int .i64 (nn : Int), .int .i64 kk] 35) = wx at *
      refine (HX.out.2.1 wx).mono ?_; rintro e w2 ⟨⟨lo, hi', rfl, hlo, hhi⟩, hb2⟩
      have X1 := HXX.out.2.2.below hb2 HXX.out.2.2.lt
      have x0 := X1.cell 0
      have x1 := X1.cell 1
      simp at x0 x1
      have hB2 := HXX.out.1.trans (hb2.mono HXX.out.1.size)
      have U2 := HR.out.2.1.below hB2 HR.out.2.1.lt
      have D2 := HR.out.2.2.1.below hB2 HR.out.2.2.1.lt
      have F2 := HR.out.2.2.2.below hB2
      have hBW2 := HXX.out.2.1.trans (hb2.mono HXX.out.2.1.size)
      have HLH : Sl _ := ⟨And.intro hlo (And.intro hhi (And.intro U2 (And.intro D2 (And.intro F2 (And.intro hBW2 X1)))))⟩
      clear hlo hhi U2 D2 F2 hBW2 X1 hB2 hb2 e1 e2
      by_cases hk : 0 ≤ kk
      · obtain ⟨kn, rfl⟩ := Int.eq_ofNat_of_zero_le hk
        have hkl : kn ≤ 1152921504606846976 := by have := HX.out.2.2.2.2; simpa using this
        clear hk
        go_wp2_with fail
        go_quiet (fail)
        go_wp2_with fail
        generalize hg : w2.drewN nq = w3 at *
        have P3 : Blk w3 w.heap.size 95 #[v1, v2] := by rw [← hg]; exact HLH.out.2.2.1
        have O3 : Blk w3 (w.heap.size + 1) 95 #[v3, v4] := by rw [← hg]; exact HLH.out.2.2.2.1
        have F3 : FourNum w3 (sumB B (l.take i)) v1 v2 v3 v4 := by rw [← hg]; exact ⟨HLH.out.2.2.2.2.1.a.drewN _, HLH.out.2.2.2.2.1.b.drewN _, HLH.out.2.2.2.2.1.c.drewN _, HLH.out.2.2.2.2.1.d.drewN _⟩
        have L3 : Num w3 lo (B nn).1 ∧ Num w3 hi' (B nn).2 := by rw [← hg]; exact ⟨HLH.out.1.drewN _, HLH.out.2.1.drewN _⟩
        have B3 : RowKit.Below w.heap.size w w3 := by rw [← hg]; exact below_drewN HLH.out.2.2.2.2.2.1 _
        have HALL : Sl _ := ⟨And.intro P3 (And.intro O3 (And.intro F3 (And.intro L3 B3)))⟩
        clear hg P3 O3 F3 L3 B3 x0 x1 HLH
        have HS : Sl (∀ w' : World, RowKit.Below w3.heap.size w3 w' → w'.cell? ⟨w.heap.size, 0, none⟩ = some v1 ∧ w'.cell? ⟨w.heap.size, 1, none⟩ = some v2 ∧ w'.frozen? ⟨w.heap.size, 0, none⟩ = false ∧ w'.frozen? ⟨w.heap.size, 1, none⟩ = false) := ⟨fun w' h => by
          have e := HALL.out.1.below h HALL.out.1.lt
          exact ⟨e.cell 0, e.cell 1, e.frozen 0, e.frozen 1⟩⟩
        have HN : Sl (∀ w' : World, RowKit.Below w3.heap.size w3 w' → Num w' lo (B nn).1 ∧ Num w' hi' (B nn).2 ∧ Num w' v1 (sumB B (l.take i)).1.1 ∧ Num w' v2 (sumB B (l.take i)).1.2) := ⟨fun w' h => ⟨HALL.out.2.2.2.1.1.below h, HALL.out.2.2.2.1.2.below h, (HALL.out.2.2.1.below h).a, (HALL.out.2.2.1.below h).b⟩⟩
        have hf1 := HK.out.fit hP (by rw [HL.out.1]; exact hn) i (b := (B nn).1) (k := kn) HX.out.2.2.1 hkl
        have hf2 := HK.out.fit hP (by rw [HL.out.1]; exact hn) i (b := (B nn).2) (k := kn) HX.out.2.2.2.1 hkl
        have HF : Sl _ := ⟨And.intro hf1 hf2⟩
        have hkb : (kn : Int) ≤ 9223372036854775807 := by omega
        clear hf1 hf2
        have hs : RowKit.Below w3.heap.size w3 w3.drew := below_drewN (Below.refl _ _) 1
        obtain ⟨c0, c1, f0, f1⟩ := HS.out w3.drew hs
        go_region_law (first
            | (go_simp; go_at_call 80; have hh := fun W : World => number_any kn W hkb; (with_reducible refine (hh _).mono ?_); rintro e y ⟨⟨q, rfl, hq⟩, hb⟩; have hs := hs.trans (hb.mono hs.size); have hnum := hq; (try (have hz := hz.trans (hb.mono hz.size))); clear c0 c1 f0 f1; obtain ⟨c0, c1, f0, f1⟩ := HS.out y hs; try go_wp2_with fail)
            | (go_simp; go_at_call 79; have hh := mul_any lo q (B nn).1 kn _ (HN.out _ hs).1 hnum; (with_reducible refine hh.mono ?_); rintro e y ⟨⟨t, rfl, hq⟩, hb⟩; have hs := hs.trans (hb.mono hs.size); have ht := hq.fit HF.out.1.1; clear hnum; (try (have hz := hz.trans (hb.mono hz.size))); clear c0 c1 f0 f1; obtain ⟨c0, c1, f0, f1⟩ := HS.out y hs; try go_wp2_with fail)
            | (go_simp; go_at_call 78; have hh := add_any v1 t (sumB B (l.take i)).1.1 ((B nn).1 * kn) _ (HN.out _ hs).2.2.1 ht; (with_reducible refine hh.mono ?_); rintro e y ⟨⟨r3, rfl, hq⟩, hb⟩; have hs := hs.trans (hb.mono hs.size); have hr3 := hq.fit HF.out.1.2.1; clear ht; have hz := RowKit.Below.refl y.heap.size y; obtain ⟨Ar3, nr3, cr3, rfl, hr3⟩ := hr3; (try (have hz := hz.trans (hb.mono hz.size))); clear c0 c1 f0 f1; obtain ⟨c0, c1, f0, f1⟩ := HS.out y hs; try go_wp2_with fail)
            | (go_simp; go_at_call 79; have hh := mul_any hi' q (B nn).2 kn _ (HN.out _ hs).2.1 hnum; (with_reducible refine hh.mono ?_); rintro e y ⟨⟨t, rfl, hq⟩, hb⟩; have hs := hs.trans (hb.mono hs.size); have ht := hq.fit HF.out.2.1; clear hnum; (try (have hz := hz.trans (hb.mono hz.size))); clear c0 c1 f0 f1; obtain ⟨c0, c1, f0, f1⟩ := HS.out y hs; try go_wp2_with fail)
            | (go_simp; go_at_call 78; have hh := add_any v2 t (sumB B (l.take i)).1.2 ((B nn).2 * kn) _ (HN.out _ hs).2.2.2 ht; (with_reducible refine hh.mono ?_); rintro e y ⟨⟨r6, rfl, hq⟩, hb⟩; have hs := hs.trans (hb.mono hs.size); have hr6 := hq.fit HF.out.2.2.2.1; clear ht; obtain ⟨Ar6, nr6, cr6, rfl, hr6⟩ := hr6; (try (have hz := hz.trans (hb.mono hz.size))); clear c0 c1 f0 f1; obtain ⟨c0, c1, f0, f1⟩ := HS.out y hs; try go_wp2_with fail)
            | fail)
        all_goals (
          have HFIN : Sl _ := ⟨sums_end_up HALL.out.1 HALL.out.2.1 HALL.out.2.2.1 HALL.out.2.2.2.2 hs (Num.below ⟨_, _, _, rfl, hr3⟩ hz) ⟨_, _, _, rfl, hr6⟩ HX.out.1⟩
          clear hs hz hr3 hr6 hq hb HF HN HS HALL
          go_wp2_with fail
          exact ⟨⟨i + 1, .slice Ar3 nr3 cr3, .slice Ar6 nr6 cr6, v3, v4, hin, by go_num, HFIN⟩, by simp [RowKit.intOf]; omega⟩)
      · obtain ⟨kn, hkn0⟩ : ∃ kn : Nat, kk = -(kn : Int) := ⟨kk.natAbs, by omega⟩
        subst hkn0
        have hk0 : 0 < kn := by omega
        have hkl : kn ≤ 1152921504606846976 := by have := HX.out.2.2.2.2; omega
        clear hk
        go_wp2_with fail
        go_quiet (fail)
        go_wp2_with fail
        generalize hg : w2.drewN nq = w3 at *
        have P3 : Blk w3 (w.heap.size + 1) 95 #[v3, v4] := by rw [← hg]; exact HLH.out.2.2.2.1
        have O3 : Blk w3 w.heap.size 95 #[v1, v2] := by rw [← hg]; exact HLH.out.2.2.1
        have F3 : FourNum w3 (sumB B (l.take i)) v1 v2 v3 v4 := by rw [← hg]; exact ⟨HLH.out.2.2.2.2.1.a.drewN _, HLH.out.2.2.2.2.1.b.drewN _, HLH.out.2.2.2.2.1.c.drewN _, HLH.out.2.2.2.2.1.d.drewN _⟩
        have L3 : Num w3 lo (B nn).1 ∧ Num w3 hi' (B nn).2 := by rw [← hg]; exact ⟨HLH.out.1.drewN _, HLH.out.2.1.drewN _⟩
        have B3 : RowKit.Below w.heap.size w w3 := by rw [← hg]; exact below_drewN HLH.out.2.2.2.2.2.1 _
        have HALL : Sl _ := ⟨And.intro P3 (And.intro O3 (And.intro F3 (And.intro L3 B3)))⟩
        clear hg P3 O3 F3 L3 B3 x0 x1 HLH
        have HS : Sl (∀ w' : World, RowKit.Below w3.heap.size w3 w' → w'.cell? ⟨w.heap.size + 1, 0, none⟩ = some v3 ∧ w'.cell? ⟨w.heap.size + 1, 1, none⟩ = some v4 ∧ w'.frozen? ⟨w.heap.size + 1, 0, none⟩ = false ∧ w'.frozen? ⟨w.heap.size + 1, 1, none⟩ = false) := ⟨fun w' h => by
          have e := HALL.out.1.below h HALL.out.1.lt
          exact ⟨e.cell 0, e.cell 1, e.frozen 0, e.frozen 1⟩⟩
        have HN : Sl (∀ w' : World, RowKit.Below w3.heap.size w3 w' → Num w' lo (B nn).1 ∧ Num w' hi' (B nn).2 ∧ Num w' v3 (sumB B (l.take i)).2.1 ∧ Num w' v4 (sumB B (l.take i)).2.2) := ⟨fun w' h => ⟨HALL.out.2.2.2.1.1.below h, HALL.out.2.2.2.1.2.below h, (HALL.out.2.2.1.below h).c, (HALL.out.2.2.1.below h).d⟩⟩
        have hf1 := HK.out.fit hP (by rw [HL.out.1]; exact hn) i (b := (B nn).1) (k := kn) HX.out.2.2.1 hkl
        have hf2 := HK.out.fit hP (by rw [HL.out.1]; exact hn) i (b := (B nn).2) (k := kn) HX.out.2.2.2.1 hkl
        have HF : Sl _ := ⟨And.intro hf1 hf2⟩
        have hkb : (kn : Int) ≤ 9223372036854775807 := by omega
        clear hf1 hf2
        have hs : RowKit.Below w3.heap.size w3 w3.drew := below_drewN (Below.refl _ _) 1
        obtain ⟨c0, c1, f0, f1⟩ := HS.out w3.drew hs
        go_region_law (first
            | (go_simp; go_at_call 80; have hh := fun W : World => number_any kn W hkb; (with_reducible refine (hh _).mono ?_); rintro e y ⟨⟨q, rfl, hq⟩, hb⟩; have hs := hs.trans (hb.mono hs.size); have hnum := hq; (try (have hz := hz.trans (hb.mono hz.size))); clear c0 c1 f0 f1; obtain ⟨c0, c1, f0, f1⟩ := HS.out y hs; try go_wp2_with fail)
            | (go_simp; go_at_call 79; have hh := mul_any lo q (B nn).1 kn _ (HN.out _ hs).1 hnum; (with_reducible refine hh.mono ?_); rintro e y ⟨⟨t, rfl, hq⟩, hb⟩; have hs := hs.trans (hb.mono hs.size); have ht := hq.fit HF.out.1.1; clear hnum; (try (have hz := hz.trans (hb.mono hz.size))); clear c0 c1 f0 f1; obtain ⟨c0, c1, f0, f1⟩ := HS.out y hs; try go_wp2_with fail)
            | (go_simp; go_at_call 78; have hh := add_any v3 t (sumB B (l.take i)).2.1 ((B nn).1 * kn) _ (HN.out _ hs).2.2.1 ht; (with_reducible refine hh.mono ?_); rintro e y ⟨⟨r3, rfl, hq⟩, hb⟩; have hs := hs.trans (hb.mono hs.size); have hr3 := hq.fit HF.out.1.2.2.2.1; clear ht; have hz := RowKit.Below.refl y.heap.size y; obtain ⟨Ar3, nr3, cr3, rfl, hr3⟩ := hr3; (try (have hz := hz.trans (hb.mono hz.size))); clear c0 c1 f0 f1; obtain ⟨c0, c1, f0, f1⟩ := HS.out y hs; try go_wp2_with fail)
            | (go_simp; go_at_call 79; have hh := mul_any hi' q (B nn).2 kn _ (HN.out _ hs).2.1 hnum; (with_reducible refine hh.mono ?_); rintro e y ⟨⟨t, rfl, hq⟩, hb⟩; have hs := hs.trans (hb.mono hs.size); have ht := hq.fit HF.out.2.1; clear hnum; (try (have hz := hz.trans (hb.mono hz.size))); clear c0 c1 f0 f1; obtain ⟨c0, c1, f0, f1⟩ := HS.out y hs; try go_wp2_with fail)
            | (go_simp; go_at_call 78; have hh := add_any v4 t (sumB B (l.take i)).2.2 ((B nn).2 * kn) _ (HN.out _ hs).2.2.2 ht; (with_reducible refine hh.mono ?_); rintro e y ⟨⟨r6, rfl, hq⟩, hb⟩; have hs := hs.trans (hb.mono hs.size); have hr6 := hq.fit HF.out.2.2.2.2.2; clear ht; obtain ⟨Ar6, nr6, cr6, rfl, hr6⟩ := hr6; (try (have hz := hz.trans (hb.mono hz.size))); clear c0 c1 f0 f1; obtain ⟨c0, c1, f0, f1⟩ := HS.out y hs; try go_wp2_with fail)
            | fail)
        all_goals (
          have HFIN : Sl _ := ⟨sums_end_down HALL.out.1 HALL.out.2.1 HALL.out.2.2.1 HALL.out.2.2.2.2 hs (Num.below ⟨_, _, _, rfl, hr3⟩ hz) ⟨_, _, _, rfl, hr6⟩ HX.out.1 hk0⟩
          clear hs hz hr3 hr6 hq hb HF HN HS HALL
          go_wp2_with fail
          exact ⟨⟨i + 1, v1, v2, .slice Ar3 nr3 cr3, .slice Ar6 nr6 cr6, hin, by go_num, HFIN⟩, by simp [RowKit.intOf]; omega⟩)
    · obtain rfl : i = n := by omega
      rw [List.take_of_length_le (by rw [HL.out.1]; exact Nat.le_refl _)] at HR
      obtain ⟨A1, n1, c1, rfl⟩ := HR.out.2.2.2.a.slice
      obtain ⟨A2, n2, c2, rfl⟩ := HR.out.2.2.2.b.slice
      obtain ⟨A3, n3, c3, rfl⟩ := HR.out.2.2.2.c.slice
      obtain ⟨A4, n4, c4, rfl⟩ := HR.out.2.2.2.d.slice
      have p0 := HR.out.2.1.cell 0
      have p1 := HR.out.2.1.cell 1
      have q0 := HR.out.2.2.1.cell 0
      have q1 := HR.out.2.2.1.cell 1
      simp at p0 p1 q0 q1
      have p2 := HR.out.2.1.frozen 0
      have p3 := HR.out.2.1.frozen 1
      have q2 := HR.out.2.2.1.frozen 0
      have q3 := HR.out.2.2.1.frozen 1
      go_wp2_with fail
      have hP1 := HR.out.2.1.set_ 0 (.slice A1 n1 c1)
      have hP2 := hP1.set_ 1 (.slice A2 n2 c2)
      have hne : w.heap.size ≠ w.heap.size + 1 := by omega
      have hne2 : w.heap.size + 1 ≠ w.heap.size := by omega
      have hQ0 := (HR.out.2.2.1.far (p := ⟨w.heap.size, 0, none⟩) hne2 (.slice A1 n1 c1)).far (p := ⟨w.heap.size, 1, none⟩) hne2 (.slice A2 n2 c2)
      have hQ1 := hQ0.set_ 0 (.slice A3 n3 c3)
      have hQ2 := hQ1.set_ 1 (.slice A4 n4 c4)
      have hP4 := (hP2.far (p := ⟨w.heap.size + 1, 0, none⟩) hne (.slice A3 n3 c3)).far (p := ⟨w.heap.size + 1, 1, none⟩) hne (.slice A4 n4 c4)
      have hb1 := pair_not_int _ _ ⟨A1, n1, c1, rfl⟩ ⟨A2, n2, c2, rfl⟩
      have hb2 := pair_not_int _ _ ⟨A3, n3, c3, rfl⟩ ⟨A4, n4, c4, rfl⟩
      have hset : ∀ {v : Value} {a : Nat}, Num wr v a → Num ((((wr.setCell ⟨w.heap.size, 0, none⟩ (.slice A1 n1 c1)).setCell ⟨w.heap.size, 1, none⟩ (.slice A2 n2 c2)).setCell ⟨w.heap.size + 1, 0, none⟩ (.slice A3 n3 c3)).setCell ⟨w.heap.size + 1, 1, none⟩ (.slice A4 n4 c4)) v a := fun h => (((h.set HR.out.2.1 hb1 0 _).set hP1 hb1 1 _).set hQ0 hb2 0 _).set hQ1 hb2 1 _
      have hB4 := (((HR.out.1.setCell (p := ⟨w.heap.size, 0, none⟩) (Nat.le_refl _) (.slice A1 n1 c1)).setCell (p := ⟨w.heap.size, 1, none⟩) (Nat.le_refl _) (.slice A2 n2 c2)).setCell (p := ⟨w.heap.size + 1, 0, none⟩) (Nat.le_succ _) (.slice A3 n3 c3)).setCell (p := ⟨w.heap.size + 1, 1, none⟩) (Nat.le_succ _) (.slice A4 n4 c4)
      refine bodyPost_ret (results_cells2 rfl _ _ w.heap.size (w.heap.size + 1) _ _ _ _ _ rfl rfl hP4 hQ2 Tryz.underlying95 rfl (by kernel_rfl) (by kernel_rfl)) rfl ?_
      exact ⟨⟨_, _, _, _, rfl, hset HR.out.2.2.2.a, hset HR.out.2.2.2.b, hset HR.out.2.2.2.c, hset HR.out.2.2.2.d⟩, hB4⟩
end Go.Proofs.YtalodfjplegibaaGreatDoor
