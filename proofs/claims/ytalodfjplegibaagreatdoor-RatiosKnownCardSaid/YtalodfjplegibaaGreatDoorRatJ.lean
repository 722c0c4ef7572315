/- Package ratios: Of. -/
import Derived.Test.YtalodfjplegibaaGreatDoorRatI
import Derived.Test.YtalodfjplegibaaGreatDoorMixE
import Derived.Laws.ResultCell
import Derived.Laws.Tables
namespace Go.Proofs.YtalodfjplegibaaGreatDoor
set_option linter.unusedSimpArgs false
open Go.RowKit
set_option linter.unusedVariables false

def RV.of (f : Nat → Int) (d : Int) : RV := ⟨f 0, f 1, f 2, f 3, f 4, f 5, d⟩
theorem RV.of_congr {f g : Nat → Int} (d : Int) (h : ∀ j, j < 6 → f j = g j) : RV.of f d = RV.of g d := by
  unfold RV.of
  rw [h 0 (by decide), h 1 (by decide), h 2 (by decide), h 3 (by decide), h 4 (by decide), h 5 (by decide)]
theorem RV.of_set (f : Nat → Int) (d z : Int) {i : Nat} (hi : i < 6) : (RV.of f d).cells.setIfInBounds i (.int .i64 z) = (RV.of (fun j => if j = i then z else f j) d).cells := by
  have h6 : i = 0 ∨ i = 1 ∨ i = 2 ∨ i = 3 ∨ i = 4 ∨ i = 5 := by omega
  rcases h6 with rfl | rfl | rfl | rfl | rfl | rfl <;> rfl
theorem RV.of_cell (f : Nat → Int) (d : Int) {i : Nat} (hi : i < 6) : (RV.of f d).cells[i]? = some (.int .i64 (f i)) := by
  have h6 : i = 0 ∨ i = 1 ∨ i = 2 ∨ i = 3 ∨ i = 4 ∨ i = 5 := by omega
  rcases h6 with rfl | rfl | rfl | rfl | rfl | rfl <;> rfl
theorem RV.of_num (f : Nat → Int) (d : Int) {i : Nat} (hi : i < 6) : (RV.of f d).num i = f i := by
  have h6 : i = 0 ∨ i = 1 ∨ i = 2 ∨ i = 3 ∨ i = 4 ∨ i = 5 := by omega
  rcases h6 with rfl | rfl | rfl | rfl | rfl | rfl <;> rfl
/-- a number without the first primes -/
noncomputable def stripN (x : Nat) : Nat → Nat
  | 0 => x
  | i+1 => stripN x i / prime i ^ vb (prime i) (stripN x i)
/-- how often a prime divides what is left -/
noncomputable def ex (x i : Nat) : Nat := vb (prime i) (stripN x i)
theorem prime_two {i : Nat} (hi : i < 6) : 2 ≤ prime i ∧ prime i ≤ 13 := by
  have h6 : i = 0 ∨ i = 1 ∨ i = 2 ∨ i = 3 ∨ i = 4 ∨ i = 5 := by omega
  rcases h6 with rfl | rfl | rfl | rfl | rfl | rfl <;> decide
theorem vb_dvd {b : Nat} (hb : 2 ≤ b) : ∀ n, 0 < n → b ^ vb b n ∣ n ∧ vb b (n / b ^ vb b n) = 0 := by
  intro n
  induction n using Nat.strongRecOn with
  | _ n ih =>
    intro hn
    rw [vb_div hb hn]
    by_cases h : n % b = 0
    · rw [if_pos h]
      obtain ⟨c, rfl⟩ := Nat.dvd_of_mod_eq_zero h
      have hc : 0 < c := Nat.pos_of_ne_zero fun h0 => by subst h0; simp at hn
      have hlt : c < b * c := by have := Nat.mul_le_mul_right c hb; omega
      obtain ⟨h1, h2⟩ := ih c hlt hc
      rw [Nat.mul_div_cancel_left _ (by omega)]
      refine ⟨?_, ?_⟩
      · rw [Nat.pow_succ, Nat.mul_comm]; exact Nat.mul_dvd_mul_left b h1
      · rw [Nat.pow_succ, Nat.mul_comm (b ^ vb b c) b, Nat.mul_div_mul_left _ _ (by omega : 0 < b)]; exact h2
    · rw [if_neg h, Nat.pow_zero, Nat.div_one]
      refine ⟨Nat.one_dvd _, ?_⟩
      rw [vb_div hb hn, if_neg h]
theorem stripN_pos {x : Nat} (hx : 0 < x) : ∀ {i : Nat}, i ≤ 6 → 0 < stripN x i ∧ stripN x i ≤ x
  | 0, _ => ⟨hx, Nat.le_refl _⟩
  | i+1, hi => by
    obtain ⟨h1, h2⟩ := stripN_pos hx (i := i) (by omega)
    have hp := prime_two (i := i) (by omega)
    rw [stripN]
    have hd := (vb_dvd hp.1 _ h1).1
    exact ⟨Nat.div_pos (Nat.le_of_dvd h1 hd) (Nat.pow_pos (by omega)), Nat.le_trans (Nat.div_le_self _ _) h2⟩
def okN (x : Int) : Prop := 1 ≤ x ∧ x ≤ 1000000000000
/-- the ratio of two whole numbers, as far as the first primes -/
noncomputable def ofF (x y i : Nat) (j : Nat) : Int := if j < i then (ex x j : Int) - ex y j else 0
def RVzero : RV := ⟨0, 0, 0, 0, 0, 0, 0⟩
open Classical in
/-- what Of returns -/
noncomputable def ofS (a b : Int) : RV × Int :=
  if okN a ∧ okN b then (if stripN a.natAbs 6 = stripN b.natAbs 6 then (RV.of (ofF a.natAbs b.natAbs 6) 1, 0) else (RVzero, 7)) else (RVzero, 2)
def OfRes (e : Ending) (s : RV × Int) : Prop := e = .returned (.tuple #[.agg s.1.cells, .int .i64 s.2])
theorem RVzero_cells : RVzero.cells = #[.int .i64 0, .int .i64 0, .int .i64 0, .int .i64 0, .int .i64 0, .int .i64 0, .int .i64 0] := rfl
theorem Blk.seven {w : World} {g : Nat} {t : TypeId} {x0 x1 x2 x3 x4 x5 x6 : Value} (h : Blk w g t #[x0, x1, x2, x3, x4, x5, x6]) (y0 y1 y2 y3 y4 y5 y6 : Value) :
    Blk (((((((w.setCell ⟨g, 0, none⟩ y0).setCell ⟨g, 1, none⟩ y1).setCell ⟨g, 2, none⟩ y2).setCell ⟨g, 3, none⟩ y3).setCell ⟨g, 4, none⟩ y4).setCell ⟨g, 5, none⟩ y5).setCell ⟨g, 6, none⟩ y6) g t #[y0, y1, y2, y3, y4, y5, y6] := by
  have h1 : Blk (w.setCell ⟨g, 0, none⟩ y0) g t #[y0, x1, x2, x3, x4, x5, x6] := h.set_ 0 y0
  have h2 : Blk ((w.setCell ⟨g, 0, none⟩ y0).setCell ⟨g, 1, none⟩ y1) g t #[y0, y1, x2, x3, x4, x5, x6] := h1.set_ 1 y1
  have h3 : Blk (((w.setCell ⟨g, 0, none⟩ y0).setCell ⟨g, 1, none⟩ y1).setCell ⟨g, 2, none⟩ y2) g t #[y0, y1, y2, x3, x4, x5, x6] := h2.set_ 2 y2
  have h4 : Blk ((((w.setCell ⟨g, 0, none⟩ y0).setCell ⟨g, 1, none⟩ y1).setCell ⟨g, 2, none⟩ y2).setCell ⟨g, 3, none⟩ y3) g t #[y0, y1, y2, y3, x4, x5, x6] := h3.set_ 3 y3
  have h5 : Blk (((((w.setCell ⟨g, 0, none⟩ y0).setCell ⟨g, 1, none⟩ y1).setCell ⟨g, 2, none⟩ y2).setCell ⟨g, 3, none⟩ y3).setCell ⟨g, 4, none⟩ y4) g t #[y0, y1, y2, y3, y4, x5, x6] := h4.set_ 4 y4
  have h6 : Blk ((((((w.setCell ⟨g, 0, none⟩ y0).setCell ⟨g, 1, none⟩ y1).setCell ⟨g, 2, none⟩ y2).setCell ⟨g, 3, none⟩ y3).setCell ⟨g, 4, none⟩ y4).setCell ⟨g, 5, none⟩ y5) g t #[y0, y1, y2, y3, y4, y5, x6] := h5.set_ 5 y5
  have h7 : Blk (((((((w.setCell ⟨g, 0, none⟩ y0).setCell ⟨g, 1, none⟩ y1).setCell ⟨g, 2, none⟩ y2).setCell ⟨g, 3, none⟩ y3).setCell ⟨g, 4, none⟩ y4).setCell ⟨g, 5, none⟩ y5).setCell ⟨g, 6, none⟩ y6) g t #[y0, y1, y2, y3, y4, y5, y6] := h6.set_ 6 y6
  exact h7
theorem below_seven {a w : World} {B g : Nat} (h : Below B a w) (hg : B ≤ g) (y0 y1 y2 y3 y4 y5 y6 : Value) : Below B a (((((((w.setCell ⟨g, 0, none⟩ y0).setCell ⟨g, 1, none⟩ y1).setCell ⟨g, 2, none⟩ y2).setCell ⟨g, 3, none⟩ y3).setCell ⟨g, 4, none⟩ y4).setCell ⟨g, 5, none⟩ y5).setCell ⟨g, 6, none⟩ y6) :=
  ((((((h.setCell (p := ⟨g, 0, none⟩) hg y0).setCell (p := ⟨g, 1, none⟩) hg y1).setCell (p := ⟨g, 2, none⟩) hg y2).setCell (p := ⟨g, 3, none⟩) hg y3).setCell (p := ⟨g, 4, none⟩) hg y4).setCell (p := ⟨g, 5, none⟩) hg y5).setCell (p := ⟨g, 6, none⟩) hg y6
theorem results_rowR {P : Program} {fn : Func} {p u : Tmp} {ty : TypeId} (h : fn.results = #[.cell p ty, .tmp u]) (tmps : Array Value) (w : World) (g : Nat) (t : TypeId) (cs : Array Value) (d : TypeDesc)
    (hp : tmps.getD p undef = .pointer (some ⟨g, 0, none⟩)) (hg : Blk w g t cs)
    (hu : P.underlying ty = some d) (hd : (match d with | .struct _ | .array _ _ => true | _ => false) = true) (hi : (P.info? ty).map (·.size) = some cs.size) :
    (results fn tmps).run P w = .ok (.tuple #[.agg cs, tmps.getD u undef]) w := by
  rw [results_cell_tmp h, hp]
  simp [asAddr, run_loadVar_row w g t ty cs (0, 0) d hg hu hd hi, Result.andThen]
theorem idxP_0 (W : World) : (Instr.index 67 (.agg #[.int .i64 2, .int .i64 3, .int .i64 5, .int .i64 7, .int .i64 11, .int .i64 13]) (.int .i64 0)).run Tryz.prog W = .ok (.int .i64 2) W := by kernel_rfl
theorem idxP_1 (W : World) : (Instr.index 67 (.agg #[.int .i64 2, .int .i64 3, .int .i64 5, .int .i64 7, .int .i64 11, .int .i64 13]) (.int .i64 1)).run Tryz.prog W = .ok (.int .i64 3) W := by kernel_rfl
theorem idxP_2 (W : World) : (Instr.index 67 (.agg #[.int .i64 2, .int .i64 3, .int .i64 5, .int .i64 7, .int .i64 11, .int .i64 13]) (.int .i64 2)).run Tryz.prog W = .ok (.int .i64 5) W := by kernel_rfl
theorem idxP_3 (W : World) : (Instr.index 67 (.agg #[.int .i64 2, .int .i64 3, .int .i64 5, .int .i64 7, .int .i64 11, .int .i64 13]) (.int .i64 3)).run Tryz.prog W = .ok (.int .i64 7) W := by kernel_rfl
theorem idxP_4 (W : World) : (Instr.index 67 (.agg #[.int .i64 2, .int .i64 3, .int .i64 5, .int .i64 7, .int .i64 11, .int .i64 13]) (.int .i64 4)).run Tryz.prog W = .ok (.int .i64 11) W := by kernel_rfl
theorem idxP_5 (W : World) : (Instr.index 67 (.agg #[.int .i64 2, .int .i64 3, .int .i64 5, .int .i64 7, .int .i64 11, .int .i64 13]) (.int .i64 5)).run Tryz.prog W = .ok (.int .i64 13) W := by kernel_rfl
theorem idxP (W : World) (i : Nat) (hi : i < 6) : (Instr.index 67 (.agg #[.int .i64 2, .int .i64 3, .int .i64 5, .int .i64 7, .int .i64 11, .int .i64 13]) (.int .i64 (i : Int))).run Tryz.prog W = .ok (.int .i64 (prime i : Nat)) W := by
  have h : i = 0 ∨ i = 1 ∨ i = 2 ∨ i = 3 ∨ i = 4 ∨ i = 5 := by omega
  rcases h with rfl | rfl | rfl | rfl | rfl | rfl
  · exact idxP_0 W
  · exact idxP_1 W
  · exact idxP_2 W
  · exact idxP_3 W
  · exact idxP_4 W
  · exact idxP_5 W
set_option maxHeartbeats 6400000 in
set_option maxRecDepth 100000 in
theorem Of_good (x y : Nat) (w : World) (hx0 : 0 < x) (hx1 : x ≤ 1000000000000) (hy0 : 0 < y) (hy1 : y ≤ 1000000000000) (hT : PrT w) (s : RV × Int) (hs : (if stripN x 6 = stripN y 6 then (RV.of (ofF x y 6) 1, (0 : Int)) else (RVzero, 7)) = s) :
    Calls Tryz.prog 13 #[.int .i64 x, .int .i64 y] w fun e w' => OfRes e s ∧ Below w.heap.size w w' := by
  have HSS : Sl _ := ⟨hs⟩
  clear hs
  have hu := ((Below.refl w.heap.size w).alloc (Nat.le_refl _) (.cells RVzero.cells 24)).alloc (by simp) (.cells (RV.of (ofF x y 0) 1).cells 24)
  have X4 := (Blk.new w 24 RVzero.cells).alloc (.cells (RV.of (ofF x y 0) 1).cells 24)
  have X6 := Blk.new (w.alloc (.cells RVzero.cells 24)) 24 (RV.of (ofF x y 0) 1).cells
  rw [show (w.alloc (.cells RVzero.cells 24)).heap.size = w.heap.size + 1 by simp] at X6
  have e0 : (RV.of (ofF x y 0) 1).cells = #[.int .i64 0, .int .i64 0, .int .i64 0, .int .i64 0, .int .i64 0, .int .i64 0, .int .i64 1] := by
    unfold RV.of RV.cells ofF; simp
  have HU : Sl _ := ⟨And.intro hu (And.intro X4 X6)⟩
  rw [e0, RVzero_cells] at HU
  have E0 : Sl _ := ⟨e0⟩
  clear hu X4 X6 e0
  have HT : Sl _ := ⟨hT⟩
  have hT2 := hT.below HU.out.1
  have q0 := hT2.cell (i := 0) (by decide)
  have q1 := hT2.cell (i := 1) (by decide)
  have q2 := hT2.cell (i := 2) (by decide)
  have q3 := hT2.cell (i := 3) (by decide)
  have q4 := hT2.cell (i := 4) (by decide)
  have q5 := hT2.cell (i := 5) (by decide)
  simp [prime] at q0 q1 q2 q3 q4 q5
  clear hT2
  have HXY : Sl _ := ⟨And.intro hx0 (And.intro hx1 (And.intro hy0 hy1))⟩
  clear hT
  go_enter Tryz.func13, Tryz.ntmps13
  go_wp2_with fail
  clear q0 q1 q2 q3 q4 q5
  generalize (w.alloc (.cells #[.int .i64 0, .int .i64 0, .int .i64 0, .int .i64 0, .int .i64 0, .int .i64 0, .int .i64 0] 24)).alloc (.cells #[.int .i64 0, .int .i64 0, .int .i64 0, .int .i64 0, .int .i64 0, .int .i64 0, .int .i64 1] 24) = w0 at *
  have hidx : ∀ (W : World) (i : Nat), i < 6 → (Instr.index 67 (.agg #[.int .i64 2, .int .i64 3, .int .i64 5, .int .i64 7, .int .i64 11, .int .i64 13]) (.int .i64 (i : Int))).run Tryz.prog W = .ok (.int .i64 (prime i : Nat)) W := idxP
  go_loopw [0, 1, 26] (fun s0 s1 s26 wr => ∃ (i a b : Nat), i ≤ 6 ∧ s0 = .int .i64 a ∧ s1 = .int .i64 b ∧ s26 = .int .i64 i ∧ Sl (Below w.heap.size w wr ∧ Blk wr w.heap.size 24 RVzero.cells ∧ Blk wr (w.heap.size + 1) 24 (RV.of (ofF x y i) 1).cells ∧ a = stripN x i ∧ b = stripN y i)) (fun _ _ s26 _ => 6 - (RowKit.intOf s26).toNat)
  case atStart => exact ⟨0, x, y, by decide, rfl, rfl, rfl, ⟨HU.out.1, HU.out.2.1, by rw [E0.out]; exact HU.out.2.2, rfl, rfl⟩⟩
  case round =>
    clear HU E0
    obtain ⟨i, a, b, hi, rfl, rfl, rfl, HR⟩ := hrel
    have ha := stripN_pos HXY.out.1 hi
    have hb := stripN_pos HXY.out.2.2.1 hi
    rw [← HR.out.2.2.2.1] at ha
    rw [← HR.out.2.2.2.2] at hb
    have ha1 : a ≤ 1000000000000 := Nat.le_trans ha.2 HXY.out.2.1
    have hb1 : b ≤ 1000000000000 := Nat.le_trans hb.2 HXY.out.2.2.2
    by_cases hi6 : i < 6
    · have hix := fun W : World => hidx W i hi6
      obtain ⟨p, hp⟩ : ∃ p, prime i = p := ⟨_, rfl⟩
      rw [hp] at hix
      have hp2 := prime_two hi6
      rw [hp] at hp2
      have HP : Sl _ := ⟨hp⟩
      have ha0 := ha.1
      have hb0 := hb.1
      clear hidx ha hb hp
      go_wp2_with fail
      go_loopw [0] (fun s0 wq => ∃ (c t : Nat), 0 < c ∧ c ≤ 1000000000000 ∧ s0 = .int .i64 c ∧ Sl (Below w.heap.size w wq ∧ Blk wq w.heap.size 24 RVzero.cells ∧ Blk wq (w.heap.size + 1) 24 (RV.of (fun j => if j = i then (t : Int) else ofF x y i j) 1).cells ∧ c * p ^ t = a ∧ t + vb p c = vb p a)) (fun s0 _ => (RowKit.intOf s0).toNat)
      case atStart => exact ⟨a, 0, ha0, ha1, rfl, ⟨HR.out.1, HR.out.2.1, by rw [← RV.of_congr 1 (fun j hj => (?_ : ofF x y i j = if j = i then ((0 : Nat) : Int) else ofF x y i j))]; exact HR.out.2.2.1; by_cases h : j = i; (subst h; rw [if_pos rfl]; unfold ofF; rw [if_neg (Nat.lt_irrefl _)]; rfl); rw [if_neg h], by rw [Nat.pow_zero, Nat.mul_one], by omega⟩⟩
      case round =>
        obtain ⟨c, t, hc0, hc1, rfl, HI⟩ := hrel
        have hvl : vb p a ≤ 40 := vb_le hp2.1 ha0 ha1
        have htl : t ≤ 40 := by have := HI.out.2.2.2.2; omega
        have hvd := vb_div hp2.1 hc0
        have hcell : wr.cell? ⟨w.heap.size + 1, i, none⟩ = some (.int .i64 (t : Int)) := by
          rw [HI.out.2.2.1.cell, RV.of_cell _ _ hi6, if_pos rfl]
        have hfz : wr.frozen? ⟨w.heap.size + 1, i, none⟩ = false := HI.out.2.2.1.frozen i
        have hmod : (c : Int).tmod (p : Int) = ((c % p : Nat) : Int) := by rw [Int.tmod_eq_emod_of_nonneg (by omega)]; omega
        have hpz : ¬ (p = 0) := by omega
        by_cases hm : c % p = 0
        · rw [if_pos hm] at hvd
          rw [hm] at hmod
          have hdiv : (c : Int).tdiv (p : Int) = ((c / p : Nat) : Int) := by rw [Int.tdiv_eq_ediv_of_nonneg (by omega)]; rfl
          have hq0 : 0 < c / p := Nat.div_pos (Nat.le_of_dvd hc0 (Nat.dvd_of_mod_eq_zero hm)) (by omega)
          have hq1 : c / p < c := Nat.div_lt_self hc0 (by omega)
          have hcp : c / p * p = c := Nat.div_mul_cancel (Nat.dvd_of_mod_eq_zero hm)
          have hP5 := HI.out.2.2.1.set_ i (.int .i64 ((t : Int) + 1))
          rw [RV.of_set _ _ _ hi6, RV.of_congr 1 (fun j hj => (?_ : _ = if j = i then (((t + 1 : Nat) : Int)) else ofF x y i j))] at hP5
          rotate_left
          · by_cases h : j = i
            · rw [if_pos h, if_pos h]; omega
            · rw [if_neg h, if_neg h, if_neg h]
          have hne : w.heap.size ≠ w.heap.size + 1 := by omega
          have HN : Sl _ := ⟨And.intro (HI.out.1.setCell (p := ⟨w.heap.size + 1, i, none⟩) (Nat.le_succ _) (.int .i64 ((t : Int) + 1))) (And.intro (HI.out.2.1.far (p := ⟨w.heap.size + 1, i, none⟩) hne (.int .i64 ((t : Int) + 1))) (And.intro hP5 (And.intro (show c / p * p ^ (t + 1) = a by rw [Nat.pow_succ, Nat.mul_comm (p ^ t), ← Nat.mul_assoc, hcp]; exact HI.out.2.2.2.1) (show t + 1 + vb p (c / p) = vb p a by have := HI.out.2.2.2.2; omega))))⟩
          clear hvd hm hcp hP5 hne
          generalize c / p = q at *
          go_wp2_with fail
          exact ⟨⟨q, t + 1, hq0, by omega, rfl, HN⟩, by simp [RowKit.intOf]; omega⟩
        · rw [if_neg hm] at hvd
          have hbq : ((c % p : Nat) : Int) ≠ 0 := by omega
          have hbz : (((c % p : Nat) : Int) == 0) = false := by rw [beq_eq_false_iff_ne]; exact hbq
          have HV : Sl _ := ⟨hvd⟩
          clear hvd hm
          generalize c % p = q at *
          go_wp2_with fail
          have hta : t = vb p a := by have := HI.out.2.2.2.2; rw [HV.out] at this; omega
          have hca : c = a / p ^ vb p a := (Nat.div_eq_of_eq_mul_left (Nat.pow_pos (by omega)) (by rw [← hta]; exact HI.out.2.2.2.1.symm)).symm
          obtain ⟨ea, hea⟩ : ∃ ea, vb p a = ea := ⟨_, rfl⟩
          have HQ : Sl _ := ⟨And.intro HI.out.1 (And.intro HI.out.2.1 (show Blk wr (w.heap.size + 1) 24 (RV.of (fun j => if j = i then (ea : Int) else ofF x y i j) 1).cells by rw [← hea, ← hta]; exact HI.out.2.2.1))⟩
          have HCA : Sl _ := ⟨And.intro hca hea⟩
          have hel : ea ≤ 40 := by omega
          clear hta hca hea hvl htl hcell hfz hmod hpz hbq hbz HV HI
          go_loopw [1] (fun s0 wq => ∃ (c t : Nat), 0 < c ∧ c ≤ 1000000000000 ∧ s0 = .int .i64 c ∧ Sl (Below w.heap.size w wq ∧ Blk wq w.heap.size 24 RVzero.cells ∧ Blk wq (w.heap.size + 1) 24 (RV.of (fun j => if j = i then ((ea : Int) - (t : Int)) else ofF x y i j) 1).cells ∧ c * p ^ t = b ∧ t + vb p c = vb p b)) (fun s0 _ => (RowKit.intOf s0).toNat)
          case atStart => exact ⟨b, 0, hb0, hb1, rfl, ⟨HQ.out.1, HQ.out.2.1, by rw [show ((ea : Int) - ((0 : Nat) : Int)) = (ea : Int) by omega]; exact HQ.out.2.2, by rw [Nat.pow_zero, Nat.mul_one], by omega⟩⟩
          case round =>
            obtain ⟨c, t, hc0, hc1, rfl, HI⟩ := hrel
            have hvl : vb p b ≤ 40 := vb_le hp2.1 hb0 hb1
            have htl : t ≤ 40 := by have := HI.out.2.2.2.2; omega
            have hvd := vb_div hp2.1 hc0
            have hcell : wr.cell? ⟨w.heap.size + 1, i, none⟩ = some (.int .i64 ((ea : Int) - (t : Int))) := by
              rw [HI.out.2.2.1.cell, RV.of_cell _ _ hi6, if_pos rfl]
            have hfz : wr.frozen? ⟨w.heap.size + 1, i, none⟩ = false := HI.out.2.2.1.frozen i
            have hmod : (c : Int).tmod (p : Int) = ((c % p : Nat) : Int) := by rw [Int.tmod_eq_emod_of_nonneg (by omega)]; omega
            have hpz : ¬ (p = 0) := by omega
            by_cases hm : c % p = 0
            · rw [if_pos hm] at hvd
              rw [hm] at hmod
              have hdiv : (c : Int).tdiv (p : Int) = ((c / p : Nat) : Int) := by rw [Int.tdiv_eq_ediv_of_nonneg (by omega)]; rfl
              have hq0 : 0 < c / p := Nat.div_pos (Nat.le_of_dvd hc0 (Nat.dvd_of_mod_eq_zero hm)) (by omega)
              have hq1 : c / p < c := Nat.div_lt_self hc0 (by omega)
              have hcp : c / p * p = c := Nat.div_mul_cancel (Nat.dvd_of_mod_eq_zero hm)
              have hP5 := HI.out.2.2.1.set_ i (.int .i64 ((ea : Int) - (t : Int) - 1))
              rw [RV.of_set _ _ _ hi6, RV.of_congr 1 (fun j hj => (?_ : _ = if j = i then ((ea : Int) - ((t + 1 : Nat) : Int)) else ofF x y i j))] at hP5
              rotate_left
              · by_cases h : j = i
                · rw [if_pos h, if_pos h]; omega
                · rw [if_neg h, if_neg h, if_neg h]
              have hne : w.heap.size ≠ w.heap.size + 1 := by omega
              have HN : Sl _ := ⟨And.intro (HI.out.1.setCell (p := ⟨w.heap.size + 1, i, none⟩) (Nat.le_succ _) (.int .i64 ((ea : Int) - (t : Int) - 1))) (And.intro (HI.out.2.1.far (p := ⟨w.heap.size + 1, i, none⟩) hne (.int .i64 ((ea : Int) - (t : Int) - 1))) (And.intro hP5 (And.intro (show c / p * p ^ (t + 1) = b by rw [Nat.pow_succ, Nat.mul_comm (p ^ t), ← Nat.mul_assoc, hcp]; exact HI.out.2.2.2.1) (show t + 1 + vb p (c / p) = vb p b by have := HI.out.2.2.2.2; omega))))⟩
              clear hvd hm hcp hP5 hne
              generalize c / p = q at *
              go_wp2_with fail
              exact ⟨⟨q, t + 1, hq0, by omega, rfl, HN⟩, by simp [RowKit.intOf]; omega⟩
            · rw [if_neg hm] at hvd
              have hbq : ((c % p : Nat) : Int) ≠ 0 := by omega
              have hbz : (((c % p : Nat) : Int) == 0) = false := by rw [beq_eq_false_iff_ne]; exact hbq
              have HV : Sl _ := ⟨hvd⟩
              clear hvd hm
              generalize c % p = q at *
              go_wp2_with fail
              have htb : t = vb p b := by have := HI.out.2.2.2.2; rw [HV.out] at this; omega
              have hcb : c = b / p ^ vb p b := (Nat.div_eq_of_eq_mul_left (Nat.pow_pos (by omega)) (by rw [← htb]; exact HI.out.2.2.2.1.symm)).symm
              have hF : RV.of (fun j => if j = i then (ea : Int) - (t : Int) else ofF x y i j) 1 = RV.of (ofF x y (i + 1)) 1 := by
                refine RV.of_congr 1 fun j hj => ?_
                unfold ofF
                by_cases h : j = i
                · rw [if_pos h, h, if_pos (Nat.lt_succ_self i)]
                  unfold ex
                  rw [HP.out, ← HR.out.2.2.2.1, ← HR.out.2.2.2.2, HCA.out.2, htb]
                · rw [if_neg h]
                  by_cases h2 : j < i
                  · rw [if_pos h2, if_pos (by omega)]
                  · rw [if_neg h2, if_neg (by omega)]
              refine ⟨⟨i + 1, _, c, hi6, rfl, rfl, by go_num, ⟨HI.out.1, HI.out.2.1, by rw [← hF]; exact HI.out.2.2.1, ?_, ?_⟩⟩, by simp [RowKit.intOf]; omega⟩
              · rw [stripN, HP.out, ← HR.out.2.2.2.1]; exact HCA.out.1
              · rw [stripN, HP.out, ← HR.out.2.2.2.2]; exact hcb
    · obtain rfl : i = 6 := by omega
      clear hidx hi6
      have d0 := HR.out.2.1.cell 0
      have d1 := HR.out.2.1.cell 1
      have d2 := HR.out.2.1.cell 2
      have d3 := HR.out.2.1.cell 3
      have d4 := HR.out.2.1.cell 4
      have d5 := HR.out.2.1.cell 5
      have d6 := HR.out.2.1.cell 6
      simp [RVzero_cells] at d0 d1 d2 d3 d4 d5 d6
      have f0 := HR.out.2.1.frozen 0
      have f1 := HR.out.2.1.frozen 1
      have f2 := HR.out.2.1.frozen 2
      have f3 := HR.out.2.1.frozen 3
      have f4 := HR.out.2.1.frozen 4
      have f5 := HR.out.2.1.frozen 5
      have f6 := HR.out.2.1.frozen 6
      have hB := HR.out.1
      by_cases hab : a = b
      · have hres : Sl (stripN x 6 = stripN y 6) := ⟨by rw [← HR.out.2.2.2.1, ← HR.out.2.2.2.2]; exact hab⟩
        subst hab
        have g0 : wr.cell? ⟨w.heap.size + 1, 0, none⟩ = some (.int .i64 (ofF x y 6 0)) := by rw [HR.out.2.2.1.cell, RV.of_cell _ _ (by decide)]
        have g1 : wr.cell? ⟨w.heap.size + 1, 1, none⟩ = some (.int .i64 (ofF x y 6 1)) := by rw [HR.out.2.2.1.cell, RV.of_cell _ _ (by decide)]
        have g2 : wr.cell? ⟨w.heap.size + 1, 2, none⟩ = some (.int .i64 (ofF x y 6 2)) := by rw [HR.out.2.2.1.cell, RV.of_cell _ _ (by decide)]
        have g3 : wr.cell? ⟨w.heap.size + 1, 3, none⟩ = some (.int .i64 (ofF x y 6 3)) := by rw [HR.out.2.2.1.cell, RV.of_cell _ _ (by decide)]
        have g4 : wr.cell? ⟨w.heap.size + 1, 4, none⟩ = some (.int .i64 (ofF x y 6 4)) := by rw [HR.out.2.2.1.cell, RV.of_cell _ _ (by decide)]
        have g5 : wr.cell? ⟨w.heap.size + 1, 5, none⟩ = some (.int .i64 (ofF x y 6 5)) := by rw [HR.out.2.2.1.cell, RV.of_cell _ _ (by decide)]
        have g6 : wr.cell? ⟨w.heap.size + 1, 6, none⟩ = some (.int .i64 1) := by rw [HR.out.2.2.1.cell]; rfl
        have HZR : Sl (s = (RV.of (ofF x y 6) 1, 0)) := ⟨by rw [← HSS.out]; exact if_pos hres.out⟩
        have hfin : OfRes (.returned (.tuple #[.agg #[.int .i64 (ofF x y 6 0), .int .i64 (ofF x y 6 1), .int .i64 (ofF x y 6 2), .int .i64 (ofF x y 6 3), .int .i64 (ofF x y 6 4), .int .i64 (ofF x y 6 5), .int .i64 1], .int .i64 0])) (RV.of (ofF x y 6) 1, 0) := rfl
        have HFIN : Sl _ := ⟨And.intro hfin (And.intro hB HR.out.2.1)⟩
        clear hres hfin hB HR
        generalize ofF x y 6 0 = z0 at g0 HFIN
        generalize ofF x y 6 1 = z1 at g1 HFIN
        generalize ofF x y 6 2 = z2 at g2 HFIN
        generalize ofF x y 6 3 = z3 at g3 HFIN
        generalize ofF x y 6 4 = z4 at g4 HFIN
        generalize ofF x y 6 5 = z5 at g5 HFIN
        rw [RVzero_cells] at HFIN
        go_wp2_with fail
        refine bodyPost_ret (results_rowR rfl _ _ w.heap.size _ _ _ rfl (HFIN.out.2.2.seven _ _ _ _ _ _ _) Tryz.underlying24 rfl (by kernel_rfl)) rfl ?_
        exact ⟨by rw [HZR.out]; exact HFIN.out.1, below_seven HFIN.out.2.1 (Nat.le_refl _) _ _ _ _ _ _ _⟩
      · have hres : Sl (¬ stripN x 6 = stripN y 6) := ⟨by rw [← HR.out.2.2.2.1, ← HR.out.2.2.2.2]; exact hab⟩
        have hnn : ((a : Int) == (b : Int)) = false := by rw [beq_eq_false_iff_ne]; omega
        have HZR : Sl (s = (RVzero, 7)) := ⟨by rw [← HSS.out]; exact if_neg hres.out⟩
        have HFIN : Sl _ := ⟨And.intro hB HR.out.2.1⟩
        clear hres hB HR hab
        rw [RVzero_cells] at HFIN
        go_wp2_with fail
        refine bodyPost_ret (results_rowR rfl _ _ w.heap.size _ _ _ rfl (HFIN.out.2.seven _ _ _ _ _ _ _) Tryz.underlying24 rfl (by kernel_rfl)) rfl ?_
        exact ⟨by rw [HZR.out]; rfl, below_seven HFIN.out.1 (Nat.le_refl _) _ _ _ _ _ _ _⟩
end Go.Proofs.YtalodfjplegibaaGreatDoor
