/- Fractions: the reference's lowest and Ratio, package wide's Ratio. -/
import Derived.Test.YtgjbaamhpapeeaaGreatDoorLawK
import Derived.Test.YtgjbaamhpapeeaaGreatDoorWideV
namespace Go.Proofs.YtgjbaamhpapeeaaGreatDoor
open Go.RowKit Go.Lib
set_option linter.unusedVariables false
set_option linter.unusedSimpArgs false

set_option maxHeartbeats 800000 in
theorem rlowest_any (neg : Bool) (A B : Option Addr) (n m c d a b : Nat) (w : World) (ha : Arg w A n c (limbs a)) (hb : Arg w B m d (limbs b)) (hn : n ≤ 16384) (hm : m ≤ 16384) (hb0 : b ≠ 0) :
    Calls Tryz.prog 40 #[.bool neg, .slice A n c, .slice B m d] w fun e w' => LowRes neg a b e w' ∧ Below w.heap.size w w' := by
  have hg0 : Nat.gcd a b ≠ 0 := fun h => hb0 (Nat.eq_zero_of_gcd_eq_zero_right h)
  have hlg : (limbs (Nat.gcd a b)).length ≤ 16384 := by
    have := limbs_len_mono (Nat.gcd_le_right a (Nat.pos_of_ne_zero hb0))
    have h2 := hb.1.len; omega
  obtain ⟨g, hg⟩ : ∃ g, Nat.gcd a b = g := ⟨_, rfl⟩
  rw [hg] at hg0 hlg
  have HG : Sl _ := ⟨hg⟩
  have HA : Sl _ := ⟨ha⟩
  have HB : Sl _ := ⟨hb⟩
  clear ha hb hg
  have hu : Below w.heap.size w (w.alloc (.cells #[.bool false, .slice none 0 0, .slice none 0 0] 25)) := (Below.refl _ _).alloc (Nat.le_refl _) _
  go_enter Tryz.func40, Tryz.ntmps40
  go_wp2_with fail
  have hbl1 := Blk.new w 25 #[.bool false, .slice none 0 0, .slice none 0 0]
  have HA1 : Sl _ := ⟨HA.out.below hu⟩
  have HB1 : Sl _ := ⟨HB.out.below hu⟩
  have hgc := common_any A B n m c d a b _ HA1.out HB1.out hn hm
  rw [HG.out] at hgc
  have HGC : Sl _ := ⟨hgc⟩
  clear hgc
  generalize w.alloc (.cells #[.bool false, .slice none 0 0, .slice none 0 0] 25) = w1 at *
  refine HGC.out.mono ?_; rintro e w2 ⟨⟨A2, c2, rfl, k1, k2, k3⟩, hb2⟩
  have hu2 := hu.trans (hb2.mono hu.size)
  have HA2 : Sl _ := ⟨HA1.out.below hb2⟩
  have HB2 : Sl _ := ⟨HB1.out.below hb2⟩
  have hbl1 := hbl1.below hb2 hbl1.lt
  have H2 : Sl _ := ⟨k3⟩
  clear k1 k2 k3 HA1 HB1 HGC
  go_wp2_with fail
  refine (divide_any A A2 n _ c c2 a g _ HA2.out.1 H2.out (by omega) (by omega) hg0).mono ?_; rintro e w3 ⟨⟨Q3, c3, R3, d3, rfl, hq3, _⟩, hb3⟩
  have hu3 := hu2.trans (hb3.mono hu2.size)
  have hbl1 := hbl1.below hb3 hbl1.lt
  have HQ3 : Sl _ := ⟨hq3⟩
  have HB3 : Sl _ := ⟨HB2.out.below hb3⟩
  have H3 : Sl _ := ⟨H2.out.below hb3⟩
  clear hq3 HA2 HB2 H2
  go_wp2_with fail
  refine (divide_any B A2 m _ d c2 b g _ HB3.out.1 H3.out (by omega) (by omega) hg0).mono ?_; rintro e w4 ⟨⟨Q4, c4, R4, d4, rfl, hq4, _⟩, hb4⟩
  have hu4 := hu3.trans (hb4.mono hu3.size)
  have hbl1 := hbl1.below hb4 hbl1.lt
  have HQ4 : Sl _ := ⟨HQ3.out.below hb4⟩
  have HD4 : Sl _ := ⟨hq4⟩
  clear hq4 HQ3 HB3 H3
  have hd0 := hbl1.cell 0
  have hd1 := hbl1.cell 1
  have hd2 := hbl1.cell 2
  have hf0 := hbl1.frozen 0
  have hf1 := hbl1.frozen 1
  have hf2 := hbl1.frozen 2
  simp at hd0 hd1 hd2
  generalize hx : a / g = x at *
  generalize hy : b / g = y at *
  have hxa : (limbs x).length = 0 ↔ a = 0 := by
    rw [List.length_eq_zero_iff, limbs_nil_iff, ← hx]
    constructor
    · intro h
      have h1 := (Nat.div_eq_zero_iff).1 h
      rcases h1 with h1 | h1
      · exact absurd h1 hg0
      · rcases Nat.eq_zero_or_pos a with h2 | h2
        · exact h2
        · have := Nat.gcd_le_left b h2; rw [HG.out] at this; omega
    · rintro rfl; simp
  have HX : Sl _ := ⟨hxa⟩
  have hlow : lowS neg a b = if (limbs x).length ≤ 512 ∧ (limbs y).length ≤ 512 then (neg && decide (a ≠ 0), limbs x, limbs y, 0) else (false, [], [], 3) := by
    simp only [lowS, HG.out, hx, hy]
  have HLOW : Sl _ := ⟨hlow⟩
  clear hlow hxa hx hy
  by_cases hx5 : (limbs x).length ≤ 512
  · by_cases hy5 : (limbs y).length ≤ 512
    · have hl : LowRes neg a b = QRes (neg && decide (a ≠ 0)) (limbs x) (limbs y) 0 := by unfold LowRes; rw [HLOW.out, if_pos ⟨hx5, hy5⟩]
      have hn1 : noInt (.bool false) := fun _ _ => by simp
      have hn2 : noInt (.slice none 0 0) := fun _ _ => by simp
      have hxx := HX.out
      have e1 : (neg && decide (a ≠ 0)) = (neg && decide (0 < (limbs x).length)) := by
        congr 1
        rw [Bool.eq_iff_iff, decide_eq_true_iff, decide_eq_true_iff]; omega
      have HL : Sl _ := ⟨hl⟩
      have HE1 : Sl _ := ⟨e1⟩
      clear hl e1 hxx
      rcases neg with _ | _
      all_goals (
        go_wp2_with fail
        refine bodyPost_ret (results_row2 rfl _ _ w.heap.size _ _ _ rfl (hbl1.three _ _ _) Tryz.underlying25 rfl (by kernel_rfl)) rfl ?_
        rw [HL.out, HE1.out]
        exact ⟨⟨Q3, c3, Q4, c4, rfl, HQ4.out.three hbl1 hn1 hn2 hn2 _ _ _, HD4.out.three hbl1 hn1 hn2 hn2 _ _ _⟩, below_three hu4 (Nat.le_refl _) _ _ _⟩)
    · go_wp2_with fail
      refine bodyPost_ret (results_row2 rfl _ _ w.heap.size _ _ _ rfl (hbl1.three _ _ _) Tryz.underlying25 rfl (by kernel_rfl)) rfl ?_
      have hl : LowRes neg a b = QRes false [] [] 3 := by unfold LowRes; rw [HLOW.out, if_neg (by omega)]
      rw [hl]
      exact ⟨q_none _ _, below_three hu4 (Nat.le_refl _) _ _ _⟩
  · go_wp2_with fail
    refine bodyPost_ret (results_row2 rfl _ _ w.heap.size _ _ _ rfl (hbl1.three _ _ _) Tryz.underlying25 rfl (by kernel_rfl)) rfl ?_
    have hl : LowRes neg a b = QRes false [] [] 3 := by unfold LowRes; rw [HLOW.out, if_neg (by omega)]
    rw [hl]
    exact ⟨q_none _ _, below_three hu4 (Nat.le_refl _) _ _ _⟩

/-- Ratio -/
def RatioRes (neg : Bool) (la lb : List Nat) (e : Ending) (w : World) : Prop :=
  if badE [la, lb] ≠ 0 then QRes false [] [] (badE [la, lb]) e w else if valOf lb = 0 then QRes false [] [] 4 e w else LowRes neg (valOf la) (valOf lb) e w
theorem LowRes.blk {neg : Bool} {a b : Nat} {v : Value} {u : Value} {w : World} (h : LowRes neg a b (.returned (.tuple #[v, u])) w) : ∃ ng A n c B m d, v = .agg #[.bool ng, .slice A n c, .slice B m d] := by
  obtain ⟨A, c, B, d, he, _, _⟩ := h
  injection he with he
  injection he with he
  simp at he
  exact ⟨_, _, _, _, _, _, _, he.1⟩
theorem QRes.three {ng : Bool} {ln ld : List Nat} {er : Int} {A B : Option Addr} {c d : Nat} {w : World} {g : Nat} {t : TypeId}
    (h1 : Arg w A ln.length c ln) (h2 : Arg w B ld.length d ld) (hb : Blk w g t #[.bool false, .slice none 0 0, .slice none 0 0]) (y0 y1 y2 : Value) :
    QRes ng ln ld er (.returned (.tuple #[qv ng A ln.length c B ld.length d, .int .i64 er])) (((w.setCell ⟨g, 0, none⟩ y0).setCell ⟨g, 1, none⟩ y1).setCell ⟨g, 2, none⟩ y2) :=
  ⟨A, c, B, d, rfl, h1.three hb ni1 ni2 ni2 _ _ _, h2.three hb ni1 ni2 ni2 _ _ _⟩

end Go.Proofs.YtgjbaamhpapeeaaGreatDoor
