/- Package wide: fractions. -/
import Derived.Test.YtgjbaamhpapeeaaGreatDoorWideN
import Derived.Laws.ResultCell
import Derived.Laws.Rows
namespace Go.Proofs.YtgjbaamhpapeeaaGreatDoor
set_option linter.unusedSimpArgs false
open Go.RowKit Go.Lib
set_option linter.unusedVariables false

/-- a fraction as a value -/
def qv (neg : Bool) (A : Option Addr) (n c : Nat) (B : Option Addr) (m d : Nat) : Value := .agg #[.bool neg, .slice A n c, .slice B m d]
def properS (neg : Bool) (la lb : List Nat) : Bool := validL la && validL lb && decide (lb ≠ []) && !(neg && decide (la = [])) && decide (Nat.gcd (valOf la) (valOf lb) = 1)
theorem cmpN_beq (g : Nat) : (cmpN g 1 == 0) = decide (g = 1) := by
  unfold cmpN
  by_cases h1 : g < 1
  · rw [if_pos h1]; simp; omega
  · rw [if_neg h1]
    by_cases h2 : 1 < g
    · rw [if_pos h2]; simp; omega
    · rw [if_neg h2]; simp; omega
set_option maxHeartbeats 400000 in
theorem Proper_any (neg : Bool) (A B : Option Addr) (n m c d : Nat) (la lb : List Nat) (w : World) (ha : Arg w A n c la) (hb : Arg w B m d lb) :
    Calls Tryz.prog 21 #[qv neg A n c B m d] w fun e w' => e = .returned (.bool (properS neg la lb)) ∧ Below w.heap.size w w' := by
  unfold qv
  have HA : Sl _ := ⟨ha⟩
  have HB : Sl _ := ⟨hb⟩
  clear ha hb
  go_enter Tryz.func21, Tryz.ntmps21
  go_wp2_with fail
  have hu : Below w.heap.size w (w.alloc (.cells #[.bool neg, .slice A n c, .slice B m d] 25)) := (Below.refl _ _).alloc (Nat.le_refl _) _
  go_quiet (fail)
  have HA1 : Sl _ := ⟨(HA.out.below hu).drewN nq⟩
  have HB1 : Sl _ := ⟨(HB.out.below hu).drewN nq⟩
  have hu1 := below_drewN hu nq
  have hbl : Blk ((w.alloc (.cells #[.bool neg, .slice A n c, .slice B m d] 25)).drewN nq) w.heap.size 25 #[.bool neg, .slice A n c, .slice B m d] := (Blk.new _ _ _).drewN _
  generalize (w.alloc (.cells #[.bool neg, .slice A n c, .slice B m d] 25)).drewN nq = w1 at *
  have hc0 := hbl.cell 0
  have HBL : Sl _ := ⟨hbl⟩
  simp at hc0
  go_wp2_with fail
  refine (valid_any A n c la _ HA1.out.1 HA1.out.2.1 HA1.out.2.2).mono ?_; rintro e w' ⟨rfl, rfl⟩
  rcases hva : validL la with _ | _
  · have hs : properS neg la lb = false := by simp [properS, hva]
    have HS : Sl _ := ⟨hs⟩
    clear hs
    go_wp2_with fail
    go_ret
    exact ⟨by rw [HS.out]; rfl, hu1⟩
  · go_wp2_with fail
    refine (valid_any B m d lb _ HB1.out.1 HB1.out.2.1 HB1.out.2.2).mono ?_; rintro e w' ⟨rfl, rfl⟩
    rcases hvb : validL lb with _ | _
    · have hs : properS neg la lb = false := by simp [properS, hvb]
      have HS : Sl _ := ⟨hs⟩
      clear hs
      go_wp2_with fail
      go_ret
      exact ⟨by rw [HS.out]; rfl, hu1⟩
    · have hna := HA1.out.1.len
      have hnb := HB1.out.1.len
      rcases Nat.eq_zero_or_pos m with hm | hm
      · subst hm
        have hl : lb = [] := List.eq_nil_of_length_eq_zero hnb
        have hs : properS neg la lb = false := by simp [properS, hl]
        have HS : Sl _ := ⟨hs⟩
        clear hs
        clear hl hnb hna hva hvb
        go_wp2_with fail
        go_ret
        exact ⟨by rw [HS.out]; rfl, hu1⟩
      · have hm2 : ((m : Int) == 0) = false := by rw [beq_eq_false_iff_ne]; omega
        have hl : lb ≠ [] := by rintro rfl; simp at hnb; omega
        by_cases hneg : neg = true ∧ n = 0
        · obtain ⟨rfl, rfl⟩ := hneg
          have hl : la = [] := List.eq_nil_of_length_eq_zero hna
          have hs : properS true la lb = false := by simp [properS, hl]
          have HS : Sl _ := ⟨hs⟩
          clear hs
          clear hl hnb hna hva hvb
          go_wp2_with fail
          go_ret
          exact ⟨by rw [HS.out]; rfl, hu1⟩
        · have hs : properS neg la lb = decide (Nat.gcd (valOf la) (valOf lb) = 1) := by
            have h1 : (neg && decide (la = [])) = false := by
              rcases neg with _ | _
              · rfl
              · simp; intro h; exact hneg ⟨rfl, by rw [← hna, h]; rfl⟩
            simp [properS, hva, hvb, hl, h1]
          obtain ⟨h1, h2⟩ := ok_one HA1.out hva
          obtain ⟨h3, h4⟩ := ok_one HB1.out hvb
          have hlg : (limbs (Nat.gcd (valOf la) (valOf lb))).length ≤ 512 := by
            have k1 := h3.1.len
            have k2 : valOf lb ≠ 0 := by intro h0; rw [h0, limbs_zero] at k1; simp at k1; omega
            have := limbs_len_mono (Nat.gcd_le_right (valOf la) (Nat.pos_of_ne_zero k2))
            omega
          have H1 : Sl _ := ⟨h1⟩
          have H3 : Sl _ := ⟨h3⟩
          have HS : Sl _ := ⟨hs⟩
          clear hs
          have hneg2 : neg = false ∨ ((n : Int) == 0) = false := by
            rcases neg with _ | _
            · exact .inl rfl
            · refine .inr ?_; rw [beq_eq_false_iff_ne]; intro h; exact hneg ⟨rfl, by omega⟩
          clear h1 h3 hl hnb hna hva hvb hneg
          rcases hneg2 with rfl | hn0
          all_goals (try rcases neg with _ | _)
          all_goals (
            go_wp2_with fail
            refine (gcd_any A B n m c d _ _ _ H1.out H3.out (by omega) (by omega)).mono ?_; rintro e w2 ⟨⟨A2, c2, rfl, k1, k2, k3⟩, hb2⟩
            have K3 : Sl _ := ⟨k3⟩
            clear k1 k2 k3
            go_wp2_with fail
            refine (of_any 1 _ (by decide)).mono ?_; rintro e w3 ⟨⟨A3, c3, rfl, k1, k2, k3⟩, hb3⟩
            have K4 : Sl _ := ⟨k3⟩
            clear k1 k2 k3
            go_wp2_with fail
            refine (cmp_any A2 A3 _ _ c2 c3 _ 1 _ (K3.out.below hb3) K4.out (by omega) (by have : (limbs 1).length ≤ 1 := limbs_len_le (by decide); omega)).mono ?_; rintro e w4 ⟨rfl, nq2, rfl⟩
            have hbeq := cmpN_beq (Nat.gcd (valOf la) (valOf lb))
            generalize cmpN (Nat.gcd (valOf la) (valOf lb)) 1 = z at *
            go_wp2_with fail
            go_ret
            have hb13 := hu1.trans (hb2.mono hu1.size)
            exact ⟨by rw [HS.out, ← hbeq]; rfl, below_drewN (hb13.trans (hb3.mono hb13.size)) nq2⟩)

/-- a fraction, and an error -/
def QRes (neg : Bool) (ln ld : List Nat) (er : Int) (e : Ending) (w : World) : Prop :=
  ∃ A c B d, e = .returned (.tuple #[qv neg A ln.length c B ld.length d, .int .i64 er]) ∧ Arg w A ln.length c ln ∧ Arg w B ld.length d ld
theorem q_none (er : Int) (w : World) : QRes false [] [] er (.returned (.tuple #[qv false none 0 0 none 0 0, .int .i64 er])) w := ⟨none, 0, none, 0, rfl, ⟨U_nil _ _, by simp, by decide⟩, ⟨U_nil _ _, by simp, by decide⟩⟩
/-- lowest terms -/
def lowS (neg : Bool) (a b : Nat) : Bool × List Nat × List Nat × Int :=
  if (limbs (a / Nat.gcd a b)).length ≤ 512 ∧ (limbs (b / Nat.gcd a b)).length ≤ 512 then (neg && decide (a ≠ 0), limbs (a / Nat.gcd a b), limbs (b / Nat.gcd a b), 0) else (false, [], [], 3)
def LowRes (neg : Bool) (a b : Nat) (e : Ending) (w : World) : Prop := QRes (lowS neg a b).1 (lowS neg a b).2.1 (lowS neg a b).2.2.1 (lowS neg a b).2.2.2 e w
theorem results_row2 {P : Program} {fn : Func} {p u : Tmp} {ty : TypeId} (h : fn.results = #[.cell p ty, .tmp u]) (tmps : Array Value) (w : World) (g : Nat) (t : TypeId) (cs : Array Value) (d : TypeDesc)
    (hp : tmps.getD p undef = .pointer (some ⟨g, 0, none⟩)) (hg : Blk w g t cs)
    (hu : P.underlying ty = some d) (hd : (match d with | .struct _ | .array _ _ => true | _ => false) = true) (hi : (P.info? ty).map (·.size) = some cs.size) :
    (results fn tmps).run P w = .ok (.tuple #[.agg cs, tmps.getD u undef]) w := by
  rw [results_cell_tmp h, hp]
  simp [asAddr, run_loadVar_row w g t ty cs (0, 0) d hg hu hd hi, Result.andThen]
theorem Blk.three {w : World} {g : Nat} {t : TypeId} {x0 x1 x2 : Value} (h : Blk w g t #[x0, x1, x2]) (y0 y1 y2 : Value) :
    Blk (((w.setCell ⟨g, 0, none⟩ y0).setCell ⟨g, 1, none⟩ y1).setCell ⟨g, 2, none⟩ y2) g t #[y0, y1, y2] := ((h.set_ 0 y0).set_ 1 y1).set_ 2 y2
theorem below_three {a w : World} {B g : Nat} (h : Below B a w) (hg : B ≤ g) (y0 y1 y2 : Value) : Below B a (((w.setCell ⟨g, 0, none⟩ y0).setCell ⟨g, 1, none⟩ y1).setCell ⟨g, 2, none⟩ y2) :=
  ((h.setCell (p := ⟨g, 0, none⟩) hg y0).setCell (p := ⟨g, 1, none⟩) hg y1).setCell (p := ⟨g, 2, none⟩) hg y2
/-- no integer lies here -/
def noInt (v : Value) : Prop := ∀ k z, v ≠ .int k z
theorem U.ne_blk {w : World} {ad : Addr} {n g : Nat} {l : List Nat} {t : TypeId} {x0 x1 x2 : Value} (h : U w (some ad) n l) (hn : 0 < n) (hb : Blk w g t #[x0, x1, x2]) (h0 : noInt x0) (h1 : noInt x1) (h2 : noInt x2) : ad.block ≠ g := by
  rintro rfl
  obtain ⟨ad', e, _, hc⟩ := h.cell (k := 0) hn
  cases e
  unfold Blk at hb
  simp only [Addr.add, if_true, World.cell?, hb] at hc
  split at hc
  · cases hc
  · match ho : ad.off with
    | 0 => rw [ho] at hc; simp at hc; exact h0 _ _ hc
    | 1 => rw [ho] at hc; simp at hc; exact h1 _ _ hc
    | 2 => rw [ho] at hc; simp at hc; exact h2 _ _ hc
    | k + 3 => rw [ho] at hc; simp at hc
theorem U.off {w w' : World} {A : Option Addr} {n : Nat} {l : List Nat} (h : U w A n l) (hs : w.heap.size ≤ w'.heap.size) (hk : ∀ ad, A = some ad → 0 < n → ∀ p : Addr, p.block = ad.block → w'.cell? p = w.cell? p) : U w' A n l := by
  refine ⟨⟨h.1.1, fun hn => ?_⟩, h.2⟩
  obtain ⟨ad, e, hb, hc⟩ := h.1.2 hn
  refine ⟨ad, e, Nat.lt_of_lt_of_le hb hs, fun j u hu => ?_⟩
  exact (hk ad e hn _ (block_of_add ad j)).trans (hc j u hu)
theorem Arg.three {w : World} {A : Option Addr} {n c g : Nat} {l : List Nat} {t : TypeId} {x0 x1 x2 : Value} (h : Arg w A n c l) (hb : Blk w g t #[x0, x1, x2]) (h0 : noInt x0) (h1 : noInt x1) (h2 : noInt x2) (y0 y1 y2 : Value) :
    Arg (((w.setCell ⟨g, 0, none⟩ y0).setCell ⟨g, 1, none⟩ y1).setCell ⟨g, 2, none⟩ y2) A n c l := by
  refine ⟨h.1.off (by simp [World.setCell]) fun ad e hn p hp => ?_, h.2⟩
  subst e
  have hne := h.1.ne_blk hn hb h0 h1 h2
  have hpg : p.block ≠ g := by rw [hp]; exact hne
  rw [World.cell?_setCell_other _ _ _ _ (fun e => hpg (by rw [← e])), World.cell?_setCell_other _ _ _ _ (fun e => hpg (by rw [← e])), World.cell?_setCell_other _ _ _ _ (fun e => hpg (by rw [← e]))]
set_option maxHeartbeats 400000 in
theorem lowest_any (neg : Bool) (A B : Option Addr) (n m c d a b : Nat) (w : World) (ha : Arg w A n c (limbs a)) (hb : Arg w B m d (limbs b)) (hn : n ≤ 16384) (hm : m ≤ 16384) (hb0 : b ≠ 0) :
    Calls Tryz.prog 37 #[qv neg A n c B m d] w fun e w' => LowRes neg a b e w' ∧ Below w.heap.size w w' := by
  unfold qv
  have hg0 : Nat.gcd a b ≠ 0 := fun h => hb0 (Nat.eq_zero_of_gcd_eq_zero_right h)
  have hlg : (limbs (Nat.gcd a b)).length ≤ 16384 := by
    have := limbs_len_mono (Nat.gcd_le_right a (Nat.pos_of_ne_zero hb0))
    have h2 := hb.1.len; omega
  obtain ⟨g, hg⟩ : ∃ g, Nat.gcd a b = g := ⟨_, rfl⟩
  rw [hg] at hg0 hlg
  have HG : Sl _ := ⟨hg⟩
  have HA : Sl _ := ⟨ha⟩
  have HB : Sl _ := ⟨hb⟩
  clear ha hb hg
  have hu : Below w.heap.size w ((w.alloc (.cells #[.bool neg, .slice A n c, .slice B m d] 60)).alloc (.cells #[.bool false, .slice none 0 0, .slice none 0 0] 25)) := ((Below.refl _ _).alloc (Nat.le_refl _) _).alloc (by simp) _
  go_enter Tryz.func37, Tryz.ntmps37
  go_wp2_with fail
  have hbl0 : Blk ((w.alloc (.cells #[.bool neg, .slice A n c, .slice B m d] 60)).alloc (.cells #[.bool false, .slice none 0 0, .slice none 0 0] 25)) w.heap.size 60 #[.bool neg, .slice A n c, .slice B m d] := (Blk.new _ _ _).alloc _
  have hbl1 : Blk ((w.alloc (.cells #[.bool neg, .slice A n c, .slice B m d] 60)).alloc (.cells #[.bool false, .slice none 0 0, .slice none 0 0] 25)) (w.heap.size + 1) 25 #[.bool false, .slice none 0 0, .slice none 0 0] := by
    have := Blk.new (w.alloc (.cells #[.bool neg, .slice A n c, .slice B m d] 60)) 25 #[.bool false, .slice none 0 0, .slice none 0 0]
    simpa using this
  have HA1 : Sl _ := ⟨HA.out.below hu⟩
  have HB1 : Sl _ := ⟨HB.out.below hu⟩
  have hgc := gcd_any A B n m c d a b _ HA1.out HB1.out hn hm
  rw [HG.out] at hgc
  have HGC : Sl _ := ⟨hgc⟩
  clear hgc
  generalize (w.alloc (.cells #[.bool neg, .slice A n c, .slice B m d] 60)).alloc (.cells #[.bool false, .slice none 0 0, .slice none 0 0] 25) = w1 at *
  refine HGC.out.mono ?_; rintro e w2 ⟨⟨A2, c2, rfl, k1, k2, k3⟩, hb2⟩
  have hu2 := hu.trans (hb2.mono hu.size)
  have HA2 : Sl _ := ⟨HA1.out.below hb2⟩
  have HB2 : Sl _ := ⟨HB1.out.below hb2⟩
  have hbl0 := hbl0.below hb2 hbl0.lt
  have hbl1 := hbl1.below hb2 hbl1.lt
  have H2 : Sl _ := ⟨k3⟩
  clear k1 k2 k3 HA1 HB1 HGC
  have hc1 := hbl0.cell 1
  simp at hc1
  go_wp2_with fail
  refine (div_any A A2 n _ c c2 a g _ HA2.out.1 H2.out hn hlg hg0).mono ?_; rintro e w3 ⟨⟨Q3, c3, R3, d3, rfl, hq3, _⟩, hb3⟩
  have hu3 := hu2.trans (hb3.mono hu2.size)
  have hbl0 := hbl0.below hb3 hbl0.lt
  have hbl1 := hbl1.below hb3 hbl1.lt
  have HQ3 : Sl _ := ⟨hq3⟩
  have HB3 : Sl _ := ⟨HB2.out.below hb3⟩
  have H3 : Sl _ := ⟨H2.out.below hb3⟩
  clear hq3 HA2 HB2 H2 hc1
  have hc2 := hbl0.cell 2
  simp at hc2
  go_wp2_with fail
  refine (div_any B A2 m _ d c2 b g _ HB3.out.1 H3.out hm hlg hg0).mono ?_; rintro e w4 ⟨⟨Q4, c4, R4, d4, rfl, hq4, _⟩, hb4⟩
  have hu4 := hu3.trans (hb4.mono hu3.size)
  have hbl0 := hbl0.below hb4 hbl0.lt
  have hbl1 := hbl1.below hb4 hbl1.lt
  have HQ4 : Sl _ := ⟨HQ3.out.below hb4⟩
  have HD4 : Sl _ := ⟨hq4⟩
  clear hq4 HQ3 HB3 H3 hc2
  have hc0 := hbl0.cell 0
  have hd0 := hbl1.cell 0
  have hd1 := hbl1.cell 1
  have hd2 := hbl1.cell 2
  have hf0 := hbl1.frozen 0
  have hf1 := hbl1.frozen 1
  have hf2 := hbl1.frozen 2
  simp at hc0 hd0 hd1 hd2
  generalize hx : a / g = x at *
  generalize hy : b / g = y at *
  have hxa : (limbs x).length = 0 ↔ a = 0 := by
    rw [List.length_eq_zero_iff, limbs_nil_iff, ← hx]
    constructor
    · intro h
      have h1 := (Nat.div_eq_zero_iff).1 h
      rcases h1 with h1 | h1
      · exact absurd h1 hg0
      · rcases Nat.eq_zero_or_pos a with h2 | h2
        · exact h2
        · have := Nat.gcd_le_left b h2; rw [HG.out] at this; omega
    · rintro rfl; simp
  have HX : Sl _ := ⟨hxa⟩
  have hlow : lowS neg a b = if (limbs x).length ≤ 512 ∧ (limbs y).length ≤ 512 then (neg && decide (a ≠ 0), limbs x, limbs y, 0) else (false, [], [], 3) := by
    simp only [lowS, HG.out, hx, hy]
  have HLOW : Sl _ := ⟨hlow⟩
  clear hlow hxa hx hy
  by_cases hx5 : (limbs x).length ≤ 512
  · by_cases hy5 : (limbs y).length ≤ 512
    · have hl : LowRes neg a b = QRes (neg && decide (a ≠ 0)) (limbs x) (limbs y) 0 := by unfold LowRes; rw [HLOW.out, if_pos ⟨hx5, hy5⟩]
      have hn1 : noInt (.bool false) := fun _ _ => by simp
      have hn2 : noInt (.slice none 0 0) := fun _ _ => by simp
      have hxx := HX.out
      have e1 : (neg && decide (a ≠ 0)) = (neg && decide (0 < (limbs x).length)) := by
        congr 1
        rw [Bool.eq_iff_iff, decide_eq_true_iff, decide_eq_true_iff]; omega
      have HL : Sl _ := ⟨hl⟩
      have HE1 : Sl _ := ⟨e1⟩
      clear hl e1 hxx
      rcases neg with _ | _
      all_goals (
        go_wp2_with fail
        refine bodyPost_ret (results_row2 rfl _ _ (w.heap.size + 1) _ _ _ rfl (hbl1.three _ _ _) Tryz.underlying25 rfl (by kernel_rfl)) rfl ?_
        rw [HL.out, HE1.out]
        exact ⟨⟨Q3, c3, Q4, c4, rfl, HQ4.out.three hbl1 hn1 hn2 hn2 _ _ _, HD4.out.three hbl1 hn1 hn2 hn2 _ _ _⟩, below_three hu4 (Nat.le_succ _) _ _ _⟩)
    · go_wp2_with fail
      refine bodyPost_ret (results_row2 rfl _ _ (w.heap.size + 1) _ _ _ rfl (hbl1.three _ _ _) Tryz.underlying25 rfl (by kernel_rfl)) rfl ?_
      have hl : LowRes neg a b = QRes false [] [] 3 := by unfold LowRes; rw [HLOW.out, if_neg (by omega)]
      rw [hl]
      exact ⟨q_none _ _, below_three hu4 (Nat.le_succ _) _ _ _⟩
  · go_wp2_with fail
    refine bodyPost_ret (results_row2 rfl _ _ (w.heap.size + 1) _ _ _ rfl (hbl1.three _ _ _) Tryz.underlying25 rfl (by kernel_rfl)) rfl ?_
    have hl : LowRes neg a b = QRes false [] [] 3 := by unfold LowRes; rw [HLOW.out, if_neg (by omega)]
    rw [hl]
    exact ⟨q_none _ _, below_three hu4 (Nat.le_succ _) _ _ _⟩
end Go.Proofs.YtgjbaamhpapeeaaGreatDoor
