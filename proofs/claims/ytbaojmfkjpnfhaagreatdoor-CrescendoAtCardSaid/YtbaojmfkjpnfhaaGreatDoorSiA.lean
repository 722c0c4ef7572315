/- A row of indices sorted stably by their weights: in memory; the comparison; slices.swapRangeCmpFunc, rotateCmpFunc. (Printed by gensi.py.) -/
import Derived.Test.YtbaojmfkjpnfhaaGreatDoorStA
import Derived.Test.YtbaojmfkjpnfhaaGreatDoorCxG
import Derived.BigRegion
namespace Go.Proofs.YtbaojmfkjpnfhaaGreatDoor
set_option linter.unusedSimpArgs false
open Go.RowKit
set_option linter.unusedVariables false

/-- an index with its weight, as one number -/
def dueI (ws : List Int) (x : Int) : Int := gt ws x.toNat * 1000 + x
/-- the first n integers of a block: indices -/
def PBI (ws : List Int) (w : World) (g n : Nat) (d : Nat → Int) : Prop := IRow w g n d ∧ ∀ j, j < n → 0 ≤ d j ∧ d j < (ws.length : Int)
section
variable {ws : List Int} {w w' : World} {g n : Nat} {d : Nat → Int}
theorem PBI.lt (h : PBI ws w g n d) : g < w.heap.size := h.1.lt
theorem PBI.cell (h : PBI ws w g n d) {j : Nat} (hj : j < n) : w.cell? ⟨g, j, none⟩ = some (.int .i64 (d j)) := h.1.cell hj
theorem PBI.mv {b : Nat} (h : PBI ws w b n d) (hm : Mv g w w') (hne : b ≠ g) : PBI ws w' b n d := ⟨h.1.mv hm hne, h.2⟩
theorem PBI.below {B : Nat} (h : PBI ws w g n d) (hb : Below B w w') (hg : g < B) : PBI ws w' g n d := ⟨h.1.below hb hg, h.2⟩
theorem PBI.frozen (h : PBI ws w g n d) (j : Nat) : w.frozen? ⟨g, j, none⟩ = false := h.1.frozen j
theorem PBI.drewN (h : PBI ws w g n d) (k : Nat) : PBI ws (w.drewN k) g n d := ⟨by obtain ⟨t, cs, a, b, c⟩ := h.1; exact ⟨t, cs, a.drewN k, b, c⟩, h.2⟩
theorem PBI.swap (h : PBI ws w g n d) {i j : Nat} (hi : i < n) (hj : j < n) {x u : Int} (hx : d i = x) (hu : d j = u) :
    PBI ws ((w.setCell ⟨g, i, none⟩ (.int .i64 u)).setCell ⟨g, j, none⟩ (.int .i64 x)) g n (swp d i j) := by
  refine ⟨((h.1.set (i := i) u).set (i := j) x).congr fun k hk => ?_, fun k hk => ?_⟩
  · unfold swp
    by_cases h1 : k = j
    · subst h1
      simp only [if_true]
      by_cases h2 : k = i
      · subst h2; simp [hx]
      · simp [h2, hx]
    · simp only [h1, if_false]
      by_cases h2 : k = i
      · simp [h2, hu]
      · simp [h2]
  · unfold swp
    split
    · exact h.2 j hj
    · split
      · exact h.2 i hi
      · exact h.2 k hk
end
theorem Mv.set2 (w : World) (g : Nat) (a b : Nat) (p q : Value) : Mv g w ((w.setCell ⟨g, a, none⟩ p).setCell ⟨g, b, none⟩ q) :=
  Mv.trans (Mv.setCells w g a [p]) (Mv.setCells _ g b [q])
/-- where the comparison keeps the weights -/
def KeyI (ws : List Int) (w : World) (gf g : Nat) : Prop := (∃ A c, Blk w gf 70 #[.slice A ws.length c] ∧ II w A ws.length ws ∧ ∀ ad, A = some ad → ad.block ≠ g) ∧ gf ≠ g ∧ ws.length ≤ 1000
theorem KeyI.mv {ws : List Int} {w w' : World} {gf g : Nat} (h : KeyI ws w gf g) (hm : Mv g w w') : KeyI ws w' gf g := by
  obtain ⟨⟨A, c, h1, h2, h3⟩, h4, h5⟩ := h
  refine ⟨⟨A, c, h1.mv hm h4, ⟨h2.1, h2.2.1, fun hn => ?_⟩, h3⟩, h4, h5⟩
  obtain ⟨ad, e, e1, e2⟩ := h2.2.2 hn
  refine ⟨ad, e, Nat.lt_of_lt_of_le e1 hm.size, fun j u hu => ?_⟩
  rw [← e2 j u hu]
  exact World.cell?_of_block (by rw [block_of_add]; exact hm.block _ e1 (h3 ad e))
theorem KeyI.below {ws : List Int} {w w' : World} {gf g : Nat} (h : KeyI ws w gf g) (hb : Below w.heap.size w w') : KeyI ws w' gf g := by
  obtain ⟨⟨A, c, h1, h2, h3⟩, h4, h5⟩ := h
  exact ⟨⟨A, c, h1.below hb h1.lt, h2.below hb, h3⟩, h4, h5⟩
/-- every index on the left is below every one on the right -/
def Crs (d : Nat → Int) (a m b : Nat) : Prop := ∀ i j, a ≤ i → i < m → m ≤ j → j < b → d i < d j
def cmpD (x y : Int) : Int := if x < y then -1 else if y < x then 1 else 0
theorem cmpD_due {ws : List Int} (hw : ws.length ≤ 1000) {x u : Int} (hu : 0 ≤ u) (hx : x < (ws.length : Int)) (hux : u < x) : cmpD (gt ws x.toNat) (gt ws u.toNat) < 0 ↔ dueI ws x < dueI ws u := by
  unfold cmpD dueI
  generalize gt ws x.toNat = p
  generalize gt ws u.toNat = q
  split
  · constructor
    · intro _; omega
    · intro _; omega
  · split
    · constructor <;> intro h <;> omega
    · constructor <;> intro h <;> omega
theorem isNaN64_any (x : Int) (w : World) : Calls Tryz.prog 125 #[.int .i64 x] w fun e w' => e = .returned (.bool false) ∧ w' = w := by
  go_enter Tryz.func125, Tryz.ntmps125
  go_wp2_with fail
  go_ret
  exact ⟨by first | rfl | simp, rfl⟩
set_option maxHeartbeats 1600000 in
theorem compare64_any (x y : Int) (w : World) : Calls Tryz.prog 73 #[.int .i64 x, .int .i64 y] w fun e w' => e = .returned (.int .i64 (cmpD x y)) ∧ w' = w := by
  have HN : Sl _ := ⟨fun (z : Int) => isNaN64_any z w⟩
  obtain ⟨r, hr⟩ : ∃ r, cmpD x y = r := ⟨_, rfl⟩
  rw [hr]
  have HR : Sl ((if x < y then (-1 : Int) else if y < x then 1 else 0) = r) := ⟨hr⟩
  clear hr
  by_cases h1 : x < y
  · have h1d : decide (x < y) = true := decide_eq_true h1
    have HV : Sl (r = -1) := ⟨by rw [← HR.out, if_pos h1]⟩
    clear HR
    go_enter Tryz.func73, Tryz.ntmps73
    go_wp2_with fail
    refine (HN.out x).mono ?_; rintro e w1 ⟨rfl, rfl⟩
    go_wp2_with fail
    refine (HN.out y).mono ?_; rintro e w1 ⟨rfl, rfl⟩
    go_wp2_with fail
    go_ret
    exact ⟨by rw [HV.out]; rfl, rfl⟩
  · have h1d : decide (x < y) = false := decide_eq_false h1
    by_cases h2 : y < x
    · have h2d : decide (y < x) = true := decide_eq_true h2
      have HV : Sl (r = 1) := ⟨by rw [← HR.out, if_neg h1, if_pos h2]⟩
      clear HR
      go_enter Tryz.func73, Tryz.ntmps73
      go_wp2_with fail
      refine (HN.out x).mono ?_; rintro e w1 ⟨rfl, rfl⟩
      go_wp2_with fail
      refine (HN.out y).mono ?_; rintro e w1 ⟨rfl, rfl⟩
      go_wp2_with fail
      go_ret
      exact ⟨by rw [HV.out]; rfl, rfl⟩
    · have h2d : decide (y < x) = false := decide_eq_false h2
      have HV : Sl (r = 0) := ⟨by rw [← HR.out, if_neg h1, if_neg h2]⟩
      clear HR
      go_enter Tryz.func73, Tryz.ntmps73
      go_wp2_with fail
      refine (HN.out x).mono ?_; rintro e w1 ⟨rfl, rfl⟩
      go_wp2_with fail
      refine (HN.out y).mono ?_; rintro e w1 ⟨rfl, rfl⟩
      go_wp2_with fail
      go_ret
      exact ⟨by rw [HV.out]; rfl, rfl⟩
set_option maxHeartbeats 3200000 in
set_option maxRecDepth 100000 in
theorem plan1I_any {ws : List Int} {gf g : Nat} (x u : Int) (w : World) (h : KeyI ws w gf g) (hx : 0 ≤ x ∧ x < (ws.length : Int)) (hu : 0 ≤ u ∧ u < (ws.length : Int)) :
    Calls Tryz.prog 72 #[.int .i64 x, .int .i64 u, .pointer (some ⟨gf, 0, none⟩)] w fun e w' => e = .returned (.int .i64 (cmpD (gt ws x.toNat) (gt ws u.toNat))) ∧ Below w.heap.size w w' := by
  obtain ⟨⟨A, c, h1, h2, h3⟩, h4, h5⟩ := h
  obtain ⟨a, rfl⟩ := Int.eq_ofNat_of_zero_le hx.1
  obtain ⟨b, rfl⟩ := Int.eq_ofNat_of_zero_le hu.1
  simp only [Int.toNat_natCast]
  have ha : a < ws.length := by omega
  have hb : b < ws.length := by omega
  obtain ⟨n, hn⟩ : ∃ n, ws.length = n := ⟨_, rfl⟩
  rw [hn] at h1 h2 ha hb hx hu
  obtain ⟨ad, rfl, hab, c1⟩ := h2.cell ha
  obtain ⟨ad', e, _, c2⟩ := h2.cell hb
  injection e with e
  subst e
  obtain ⟨p, hp⟩ : ∃ p, gt ws a = p := ⟨_, rfl⟩
  obtain ⟨q, hq⟩ : ∃ q, gt ws b = q := ⟨_, rfl⟩
  rw [hp] at c1 ⊢
  rw [hq] at c2 ⊢
  have haI : (a : Int) < (n : Int) := hx.2
  have hbI : (b : Int) < (n : Int) := hu.2
  have VA : Sl (∀ z, Calls Tryz.prog 73 #[.int .i64 p, .int .i64 q] (w.drewN z) fun e w'' => e = .returned (.int .i64 (cmpD p q)) ∧ ∃ k, w'' = w.drewN k) := ⟨fun z => (compare64_any p q (w.drewN z)).mono fun e w'' h => ⟨h.1, z, h.2⟩⟩
  obtain ⟨r, hr⟩ : ∃ r, cmpD p q = r := ⟨_, rfl⟩
  rw [hr] at VA ⊢
  have hw : w.cell? ⟨gf, 0, none⟩ = some (.slice (some ad) n c) := h1.cell 0
  clear hp hq h1 h2 h3 h4 h5 hn hr hx hu hab
  go_enter Tryz.func72, Tryz.ntmps72
  go_wp2_with fail
  go_quiet ((go_at_call 73; (with_reducible exact VA.out _)))
  go_wp2_with fail
  go_ret
  exact ⟨rfl, below_drewN (Below.refl _ _) nq⟩
set_option maxHeartbeats 6400000 in
set_option maxRecDepth 100000 in
theorem swapRI_any (ws : List Int) (g N cap a b n : Nat) (d : Nat → Int) (cmp : Value) (w : World) (h : PBI ws w g N d) (hb : b + n ≤ N) (ha : a + n ≤ b) (hN : N ≤ 1000000) :
    Calls Tryz.prog 213 #[.slice (some ⟨g, 0, none⟩) N cap, .int .i64 a, .int .i64 b, .int .i64 n, cmp] w fun e w' => e = .returned (.tuple #[]) ∧ Mv g w w' ∧ PBI ws w' g N (swr d a b n) := by
  have HP : Sl _ := ⟨h⟩
  have HAB : Sl (b + n ≤ N ∧ a + n ≤ b ∧ N ≤ 1000000) := ⟨hb, ha, hN⟩
  clear h hb ha hN
  go_enter Tryz.func213, Tryz.ntmps213
  go_wp2_with fail
  go_loopw [10] (fun s10 wr => ∃ (k : Nat), k ≤ n ∧ s10 = .int .i64 k ∧ Sl (Mv g w wr ∧ PBI ws wr g N (swr d a b k))) (fun s10 _ => n - (RowKit.intOf s10).toNat)
  case atStart => exact ⟨0, Nat.zero_le _, rfl, ⟨Mv.refl _ _, HP.out⟩⟩
  case round =>
    obtain ⟨k, hk, rfl, HK⟩ := hrel
    obtain ⟨hb, ha, hN⟩ := HAB.out
    by_cases hkn : k < n
    · have hkI : (k : Int) < (n : Int) := by omega
      obtain ⟨p, hp⟩ : ∃ p, a + k = p := ⟨_, rfl⟩
      obtain ⟨q, hq⟩ : ∃ q, b + k = q := ⟨_, rfl⟩
      have HPQ : Sl (a + k = p ∧ b + k = q) := ⟨hp, hq⟩
      have hpI : (a : Int) + (k : Int) = (p : Int) := by omega
      have hqI : (b : Int) + (k : Int) = (q : Int) := by omega
      have hpN : p < N := by omega
      have hqN : q < N := by omega
      have hpN2 : (p : Int) < (N : Int) := by omega
      have hqN2 : (q : Int) < (N : Int) := by omega
      have hpw : IntKind.i64.wrap (p : Int) = (p : Int) := by rw [IntKind.wrap_i64]; omega
      have hqw : IntKind.i64.wrap (q : Int) = (q : Int) := by rw [IntKind.wrap_i64]; omega
      have cp1 := HK.out.2.cell hpN
      have cq1 := HK.out.2.cell hqN
      obtain ⟨x, hP⟩ : ∃ P, swr d a b k p = P := ⟨_, rfl⟩
      obtain ⟨u, hR⟩ : ∃ R, swr d a b k q = R := ⟨_, rfl⟩
      rw [hP] at cp1
      rw [hR] at cq1
      have HPR : Sl _ := ⟨And.intro hP hR⟩
      have HNN : Sl (p < N ∧ q < N) := ⟨hpN, hqN⟩
      have hne : p ≠ q := by omega
      have hk6 : k ≤ 1000000 := by omega
      have fp1 := HK.out.2.frozen p
      have fq1 := HK.out.2.frozen q
      clear hP hR hp hq hb ha hN
      go_wp2_with fail
      go_region
      go_wp2_with fail
      have hpb := HK.out.2.swap HNN.out.1 HNN.out.2 HPR.out.1 HPR.out.2
      exact ⟨⟨k + 1, hkn, by go_num, ⟨Mv.trans HK.out.1 (Mv.trans (Mv.set2 _ _ _ _ _ _) (Mv.drew _ _)), by rw [swr, HPQ.out.1, HPQ.out.2]; exact hpb⟩⟩, by simp [RowKit.intOf]; omega⟩
    · obtain rfl : k = n := by omega
      go_wp2_with fail
      go_end0
      exact ⟨rfl, HK.out.1, HK.out.2⟩
theorem rot_pmI {α : Type} {m : Nat} : ∀ (s i j : Nat) (d : Nat → α), i + j ≤ s → 0 < i → 0 < j → i ≤ m → Pm (m - i) (m + j) d (rot d (m - i) m (m + j))
  | 0, i, j, d, h, hi, hj, him => by omega
  | s+1, i, j, d, h, hi, hj, him => by
    rcases Nat.lt_trichotomy i j with hl | hl | hl
    · rw [← rot_right d him hl]
      exact (swr_pm d _ _ i (Nat.le_refl _) (by omega) (by omega) (by omega)).trans ((rot_pmI s i (j - i) _ (by omega) hi (by omega) him).mono (Nat.le_refl _) (by omega))
    · subst hl
      rw [← rot_end d him]
      exact swr_pm d _ _ i (Nat.le_refl _) (by omega) (by omega) (by omega)
    · rw [← rot_left d him hl]
      exact (swr_pm d _ _ j (Nat.le_refl _) (by omega) (by omega) (by omega)).trans ((rot_pmI s (i - j) j _ (by omega) (by omega) hj (by omega)).mono (by omega) (Nat.le_refl _))
set_option maxHeartbeats 6400000 in
set_option maxRecDepth 100000 in
theorem rotateI_any (ws : List Int) (g N cap a m b : Nat) (d : Nat → Int) (cmp : Value) (w : World) (h : PBI ws w g N d) (ha : a < m) (hm : m < b) (hb : b ≤ N) (hN : N ≤ 1000000) :
    Calls Tryz.prog 201 #[.slice (some ⟨g, 0, none⟩) N cap, .int .i64 a, .int .i64 m, .int .i64 b, cmp] w fun e w' => e = .returned (.tuple #[]) ∧ Mv g w w' ∧ PBI ws w' g N (rot d a m b) := by
  have HP : Sl _ := ⟨h⟩
  have HAB : Sl (a < m ∧ m < b ∧ b ≤ N ∧ N ≤ 1000000) := ⟨ha, hm, hb, hN⟩
  have h1 : (m : Int) ≤ 1000000 := by omega
  have h2 : (b : Int) ≤ 1000000 := by omega
  have h3 : (a : Int) ≤ (m : Int) := by omega
  have h4 : (m : Int) ≤ (b : Int) := by omega
  obtain ⟨i0, hi0⟩ : ∃ i0, m - a = i0 := ⟨_, rfl⟩
  obtain ⟨j0, hj0⟩ : ∃ j0, b - m = j0 := ⟨_, rfl⟩
  have HIJ : Sl (m - a = i0 ∧ b - m = j0) := ⟨hi0, hj0⟩
  have hi1 : (m : Int) - (a : Int) = (i0 : Int) := by omega
  have hj1 : (b : Int) - (m : Int) = (j0 : Int) := by omega
  have hi2 : IntKind.i64.wrap (i0 : Int) = (i0 : Int) := by rw [IntKind.wrap_i64]; omega
  have hj2 : IntKind.i64.wrap (j0 : Int) = (j0 : Int) := by rw [IntKind.wrap_i64]; omega
  clear h ha hm hb hN hi0 hj0
  go_enter Tryz.func201, Tryz.ntmps201
  go_wp2_with fail
  clear hi1 hj1 hi2 hj2
  go_loopw [10, 11] (fun s10 s11 wr => ∃ (i j : Nat) (e : Nat → Int), 0 < i ∧ 0 < j ∧ i ≤ i0 ∧ j ≤ j0 ∧ s10 = .int .i64 i ∧ s11 = .int .i64 j ∧ Sl (Mv g w wr ∧ PBI ws wr g N e ∧ rot e (m - i) m (m + j) = rot d a m b)) (fun s10 s11 _ => (RowKit.intOf s10).toNat + (RowKit.intOf s11).toNat)
  case atStart =>
    obtain ⟨ha, hm, hb, hN⟩ := HAB.out
    have hij := HIJ.out
    exact ⟨i0, j0, d, by omega, by omega, Nat.le_refl _, Nat.le_refl _, rfl, rfl, ⟨Mv.refl _ _, HP.out, by rw [show m - i0 = a by omega, show m + j0 = b by omega]⟩⟩
  case round =>
    obtain ⟨i, j, e, hi, hj, hii, hjj, rfl, rfl, HK⟩ := hrel
    obtain ⟨ha, hm, hb, hN⟩ := HAB.out
    have hij := HIJ.out
    clear HP
    obtain ⟨p, hp⟩ : ∃ p, m - i = p := ⟨_, rfl⟩
    have HPP : Sl _ := ⟨hp⟩
    have hpI : (m : Int) - (i : Int) = (p : Int) := by omega
    have hpw : IntKind.i64.wrap (p : Int) = (p : Int) := by rw [IntKind.wrap_i64]; omega
    have him : i ≤ m := by omega
    have hmj : m + j ≤ b := by omega
    rcases Nat.lt_trichotomy i j with hl | hl | hl
    · have hne : ((i : Int) != (j : Int)) = true := by simp; omega
      have hgt : decide ((j : Int) < (i : Int)) = false := decide_eq_false (by omega)
      obtain ⟨q, hq⟩ : ∃ q, m + j - i = q := ⟨_, rfl⟩
      have hq0 : (m : Int) + (j : Int) ≤ 2000000 := by omega
      have hqI : (m : Int) + (j : Int) - (i : Int) = (q : Int) := by omega
      have hqw : IntKind.i64.wrap (q : Int) = (q : Int) := by rw [IntKind.wrap_i64]; omega
      obtain ⟨r, hr⟩ : ∃ r, j - i = r := ⟨_, rfl⟩
      have hrI : (j : Int) - (i : Int) = (r : Int) := by omega
      have hrw : IntKind.i64.wrap (r : Int) = (r : Int) := by rw [IntKind.wrap_i64]; omega
      have HSW : Sl _ := ⟨swapRI_any ws g N cap p q i e cmp wr HK.out.2.1 (by omega) (by omega) hN⟩
      have HRT : Sl _ := ⟨rot_right e him hl⟩
      have HBN : Sl (0 < r ∧ r ≤ j0 ∧ r < j) := ⟨by omega⟩
      rw [hp, hq, hr] at HRT
      have hkr := HK.out.2.2
      rw [hp] at hkr
      have HKR : Sl _ := ⟨hkr⟩
      clear hkr hp hq hr ha hm hb hN hij him hmj
      go_wp2_with fail
      refine HSW.out.mono ?_; rintro ee w2 ⟨rfl, hm2, hp2⟩
      have HW : Sl _ := ⟨And.intro hm2 hp2⟩
      clear hm2 hp2 HSW
      go_wp2_with fail
      exact ⟨⟨i, r, _, hi, HBN.out.1, hii, HBN.out.2.1, rfl, rfl, ⟨Mv.trans HK.out.1 HW.out.1, HW.out.2, by rw [HPP.out, HRT.out]; exact HKR.out⟩⟩, by have := HBN.out.2.2; simp [RowKit.intOf]; omega⟩
    · subst hl
      have hne : ((i : Int) != (i : Int)) = false := by simp
      have HSW : Sl _ := ⟨swapRI_any ws g N cap p m i e cmp wr HK.out.2.1 (by omega) (by omega) hN⟩
      have HRT : Sl _ := ⟨rot_end e him⟩
      have hkr := HK.out.2.2
      rw [hp] at HRT hkr
      have HKR : Sl _ := ⟨hkr⟩
      clear hkr hp ha hm hb hN hij him hmj
      go_wp2_with fail
      refine HSW.out.mono ?_; rintro ee w2 ⟨rfl, hm2, hp2⟩
      have HW : Sl _ := ⟨And.intro hm2 hp2⟩
      clear hm2 hp2 HSW
      go_wp2_with fail
      go_end0
      exact ⟨rfl, Mv.trans HK.out.1 HW.out.1, by rw [← HKR.out, ← HRT.out]; exact HW.out.2⟩
    · have hne : ((i : Int) != (j : Int)) = true := by simp; omega
      have hgt : decide ((j : Int) < (i : Int)) = true := decide_eq_true (by omega)
      obtain ⟨r, hr⟩ : ∃ r, i - j = r := ⟨_, rfl⟩
      have hrI : (i : Int) - (j : Int) = (r : Int) := by omega
      have hrw : IntKind.i64.wrap (r : Int) = (r : Int) := by rw [IntKind.wrap_i64]; omega
      have HSW : Sl _ := ⟨swapRI_any ws g N cap p m j e cmp wr HK.out.2.1 (by omega) (by omega) hN⟩
      have HRT : Sl _ := ⟨rot_left e him hl⟩
      have HBN : Sl (0 < r ∧ r ≤ i0 ∧ r < i) := ⟨by omega⟩
      rw [hr, hp] at HRT
      have hkr := HK.out.2.2
      rw [hp] at hkr
      have HKR : Sl _ := ⟨hkr⟩
      clear hkr hp hr ha hm hb hN hij him hmj
      go_wp2_with fail
      refine HSW.out.mono ?_; rintro ee w2 ⟨rfl, hm2, hp2⟩
      have HW : Sl _ := ⟨And.intro hm2 hp2⟩
      clear hm2 hp2 HSW
      go_wp2_with fail
      exact ⟨⟨r, j, _, HBN.out.1, hj, HBN.out.2.1, hjj, rfl, rfl, ⟨Mv.trans HK.out.1 HW.out.1, HW.out.2, by rw [HRT.out]; exact HKR.out⟩⟩, by have := HBN.out.2.2; simp [RowKit.intOf]; omega⟩
end Go.Proofs.YtbaojmfkjpnfhaaGreatDoor
