/- A row of indices sorted stably by their weights: in memory; the comparison; slices.swapRangeCmpFunc, rotateCmpFunc. (Printed by gensi.py.) -/
import Derived.Test.YtabkpbbjodfolaaGreatDoorZvZ
import Derived.Test.YtabkpbbjodfolaaGreatDoorZvR
import Derived.BigRegion
namespace Go.Proofs.YtabkpbbjodfolaaGreatDoor
set_option linter.unusedSimpArgs false
open Go.RowKit
set_option linter.unusedVariables false
def dueI (ws : List Int) (x : Int) : Int := gt ws x.toNat * 1000 + x
def PBI (ws : List Int) (w : World) (g n : Nat) (d : Nat → Int) : Prop := IRow w g n d ∧ ∀ j, j < n → 0 ≤ d j ∧ d j < (ws.length : Int)
section
variable {ws : List Int} {w w' : World} {g n : Nat} {d : Nat → Int}
theorem PBI.lt (h : PBI ws w g n d) : g < w.heap.size := h.1.lt
theorem PBI.cell (h : PBI ws w g n d) {j : Nat} (hj : j < n) : w.cell? ⟨g, j, none⟩ = some (.int .i64 (d j)) := h.1.cell hj
theorem PBI.mv {b : Nat} (h : PBI ws w b n d) (hm : Mv g w w') (hne : b ≠ g) : PBI ws w' b n d := ⟨h.1.mv hm hne, h.2⟩
theorem PBI.below {B : Nat} (h : PBI ws w g n d) (hb : Below B w w') (hg : g < B) : PBI ws w' g n d := ⟨h.1.below hb hg, h.2⟩
theorem PBI.frozen (h : PBI ws w g n d) (j : Nat) : w.frozen? ⟨g, j, none⟩ = false := h.1.frozen j
theorem PBI.drewN (h : PBI ws w g n d) (k : Nat) : PBI ws (w.drewN k) g n d := ⟨by obtain ⟨t, cs, a, b, c⟩ := h.1; exact ⟨t, cs, a.drewN k, b, c⟩, h.2⟩
theorem PBI.swap (h : PBI ws w g n d) {i j : Nat} (hi : i < n) (hj : j < n) {x u : Int} (hx : d i = x) (hu : d j = u) :
    PBI ws ((w.setCell ⟨g, i, none⟩ (.int .i64 u)).setCell ⟨g, j, none⟩ (.int .i64 x)) g n (swp d i j) := by
  refine ⟨((h.1.set (i := i) u).set (i := j) x).congr fun k hk => ?_, fun k hk => ?_⟩
  · unfold swp
    by_cases h1 : k = j
    · subst h1; simp only [if_true]
      by_cases h2 : k = i
      · subst h2; simp [hx]
      · simp [h2, hx]
    · simp only [h1, if_false]
      by_cases h2 : k = i
      · simp [h2, hu]
      · simp [h2]
  · unfold swp
    split
    · exact h.2 j hj
    · split
      · exact h.2 i hi
      · exact h.2 k hk
end
theorem Mv.set2 (w : World) (g : Nat) (a b : Nat) (p q : Value) : Mv g w ((w.setCell ⟨g, a, none⟩ p).setCell ⟨g, b, none⟩ q) :=
  Mv.trans (Mv.setCells w g a [p]) (Mv.setCells _ g b [q])
def KeyI (ws : List Int) (w : World) (gf g : Nat) : Prop := (∃ A c, Blk w gf 60 #[.slice A ws.length c] ∧ II w A ws.length ws ∧ ∀ ad, A = some ad → ad.block ≠ g) ∧ gf ≠ g ∧ ws.length ≤ 1000
theorem KeyI.mv {ws : List Int} {w w' : World} {gf g : Nat} (h : KeyI ws w gf g) (hm : Mv g w w') : KeyI ws w' gf g := by
  obtain ⟨⟨A, c, h1, h2, h3⟩, h4, h5⟩ := h; refine ⟨⟨A, c, h1.mv hm h4, ⟨h2.1, h2.2.1, fun hn => ?_⟩, h3⟩, h4, h5⟩; obtain ⟨ad, e, e1, e2⟩ := h2.2.2 hn; refine ⟨ad, e, Nat.lt_of_lt_of_le e1 hm.size, fun j u hu => ?_⟩; rw [← e2 j u hu]; exact World.cell?_of_block (by rw [block_of_add]; exact hm.block _ e1 (h3 ad e))
theorem KeyI.below {ws : List Int} {w w' : World} {gf g : Nat} (h : KeyI ws w gf g) (hb : Below w.heap.size w w') : KeyI ws w' gf g := by
  obtain ⟨⟨A, c, h1, h2, h3⟩, h4, h5⟩ := h; exact ⟨⟨A, c, h1.below hb h1.lt, h2.below hb, h3⟩, h4, h5⟩
def cmpD (x y : Int) : Int := if x < y then -1 else if y < x then 1 else 0
theorem cmpD_due {ws : List Int} (hw : ws.length ≤ 1000) {x u : Int} (hu : 0 ≤ u) (hx : x < (ws.length : Int)) (hux : u < x) : cmpD (gt ws x.toNat) (gt ws u.toNat) < 0 ↔ dueI ws x < dueI ws u := by
  unfold cmpD dueI; generalize gt ws x.toNat = p; generalize gt ws u.toNat = q
  split
  · constructor
    · intro _; omega
    · intro _; omega
  · split
    · constructor <;> intro h <;> omega
    · constructor <;> intro h <;> omega
theorem isNaN64_any (x : Int) (w : World) : Calls Tryz.prog 115 #[.int .i64 x] w fun e w' => e = .returned (.bool false) ∧ w' = w := by
  go_enter Tryz.func115, Tryz.ntmps115; go_wp2_with fail; go_ret; exact ⟨by first | rfl | simp, rfl⟩
set_option maxHeartbeats 1600000 in
theorem compare64_any (x y : Int) (w : World) : Calls Tryz.prog 60 #[.int .i64 x, .int .i64 y] w fun e w' => e = .returned (.int .i64 (cmpD x y)) ∧ w' = w := by
  have HN : Sl _ := ⟨fun (z : Int) => isNaN64_any z w⟩; obtain ⟨r, hr⟩ : ∃ r, cmpD x y = r := ⟨_, rfl⟩; rw [hr]; have HR : Sl ((if x < y then (-1 : Int) else if y < x then 1 else 0) = r) := ⟨hr⟩; clear hr
  by_cases h1 : x < y
  · have h1d : decide (x < y) = true := decide_eq_true h1; have HV : Sl (r = -1) := ⟨by rw [← HR.out, if_pos h1]⟩; clear HR; go_enter Tryz.func60, Tryz.ntmps60; go_wp2_with fail; refine (HN.out x).mono ?_; rintro e w1 ⟨rfl, rfl⟩; go_wp2_with fail; refine (HN.out y).mono ?_; rintro e w1 ⟨rfl, rfl⟩; go_wp2_with fail; go_ret; exact ⟨by rw [HV.out]; rfl, rfl⟩
  · have h1d : decide (x < y) = false := decide_eq_false h1
    by_cases h2 : y < x
    · have h2d : decide (y < x) = true := decide_eq_true h2; have HV : Sl (r = 1) := ⟨by rw [← HR.out, if_neg h1, if_pos h2]⟩; clear HR; go_enter Tryz.func60, Tryz.ntmps60; go_wp2_with fail; refine (HN.out x).mono ?_; rintro e w1 ⟨rfl, rfl⟩; go_wp2_with fail; refine (HN.out y).mono ?_; rintro e w1 ⟨rfl, rfl⟩; go_wp2_with fail; go_ret; exact ⟨by rw [HV.out]; rfl, rfl⟩
    · have h2d : decide (y < x) = false := decide_eq_false h2; have HV : Sl (r = 0) := ⟨by rw [← HR.out, if_neg h1, if_neg h2]⟩; clear HR; go_enter Tryz.func60, Tryz.ntmps60; go_wp2_with fail; refine (HN.out x).mono ?_; rintro e w1 ⟨rfl, rfl⟩; go_wp2_with fail; refine (HN.out y).mono ?_; rintro e w1 ⟨rfl, rfl⟩; go_wp2_with fail; go_ret; exact ⟨by rw [HV.out]; rfl, rfl⟩
set_option maxHeartbeats 3200000 in
set_option maxRecDepth 100000 in
theorem plan1I_any {ws : List Int} {gf g : Nat} (x u : Int) (w : World) (h : KeyI ws w gf g) (hx : 0 ≤ x ∧ x < (ws.length : Int)) (hu : 0 ≤ u ∧ u < (ws.length : Int)) :
    Calls Tryz.prog 59 #[.int .i64 x, .int .i64 u, .pointer (some ⟨gf, 0, none⟩)] w fun e w' => e = .returned (.int .i64 (cmpD (gt ws x.toNat) (gt ws u.toNat))) ∧ Below w.heap.size w w' := by
  obtain ⟨⟨A, c, h1, h2, h3⟩, h4, h5⟩ := h; obtain ⟨a, rfl⟩ := Int.eq_ofNat_of_zero_le hx.1; obtain ⟨b, rfl⟩ := Int.eq_ofNat_of_zero_le hu.1; simp only [Int.toNat_natCast]; have ha : a < ws.length := (by omega); have hb : b < ws.length := (by omega); obtain ⟨n, hn⟩ : ∃ n, ws.length = n := ⟨_, rfl⟩; rw [hn] at h1 h2 ha hb hx hu; obtain ⟨ad, rfl, hab, c1⟩ := h2.cell ha; obtain ⟨ad', e, _, c2⟩ := h2.cell hb; injection e with e
  subst e; obtain ⟨p, hp⟩ : ∃ p, gt ws a = p := ⟨_, rfl⟩; obtain ⟨q, hq⟩ : ∃ q, gt ws b = q := ⟨_, rfl⟩; rw [hp] at c1 ⊢; rw [hq] at c2 ⊢; have haI : (a : Int) < (n : Int) := hx.2; have hbI : (b : Int) < (n : Int) := hu.2; have VA : Sl (∀ z, Calls Tryz.prog 60 #[.int .i64 p, .int .i64 q] (w.drewN z) fun e w'' => e = .returned (.int .i64 (cmpD p q)) ∧ ∃ k, w'' = w.drewN k) := ⟨fun z => (compare64_any p q (w.drewN z)).mono fun e w'' h => ⟨h.1, z, h.2⟩⟩; obtain ⟨r, hr⟩ : ∃ r, cmpD p q = r := ⟨_, rfl⟩; rw [hr] at VA ⊢; have hw : w.cell? ⟨gf, 0, none⟩ = some (.slice (some ad) n c) := h1.cell 0; clear hp hq h1 h2 h3 h4 h5 hn hr hx hu hab; go_enter Tryz.func59, Tryz.ntmps59; go_wp2_with fail
  go_quiet ((go_at_call 60; (with_reducible exact VA.out _)))
  go_wp2_with fail; go_ret; exact ⟨rfl, below_drewN (Below.refl _ _) nq⟩
end Go.Proofs.YtabkpbbjodfolaaGreatDoor
namespace Go.Proofs.YtabkpbbjodfolaaGreatDoor
set_option linter.unusedSimpArgs false
open Go.RowKit
set_option linter.unusedVariables false
def Upf (e : Nat → Int) (a m b : Nat) : Prop := ∀ p q, a ≤ p → p < q → m ≤ q → q < b → e p < e q
def Vh (f : Nat → Int) (a m j b : Nat) : Prop := (∀ p, a ≤ p → p ≤ m → p ≠ j → f p < f j) ∧ Upf f a (m + 1) b
theorem Vh.start {e : Nat → Int} {a m b : Nat} (h : Upf e a m b) (hm : m < b) : Vh e a m m b :=
  ⟨fun p h1 h2 h3 => h p m h1 (by omega) (Nat.le_refl _) hm, fun p q h1 h2 h3 h4 => h p q h1 h2 (by omega) h4⟩
theorem Vh.move {f : Nat → Int} {a m i b : Nat} (h : Vh f a m (i + 1) b) (ha : a ≤ i) (hm : i + 1 ≤ m) : Vh (swp f (i + 1) i) a m i b := by
  have e : ∀ k, swp f (i + 1) i k = if k = i + 1 then f i else if k = i then f (i + 1) else f k := fun k => rfl
  refine ⟨fun p h1 h2 h3 => ?_, fun p q h1 h2 h3 h4 => ?_⟩
  · rw [e, e, if_neg (show ¬ i = i + 1 by omega), if_pos rfl]
    by_cases hp : p = i + 1
    · rw [if_pos hp]; exact h.1 i ha (by omega) (by omega)
    · rw [if_neg hp, if_neg h3]; exact h.1 p h1 h2 hp
  · rw [e, e, if_neg (show ¬ q = i + 1 by omega), if_neg (show ¬ q = i by omega)]
    by_cases hp : p = i + 1
    · rw [if_pos hp]; exact h.2 i q ha (by omega) h3 h4
    · rw [if_neg hp]
      by_cases hp2 : p = i
      · rw [if_pos hp2]; exact h.2 (i + 1) q (by omega) (by omega) h3 h4
      · rw [if_neg hp2]; exact h.2 p q h1 h2 h3 h4
set_option maxHeartbeats 12800000 in
set_option maxRecDepth 100000 in
theorem insSortI_any (ws : List Int) (g gf N cap a b : Nat) (d : Nat → Int) (w : World) (h : PBI ws w g N d) (hf : KeyI ws w gf g) (hab : a ≤ b) (hb : b ≤ N) (hN : N ≤ 1000000) (hup : ∀ p q, a ≤ p → p < q → q < b → d p < d q) :
    Calls Tryz.prog 156 #[.slice (some ⟨g, 0, none⟩) N cap, .int .i64 a, .int .i64 b, .func (.func 59) #[] #[.pointer (some ⟨gf, 0, none⟩)]] w fun e w' => e = .returned (.tuple #[]) ∧ Mv g w w' ∧ ∃ d', PBI ws w' g N d' ∧ Pm a b d d' ∧ Srt (dueI ws) d' a b := by
  have hrun : ∀ (args : Array Value) (w : World), (callFunc 59 args).run Tryz.prog w = .ok (.enter 59 args) w := fun a w => by go_simp
  have HP : Sl _ := ⟨h⟩; have HF : Sl _ := ⟨hf⟩; have HAB : Sl (a ≤ b ∧ b ≤ N ∧ N ≤ 1000000) := ⟨hab, hb, hN⟩; have HU : Sl _ := ⟨hup⟩; have hw0 : IntKind.i64.wrap 0 = 0 := (by decide); have h1 : (b : Int) ≤ 1000000 := (by omega); have h2 : (a : Int) ≤ (b : Int) := (by omega); clear h hf hab hb hN hup; go_enter Tryz.func156, Tryz.ntmps156; go_wp2_with fail
  go_loopw [8] (fun s8 wr => ∃ (m : Nat) (e : Nat → Int), a + 1 ≤ m ∧ (m ≤ b ∨ m = a + 1) ∧ s8 = .int .i64 m ∧ Sl (Mv g w wr ∧ PBI ws wr g N e ∧ Pm a b d e ∧ Srt (dueI ws) e a m ∧ Upf e a m b)) (fun s8 _ => b - (RowKit.intOf s8).toNat)
  case atStart => exact ⟨a + 1, d, Nat.le_refl _, .inr rfl, by go_num, ⟨Mv.refl _ _, HP.out, .refl, .one (Nat.le_refl _), fun p q h1 h2 _ h4 => HU.out p q h1 h2 h4⟩⟩
  case round =>
    clear HP; obtain ⟨m, e, ham, hmb, rfl, HK⟩ := hrel
    by_cases hm : m < b
    · have hmI : (m : Int) < (b : Int) := (by omega); go_wp2_with fail
      go_loopw [9] (fun s9 wq => ∃ (j : Nat) (f : Nat → Int), a ≤ j ∧ j ≤ m ∧ s9 = .int .i64 j ∧ Sl (Mv g w wq ∧ PBI ws wq g N f ∧ Pm a b d f ∧ Hole (dueI ws) f a m j ∧ Vh f a m j b)) (fun s9 _ => (RowKit.intOf s9).toNat)
      case atStart => exact ⟨m, e, by omega, Nat.le_refl _, rfl, ⟨HK.out.1, HK.out.2.1, HK.out.2.2.1, .start HK.out.2.2.2.1, .start HK.out.2.2.2.2 hm⟩⟩
      case round =>
        clear HK; obtain ⟨j, f, haj, hjm, rfl, HK⟩ := hrel; obtain ⟨hab, hbN, hN⟩ := HAB.out
        by_cases hja : j = a
        · subst hja; have hgt : decide ((j : Int) < (j : Int)) = false := decide_eq_false (by omega); have HDN : Sl (Srt (dueI ws) f j (m + 1)) := ⟨HK.out.2.2.2.1.done (.inl rfl)⟩; have HVD : Sl _ := ⟨HK.out.2.2.2.2.2⟩; have HQ : Sl (Mv g w wr.drew ∧ PBI ws wr.drew g N f ∧ Pm j b d f) := ⟨Mv.trans HK.out.1 (Mv.drew _ _), HK.out.2.1.drewN 1, HK.out.2.2.1⟩; have hmN : (m : Int) ≤ 1000000 := (by omega); clear HK; go_wp2_with fail; have hm : Mv wr.heap.size wr wr.drew := Mv.drew _ _; have HSW : Sl (RowKit.Below wr.heap.size wr wr.drew) := ⟨below_drewN (Below.refl _ _) 1⟩; refine wp_region_held_drew (S := fun w' => Mv wr.heap.size wr w') (by kernel_rfl) hm (fun hHeld => ?_); clear hm; refine wpAnyH_pure 0 (v := .int .i64 (j : Int)) rfl (by kernel_rfl) (by kernel_rfl) (by kernel_rfl) (fun _ _ _ h => h) rfl (fun _ => rfl) (by assumption) ?_; simp only [Act.put, sS0, sS1, sS2]; refine wpAnyH_pure 1 (v := .int .i64 (j : Int)) rfl (by kernel_rfl) (by kernel_rfl) (by kernel_rfl) (fun _ _ _ h => h) rfl (fun _ => rfl) (by assumption) ?_; simp only [Act.put, sS0, sS1, sS2]; refine wpAnyH_pure 2 (v := .bool false) rfl (by kernel_rfl) (by kernel_rfl) (by kernel_rfl) (fun _ _ _ h => h) rfl (fun _ => by go_simp) (by assumption) ?_; simp only [Act.put, sS0, sS1, sS2]; refine wpAnyH_pure 3 (v := .bool false) rfl (by kernel_rfl) (by kernel_rfl) (by kernel_rfl) (fun _ _ _ h => h) rfl (fun _ => rfl) (by assumption) ?_; simp only [Act.put, sS0, sS1, sS2]; refine wpAnyH_no 4 rfl (by kernel_rfl) (by kernel_rfl) (by kernel_rfl) (fun _ _ _ h => h) (by rfl) (by assumption) ?_; simp only [Act.put, sS0, sS1, sS2]; refine wpAnyH_no 5 rfl (by kernel_rfl) (by kernel_rfl) (by kernel_rfl) (fun _ _ _ h => h) (by rfl) (by assumption) ?_; simp only [Act.put, sS0, sS1, sS2]; refine wpAnyH_no 6 rfl (by kernel_rfl) (by kernel_rfl) (by kernel_rfl) (fun _ _ _ h => h) (by rfl) (by assumption) ?_; simp only [Act.put, sS0, sS1, sS2]; refine wpAnyH_no 7 rfl (by kernel_rfl) (by kernel_rfl) (by kernel_rfl) (fun _ _ _ h => h) (by rfl) (by assumption) ?_; simp only [Act.put, sS0, sS1, sS2]; refine wpAnyH_no 8 rfl (by kernel_rfl) (by kernel_rfl) (by kernel_rfl) (fun _ _ _ h => h) (by rfl) (by assumption) ?_; simp only [Act.put, sS0, sS1, sS2]; refine wpAnyH_no 9 rfl (by kernel_rfl) (by kernel_rfl) (by kernel_rfl) (fun _ _ _ h => h) (by rfl) (by assumption) ?_; simp only [Act.put, sS0, sS1, sS2]; refine wpAnyH_no 10 rfl (by kernel_rfl) (by kernel_rfl) (by kernel_rfl) (fun _ _ _ h => h) (by rfl) (by assumption) ?_; simp only [Act.put, sS0, sS1, sS2]; refine wpAnyH_no 11 rfl (by kernel_rfl) (by kernel_rfl) (by kernel_rfl) (fun _ _ _ h => h) (by rfl) (by assumption) ?_; simp only [Act.put, sS0, sS1, sS2]; refine wpAnyH_no 12 rfl (by kernel_rfl) (by kernel_rfl) (by kernel_rfl) (fun _ _ _ h => h) (by rfl) (by assumption) ?_; simp only [Act.put, sS0, sS1, sS2]; refine wpAnyH_no 13 rfl (by kernel_rfl) (by kernel_rfl) (by kernel_rfl) (fun _ _ _ h => h) (by rfl) (by assumption) ?_
          simp only [Act.put, sS0, sS1, sS2]; refine wpAnyH_no 14 rfl (by kernel_rfl) (by kernel_rfl) (by kernel_rfl) (fun _ _ _ h => h) (by rfl) (by assumption) ?_; simp only [Act.put, sS0, sS1, sS2]; refine wpAnyH_no 15 rfl (by kernel_rfl) (by kernel_rfl) (by kernel_rfl) (fun _ _ _ h => h) (by rfl) (by assumption) ?_; simp only [Act.put, sS0, sS1, sS2]; refine wpAnyH_pure 16 (v := .bool false) rfl (by kernel_rfl) (by kernel_rfl) (by kernel_rfl) (fun _ _ _ h => h) rfl (fun _ => by go_simp) (by assumption) ?_; simp only [Act.put, sS0, sS1, sS2]; refine wpAnyH_done (by kernel_rfl) ?_ _; clear hHeld; go_wp2_with fail; exact ⟨⟨m + 1, f, by omega, .inl hm, by go_num, ⟨HQ.out.1, HQ.out.2.1, HQ.out.2.2, HDN.out, HVD.out⟩⟩, by simp [RowKit.intOf]; omega⟩
        · obtain ⟨i, hi⟩ : ∃ i, j = i + 1 := ⟨j - 1, by omega⟩; have hij : (j : Int) - 1 = (i : Int) := (by omega); have hjN : j < N := (by omega); have hiN : i < N := (by omega); have hjI : (j : Int) < (N : Int) := (by omega); have hiI : (i : Int) < (N : Int) := (by omega); have haI : (a : Int) < (j : Int) := (by omega); have hjb : (j : Int) ≤ 1000000 := (by omega); have hiw : IntKind.i64.wrap (i : Int) = (i : Int) := (by rw [IntKind.wrap_i64]; omega); have hgt : decide ((a : Int) < (j : Int)) = true := decide_eq_true haI; obtain ⟨x, hp⟩ : ∃ p, f j = p := ⟨_, rfl⟩; obtain ⟨u, hq⟩ : ∃ q, f i = q := ⟨_, rfl⟩; have HPQ : Sl (f j = x ∧ f i = u) := ⟨hp, hq⟩; have HIJ : Sl (j = i + 1 ∧ a ≤ i ∧ j < N ∧ i < N) := ⟨hi, by omega, hjN, hiN⟩
          have HRA : Sl ((∀ w' : World, Mv wr.heap.size wr w' → w'.cell? ⟨g, j, none⟩ = some (.int .i64 x)) ∧ (∀ w' : World, Mv wr.heap.size wr w' → w'.cell? ⟨g, i, none⟩ = some (.int .i64 u))) := ⟨by
            refine ⟨fun w' hm' => ?_, fun w' hm' => ?_⟩
            · have := (HK.out.2.1.mv hm' (by have := HK.out.2.1.lt; omega)).cell hjN; rw [hp] at this; exact this
            · have := (HK.out.2.1.mv hm' (by have := HK.out.2.1.lt; omega)).cell hiN
              rw [hq] at this; exact this⟩
          obtain ⟨c, hc⟩ : ∃ c, cmpD (gt ws x.toNat) (gt ws u.toNat) = c := ⟨_, rfl⟩
          have hux : u < x := by
            have := HK.out.2.2.2.2.1 i (by omega) (by omega) (by omega); rw [hp, hq] at this; exact this
          have hxb := HK.out.2.1.2 j hjN; have hub := HK.out.2.1.2 i hiN; rw [hp] at hxb; rw [hq] at hub; have HCC : Sl (c < 0 ↔ dueI ws x < dueI ws u) := ⟨by rw [← hc]; exact cmpD_due HF.out.2.2 hub.1 hxb.2 hux⟩
          have HCM : Sl (∀ (W : World), RowKit.Below wr.heap.size wr W → Calls Tryz.prog 59 #[.int .i64 x, .int .i64 u, .pointer (some ⟨gf, 0, none⟩)] W fun e w' => e = .returned (.int .i64 c) ∧ RowKit.Below wr.heap.size wr w') := ⟨fun W hW => by
            have := plan1I_any x u W (((KeyI.mv HF.out HK.out.1)).below hW) hxb hub; rw [hc] at this
            exact this.mono fun e w' g => ⟨g.1, hW.trans (g.2.mono hW.size)⟩⟩
          clear hc hp hq hja hi hab hbN hN hux hxb hub
          by_cases hlt : dueI ws x < dueI ws u
          · have hcd : decide (c < 0) = true := decide_eq_true (HCC.out.2 hlt); have HLT : Sl _ := ⟨hlt⟩; clear hlt; go_wp2_with fail; have hm : Mv wr.heap.size wr wr.drew := Mv.drew _ _; have HSW : Sl (RowKit.Below wr.heap.size wr wr.drew) := ⟨below_drewN (Below.refl _ _) 1⟩; refine wp_region_held_drew (S := fun w' => Mv wr.heap.size wr w') (by kernel_rfl) hm (fun hHeld => ?_); clear hm; refine wpAnyH_pure 0 (v := .int .i64 (j : Int)) rfl (by kernel_rfl) (by kernel_rfl) (by kernel_rfl) (fun _ _ _ h => h) rfl (fun _ => rfl) (by assumption) ?_; simp only [Act.put, sS0, sS1, sS2]; refine wpAnyH_pure 1 (v := .int .i64 (a : Int)) rfl (by kernel_rfl) (by kernel_rfl) (by kernel_rfl) (fun _ _ _ h => h) rfl (fun _ => rfl) (by assumption) ?_; simp only [Act.put, sS0, sS1, sS2]; refine wpAnyH_pure 2 (v := .bool true) rfl (by kernel_rfl) (by kernel_rfl) (by kernel_rfl) (fun _ _ _ h => h) rfl (fun _ => by go_simp) (by assumption) ?_; simp only [Act.put, sS0, sS1, sS2]; refine wpAnyH_pure 3 (v := .bool true) rfl (by kernel_rfl) (by kernel_rfl) (by kernel_rfl) (fun _ _ _ h => h) rfl (fun _ => rfl) (by assumption) ?_; simp only [Act.put, sS0, sS1, sS2]; refine wpAnyH_pureg 4 (v := .func (.func 59) #[] #[.pointer (some ⟨gf, 0, none⟩)]) rfl (by kernel_rfl) (by kernel_rfl) (by kernel_rfl) (fun _ _ _ h => h) (by rfl) (fun _ => rfl) (by assumption) ?_; simp only [Act.put, sS0, sS1, sS2]; refine wpAnyH_pureg 5 (v := .slice (some ⟨g, 0, none⟩) N cap) rfl (by kernel_rfl) (by kernel_rfl) (by kernel_rfl) (fun _ _ _ h => h) (by rfl) (fun _ => rfl) (by assumption) ?_; simp only [Act.put, sS0, sS1, sS2]; refine wpAnyH_pureg 6 (v := .int .i64 (j : Int)) rfl (by kernel_rfl) (by kernel_rfl) (by kernel_rfl) (fun _ _ _ h => h) (by rfl) (fun _ => rfl) (by assumption) ?_; simp only [Act.put, sS0, sS1, sS2]; refine wpAnyH_pureg 7 (v := .pointer (some ⟨g, j, none⟩)) rfl (by kernel_rfl) (by kernel_rfl) (by kernel_rfl) (fun _ _ _ h => h) (by rfl) (fun _ => by go_simp) (by assumption) ?_; simp only [Act.put, sS0, sS1, sS2]; refine wpAnyH_cellg 8 (v := .int .i64 x) rfl (by rfl) (fun w' h => by have hc := HRA.out.1 w' h; go_simp) (by kernel_rfl) (by kernel_rfl) (by kernel_rfl) (fun _ _ _ h => h) (by assumption) ?_; simp only [Act.put, sS0, sS1, sS2]; refine wpAnyH_pureg 9 (v := .slice (some ⟨g, 0, none⟩) N cap) rfl (by kernel_rfl) (by kernel_rfl) (by kernel_rfl) (fun _ _ _ h => h) (by rfl) (fun _ => rfl) (by assumption) ?_; simp only [Act.put, sS0, sS1, sS2]; refine wpAnyH_pureg 10 (v := .int .i64 (j : Int)) rfl (by kernel_rfl) (by kernel_rfl) (by kernel_rfl) (fun _ _ _ h => h) (by rfl) (fun _ => rfl) (by assumption) ?_; simp only [Act.put, sS0, sS1, sS2]; refine wpAnyH_pureg 11 (v := .int .i64 (i : Int)) rfl (by kernel_rfl) (by kernel_rfl) (by kernel_rfl) (fun _ _ _ h => h) (by rfl) (fun _ => by go_simp) (by assumption) ?_; simp only [Act.put, sS0, sS1, sS2]
            refine wpAnyH_pureg 12 (v := .pointer (some ⟨g, i, none⟩)) rfl (by kernel_rfl) (by kernel_rfl) (by kernel_rfl) (fun _ _ _ h => h) (by rfl) (fun _ => by go_simp) (by assumption) ?_; simp only [Act.put, sS0, sS1, sS2]; refine wpAnyH_cellg 13 (v := .int .i64 u) rfl (by rfl) (fun w' h => by have hc := HRA.out.2 w' h; go_simp) (by kernel_rfl) (by kernel_rfl) (by kernel_rfl) (fun _ _ _ h => h) (by assumption) ?_; simp only [Act.put, sS0, sS1, sS2]; refine wpAnyH_onew 14 rfl (by kernel_rfl) (by rfl) (fun K hK => ?_); go_simp; go_at_call 59
            (with_reducible refine (HCM.out _ HSW.out).mono ?_)
            rintro ee w2 ⟨rfl, hb⟩; replace HSW : Sl (RowKit.Below wr.heap.size wr w2) := ⟨hb⟩; refine hK.out _ _ (Mv.below HSW.out) (fun hHeld => ?_); clear hK K hb
            (try simp only [Act.put, sS0, sS1, sS2])
            refine wpAnyH_pureg 15 (v := .bool true) rfl (by kernel_rfl) (by kernel_rfl) (by kernel_rfl) (fun _ _ _ h => h) (by rfl) (fun _ => by go_simp) (by assumption) ?_; simp only [Act.put, sS0, sS1, sS2]; refine wpAnyH_pure 16 (v := .bool true) rfl (by kernel_rfl) (by kernel_rfl) (by kernel_rfl) (fun _ _ _ h => h) rfl (fun _ => by go_simp) (by assumption) ?_; simp only [Act.put, sS0, sS1, sS2]; refine wpAnyH_done (by kernel_rfl) ?_ _; clear hHeld; have HP2 : Sl (PBI ws w2 g N f) := ⟨HK.out.2.1.below HSW.out HK.out.2.1.lt⟩; have HM2 : Sl (Mv g w w2) := ⟨Mv.trans HK.out.1 (Mv.below HSW.out)⟩
            have HHO : Sl (Hole (dueI ws) (swp f j i) a m i) := ⟨by
              have h := HK.out.2.2.2.1; obtain ⟨e1, e2, _, _⟩ := HIJ.out; subst e1
              exact h.move e2 hjm (by rw [HPQ.out.1, HPQ.out.2]; exact HLT.out)⟩
            have HVM : Sl (Vh (swp f j i) a m i b) := ⟨by
              have h := HK.out.2.2.2.2; obtain ⟨e1, e2, _, _⟩ := HIJ.out; subst e1
              exact h.move e2 hjm⟩
            have HPM : Sl (Pm a b d (swp f j i)) := ⟨by
              obtain ⟨e1, e2, _, _⟩ := HIJ.out
              exact .step j i HK.out.2.2.1 haj (by omega) e2 (by omega)⟩
            clear HK HRA HCM HSW; have cj1 := HP2.out.cell hjN; have ci1 := HP2.out.cell hiN; rw [HPQ.out.1] at cj1; rw [HPQ.out.2] at ci1; have fj1 := HP2.out.frozen j; have fi1 := HP2.out.frozen i; have hne2 : j ≠ i := (by have := HIJ.out; omega); clear hcd; go_wp2_with fail
            go_region
            go_wp2_with fail; have hpb := HP2.out.swap HIJ.out.2.2.1 HIJ.out.2.2.2 HPQ.out.1 HPQ.out.2; exact ⟨⟨i, _, HIJ.out.2.1, by omega, rfl, ⟨Mv.trans HM2.out (Mv.trans (Mv.set2 _ _ _ _ _ _) (Mv.drew _ _)), hpb, HPM.out, HHO.out, HVM.out⟩⟩, by simp [RowKit.intOf]; omega⟩
          · have hcd : decide (c < 0) = false := decide_eq_false (fun h => hlt (HCC.out.1 h)); have HDN : Sl (Srt (dueI ws) f a (m + 1)) := ⟨HK.out.2.2.2.1.done (.inr ⟨i, HIJ.out.1, HIJ.out.2.1, by rw [HPQ.out.1, HPQ.out.2]; exact hlt⟩)⟩; have hmN : (m : Int) ≤ 1000000 := (by omega); clear hlt; go_wp2_with fail; have hm : Mv wr.heap.size wr wr.drew := Mv.drew _ _; have HSW : Sl (RowKit.Below wr.heap.size wr wr.drew) := ⟨below_drewN (Below.refl _ _) 1⟩; refine wp_region_held_drew (S := fun w' => Mv wr.heap.size wr w') (by kernel_rfl) hm (fun hHeld => ?_); clear hm; refine wpAnyH_pure 0 (v := .int .i64 (j : Int)) rfl (by kernel_rfl) (by kernel_rfl) (by kernel_rfl) (fun _ _ _ h => h) rfl (fun _ => rfl) (by assumption) ?_; simp only [Act.put, sS0, sS1, sS2]; refine wpAnyH_pure 1 (v := .int .i64 (a : Int)) rfl (by kernel_rfl) (by kernel_rfl) (by kernel_rfl) (fun _ _ _ h => h) rfl (fun _ => rfl) (by assumption) ?_; simp only [Act.put, sS0, sS1, sS2]; refine wpAnyH_pure 2 (v := .bool true) rfl (by kernel_rfl) (by kernel_rfl) (by kernel_rfl) (fun _ _ _ h => h) rfl (fun _ => by go_simp) (by assumption) ?_; simp only [Act.put, sS0, sS1, sS2]; refine wpAnyH_pure 3 (v := .bool true) rfl (by kernel_rfl) (by kernel_rfl) (by kernel_rfl) (fun _ _ _ h => h) rfl (fun _ => rfl) (by assumption) ?_; simp only [Act.put, sS0, sS1, sS2]; refine wpAnyH_pureg 4 (v := .func (.func 59) #[] #[.pointer (some ⟨gf, 0, none⟩)]) rfl (by kernel_rfl) (by kernel_rfl) (by kernel_rfl) (fun _ _ _ h => h) (by rfl) (fun _ => rfl) (by assumption) ?_; simp only [Act.put, sS0, sS1, sS2]; refine wpAnyH_pureg 5 (v := .slice (some ⟨g, 0, none⟩) N cap) rfl (by kernel_rfl) (by kernel_rfl) (by kernel_rfl) (fun _ _ _ h => h) (by rfl) (fun _ => rfl) (by assumption) ?_; simp only [Act.put, sS0, sS1, sS2]; refine wpAnyH_pureg 6 (v := .int .i64 (j : Int)) rfl (by kernel_rfl) (by kernel_rfl) (by kernel_rfl) (fun _ _ _ h => h) (by rfl) (fun _ => rfl) (by assumption) ?_; simp only [Act.put, sS0, sS1, sS2]; refine wpAnyH_pureg 7 (v := .pointer (some ⟨g, j, none⟩)) rfl (by kernel_rfl) (by kernel_rfl) (by kernel_rfl) (fun _ _ _ h => h) (by rfl) (fun _ => by go_simp) (by assumption) ?_; simp only [Act.put, sS0, sS1, sS2]; refine wpAnyH_cellg 8 (v := .int .i64 x) rfl (by rfl) (fun w' h => by have hc := HRA.out.1 w' h; go_simp) (by kernel_rfl) (by kernel_rfl) (by kernel_rfl) (fun _ _ _ h => h) (by assumption) ?_; simp only [Act.put, sS0, sS1, sS2]; refine wpAnyH_pureg 9 (v := .slice (some ⟨g, 0, none⟩) N cap) rfl (by kernel_rfl) (by kernel_rfl) (by kernel_rfl) (fun _ _ _ h => h) (by rfl) (fun _ => rfl) (by assumption) ?_; simp only [Act.put, sS0, sS1, sS2]; refine wpAnyH_pureg 10 (v := .int .i64 (j : Int)) rfl (by kernel_rfl) (by kernel_rfl) (by kernel_rfl) (fun _ _ _ h => h) (by rfl) (fun _ => rfl) (by assumption) ?_; simp only [Act.put, sS0, sS1, sS2]
            refine wpAnyH_pureg 11 (v := .int .i64 (i : Int)) rfl (by kernel_rfl) (by kernel_rfl) (by kernel_rfl) (fun _ _ _ h => h) (by rfl) (fun _ => by go_simp) (by assumption) ?_; simp only [Act.put, sS0, sS1, sS2]; refine wpAnyH_pureg 12 (v := .pointer (some ⟨g, i, none⟩)) rfl (by kernel_rfl) (by kernel_rfl) (by kernel_rfl) (fun _ _ _ h => h) (by rfl) (fun _ => by go_simp) (by assumption) ?_; simp only [Act.put, sS0, sS1, sS2]; refine wpAnyH_cellg 13 (v := .int .i64 u) rfl (by rfl) (fun w' h => by have hc := HRA.out.2 w' h; go_simp) (by kernel_rfl) (by kernel_rfl) (by kernel_rfl) (fun _ _ _ h => h) (by assumption) ?_; simp only [Act.put, sS0, sS1, sS2]; refine wpAnyH_onew 14 rfl (by kernel_rfl) (by rfl) (fun K hK => ?_); go_simp; go_at_call 59
            (with_reducible refine (HCM.out _ HSW.out).mono ?_)
            rintro ee w2 ⟨rfl, hb⟩; replace HSW : Sl (RowKit.Below wr.heap.size wr w2) := ⟨hb⟩; refine hK.out _ _ (Mv.below HSW.out) (fun hHeld => ?_); clear hK K hb
            (try simp only [Act.put, sS0, sS1, sS2])
            refine wpAnyH_pureg 15 (v := .bool false) rfl (by kernel_rfl) (by kernel_rfl) (by kernel_rfl) (fun _ _ _ h => h) (by rfl) (fun _ => by go_simp) (by assumption) ?_; simp only [Act.put, sS0, sS1, sS2]; refine wpAnyH_pure 16 (v := .bool false) rfl (by kernel_rfl) (by kernel_rfl) (by kernel_rfl) (fun _ _ _ h => h) rfl (fun _ => by go_simp) (by assumption) ?_; simp only [Act.put, sS0, sS1, sS2]; refine wpAnyH_done (by kernel_rfl) ?_ _; clear hHeld; have HVD : Sl _ := ⟨HK.out.2.2.2.2.2⟩; have HQ : Sl (Mv g w w2 ∧ PBI ws w2 g N f ∧ Pm a b d f) := ⟨Mv.trans HK.out.1 (Mv.below HSW.out), HK.out.2.1.below HSW.out HK.out.2.1.lt, HK.out.2.2.1⟩; clear HK HRA HCM HSW hcd; go_wp2_with fail; exact ⟨⟨m + 1, f, by omega, .inl hm, by go_num, ⟨HQ.out.1, HQ.out.2.1, HQ.out.2.2, HDN.out, HVD.out⟩⟩, by simp [RowKit.intOf]; omega⟩
    · have HE : Sl (Srt (dueI ws) e a b) := ⟨HK.out.2.2.2.1.sub (Nat.le_refl _) (by omega)⟩; have hmI : ¬ (m : Int) < (b : Int) := (by omega); have hmd : decide ((m : Int) < (b : Int)) = false := decide_eq_false hmI; go_wp2_with fail; go_end0; exact ⟨rfl, HK.out.1, e, HK.out.2.1, HK.out.2.2.1, HE.out⟩
end Go.Proofs.YtabkpbbjodfolaaGreatDoor
namespace Go.Proofs.YtabkpbbjodfolaaGreatDoor
set_option linter.unusedSimpArgs false
open Go.RowKit
set_option linter.unusedVariables false
end Go.Proofs.YtabkpbbjodfolaaGreatDoor
namespace Go.Proofs.YtabkpbbjodfolaaGreatDoor
set_option linter.unusedSimpArgs false
open Go.RowKit
set_option linter.unusedVariables false
end Go.Proofs.YtabkpbbjodfolaaGreatDoor
namespace Go.Proofs.YtabkpbbjodfolaaGreatDoor
set_option linter.unusedSimpArgs false
open Go.RowKit
set_option linter.unusedVariables false
section
variable {α : Type} {κ : α → Int}
def LftI (κ : α → Int) (d : Nat → α) (s t : Nat) : Prop := ∀ v, v < t → Srt κ d (v * s) (v * s + s)
theorem LftI.far {d e : Nat → α} {s t b : Nat} (h : LftI κ d s t) (hp : Pm (t * s) b d e) : LftI κ e s t := fun v hv => (h v hv).congr fun k k1 k2 => hp.far (.inl (by
  have := Nat.mul_le_mul_right s (show v + 1 ≤ t from hv); rw [Nat.succ_mul] at this
  omega))
theorem LftI.succ {d e : Nat → α} {s t b : Nat} (h : LftI κ d s t) (hp : Pm (t * s) b d e) (hs : Srt κ e (t * s) (t * s + s)) : LftI κ e s (t + 1) := fun v hv => by
  rcases Nat.lt_or_ge v t with h1 | h1
  · exact h.far hp v h1
  · rw [show v = t by omega]; exact hs
end
end Go.Proofs.YtabkpbbjodfolaaGreatDoor
