/- Plain law: Go's stable sort (slices): insertion, symmetric merge, rotation; elements told by a function. No program in sight. -/
import Derived.Test.YtabkpbbjodfolaaGreatDoorZuAd
import Derived.BigRegion
set_option linter.unusedSimpArgs false
set_option linter.unusedVariables false
set_option maxHeartbeats 25600000
set_option maxRecDepth 100000
namespace Go.Proofs.YtabkpbbjodfolaaGreatDoor
section
variable {α : Type}
def swp (d : Nat → α) (i j : Nat) (k : Nat) : α := if k = i then d j else if k = j then d i else d k
inductive Pm (a b : Nat) (d : Nat → α) : (Nat → α) → Prop
  | refl : Pm a b d d
  | step {e : Nat → α} (i j : Nat) : Pm a b d e → a ≤ i → i < b → a ≤ j → j < b → Pm a b d (swp e i j)
theorem Pm.trans {a b : Nat} {d e f : Nat → α} (h : Pm a b d e) (g : Pm a b e f) : Pm a b d f := by
  induction g with
  | refl => exact h
  | step i j _ h1 h2 h3 h4 ih => exact .step i j ih h1 h2 h3 h4
theorem Pm.mono {a b a' b' : Nat} {d e : Nat → α} (h : Pm a b d e) (ha : a' ≤ a) (hb : b ≤ b') : Pm a' b' d e := by
  induction h with
  | refl => exact .refl
  | step i j _ h1 h2 h3 h4 ih => exact .step i j ih (by omega) (by omega) (by omega) (by omega)
theorem Pm.far {a b : Nat} {d e : Nat → α} (h : Pm a b d e) {k : Nat} (hk : k < a ∨ b ≤ k) : e k = d k := by
  induction h with
  | refl => rfl
  | step i j _ h1 h2 h3 h4 ih => unfold swp; rw [if_neg (by omega), if_neg (by omega), ih]
theorem Pm.all {a b : Nat} {d e : Nat → α} (h : Pm a b d e) {P : α → Prop} (hp : ∀ k, a ≤ k → k < b → P (d k)) : ∀ k, a ≤ k → k < b → P (e k) := by
  induction h with
  | refl => exact hp
  | step i j _ h1 h2 h3 h4 ih =>
    intro k k1 k2; unfold swp
    split
    · exact ih j h3 h4
    · split
      · exact ih i h1 h2
      · exact ih k k1 k2
def Srt (κ : α → Int) (d : Nat → α) (a b : Nat) : Prop := ∀ i j, a ≤ i → i ≤ j → j < b → κ (d i) ≤ κ (d j)
theorem Srt.sub {κ : α → Int} {d : Nat → α} {a b a' b' : Nat} (h : Srt κ d a b) (ha : a ≤ a') (hb : b' ≤ b) : Srt κ d a' b' := fun i j h1 h2 h3 => h i j (by omega) h2 (by omega)
theorem Srt.congr {κ : α → Int} {d e : Nat → α} {a b : Nat} (h : Srt κ d a b) (he : ∀ k, a ≤ k → k < b → e k = d k) : Srt κ e a b := fun i j h1 h2 h3 => by
  rw [he i h1 (by omega), he j (by omega) h3]; exact h i j h1 h2 h3
theorem Srt.one {κ : α → Int} {d : Nat → α} {a b : Nat} (h : b ≤ a + 1) : Srt κ d a b := fun i j h1 h2 h3 => by rw [show j = i by omega]; exact Int.le_refl _
theorem Srt.join {κ : α → Int} {d : Nat → α} {a m b : Nat} (h1 : Srt κ d a m) (h2 : Srt κ d m b) (h : ∀ i j, a ≤ i → i < m → m ≤ j → j < b → κ (d i) ≤ κ (d j)) : Srt κ d a b := fun i j i1 ij j1 => by
  rcases Nat.lt_or_ge j m with hj | hj
  · exact h1 i j i1 ij hj
  · rcases Nat.lt_or_ge i m with hi | hi
    · exact h i j i1 hi hj j1
    · exact h2 i j hi ij j1
structure Hole (κ : α → Int) (d : Nat → α) (a i j : Nat) : Prop where
  rest : ∀ p q, a ≤ p → p ≤ q → q ≤ i → p ≠ j → q ≠ j → κ (d p) ≤ κ (d q)
  low : ∀ q, j < q → q ≤ i → κ (d j) ≤ κ (d q)
theorem Hole.start {κ : α → Int} {d : Nat → α} {a i : Nat} (h : Srt κ d a i) : Hole κ d a i i := ⟨fun p q h1 h2 h3 h4 h5 => h p q h1 h2 (by omega), fun q h1 h2 => by omega⟩
theorem Hole.move {κ : α → Int} {d : Nat → α} {a i j : Nat} (h : Hole κ d a i (j + 1)) (hj : a ≤ j) (hi : j + 1 ≤ i) (hl : κ (d (j + 1)) < κ (d j)) : Hole κ (swp d (j + 1) j) a i j := by
  have e : ∀ k, swp d (j + 1) j k = if k = j + 1 then d j else if k = j then d (j + 1) else d k := fun k => rfl
  constructor
  · intro p q h1 h2 h3 h4 h5; rw [e, e]
    by_cases hp : p = j + 1
    · rw [if_pos hp]
      by_cases hq : q = j + 1
      · rw [if_pos hq]; exact Int.le_refl _
      · rw [if_neg hq, if_neg h5]; exact h.rest j q hj (by omega) h3 (by omega) hq
    · rw [if_neg hp, if_neg h4]
      by_cases hq : q = j + 1
      · rw [if_pos hq]; exact h.rest p j h1 (by omega) (by omega) hp (by omega)
      · rw [if_neg hq, if_neg h5]; exact h.rest p q h1 h2 h3 hp hq
  · intro q h1 h2; rw [e, e, if_neg (by omega), if_pos rfl]
    by_cases hq : q = j + 1
    · rw [if_pos hq]; omega
    · rw [if_neg hq, if_neg (by omega)]; exact h.low q (by omega) h2
theorem Hole.done {κ : α → Int} {d : Nat → α} {a i j : Nat} (h : Hole κ d a i j) (hj : j = a ∨ (∃ k, j = k + 1 ∧ a ≤ k ∧ ¬ κ (d j) < κ (d k))) : Srt κ d a (i + 1) := by
  intro p q h1 h2 h3
  by_cases hp : p = j
  · subst hp
    by_cases hq : q = p
    · rw [hq]; exact Int.le_refl _
    · exact h.low q (by omega) (by omega)
  · by_cases hq : q = j
    · subst hq; rcases hj with hj | ⟨k, hk, hak, hl⟩
      · omega
      · have := h.rest p k h1 (by omega) (by omega) hp (by omega); omega
    · exact h.rest p q h1 h2 (by omega) hp hq
def Bks (κ : α → Int) (d : Nat → α) (n s lo : Nat) : Prop := ∀ v, lo + v * s < n → Srt κ d (lo + v * s) (min (lo + v * s + s) n)
theorem Bks.next {κ : α → Int} {d : Nat → α} {n s lo : Nat} (h : Bks κ d n s lo) : Bks κ d n s (lo + s) := fun v hv => by
  have := h (v + 1) (by rw [Nat.succ_mul]; omega); rw [Nat.succ_mul] at this; rw [show lo + s + v * s = lo + (v * s + s) by omega]; exact this
theorem Bks.congr {κ : α → Int} {d e : Nat → α} {n s lo : Nat} (h : Bks κ d n s lo) (he : ∀ k, lo ≤ k → k < n → e k = d k) : Bks κ e n s lo := fun v hv => (h v hv).congr fun k k1 k2 => he k (by omega) (by omega)
theorem swp_perm (d : Nat → α) {n i j : Nat} (hi : i < n) (hj : j < n) : ((List.range n).map (swp d i j)).Perm ((List.range n).map d) := by
  rcases Nat.lt_trichotomy i j with h | h | h
  · exact key d h hj
  · subst h
    have : swp d i i = d := by
      funext k; unfold swp
      split
      · next h => rw [h]
      · rfl
    rw [this]
  · have : swp d i j = swp d j i := by
      funext k; unfold swp
      by_cases h1 : k = i
      · rw [if_pos h1]
        by_cases h2 : k = j
        · omega
        · rw [if_neg h2, if_pos h1]
      · rw [if_neg h1, if_neg h1]
    rw [this]; exact key d h hi
where
  key (d : Nat → α) {n i j : Nat} (h : i < j) (hj : j < n) : ((List.range n).map (swp d i j)).Perm ((List.range n).map d) := by
    have hr : List.range n = List.range' 0 i ++ (i :: (List.range' (i + 1) (j - i - 1) ++ (j :: List.range' (j + 1) (n - j - 1)))) := by
      rw [← List.range'_succ, show n - j - 1 + 1 = n - j by omega, show List.range' j (n - j) = List.range' (i + 1 + (j - i - 1)) (n - j) by rw [show i + 1 + (j - i - 1) = j by omega], List.range'_append_1, ← List.range'_succ,
        show List.range' i (j - i - 1 + (n - j) + 1) = List.range' (0 + i) (j - i - 1 + (n - j) + 1) by rw [Nat.zero_add], List.range'_append_1, show i + (j - i - 1 + (n - j) + 1) = n by omega, List.range_eq_range']
    rw [hr]; simp only [List.map_append, List.map_cons]; have far : ∀ k, k ≠ i → k ≠ j → swp d i j k = d k := fun k h1 h2 => by unfold swp; rw [if_neg h1, if_neg h2]
    have m1 : (List.range' 0 i).map (swp d i j) = (List.range' 0 i).map d := List.map_congr_left fun k hk => far k (by have := (List.mem_range'_1.1 hk).2; omega) (by have := (List.mem_range'_1.1 hk).2; omega)
    have m2 : (List.range' (i + 1) (j - i - 1)).map (swp d i j) = (List.range' (i + 1) (j - i - 1)).map d := List.map_congr_left fun k hk => far k (by have := (List.mem_range'_1.1 hk).1; omega) (by have := (List.mem_range'_1.1 hk).2; omega)
    have m3 : (List.range' (j + 1) (n - j - 1)).map (swp d i j) = (List.range' (j + 1) (n - j - 1)).map d := List.map_congr_left fun k hk => far k (by have := (List.mem_range'_1.1 hk).1; omega) (by have := (List.mem_range'_1.1 hk).1; omega)
    rw [m1, m2, m3, show swp d i j i = d j by unfold swp; rw [if_pos rfl], show swp d i j j = d i by unfold swp; rw [if_neg (by omega), if_pos rfl]]; refine List.Perm.append_left _ ?_; exact (List.perm_middle.cons _).trans ((List.Perm.swap _ _ _).trans (List.perm_middle.symm.cons _))
theorem Pm.perm {a n : Nat} {d e : Nat → α} (h : Pm a n d e) : ((List.range n).map e).Perm ((List.range n).map d) := by
  induction h with
  | refl => exact List.Perm.refl _
  | step i j _ h1 h2 h3 h4 ih => exact (swp_perm _ h2 h4).trans ih
end
end Go.Proofs.YtabkpbbjodfolaaGreatDoor
namespace Go.Proofs.YtabkpbbjodfolaaGreatDoor
open Go.RowKit
def dueI (ws : List Int) (x : Int) : Int := gt ws x.toNat * 1000 + x
def PBI (ws : List Int) (w : World) (g n : Nat) (d : Nat → Int) : Prop := IRow w g n d ∧ ∀ j, j < n → 0 ≤ d j ∧ d j < (ws.length : Int)
section
variable {ws : List Int} {w w' : World} {g n : Nat} {d : Nat → Int}
theorem PBI.lt (h : PBI ws w g n d) : g < w.heap.size := h.1.lt
theorem PBI.cell (h : PBI ws w g n d) {j : Nat} (hj : j < n) : w.cell? ⟨g, j, none⟩ = some (.int .i64 (d j)) := h.1.cell hj
theorem PBI.mv {b : Nat} (h : PBI ws w b n d) (hm : Mv g w w') (hne : b ≠ g) : PBI ws w' b n d := ⟨h.1.mv hm hne, h.2⟩
theorem PBI.below {B : Nat} (h : PBI ws w g n d) (hb : Below B w w') (hg : g < B) : PBI ws w' g n d := ⟨h.1.below hb hg, h.2⟩
theorem PBI.frozen (h : PBI ws w g n d) (j : Nat) : w.frozen? ⟨g, j, none⟩ = false := h.1.frozen j
theorem PBI.drewN (h : PBI ws w g n d) (k : Nat) : PBI ws (w.drewN k) g n d := ⟨by obtain ⟨t, cs, a, b, c⟩ := h.1; exact ⟨t, cs, a.drewN k, b, c⟩, h.2⟩
theorem PBI.swap (h : PBI ws w g n d) {i j : Nat} (hi : i < n) (hj : j < n) {x u : Int} (hx : d i = x) (hu : d j = u) :
    PBI ws ((w.setCell ⟨g, i, none⟩ (.int .i64 u)).setCell ⟨g, j, none⟩ (.int .i64 x)) g n (swp d i j) := by
  refine ⟨((h.1.set (i := i) u).set (i := j) x).congr fun k hk => ?_, fun k hk => ?_⟩
  · unfold swp
    by_cases h1 : k = j
    · subst h1; simp only [if_true]
      by_cases h2 : k = i
      · subst h2; simp [hx]
      · simp [h2, hx]
    · simp only [h1, if_false]
      by_cases h2 : k = i
      · simp [h2, hu]
      · simp [h2]
  · unfold swp
    split
    · exact h.2 j hj
    · split
      · exact h.2 i hi
      · exact h.2 k hk
end
theorem Mv.set2 (w : World) (g : Nat) (a b : Nat) (p q : Value) : Mv g w ((w.setCell ⟨g, a, none⟩ p).setCell ⟨g, b, none⟩ q) :=
  Mv.trans (Mv.setCells w g a [p]) (Mv.setCells _ g b [q])
def KeyI (ws : List Int) (w : World) (gf g : Nat) : Prop := (∃ A c, Blk w gf 60 #[.slice A ws.length c] ∧ II w A ws.length ws ∧ ∀ ad, A = some ad → ad.block ≠ g) ∧ gf ≠ g ∧ ws.length ≤ 1000
theorem KeyI.mv {ws : List Int} {w w' : World} {gf g : Nat} (h : KeyI ws w gf g) (hm : Mv g w w') : KeyI ws w' gf g := by
  obtain ⟨⟨A, c, h1, h2, h3⟩, h4, h5⟩ := h; refine ⟨⟨A, c, h1.mv hm h4, ⟨h2.1, h2.2.1, fun hn => ?_⟩, h3⟩, h4, h5⟩; obtain ⟨ad, e, e1, e2⟩ := h2.2.2 hn; refine ⟨ad, e, Nat.lt_of_lt_of_le e1 hm.size, fun j u hu => ?_⟩; rw [← e2 j u hu]; exact World.cell?_of_block (by rw [block_of_add]; exact hm.block _ e1 (h3 ad e))
theorem KeyI.below {ws : List Int} {w w' : World} {gf g : Nat} (h : KeyI ws w gf g) (hb : Below w.heap.size w w') : KeyI ws w' gf g := by
  obtain ⟨⟨A, c, h1, h2, h3⟩, h4, h5⟩ := h; exact ⟨⟨A, c, h1.below hb h1.lt, h2.below hb, h3⟩, h4, h5⟩
def cmpD (x y : Int) : Int := if x < y then -1 else if y < x then 1 else 0
theorem cmpD_due {ws : List Int} (hw : ws.length ≤ 1000) {x u : Int} (hu : 0 ≤ u) (hx : x < (ws.length : Int)) (hux : u < x) : cmpD (gt ws x.toNat) (gt ws u.toNat) < 0 ↔ dueI ws x < dueI ws u := by
  unfold cmpD dueI; generalize gt ws x.toNat = p; generalize gt ws u.toNat = q
  split
  · constructor
    · intro _; omega
    · intro _; omega
  · split
    · constructor <;> intro h <;> omega
    · constructor <;> intro h <;> omega
theorem isNaN64_any (x : Int) (w : World) : Calls Tryz.prog 115 #[.int .i64 x] w fun e w' => e = .returned (.bool false) ∧ w' = w := by
  go_enter Tryz.func115, Tryz.ntmps115; go_wp2_with fail; go_ret; exact ⟨by first | rfl | simp, rfl⟩
theorem compare64_any (x y : Int) (w : World) : Calls Tryz.prog 60 #[.int .i64 x, .int .i64 y] w fun e w' => e = .returned (.int .i64 (cmpD x y)) ∧ w' = w := by
  have HN : Sl _ := ⟨fun (z : Int) => isNaN64_any z w⟩; obtain ⟨r, hr⟩ : ∃ r, cmpD x y = r := ⟨_, rfl⟩; rw [hr]; have HR : Sl ((if x < y then (-1 : Int) else if y < x then 1 else 0) = r) := ⟨hr⟩; clear hr
  by_cases h1 : x < y
  · have h1d : decide (x < y) = true := decide_eq_true h1; have HV : Sl (r = -1) := ⟨by rw [← HR.out, if_pos h1]⟩; clear HR; go_enter Tryz.func60, Tryz.ntmps60; go_wp2_with fail; refine (HN.out x).mono ?_; rintro e w1 ⟨rfl, rfl⟩; go_wp2_with fail; refine (HN.out y).mono ?_; rintro e w1 ⟨rfl, rfl⟩; go_wp2_with fail; go_ret; exact ⟨by rw [HV.out]; rfl, rfl⟩
  · have h1d : decide (x < y) = false := decide_eq_false h1
    by_cases h2 : y < x
    · have h2d : decide (y < x) = true := decide_eq_true h2; have HV : Sl (r = 1) := ⟨by rw [← HR.out, if_neg h1, if_pos h2]⟩; clear HR; go_enter Tryz.func60, Tryz.ntmps60; go_wp2_with fail; refine (HN.out x).mono ?_; rintro e w1 ⟨rfl, rfl⟩; go_wp2_with fail; refine (HN.out y).mono ?_; rintro e w1 ⟨rfl, rfl⟩; go_wp2_with fail; go_ret; exact ⟨by rw [HV.out]; rfl, rfl⟩
    · have h2d : decide (y < x) = false := decide_eq_false h2; have HV : Sl (r = 0) := ⟨by rw [← HR.out, if_neg h1, if_neg h2]⟩; clear HR; go_enter Tryz.func60, Tryz.ntmps60; go_wp2_with fail; refine (HN.out x).mono ?_; rintro e w1 ⟨rfl, rfl⟩; go_wp2_with fail; refine (HN.out y).mono ?_; rintro e w1 ⟨rfl, rfl⟩; go_wp2_with fail; go_ret; exact ⟨by rw [HV.out]; rfl, rfl⟩
theorem plan1I_any {ws : List Int} {gf g : Nat} (x u : Int) (w : World) (h : KeyI ws w gf g) (hx : 0 ≤ x ∧ x < (ws.length : Int)) (hu : 0 ≤ u ∧ u < (ws.length : Int)) :
    Calls Tryz.prog 59 #[.int .i64 x, .int .i64 u, .pointer (some ⟨gf, 0, none⟩)] w fun e w' => e = .returned (.int .i64 (cmpD (gt ws x.toNat) (gt ws u.toNat))) ∧ Below w.heap.size w w' := by
  obtain ⟨⟨A, c, h1, h2, h3⟩, h4, h5⟩ := h; obtain ⟨a, rfl⟩ := Int.eq_ofNat_of_zero_le hx.1; obtain ⟨b, rfl⟩ := Int.eq_ofNat_of_zero_le hu.1; simp only [Int.toNat_natCast]; have ha : a < ws.length := (by omega); have hb : b < ws.length := (by omega); obtain ⟨n, hn⟩ : ∃ n, ws.length = n := ⟨_, rfl⟩; rw [hn] at h1 h2 ha hb hx hu; obtain ⟨ad, rfl, hab, c1⟩ := h2.cell ha; obtain ⟨ad', e, _, c2⟩ := h2.cell hb; injection e with e
  subst e; obtain ⟨p, hp⟩ : ∃ p, gt ws a = p := ⟨_, rfl⟩; obtain ⟨q, hq⟩ : ∃ q, gt ws b = q := ⟨_, rfl⟩; rw [hp] at c1 ⊢; rw [hq] at c2 ⊢; have haI : (a : Int) < (n : Int) := hx.2; have hbI : (b : Int) < (n : Int) := hu.2; have VA : Sl (∀ z, Calls Tryz.prog 60 #[.int .i64 p, .int .i64 q] (w.drewN z) fun e w'' => e = .returned (.int .i64 (cmpD p q)) ∧ ∃ k, w'' = w.drewN k) := ⟨fun z => (compare64_any p q (w.drewN z)).mono fun e w'' h => ⟨h.1, z, h.2⟩⟩; obtain ⟨r, hr⟩ : ∃ r, cmpD p q = r := ⟨_, rfl⟩; rw [hr] at VA ⊢; have hw : w.cell? ⟨gf, 0, none⟩ = some (.slice (some ad) n c) := h1.cell 0; clear hp hq h1 h2 h3 h4 h5 hn hr hx hu hab; go_enter Tryz.func59, Tryz.ntmps59; go_wp2_with fail
  go_quiet ((go_at_call 60; (with_reducible exact VA.out _)))
  go_wp2_with fail; go_ret; exact ⟨rfl, below_drewN (Below.refl _ _) nq⟩
def Upf (e : Nat → Int) (a m b : Nat) : Prop := ∀ p q, a ≤ p → p < q → m ≤ q → q < b → e p < e q
def Vh (f : Nat → Int) (a m j b : Nat) : Prop := (∀ p, a ≤ p → p ≤ m → p ≠ j → f p < f j) ∧ Upf f a (m + 1) b
theorem Vh.start {e : Nat → Int} {a m b : Nat} (h : Upf e a m b) (hm : m < b) : Vh e a m m b :=
  ⟨fun p h1 h2 h3 => h p m h1 (by omega) (Nat.le_refl _) hm, fun p q h1 h2 h3 h4 => h p q h1 h2 (by omega) h4⟩
theorem Vh.move {f : Nat → Int} {a m i b : Nat} (h : Vh f a m (i + 1) b) (ha : a ≤ i) (hm : i + 1 ≤ m) : Vh (swp f (i + 1) i) a m i b := by
  have e : ∀ k, swp f (i + 1) i k = if k = i + 1 then f i else if k = i then f (i + 1) else f k := fun k => rfl
  refine ⟨fun p h1 h2 h3 => ?_, fun p q h1 h2 h3 h4 => ?_⟩
  · rw [e, e, if_neg (show ¬ i = i + 1 by omega), if_pos rfl]
    by_cases hp : p = i + 1
    · rw [if_pos hp]; exact h.1 i ha (by omega) (by omega)
    · rw [if_neg hp, if_neg h3]; exact h.1 p h1 h2 hp
  · rw [e, e, if_neg (show ¬ q = i + 1 by omega), if_neg (show ¬ q = i by omega)]
    by_cases hp : p = i + 1
    · rw [if_pos hp]; exact h.2 i q ha (by omega) h3 h4
    · rw [if_neg hp]
      by_cases hp2 : p = i
      · rw [if_pos hp2]; exact h.2 (i + 1) q (by omega) (by omega) h3 h4
      · rw [if_neg hp2]; exact h.2 p q h1 h2 h3 h4
theorem insSortI_any (ws : List Int) (g gf N cap a b : Nat) (d : Nat → Int) (w : World) (h : PBI ws w g N d) (hf : KeyI ws w gf g) (hab : a ≤ b) (hb : b ≤ N) (hN : N ≤ 1000000) (hup : ∀ p q, a ≤ p → p < q → q < b → d p < d q) :
    Calls Tryz.prog 156 #[.slice (some ⟨g, 0, none⟩) N cap, .int .i64 a, .int .i64 b, .func (.func 59) #[] #[.pointer (some ⟨gf, 0, none⟩)]] w fun e w' => e = .returned (.tuple #[]) ∧ Mv g w w' ∧ ∃ d', PBI ws w' g N d' ∧ Pm a b d d' ∧ Srt (dueI ws) d' a b := by
  have hrun : ∀ (args : Array Value) (w : World), (callFunc 59 args).run Tryz.prog w = .ok (.enter 59 args) w := fun a w => by go_simp
  have HP : Sl _ := ⟨h⟩; have HF : Sl _ := ⟨hf⟩; have HAB : Sl (a ≤ b ∧ b ≤ N ∧ N ≤ 1000000) := ⟨hab, hb, hN⟩; have HU : Sl _ := ⟨hup⟩; have hw0 : IntKind.i64.wrap 0 = 0 := (by decide); have h1 : (b : Int) ≤ 1000000 := (by omega); have h2 : (a : Int) ≤ (b : Int) := (by omega); clear h hf hab hb hN hup; go_enter Tryz.func156, Tryz.ntmps156; go_wp2_with fail
  go_loopw [8] (fun s8 wr => ∃ (m : Nat) (e : Nat → Int), a + 1 ≤ m ∧ (m ≤ b ∨ m = a + 1) ∧ s8 = .int .i64 m ∧ Sl (Mv g w wr ∧ PBI ws wr g N e ∧ Pm a b d e ∧ Srt (dueI ws) e a m ∧ Upf e a m b)) (fun s8 _ => b - (RowKit.intOf s8).toNat)
  case atStart => exact ⟨a + 1, d, Nat.le_refl _, .inr rfl, by go_num, ⟨Mv.refl _ _, HP.out, .refl, .one (Nat.le_refl _), fun p q h1 h2 _ h4 => HU.out p q h1 h2 h4⟩⟩
  case round =>
    clear HP; obtain ⟨m, e, ham, hmb, rfl, HK⟩ := hrel
    by_cases hm : m < b
    · have hmI : (m : Int) < (b : Int) := (by omega); go_wp2_with fail
      go_loopw [9] (fun s9 wq => ∃ (j : Nat) (f : Nat → Int), a ≤ j ∧ j ≤ m ∧ s9 = .int .i64 j ∧ Sl (Mv g w wq ∧ PBI ws wq g N f ∧ Pm a b d f ∧ Hole (dueI ws) f a m j ∧ Vh f a m j b)) (fun s9 _ => (RowKit.intOf s9).toNat)
      case atStart => exact ⟨m, e, by omega, Nat.le_refl _, rfl, ⟨HK.out.1, HK.out.2.1, HK.out.2.2.1, .start HK.out.2.2.2.1, .start HK.out.2.2.2.2 hm⟩⟩
      case round =>
        clear HK; obtain ⟨j, f, haj, hjm, rfl, HK⟩ := hrel; obtain ⟨hab, hbN, hN⟩ := HAB.out
        by_cases hja : j = a
        · subst hja; have hgt : decide ((j : Int) < (j : Int)) = false := decide_eq_false (by omega); have HDN : Sl (Srt (dueI ws) f j (m + 1)) := ⟨HK.out.2.2.2.1.done (.inl rfl)⟩; have HVD : Sl _ := ⟨HK.out.2.2.2.2.2⟩; have HQ : Sl (Mv g w wr.drew ∧ PBI ws wr.drew g N f ∧ Pm j b d f) := ⟨Mv.trans HK.out.1 (Mv.drew _ _), HK.out.2.1.drewN 1, HK.out.2.2.1⟩; have hmN : (m : Int) ≤ 1000000 := (by omega); clear HK; go_wp2_with fail; have hm : Mv wr.heap.size wr wr.drew := Mv.drew _ _; have HSW : Sl (RowKit.Below wr.heap.size wr wr.drew) := ⟨below_drewN (Below.refl _ _) 1⟩; refine wp_region_held_drew (S := fun w' => Mv wr.heap.size wr w') (by kernel_rfl) hm (fun hHeld => ?_); clear hm; refine hM 0 (v := .int .i64 (j : Int)) rfl rfl ?_; simp only [pS]; refine hM 1 (v := .int .i64 (j : Int)) rfl rfl ?_; simp only [pS]; refine hS 2 (v := .bool false) rfl rfl ?_; simp only [pS]; refine hM 3 (v := .bool false) rfl rfl ?_; simp only [pS]; refine gN 4 rfl ?_; simp only [pS]; refine gN 5 rfl ?_; simp only [pS]; refine gN 6 rfl ?_; simp only [pS]; refine gN 7 rfl ?_; simp only [pS]; refine gN 8 rfl ?_; simp only [pS]; refine gN 9 rfl ?_; simp only [pS]; refine gN 10 rfl ?_; simp only [pS]; refine gN 11 rfl ?_; simp only [pS]; refine gN 12 rfl ?_; simp only [pS]; refine gN 13 rfl ?_
          simp only [pS]; refine gN 14 rfl ?_; simp only [pS]; refine gN 15 rfl ?_; simp only [pS]; refine hS 16 (v := .bool false) rfl rfl ?_; simp only [pS]; refine wpAnyH_done (by kernel_rfl) ?_ _; clear hHeld; go_wp2_with fail; exact ⟨⟨m + 1, f, by omega, .inl hm, by go_num, ⟨HQ.out.1, HQ.out.2.1, HQ.out.2.2, HDN.out, HVD.out⟩⟩, by simp [RowKit.intOf]; omega⟩
        · obtain ⟨i, hi⟩ : ∃ i, j = i + 1 := ⟨j - 1, by omega⟩; have hij : (j : Int) - 1 = (i : Int) := (by omega); have hjN : j < N := (by omega); have hiN : i < N := (by omega); have hjI : (j : Int) < (N : Int) := (by omega); have hiI : (i : Int) < (N : Int) := (by omega); have haI : (a : Int) < (j : Int) := (by omega); have hjb : (j : Int) ≤ 1000000 := (by omega); have hiw : IntKind.i64.wrap (i : Int) = (i : Int) := (by rw [IntKind.wrap_i64]; omega); have hgt : decide ((a : Int) < (j : Int)) = true := decide_eq_true haI; obtain ⟨x, hp⟩ : ∃ p, f j = p := ⟨_, rfl⟩; obtain ⟨u, hq⟩ : ∃ q, f i = q := ⟨_, rfl⟩; have HPQ : Sl (f j = x ∧ f i = u) := ⟨hp, hq⟩; have HIJ : Sl (j = i + 1 ∧ a ≤ i ∧ j < N ∧ i < N) := ⟨hi, by omega, hjN, hiN⟩
          have HRA : Sl ((∀ w' : World, Mv wr.heap.size wr w' → w'.cell? ⟨g, j, none⟩ = some (.int .i64 x)) ∧ (∀ w' : World, Mv wr.heap.size wr w' → w'.cell? ⟨g, i, none⟩ = some (.int .i64 u))) := ⟨by
            refine ⟨fun w' hm' => ?_, fun w' hm' => ?_⟩
            · have := (HK.out.2.1.mv hm' (by have := HK.out.2.1.lt; omega)).cell hjN; rw [hp] at this; exact this
            · have := (HK.out.2.1.mv hm' (by have := HK.out.2.1.lt; omega)).cell hiN
              rw [hq] at this; exact this⟩
          obtain ⟨c, hc⟩ : ∃ c, cmpD (gt ws x.toNat) (gt ws u.toNat) = c := ⟨_, rfl⟩
          have hux : u < x := by
            have := HK.out.2.2.2.2.1 i (by omega) (by omega) (by omega); rw [hp, hq] at this; exact this
          have hxb := HK.out.2.1.2 j hjN; have hub := HK.out.2.1.2 i hiN; rw [hp] at hxb; rw [hq] at hub; have HCC : Sl (c < 0 ↔ dueI ws x < dueI ws u) := ⟨by rw [← hc]; exact cmpD_due HF.out.2.2 hub.1 hxb.2 hux⟩
          have HCM : Sl (∀ (W : World), RowKit.Below wr.heap.size wr W → Calls Tryz.prog 59 #[.int .i64 x, .int .i64 u, .pointer (some ⟨gf, 0, none⟩)] W fun e w' => e = .returned (.int .i64 c) ∧ RowKit.Below wr.heap.size wr w') := ⟨fun W hW => by
            have := plan1I_any x u W (((KeyI.mv HF.out HK.out.1)).below hW) hxb hub; rw [hc] at this
            exact this.mono fun e w' g => ⟨g.1, hW.trans (g.2.mono hW.size)⟩⟩
          clear hc hp hq hja hi hab hbN hN hux hxb hub
          by_cases hlt : dueI ws x < dueI ws u
          · have hcd : decide (c < 0) = true := decide_eq_true (HCC.out.2 hlt); have HLT : Sl _ := ⟨hlt⟩; clear hlt; go_wp2_with fail; have hm : Mv wr.heap.size wr wr.drew := Mv.drew _ _; have HSW : Sl (RowKit.Below wr.heap.size wr wr.drew) := ⟨below_drewN (Below.refl _ _) 1⟩; refine wp_region_held_drew (S := fun w' => Mv wr.heap.size wr w') (by kernel_rfl) hm (fun hHeld => ?_); clear hm; refine hM 0 (v := .int .i64 (j : Int)) rfl rfl ?_; simp only [pS]; refine hM 1 (v := .int .i64 (a : Int)) rfl rfl ?_; simp only [pS]; refine hS 2 (v := .bool true) rfl rfl ?_; simp only [pS]; refine hM 3 (v := .bool true) rfl rfl ?_; simp only [pS]; refine gM 4 (v := .func (.func 59) #[] #[.pointer (some ⟨gf, 0, none⟩)]) rfl ?_; simp only [pS]; refine gM 5 (v := .slice (some ⟨g, 0, none⟩) N cap) rfl ?_; simp only [pS]; refine gM 6 (v := .int .i64 (j : Int)) rfl ?_; simp only [pS]; refine gS 7 (v := .pointer (some ⟨g, j, none⟩)) rfl ?_; simp only [pS]; refine gC 8 (v := .int .i64 x) rfl (fun w' h => by have hc := HRA.out.1 w' h; go_simp) ?_; simp only [pS]; refine gM 9 (v := .slice (some ⟨g, 0, none⟩) N cap) rfl ?_; simp only [pS]; refine gM 10 (v := .int .i64 (j : Int)) rfl ?_; simp only [pS]; refine gS 11 (v := .int .i64 (i : Int)) rfl ?_; simp only [pS]
            refine gS 12 (v := .pointer (some ⟨g, i, none⟩)) rfl ?_; simp only [pS]; refine gC 13 (v := .int .i64 u) rfl (fun w' h => by have hc := HRA.out.2 w' h; go_simp) ?_; simp only [pS]; refine wpAnyH_onew 14 rfl (by kernel_rfl) (by rfl) (fun K hK => ?_); go_simp; go_at_call 59
            (with_reducible refine (HCM.out _ HSW.out).mono ?_)
            rintro ee w2 ⟨rfl, hb⟩; replace HSW : Sl (RowKit.Below wr.heap.size wr w2) := ⟨hb⟩; refine hK.out _ _ (Mv.below HSW.out) (fun hHeld => ?_); clear hK K hb
            (try simp only [pS])
            refine gS 15 (v := .bool true) rfl ?_; simp only [pS]; refine hS 16 (v := .bool true) rfl rfl ?_; simp only [pS]; refine wpAnyH_done (by kernel_rfl) ?_ _; clear hHeld; have HP2 : Sl (PBI ws w2 g N f) := ⟨HK.out.2.1.below HSW.out HK.out.2.1.lt⟩; have HM2 : Sl (Mv g w w2) := ⟨Mv.trans HK.out.1 (Mv.below HSW.out)⟩
            have HHO : Sl (Hole (dueI ws) (swp f j i) a m i) := ⟨by
              have h := HK.out.2.2.2.1; obtain ⟨e1, e2, _, _⟩ := HIJ.out; subst e1
              exact h.move e2 hjm (by rw [HPQ.out.1, HPQ.out.2]; exact HLT.out)⟩
            have HVM : Sl (Vh (swp f j i) a m i b) := ⟨by
              have h := HK.out.2.2.2.2; obtain ⟨e1, e2, _, _⟩ := HIJ.out; subst e1
              exact h.move e2 hjm⟩
            have HPM : Sl (Pm a b d (swp f j i)) := ⟨by
              obtain ⟨e1, e2, _, _⟩ := HIJ.out
              exact .step j i HK.out.2.2.1 haj (by omega) e2 (by omega)⟩
            clear HK HRA HCM HSW; have cj1 := HP2.out.cell hjN; have ci1 := HP2.out.cell hiN; rw [HPQ.out.1] at cj1; rw [HPQ.out.2] at ci1; have fj1 := HP2.out.frozen j; have fi1 := HP2.out.frozen i; have hne2 : j ≠ i := (by have := HIJ.out; omega); clear hcd; go_wp2_with fail
            go_region
            go_wp2_with fail; have hpb := HP2.out.swap HIJ.out.2.2.1 HIJ.out.2.2.2 HPQ.out.1 HPQ.out.2; exact ⟨⟨i, _, HIJ.out.2.1, by omega, rfl, ⟨Mv.trans HM2.out (Mv.trans (Mv.set2 _ _ _ _ _ _) (Mv.drew _ _)), hpb, HPM.out, HHO.out, HVM.out⟩⟩, by simp [RowKit.intOf]; omega⟩
          · have hcd : decide (c < 0) = false := decide_eq_false (fun h => hlt (HCC.out.1 h)); have HDN : Sl (Srt (dueI ws) f a (m + 1)) := ⟨HK.out.2.2.2.1.done (.inr ⟨i, HIJ.out.1, HIJ.out.2.1, by rw [HPQ.out.1, HPQ.out.2]; exact hlt⟩)⟩; have hmN : (m : Int) ≤ 1000000 := (by omega); clear hlt; go_wp2_with fail; have hm : Mv wr.heap.size wr wr.drew := Mv.drew _ _; have HSW : Sl (RowKit.Below wr.heap.size wr wr.drew) := ⟨below_drewN (Below.refl _ _) 1⟩; refine wp_region_held_drew (S := fun w' => Mv wr.heap.size wr w') (by kernel_rfl) hm (fun hHeld => ?_); clear hm; refine hM 0 (v := .int .i64 (j : Int)) rfl rfl ?_; simp only [pS]; refine hM 1 (v := .int .i64 (a : Int)) rfl rfl ?_; simp only [pS]; refine hS 2 (v := .bool true) rfl rfl ?_; simp only [pS]; refine hM 3 (v := .bool true) rfl rfl ?_; simp only [pS]; refine gM 4 (v := .func (.func 59) #[] #[.pointer (some ⟨gf, 0, none⟩)]) rfl ?_; simp only [pS]; refine gM 5 (v := .slice (some ⟨g, 0, none⟩) N cap) rfl ?_; simp only [pS]; refine gM 6 (v := .int .i64 (j : Int)) rfl ?_; simp only [pS]; refine gS 7 (v := .pointer (some ⟨g, j, none⟩)) rfl ?_; simp only [pS]; refine gC 8 (v := .int .i64 x) rfl (fun w' h => by have hc := HRA.out.1 w' h; go_simp) ?_; simp only [pS]; refine gM 9 (v := .slice (some ⟨g, 0, none⟩) N cap) rfl ?_; simp only [pS]; refine gM 10 (v := .int .i64 (j : Int)) rfl ?_; simp only [pS]
            refine gS 11 (v := .int .i64 (i : Int)) rfl ?_; simp only [pS]; refine gS 12 (v := .pointer (some ⟨g, i, none⟩)) rfl ?_; simp only [pS]; refine gC 13 (v := .int .i64 u) rfl (fun w' h => by have hc := HRA.out.2 w' h; go_simp) ?_; simp only [pS]; refine wpAnyH_onew 14 rfl (by kernel_rfl) (by rfl) (fun K hK => ?_); go_simp; go_at_call 59
            (with_reducible refine (HCM.out _ HSW.out).mono ?_)
            rintro ee w2 ⟨rfl, hb⟩; replace HSW : Sl (RowKit.Below wr.heap.size wr w2) := ⟨hb⟩; refine hK.out _ _ (Mv.below HSW.out) (fun hHeld => ?_); clear hK K hb
            (try simp only [pS])
            refine gS 15 (v := .bool false) rfl ?_; simp only [pS]; refine hS 16 (v := .bool false) rfl rfl ?_; simp only [pS]; refine wpAnyH_done (by kernel_rfl) ?_ _; clear hHeld; have HVD : Sl _ := ⟨HK.out.2.2.2.2.2⟩; have HQ : Sl (Mv g w w2 ∧ PBI ws w2 g N f ∧ Pm a b d f) := ⟨Mv.trans HK.out.1 (Mv.below HSW.out), HK.out.2.1.below HSW.out HK.out.2.1.lt, HK.out.2.2.1⟩; clear HK HRA HCM HSW hcd; go_wp2_with fail; exact ⟨⟨m + 1, f, by omega, .inl hm, by go_num, ⟨HQ.out.1, HQ.out.2.1, HQ.out.2.2, HDN.out, HVD.out⟩⟩, by simp [RowKit.intOf]; omega⟩
    · have HE : Sl (Srt (dueI ws) e a b) := ⟨HK.out.2.2.2.1.sub (Nat.le_refl _) (by omega)⟩; have hmI : ¬ (m : Int) < (b : Int) := (by omega); have hmd : decide ((m : Int) < (b : Int)) = false := decide_eq_false hmI; go_wp2_with fail; go_end0; exact ⟨rfl, HK.out.1, e, HK.out.2.1, HK.out.2.2.1, HE.out⟩
end Go.Proofs.YtabkpbbjodfolaaGreatDoor
namespace Go.Proofs.YtabkpbbjodfolaaGreatDoor
open Go.RowKit
open Go.RowKit
end Go.Proofs.YtabkpbbjodfolaaGreatDoor
namespace Go.Proofs.YtabkpbbjodfolaaGreatDoor
open Go.RowKit
section
variable {α : Type} {κ : α → Int}
def LftI (κ : α → Int) (d : Nat → α) (s t : Nat) : Prop := ∀ v, v < t → Srt κ d (v * s) (v * s + s)
theorem LftI.far {d e : Nat → α} {s t b : Nat} (h : LftI κ d s t) (hp : Pm (t * s) b d e) : LftI κ e s t := fun v hv => (h v hv).congr fun k k1 k2 => hp.far (.inl (by
  have := Nat.mul_le_mul_right s (show v + 1 ≤ t from hv); rw [Nat.succ_mul] at this
  omega))
theorem LftI.succ {d e : Nat → α} {s t b : Nat} (h : LftI κ d s t) (hp : Pm (t * s) b d e) (hs : Srt κ e (t * s) (t * s + s)) : LftI κ e s (t + 1) := fun v hv => by
  rcases Nat.lt_or_ge v t with h1 | h1
  · exact h.far hp v h1
  · rw [show v = t by omega]; exact hs
end
end Go.Proofs.YtabkpbbjodfolaaGreatDoor
namespace Go.Proofs.YtabkpbbjodfolaaGreatDoor
def psm (l : List Int) : Nat → Int
  | 0 => 0
  | k+1 => psm l k + gt l k
def grd (l : List Int) (S : Int) : Nat → Int → Nat
  | 0, _ => 0
  | k+1, s => if s + gt l k ≤ S then grd l S k (s + gt l k) else k + 1
def rem (l : List Int) (S : Int) : Nat → Nat
  | 0 => l.length
  | g+1 => grd l S (rem l S g) 0
theorem psm_mono {l : List Int} (h : ∀ j, 0 ≤ gt l j) : ∀ {i k : Nat}, i ≤ k → psm l i ≤ psm l k
  | i, 0, hi => by rw [show i = 0 by omega]; exact Int.le_refl _
  | i, k+1, hi => by
    rcases Nat.lt_or_ge i (k + 1) with h1 | h1
    · have := psm_mono h (i := i) (k := k) (by omega); have := h k; rw [psm]; omega
    · rw [show i = k + 1 by omega]; exact Int.le_refl _
theorem psm_pos {l : List Int} (h : ∀ j, 0 ≤ gt l j) (k : Nat) : 0 ≤ psm l k := psm_mono h (Nat.zero_le k)
theorem grd_le (l : List Int) (S : Int) : ∀ k s, grd l S k s ≤ k
  | 0, _ => Nat.le_refl _
  | k+1, s => by
    rw [grd]
    split
    · have := grd_le l S k (s + gt l k); omega
    · exact Nat.le_refl _
theorem grd_iff {l : List Int} (h : ∀ j, 0 ≤ gt l j) {S : Int} : ∀ {k : Nat} {s : Int}, s ≤ S → ∀ i, i ≤ k → (grd l S k s ≤ i ↔ s + (psm l k - psm l i) ≤ S)
  | 0, s, hs, i, hi => by
    rw [show i = 0 by omega]; exact ⟨fun _ => by omega, fun _ => Nat.le_refl _⟩
  | k+1, s, hs, i, hi => by
    rw [grd]
    by_cases hc : s + gt l k ≤ S
    · rw [if_pos hc]; rcases Nat.lt_or_ge i (k + 1) with h1 | h1
      · rw [grd_iff h hc i (by omega)]; show s + gt l k + (psm l k - psm l i) ≤ S ↔ s + (psm l k + gt l k - psm l i) ≤ S; constructor <;> intro _ <;> omega
      · rw [show i = k + 1 by omega]; have := grd_le l S k (s + gt l k); exact ⟨fun _ => by omega, fun _ => by omega⟩
    · rw [if_neg hc]; constructor
      · intro h1; rw [show i = k + 1 by omega]; omega
      · intro h1; rcases Nat.lt_or_ge i (k + 1) with h2 | h2
        · have h3 := psm_mono h (i := i) (k := k) (by omega); have e : psm l (k + 1) = psm l k + gt l k := rfl; omega
        · exact h2
theorem rem_le (l : List Int) (S : Int) : ∀ g, rem l S g ≤ l.length
  | 0 => Nat.le_refl _
  | g+1 => Nat.le_trans (grd_le l S _ 0) (rem_le l S g)
def mnF (f : Nat → Int) (i : Nat) : Nat → Int
  | 0 => f i
  | t+1 => if f (i + (t + 1)) < mnF f i t then f (i + (t + 1)) else mnF f i t
theorem mnF_le {f : Nat → Int} {i : Nat} {S : Int} : ∀ {t : Nat}, mnF f i t ≤ S ↔ ∃ k, i ≤ k ∧ k ≤ i + t ∧ f k ≤ S
  | 0 => ⟨fun h => ⟨i, Nat.le_refl _, Nat.le_refl _, h⟩, fun ⟨k, h1, h2, h3⟩ => by rw [show k = i by omega] at h3; exact h3⟩
  | t+1 => by
    rw [mnF]; have ih := mnF_le (f := f) (i := i) (S := S) (t := t)
    by_cases hc : f (i + (t + 1)) < mnF f i t
    · rw [if_pos hc]; constructor
      · intro h; exact ⟨_, by omega, Nat.le_refl _, h⟩
      · rintro ⟨k, h1, h2, h3⟩; rcases Nat.lt_or_ge k (i + (t + 1)) with h4 | h4
        · have := ih.2 ⟨k, h1, by omega, h3⟩; omega
        · rw [show k = i + (t + 1) by omega] at h3; exact h3
    · rw [if_neg hc]; rw [ih]; constructor
      · rintro ⟨k, h1, h2, h3⟩; exact ⟨k, h1, by omega, h3⟩
      · rintro ⟨k, h1, h2, h3⟩; rcases Nat.lt_or_ge k (i + (t + 1)) with h4 | h4
        · exact ⟨k, h1, by omega, h3⟩
        · rw [show k = i + (t + 1) by omega] at h3; have h5 : mnF f i t ≤ S := (by omega); exact ih.1 h5
def lst (l : List Int) : Nat → Nat → Int
  | 0, i => psm l l.length - psm l i
  | g+1, i => mnF (fun k => max (psm l k - psm l i) (lst l g k)) i (l.length - i)
theorem lst_rem {l : List Int} (h : ∀ j, 0 ≤ gt l j) {S : Int} (hS : 0 ≤ S) : ∀ (g i : Nat), i ≤ l.length → (lst l g i ≤ S ↔ rem l S (g + 1) ≤ i)
  | 0, i, hi => by
    have := grd_iff h (S := S) (k := l.length) (s := 0) hS i hi; show psm l l.length - psm l i ≤ S ↔ grd l S l.length 0 ≤ i; rw [this, Int.zero_add]
  | g+1, i, hi => by
    rw [lst, mnF_le]; have ih := fun k hk => lst_rem h hS g k hk
    have hr := rem_le l S (g + 1); have hsum : ∀ k, i ≤ k → k ≤ rem l S (g + 1) → psm l k - psm l i ≤ psm l (rem l S (g + 1)) - psm l i := fun k _ hk => by have := psm_mono h hk; omega
    show _ ↔ grd l S (rem l S (g + 1)) 0 ≤ i; constructor
    · rintro ⟨k, h1, h2, h3⟩; have h4 : lst l g k ≤ S := (by omega); have h5 := (ih k (by omega)).1 h4; have h6 : psm l k - psm l i ≤ S := (by omega); rcases Nat.lt_or_ge i (rem l S (g + 1)) with h7 | h7
      · rw [grd_iff h hS i (by omega)]; have := psm_mono h h5; omega
      · exact Nat.le_trans (grd_le l S _ 0) h7
    · intro h1; rcases Nat.lt_or_ge i (rem l S (g + 1)) with h7 | h7
      · refine ⟨rem l S (g + 1), by omega, by omega, ?_⟩; have h8 := (ih (rem l S (g + 1)) hr).2 (Nat.le_refl _); rw [grd_iff h hS i (by omega)] at h1; omega
      · refine ⟨i, Nat.le_refl _, by omega, ?_⟩; have h8 := (ih i hi).2 h7; omega
theorem lst_pos {l : List Int} (h : ∀ j, 0 ≤ gt l j) : ∀ (g i : Nat), i ≤ l.length → 0 ≤ lst l g i ∧ lst l g i ≤ psm l l.length
  | 0, i, hi => by
    have h1 := psm_mono h hi; have h2 := psm_pos h i; show 0 ≤ psm l l.length - psm l i ∧ psm l l.length - psm l i ≤ psm l l.length; omega
  | g+1, i, hi => by
    refine ⟨?_, ?_⟩
    · rcases Int.lt_or_le (lst l (g + 1) i) 0 with h1 | h1
      · have h2 : lst l (g + 1) i ≤ -1 := (by omega); rw [lst, mnF_le] at h2; obtain ⟨k, k1, k2, k3⟩ := h2; have := psm_mono h k1; omega
      · exact h1
    · rw [lst, mnF_le]; refine ⟨l.length, hi, by omega, ?_⟩; have h1 := (lst_pos h g l.length (Nat.le_refl _)).2; have h2 := psm_pos h i; omega
theorem fit_iff {l : List Int} (h : ∀ j, 0 ≤ gt l j) {S : Int} (hS : 0 ≤ S) (g : Nat) : rem l S (g + 1) = 0 ↔ lst l g 0 ≤ S := by
  rw [lst_rem h hS g 0 (Nat.zero_le _)]; omega
end Go.Proofs.YtabkpbbjodfolaaGreatDoor
namespace Go.Proofs.YtabkpbbjodfolaaGreatDoor
open Go.RowKit
def insO (ws : List Int) (x : Int) : List Int → List Int
  | [] => [x]
  | y :: l => if dueI ws x < dueI ws y then x :: y :: l else y :: insO ws x l
def ordF (ws : List Int) : Nat → List Int
  | 0 => []
  | k+1 => insO ws (k : Int) (ordF ws k)
def ordL (ws : List Int) : List Int := ordF ws ws.length
theorem insO_perm (ws : List Int) (x : Int) : ∀ l, (insO ws x l).Perm (x :: l)
  | [] => List.Perm.refl _
  | y :: l => by
    rw [insO]
    split
    · exact List.Perm.refl _
    · exact ((insO_perm ws x l).cons y).trans (List.Perm.swap _ _ _)
theorem insO_srt (ws : List Int) (x : Int) : ∀ l, l.Pairwise (fun a b => dueI ws a < dueI ws b) → (∀ y ∈ l, dueI ws y ≠ dueI ws x) → (insO ws x l).Pairwise (fun a b => dueI ws a < dueI ws b)
  | [], _, _ => by rw [insO]; exact List.pairwise_singleton _ _
  | y :: l, h, hn => by
    rw [List.pairwise_cons] at h; rw [insO]
    split
    · rename_i h1; refine List.pairwise_cons.2 ⟨fun z hz => ?_, List.pairwise_cons.2 h⟩; rcases List.mem_cons.1 hz with rfl | hz
      · exact h1
      · exact Int.lt_trans h1 (h.1 z hz)
    · rename_i h1; refine List.pairwise_cons.2 ⟨fun z hz => ?_, insO_srt ws x l h.2 (fun z hz => hn z (List.mem_cons_of_mem _ hz))⟩; rcases List.mem_cons.1 ((insO_perm ws x l).mem_iff.1 hz) with rfl | hz
      · have := hn y List.mem_cons_self; omega
      · exact h.1 z hz
theorem due_ne {ws : List Int} (hw : ws.length ≤ 1000) {x y : Int} (hx : 0 ≤ x ∧ x < (ws.length : Int)) (hy : 0 ≤ y ∧ y < (ws.length : Int)) (hne : x ≠ y) : dueI ws x ≠ dueI ws y := by
  unfold dueI; generalize gt ws x.toNat = p; generalize gt ws y.toNat = q; omega
theorem ordF_mem (ws : List Int) : ∀ k z, z ∈ ordF ws k ↔ 0 ≤ z ∧ z < (k : Int)
  | 0, z => ⟨fun h => (by cases h), fun h => (by omega)⟩
  | k+1, z => by
    rw [ordF, (insO_perm ws _ _).mem_iff, List.mem_cons, ordF_mem ws k z]; omega
theorem ordF_srt {ws : List Int} (hw : ws.length ≤ 1000) : ∀ k, k ≤ ws.length → (ordF ws k).Pairwise (fun a b => dueI ws a < dueI ws b)
  | 0, _ => List.Pairwise.nil
  | k+1, hk => by
    rw [ordF]; refine insO_srt ws _ _ (ordF_srt hw k (by omega)) fun y hy => ?_
    have := (ordF_mem ws k y).1 hy; exact due_ne hw (by omega) (by omega) (by omega)
theorem ordF_len (ws : List Int) : ∀ k, (ordF ws k).length = k
  | 0 => rfl
  | k+1 => by rw [ordF, (insO_perm ws _ _).length_eq, List.length_cons, ordF_len ws k]
theorem srt_uniq {f : Int → Int} : ∀ {a b : List Int}, a.Pairwise (fun x y => f x < f y) → b.Pairwise (fun x y => f x < f y) → (∀ z, z ∈ a ↔ z ∈ b) → a = b
  | [], [], _, _, _ => rfl
  | [], y :: b, _, _, h => by have := (h y).2 List.mem_cons_self; cases this
  | x :: a, [], _, _, h => by have := (h x).1 List.mem_cons_self; cases this
  | x :: a, y :: b, ha, hb, h => by
    rw [List.pairwise_cons] at ha hb
    have hxy : x = y := by
      rcases List.mem_cons.1 ((h x).1 List.mem_cons_self) with e | e
      · exact e
      · rcases List.mem_cons.1 ((h y).2 List.mem_cons_self) with e2 | e2
        · exact e2.symm
        · have h1 := hb.1 x e; have h2 := ha.1 y e2; omega
    subst hxy; congr 1; refine srt_uniq ha.2 hb.2 fun z => ?_
    constructor
    · intro hz; rcases List.mem_cons.1 ((h z).1 (List.mem_cons_of_mem _ hz)) with e | e
      · subst e; have := ha.1 z hz; omega
      · exact e
    · intro hz; rcases List.mem_cons.1 ((h z).2 (List.mem_cons_of_mem _ hz)) with e | e
      · subst e; have := hb.1 z hz; omega
      · exact e
theorem ordL_of {ws : List Int} (hw : ws.length ≤ 1000) {e : Nat → Int} (hp : Pm 0 ws.length (fun k => (k : Int)) e) (hs : Srt (dueI ws) e 0 ws.length) : (List.range ws.length).map e = ordL ws := by
  have hperm := hp.perm
  have hmem : ∀ z, z ∈ (List.range ws.length).map e ↔ 0 ≤ z ∧ z < (ws.length : Int) := fun z => by
    rw [hperm.mem_iff, List.mem_map]; constructor
    · rintro ⟨k, hk, rfl⟩; have := List.mem_range.1 hk; omega
    · intro hz; exact ⟨z.toNat, List.mem_range.2 (by omega), by omega⟩
  have hnd : ((List.range ws.length).map e).Nodup := hperm.nodup_iff.2 (by
    rw [List.nodup_iff_pairwise_ne, List.pairwise_map]
    exact (List.nodup_iff_pairwise_ne.1 List.nodup_range).imp (fun h e => h (by omega)))
  refine srt_uniq (f := dueI ws) ?_ (ordF_srt hw _ (Nat.le_refl _)) fun z => by rw [hmem z]; exact (ordF_mem ws _ z).symm
  rw [List.pairwise_iff_getElem]; intro i j hi hj hij; have hi' : i < ws.length := (by simpa using hi); have hj' : j < ws.length := (by simpa using hj); have h1 := hs i j (Nat.zero_le _) (by omega) hj'; rw [List.getElem_map, List.getElem_map, List.getElem_range, List.getElem_range]
  have hne : e i ≠ e j := fun h => by
    have := (List.pairwise_iff_getElem.1 (List.nodup_iff_pairwise_ne.1 hnd)) i j hi hj hij; rw [List.getElem_map, List.getElem_map, List.getElem_range, List.getElem_range] at this; exact this h
  have b1 := (hmem (e i)).1 (List.mem_map.2 ⟨i, List.mem_range.2 hi', rfl⟩); have b2 := (hmem (e j)).1 (List.mem_map.2 ⟨j, List.mem_range.2 hj', rfl⟩); have := due_ne hw b1 b2 hne; omega
theorem crfit_any (A : Option Addr) (n c : Nat) (l : List Int) (g : Nat) (S : Int) (w : World) (hl : II w A n l) (hn : n ≤ 1000) (hg : g ≤ 1000) (hb : ∀ j, 0 ≤ gt l j ∧ gt l j ≤ 1073741824) (hS : 0 ≤ S ∧ S ≤ 1099511627776) :
    Calls Tryz.prog 61 #[.slice A n c, .int .i64 (g : Int), .int .i64 S] w fun e w' => e = .returned (.int .i64 ((n - rem l S g : Nat) : Int)) ∧ w' = w := by
  have HL : Sl _ := ⟨hl⟩; have HB : Sl _ := ⟨hb⟩; have HLN : Sl (l.length = n) := ⟨hl.1⟩; obtain ⟨hS0, hS1⟩ := hS; obtain ⟨r, hr⟩ : ∃ r, rem l S g = r := ⟨_, rfl⟩; have HR : Sl _ := ⟨hr⟩; rw [hr]; have hrn : r ≤ n := (by rw [← hr, ← hl.1]; exact rem_le _ _ _); clear hl hb hr; go_enter Tryz.func61, Tryz.ntmps61; go_wp2_with fail
  go_loop [1, 7, 8] (fun s1 s7 s8 => ∃ (k m : Nat) (v8 : Value), k ≤ g ∧ s1 = .int .i64 k ∧ s7 = .int .i64 m ∧ v8 = s8 ∧ Sl (m = rem l S (g - k) ∧ m ≤ n)) (fun s1 _ _ => (RowKit.intOf s1).toNat)
  case atStart => exact ⟨g, n, _, Nat.le_refl _, rfl, rfl, rfl, ⟨by rw [Nat.sub_self]; exact HLN.out.symm, Nat.le_refl _⟩⟩
  case round =>
    obtain ⟨k, m, v8, hk, rfl, rfl, rfl, HM⟩ := hrel
    by_cases hk0 : k = 0
    · have hkd : decide ((0 : Int) < (k : Int)) = false := decide_eq_false (by omega); have hkI : ¬ (0 : Int) < (k : Int) := (by omega); have hkN : ¬ 0 < k := (by omega); have hkNd : decide (0 < k) = false := decide_eq_false hkN; have HRM : Sl (r = m) := ⟨by rw [HM.out.1, hk0, Nat.sub_zero, HR.out]⟩; have hmn : (m : Int) ≤ (n : Int) := (by have := HM.out.2; omega); clear hk0; go_wp2_with fail; go_ret; exact ⟨ret_int (by have := HRM.out; have := HM.out.2; omega), rfl⟩
    · obtain ⟨k', hk'⟩ : ∃ k', k' + 1 = k := ⟨k - 1, by omega⟩; have hkd : decide ((0 : Int) < (k : Int)) = true := decide_eq_true (by omega); have hkI : (0 : Int) < (k : Int) := (by omega); have hkN : 0 < k := (by omega); have hkNd : decide (0 < k) = true := decide_eq_true hkN; have hkp : (k : Int) - 1 = (k' : Int) := (by omega); have HNX : Sl (grd l S m 0 = rem l S (g - k')) := ⟨by rw [show g - k' = (g - k) + 1 by omega, rem, ← HM.out.1]⟩; have HKK : Sl (k' + 1 = k) := ⟨hk'⟩; have hkw : IntKind.i64.wrap (k' : Int) = (k' : Int) := (by rw [IntKind.wrap_i64]; omega); clear hk' hk0; go_wp2_with fail
      go_loop [7, 8] (fun s7 s8 => ∃ (t : Nat) (s : Int), s7 = .int .i64 t ∧ s8 = .int .i64 s ∧ Sl (0 ≤ s ∧ s ≤ S) ∧ Sl (t ≤ n ∧ grd l S t s = grd l S m 0)) (fun s7 _ => (RowKit.intOf s7).toNat)
      case atStart => exact ⟨m, 0, rfl, rfl, ⟨Int.le_refl _, hS0⟩, ⟨HM.out.2, rfl⟩⟩
      case round =>
        obtain ⟨t, s, rfl, rfl, HS, HT⟩ := hrel
        by_cases ht0 : t = 0
        · have htd : decide ((0 : Int) < (t : Int)) = false := decide_eq_false (by omega); have htI : ¬ (0 : Int) < (t : Int) := (by omega); have htN : ¬ 0 < t := (by omega); have htNd : decide (0 < t) = false := decide_eq_false htN; have HE : Sl (t = rem l S (g - k') ∧ t ≤ n) := ⟨by rw [← HNX.out, ← HT.out.2, ht0]; rfl, HT.out.1⟩; clear ht0; go_wp2_with fail; exact ⟨⟨k', t, _, by have := HKK.out; omega, rfl, rfl, rfl, HE⟩, by have := HKK.out; simp [RowKit.intOf]; omega⟩
        · obtain ⟨t', ht'⟩ : ∃ t', t' + 1 = t := ⟨t - 1, by omega⟩; have htn := HT.out.1; obtain ⟨ad, rfl, hab, c1⟩ := HL.out.cell (j := t') (by omega); have hgb := HB.out t'; have hss := HS.out; have HG : Sl (grd l S t s = if s + gt l t' ≤ S then grd l S t' (s + gt l t') else t' + 1) := ⟨by rw [← ht', grd]⟩; obtain ⟨z, hz⟩ : ∃ z, gt l t' = z := ⟨_, rfl⟩; rw [hz] at c1 hgb HG; have htd : decide ((0 : Int) < (t : Int)) = true := decide_eq_true (by omega); have htI : (0 : Int) < (t : Int) := (by omega); have htN : 0 < t := (by omega); have htNd : decide (0 < t) = true := decide_eq_true htN; have htp : (t : Int) - 1 = (t' : Int) := (by omega); have htw : IntKind.i64.wrap (t' : Int) = (t' : Int) := (by rw [IntKind.wrap_i64]; omega); have ht'N : t' < n := (by omega); have ht'I : (t' : Int) < (n : Int) := (by omega); have HTT : Sl (t' + 1 = t) := ⟨ht'⟩; have hs1 : 0 ≤ s := hss.1; have hs2 : s ≤ 1099511627776 := (by omega); have hz1 : 0 ≤ z := hgb.1; have hz2 : z ≤ 1073741824 := hgb.2; have hswr : IntKind.i64.wrap (s + z) = s + z := (by rw [IntKind.wrap_i64]; omega); clear hz ht' ht0 hgb hss htn
          by_cases hfit : s + z ≤ S
          · have hfd : decide (s + z ≤ S) = true := decide_eq_true hfit; have HS2 : Sl (0 ≤ s + z ∧ s + z ≤ S) := ⟨by omega⟩; have HT2 : Sl (t' ≤ n ∧ grd l S t' (s + z) = grd l S m 0) := ⟨by omega, by rw [← HT.out.2, HG.out, if_pos hfit]⟩; go_wp2_with fail; exact ⟨⟨t', s + z, rfl, rfl, HS2, HT2⟩, by have := HTT.out; simp [RowKit.intOf]; omega⟩
          · have hfd : decide (s + z ≤ S) = false := decide_eq_false hfit; have HE : Sl (t = rem l S (g - k') ∧ t ≤ n) := ⟨by rw [← HNX.out, ← HT.out.2, HG.out, if_neg hfit]; exact HTT.out.symm, HT.out.1⟩; go_wp2_with fail; exact ⟨⟨k', t, _, by have := HKK.out; omega, rfl, rfl, rfl, HE⟩, by have := HKK.out; simp [RowKit.intOf]; omega⟩
theorem own_own_ne {w : World} {b b' s s' n n' : Nat} {e e' : TypeId} {v v' : Value} {xs xs' : List Value} (h : w.ownsRow b e s v n xs) (h' : w.ownsRow b' e' s' v' n' xs') (he : e ≠ e') (k : Nat) (hk : v.ownBlock = some k) : v'.ownBlock ≠ some k := by
  rcases h'.2 with ⟨rfl, _⟩ | ⟨g, cap, cur, rfl, _, hh, _⟩
  · simp [Value.ownBlock]
  · intro hk2; have hg : g = k := (by simpa [Value.ownBlock] using hk2); subst hg; exact own_blk_ne (t := e') (cs := cur) h hh he hk
theorem OI.alloc {w : World} {base : Nat} {A : Option Addr} {n c : Nat} {l : List Int} (h : OI w base A n c l) (o : Obj) : OI (w.alloc o) base A n c l := World.ownsRow.alloc h o
theorem II.made (w : World) (z : Int) (t : TypeId) : II (w.alloc (.cells #[.int .i64 z] t)) (some ⟨w.heap.size, 0, none⟩) 1 [z] := by
  refine ⟨rfl, rfl, fun _ => ⟨⟨w.heap.size, 0, none⟩, rfl, by simp, fun j u hu => ?_⟩⟩
  have hj : j = 0 := by
    have := (List.getElem?_eq_some_iff.1 hu).1; simp at this; exact this
  subst hj; have : u = .int .i64 z := (by simpa [iv] using hu.symm); rw [this]; exact (Blk.new w t #[.int .i64 z]).cell 0
def OL (w : World) (base : Nat) (A : Option Addr) (n c : Nat) (l : List Int) : Prop := w.ownsRow base 2 1 (.slice A n c) n (l.map iv)
theorem OL.len {w : World} {base : Nat} {A : Option Addr} {n c : Nat} {l : List Int} (h : OL w base A n c l) : l.length = n := by
  have := h.1; simpa using this
theorem OL.ii {w : World} {base : Nat} {A : Option Addr} {n c : Nat} {l : List Int} (h : OL w base A n c l) : II w A n l := ⟨h.len, Reads.of_own h⟩
theorem OL.nil (w : World) (base : Nat) : OL w base none 0 0 [] := World.ownsRow_nil _ _ _ _
theorem OL.alloc {w : World} {base : Nat} {A : Option Addr} {n c : Nat} {l : List Int} (h : OL w base A n c l) (o : Obj) : OL (w.alloc o) base A n c l := World.ownsRow.alloc h o
theorem OL.below {w w' : World} {base : Nat} {A : Option Addr} {n c : Nat} {l : List Int} (h : OL w base A n c l) (hb : Below w.heap.size w w') : OL w' base A n c l :=
  own_mv h (Mv.of_below hb) (fun k hk => by have := (World.ownsRow.lt h k hk).2; omega)
theorem OL.grown {w w' : World} {row : Option Nat} {base : Nat} {A : Option Addr} {n c : Nat} {l : List Int} (h : OL w base A n c l) (hg : w.grownBy w' row) (hne : ∀ k, (Value.slice A n c).ownBlock = some k → row ≠ some k) : OL w' base A n c l := by
  refine World.ownsRow.kept h hg ?_
  cases hb : (Value.slice A n c).ownBlock with
  | none => exact .inl rfl
  | some k => exact .inr (fun e => hne k hb e.symm)
theorem infoL64 : ∃ i, Tryz.prog.info? 2 = some i ∧ i.zero = some (.int .i64 0) ∧ i.size = 1 ∧ i.bytes = 8 := by
  have h : (Tryz.prog.info? 2).map (fun i => (i.zero, i.size, i.bytes)) = some (some (.int .i64 0), 1, 8) := (by kernel_rfl); obtain ⟨i, hi, he⟩ := Option.map_eq_some_iff.1 h; injection he with e1 e2
  injection e2 with e2 e3
  exact ⟨i, hi, e1, e2, e3⟩
theorem wpList_append_ol {ops : Array Oper} {rest : List Oper} {o : Oper} {a : Act} {w : World} {Q : Exit → Act → World → Prop} (hgd : o.guard = none) (s x : Operand)
    (ho : o.op = .call { callee := .builtin .append, args := #[s, x], argTypes := #[60, 60] })
    (base : Nat) (A : Option Addr) (n c : Nat) (l : List Int) (hs : a.eval s = .slice A n c) (hown : OL w base A n c l)
    (B : Option Addr) (m d : Nat) (k : List Int) (hx : a.eval x = .slice B m d) (hr : II w B m k) (hnm : n + m ≤ 1000000) (hbase : base ≤ w.heap.size)
    (h : ∀ A' c' w', OL w' base A' (n + m) c' (l ++ k) → w.grownBy w' (Value.slice A n c).ownBlock → ((Value.slice A' (n + m) c').ownBlock = (Value.slice A n c).ownBlock ∨ (Value.slice A' (n + m) c').ownBlock = some w.heap.size) → wpList Tryz.prog ops Q rest (a.put o.dst (.slice A' (n + m) c')) w') :
    wpList Tryz.prog ops Q (o :: rest) a w := by
  obtain ⟨i, h1, h2, h3, h4⟩ := infoL64; refine wpList_append_any w hgd s x _ ho base 2 i _ 1 8 Tryz.underlying60 h1 h2 h3 h4 rfl (by decide) _ n _ hs hown w.heap.size B m d (k.map iv) hx hr.2 (fun u hu => ?_) (by unfold maxLen; omega) (by omega) hbase (fun v' w' h5 h6 h7 => ?_)
  · obtain ⟨z, _, rfl⟩ := List.mem_map.1 hu; rfl
  · rw [← List.map_append] at h5; rcases h5.2 with ⟨rfl, h0⟩ | ⟨g, cap, cur, rfl, _⟩
    · have hn0 : n + m = 0 := h0; have e : Value.slice none 0 0 = Value.slice none (n + m) 0 := (by rw [hn0]); rw [e] at h5 h7 ⊢; exact h _ _ _ h5 h6 h7
    · exact h _ _ _ h5 h6 h7
structure SlV where
  A : Option Addr
  n : Nat
  c : Nat
  l : List Int
def SlV.val (s : SlV) : Value := .slice s.A s.n s.c
structure OG (w : World) (base : Nat) (A : Option Addr) (n c : Nat) (L : List SlV) : Prop where
  row : w.ownsRow base 43 1 (.slice A n c) n (L.map SlV.val)
  all : ∀ s ∈ L, OI w base s.A s.n s.c s.l
theorem OG.nil (w : World) (base : Nat) : OG w base none 0 0 [] := ⟨World.ownsRow_nil _ _ _ _, fun s hs => by cases hs⟩
theorem OG.len {w : World} {base : Nat} {A : Option Addr} {n c : Nat} {L : List SlV} (h : OG w base A n c L) : L.length = n := by
  have := h.row.1; simpa using this
theorem OG.below {w w' : World} {base : Nat} {A : Option Addr} {n c : Nat} {L : List SlV} (h : OG w base A n c L) (hb : Below w.heap.size w w') : OG w' base A n c L :=
  ⟨own_mv h.row (Mv.of_below hb) (fun k hk => by have := (World.ownsRow.lt h.row k hk).2; omega), fun s hs => (h.all s hs).below hb⟩
theorem infoSl : ∃ i, Tryz.prog.info? 43 = some i ∧ i.zero = some (.slice none 0 0) ∧ i.size = 1 ∧ i.bytes = 24 := by
  have h : (Tryz.prog.info? 43).map (fun i => (i.zero, i.size, i.bytes)) = some (some (.slice none 0 0), 1, 24) := (by kernel_rfl); obtain ⟨i, hi, he⟩ := Option.map_eq_some_iff.1 h; injection he with e1 e2
  injection e2 with e2 e3
  exact ⟨i, hi, e1, e2, e3⟩
theorem wpList_append_og {ops : Array Oper} {rest : List Oper} {o : Oper} {a : Act} {w : World} {Q : Exit → Act → World → Prop} (hgd : o.guard = none) (s x : Operand)
    (ho : o.op = .call { callee := .builtin .append, args := #[s, x], argTypes := #[57, 57] })
    (base : Nat) (A : Option Addr) (n c : Nat) (L : List SlV) (hs : a.eval s = .slice A n c) (w0 : World) (t : TypeId) (y : SlV) (hw : w = w0.alloc (.cells #[y.val] t)) (hown : OG w0 base A n c L)
    (hy : OI w0 base y.A y.n y.c y.l) (hx : a.eval x = .slice (some ⟨w0.heap.size, 0, none⟩) 1 1) (hnm : n + 1 ≤ 1000000) (hbase : base ≤ w0.heap.size)
    (h : ∀ A' c' w', OG w' base A' (n + 1) c' (L ++ [y]) → w.grownBy w' (Value.slice A n c).ownBlock → wpList Tryz.prog ops Q rest (a.put o.dst (.slice A' (n + 1) c')) w') :
    wpList Tryz.prog ops Q (o :: rest) a w := by
  obtain ⟨i, h1, h2, h3, h4⟩ := infoSl; subst hw; have hb : Below w0.heap.size w0 (w0.alloc (.cells #[y.val] t)) := (Below.refl _ _).alloc (Nat.le_refl _) _; have hO := hown.below hb; have hY := hy.below hb; refine wpList_append_any _ hgd s x _ ho base 43 i _ 1 24 Tryz.underlying57 h1 h2 h3 h4 rfl (by decide) _ n _ hs hO.row (w0.alloc (.cells #[y.val] t)).heap.size (some ⟨w0.heap.size, 0, none⟩) 1 1 [y.val] hx ?_ (fun u hu => ?_) (by unfold maxLen; omega) (by omega) (Nat.le_trans hbase hb.size) (fun v' w' h5 h6 h7 => ?_)
  · refine ⟨rfl, fun _ => ⟨⟨w0.heap.size, 0, none⟩, rfl, by simp, fun j u hu => ?_⟩⟩
    have hj : j = 0 := by
      have := (List.getElem?_eq_some_iff.1 hu).1; simp at this; exact this
    subst hj; have : u = y.val := (by simpa using hu.symm); rw [this]; exact (Blk.new w0 t #[y.val]).cell 0
  · have : u = y.val := (by simpa using hu); rw [this]; rfl
  · rw [show L.map SlV.val ++ [y.val] = (L ++ [y]).map SlV.val by simp] at h5
    have hall : ∀ z ∈ L ++ [y], OI w' base z.A z.n z.c z.l := fun z hz => by
      have h0 : OI (w0.alloc (.cells #[y.val] t)) base z.A z.n z.c z.l := by
        rcases List.mem_append.1 hz with hz | hz
        · exact hO.all z hz
        · rw [List.mem_singleton.1 hz]; exact hY
      exact h0.grown h6 (fun k hk => own_own_ne h0 hO.row (by decide) k hk)
    rcases h5.2 with ⟨rfl, h0⟩ | ⟨g, cap, cur, rfl, _⟩
    · cases h0
    · exact h _ _ _ ⟨h5, hall⟩ h6
theorem OG.rd {w : World} {base : Nat} {A : Option Addr} {n c : Nat} {L : List SlV} (h : OG w base A n c L) : RowG w A n 1 (fun s => [SlV.val s]) L := by
  refine ⟨h.len, ?_, fun _ => rfl⟩; have := Reads.of_own h.row
  have e : ∀ L : List SlV, L.flatMap (fun s => [SlV.val s]) = L.map SlV.val := fun L => by
    induction L with
    | nil => rfl
    | cons y L ih => rw [List.flatMap_cons, ih]; rfl
  rw [e]; exact this
def grpE (l : List Int) (S : Int) : Nat → Nat → List (Nat × Nat)
  | 0, _ => []
  | n+1, f => (f, max f (rem l S n)) :: grpE l S n (max f (rem l S n))
def cutL (od : List Int) (p : Nat × Nat) : List Int := (od.take p.2).drop p.1
def wtL (ws : List Int) : List Int := (ordL ws).map fun x => gt ws x.toNat
def rngW (ws : List Int) (k : Nat) : Int := if gt ws k < 0 ∨ 1073741824 < gt ws k then 7 else 0
def planE (ws : List Int) (steps : Int) : Int := if 80 < ws.length then 3 else if steps < 1 ∨ 60 < steps then 2 else fstE (rngW ws) ws.length 0
def planS (ws : List Int) (steps : Int) : Int := if planE ws steps = 0 then lst (wtL ws) (steps.toNat - 1) 0 else 0
def planG (ws : List Int) (steps : Int) : List (List Int) := if planE ws steps = 0 then (grpE (wtL ws) (planS ws steps) steps.toNat 0).map (cutL (ordL ws)) else []
theorem rngW_ok {ws : List Int} (h : fstE (rngW ws) ws.length 0 = 0) (j : Nat) : 0 ≤ gt ws j ∧ gt ws j ≤ 1073741824 := by
  rcases Nat.lt_or_ge j ws.length with hj | hj
  · have := fstE_zero h j (Nat.zero_le _) (by omega); unfold rngW at this
    split at this
    · cases this
    · omega
  · rw [gt, List.getElem?_eq_none hj]; exact ⟨Int.le_refl _, by decide⟩
theorem wtL_len (ws : List Int) : (wtL ws).length = ws.length := by rw [wtL, List.length_map]; exact ordF_len ws _
theorem wtL_bd {ws : List Int} (h : fstE (rngW ws) ws.length 0 = 0) (j : Nat) : 0 ≤ gt (wtL ws) j ∧ gt (wtL ws) j ≤ 1073741824 := by
  unfold wtL; rcases Nat.lt_or_ge j (ordL ws).length with hj | hj
  · rw [gt, List.getElem?_map, List.getElem?_eq_getElem hj]; exact rngW_ok h _
  · rw [gt, List.getElem?_map, List.getElem?_eq_none hj]; simp
theorem psm_le {l : List Int} (h : ∀ j, 0 ≤ gt l j ∧ gt l j ≤ 1073741824) : ∀ k, 0 ≤ psm l k ∧ psm l k ≤ (k : Int) * 1073741824
  | 0 => by rw [psm]; omega
  | k+1 => by
    have ih := psm_le h k; have h1 := h k; rw [psm, Int.natCast_succ, Int.add_mul]; omega
theorem sort0_any (A : Option Addr) (c gf : Nat) (w : World) :
    Calls Tryz.prog 58 #[.slice A 0 c, .func (.func 59) #[] #[.pointer (some ⟨gf, 0, none⟩)]] w fun e w' => e = .returned (.tuple #[]) ∧ w' = w := by
  have HI : Sl (∀ W : World, Calls Tryz.prog 156 #[.slice A 0 c, .int .i64 0, .int .i64 0, .func (.func 59) #[] #[.pointer (some ⟨gf, 0, none⟩)]] W fun e w' => e = .returned (.tuple #[]) ∧ w' = W) := ⟨fun W => by
    go_enter Tryz.func156, Tryz.ntmps156; go_wp2_with fail
    go_loop [8] (fun s8 => s8 = .int .i64 1) (fun _ => 0)
    case atStart => rfl
    case round =>
      subst hrel; go_wp2_with fail; go_end0
      exact ⟨rfl, rfl⟩⟩
  have HS : Sl (Calls Tryz.prog 114 #[.slice A 0 c, .int .i64 0, .func (.func 59) #[] #[.pointer (some ⟨gf, 0, none⟩)]] w fun e w' => e = .returned (.tuple #[]) ∧ w' = w) := ⟨by
    go_enter Tryz.func114, Tryz.ntmps114; go_wp2_with fail
    go_loop [7, 8] (fun s7 s8 => s7 = .int .i64 0 ∧ s8 = .int .i64 20) (fun _ _ => 0)
    case atStart => exact ⟨rfl, rfl⟩
    case round =>
      obtain ⟨rfl, rfl⟩ := hrel; go_wp2_with fail; refine (HI.out _).mono ?_; rintro e w1 ⟨rfl, rfl⟩; go_wp2_with fail
      go_loop [6] (fun s6 => s6 = .int .i64 20) (fun _ => 0)
      case atStart => rfl
      case round =>
        subst hrel; go_wp2_with fail; go_end0
        exact ⟨rfl, rfl⟩⟩
  go_enter Tryz.func58, Tryz.ntmps58; go_wp2_with fail; refine HS.out.mono ?_; rintro e w1 ⟨rfl, rfl⟩; go_wp2_with fail; go_end0; exact ⟨rfl, rfl⟩
def PlnR (base : Nat) (G : List (List Int)) (s e : Int) (en : Ending) (w' : World) : Prop := ∃ A k c L, en = .returned (.tuple #[.slice A k c, .int .i64 s, .int .i64 e]) ∧ OG w' base A k c L ∧ L.map SlV.l = G
theorem PlnR.no {base : Nat} {e : Int} {w' : World} : PlnR base [] 0 e (.returned (.tuple #[.slice none 0 0, .int .i64 0, .int .i64 e])) w' := ⟨none, 0, 0, [], rfl, OG.nil _ _, rfl⟩
def nums (n : Nat) : List Int := (List.range n).map fun k : Nat => (k : Int)
theorem nums_succ (n : Nat) : nums (n + 1) = nums n ++ [(n : Int)] := by
  unfold nums; rw [List.range_succ, List.map_append]; rfl
theorem nums_at {n k : Nat} (h : k < n) : gt (nums n) k = (k : Int) := by
  unfold nums; rw [gt, List.getElem?_map, List.getElem?_range h]; rfl
theorem OI.irow {w : World} {base g n c : Nat} {l : List Int} (h : OI w base (some ⟨g, 0, none⟩) n c l) : IRow w g n (gt l) := by
  have hl := h.len; rcases h.2 with ⟨h0, _⟩ | ⟨b, cap, cur, e1, _, hh, hnc, _, hcs, _⟩
  · cases h0
  · injection e1 with e1
    injection e1 with e1
    injection e1 with e1
    subst e1; refine ⟨_, cur, hh, by omega, fun j hj => ?_⟩; obtain ⟨ad, e, _, hc⟩ := h.ii.cell hj; injection e with e
    subst e; rw [Addr.add_mid, Nat.zero_add] at hc; have hB : Blk w g 3 cur := hh; rw [← hB.cell j, hc]
theorem IRow.ii {w : World} {g n : Nat} {f : Nat → Int} (h : IRow w g n f) {l : List Int} (hl : (List.range n).map f = l) : II w (some ⟨g, 0, none⟩) n l := by
  subst hl; refine ⟨by simp, by simp, fun hn => ⟨⟨g, 0, none⟩, rfl, h.lt, fun j u hu => ?_⟩⟩; have hj : j < n := (by have := (List.getElem?_eq_some_iff.1 hu).1; simpa using this); rw [Addr.add_mid, Nat.zero_add, h.cell hj]; rw [List.getElem?_map, List.getElem?_map, List.getElem?_range hj] at hu; exact hu
theorem II.take {w : World} {A : Option Addr} {n : Nat} {l : List Int} (h : II w A n l) {u : Nat} (hu : u ≤ n) : II w A u (l.take u) := by
  have hl := h.1; refine ⟨by rw [List.length_take]; omega, by simp; omega, fun h0 => ?_⟩; obtain ⟨ad, e, hb, hc⟩ := h.2.2 (by omega); refine ⟨ad, e, hb, fun j v hv => hc j v ?_⟩; have hj : j < u := (by have := (List.getElem?_eq_some_iff.1 hv).1; simp at this; omega); rw [List.getElem?_map, List.getElem?_take_of_lt hj] at hv; rw [List.getElem?_map]; exact hv
theorem II.drop {w : World} {A : Option Addr} {n c : Nat} {l : List Int} (h : II w A n l) {k : Nat} (hk : k ≤ n) (hc : n ≤ c) : II w (if c = k then A else A.map (·.add k)) (n - k) (l.drop k) := by
  have := Reads.cut h.2 (cap := c) hk hc; rw [Nat.mul_one] at this; exact ⟨by rw [List.length_drop, h.1], by rw [List.map_drop]; exact this⟩
theorem ne_L64 : 3 ≠ 60 := by decide
theorem gtI_get {l : List Int} {i : Nat} (h : i < l.length) : gt l i = l[i] := by rw [gt, List.getElem?_eq_getElem h]; rfl
theorem wt_gt (ws : List Int) {k : Nat} (hk : k < ws.length) : gt (wtL ws) k = gt ws (gt (ordL ws) k).toNat := by
  have ho : k < (ordL ws).length := (by rw [ordL, ordF_len]; exact hk); have hl : k < (wtL ws).length := (by rw [wtL_len]; exact hk); rw [gtI_get hl, gtI_get ho]; exact List.getElem_map _
theorem wt_take (ws : List Int) {k : Nat} (hk : k < ws.length) : (wtL ws).take (k + 1) = (wtL ws).take k ++ [gt ws (gt (ordL ws) k).toNat] := by
  have hl : k < (wtL ws).length := (by rw [wtL_len]; exact hk); rw [← wt_gt ws hk, List.take_add_one, List.getElem?_eq_getElem hl, gtI_get hl]; rfl
theorem sameI_any (A B : Option Addr) (n c d : Nat) (l : List Int) (w : World) (h1 : II w A n l) (h2 : II w B n l) (hn : n ≤ 1000000) :
    Calls Tryz.prog 63 #[.slice A n c, .slice B n d] w fun e w' => e = .returned (.bool true) ∧ Below w.heap.size w w' := by
  have H1 : Sl _ := ⟨h1⟩; have H2 : Sl _ := ⟨h2⟩; have HB : Sl _ := ⟨Below.refl w.heap.size w⟩; have hne : ((n : Int) != (n : Int)) = false := (by simp); clear h1 h2; go_enter Tryz.func63, Tryz.ntmps63; go_wp2_with fail
  go_loopw [5] (fun s5 wv => ∃ k : Nat, k ≤ n ∧ s5 = .int .i64 k ∧ Sl (Below w.heap.size w wv)) (fun s5 _ => n - (RowKit.intOf s5).toNat)
  case atStart => exact ⟨0, Nat.zero_le _, rfl, HB⟩
  case round =>
    clear HB; obtain ⟨k, hk, rfl, HB⟩ := hrel
    by_cases hkn : k < n
    · have hkI : decide ((k : Int) < (n : Int)) = true := decide_eq_true (by omega); have hkI2 : (k : Int) < (n : Int) := (by omega); obtain ⟨a1, e1, hb1, c1⟩ := (H1.out.below HB.out).cell (j := k) hkn; obtain ⟨a2, e2, hb2, c2⟩ := (H2.out.below HB.out).cell (j := k) hkn; rw [e1, e2]; clear e1 e2; obtain ⟨z, hz⟩ : ∃ z, gt l k = z := ⟨_, rfl⟩; rw [hz] at c1 c2; have hzz : (z != z) = false := (by simp); go_wp2_with fail
      go_quiet (fail)
      go_wp2_with fail; exact ⟨⟨k + 1, by omega, by go_num, ⟨below_drewN HB.out _⟩⟩, by simp [RowKit.intOf]; omega⟩
    · obtain rfl : k = n := (by omega); go_wp2_with fail; go_ret; exact ⟨rfl, HB.out⟩
structure GG (w : World) (A : Option Addr) (n : Nat) (L : List SlV) : Prop where
  len : L.length = n
  rd : Reads w w.heap.size 1 A n (L.map SlV.val)
  all : ∀ s ∈ L, II w s.A s.n s.l
theorem GG.below {w w' : World} {A : Option Addr} {n : Nat} {L : List SlV} (h : GG w A n L) (hb : Below w.heap.size w w') : GG w' A n L := ⟨h.len, (h.rd.below hb).more hb.size, fun s hs => (h.all s hs).below hb⟩
theorem GG.cell {w : World} {A : Option Addr} {n : Nat} {L : List SlV} (h : GG w A n L) {j : Nat} (hj : j < n) : ∃ ad s, A = some ad ∧ ad.block < w.heap.size ∧ L[j]? = some s ∧ w.cell? (ad.add j) = some s.val ∧ II w s.A s.n s.l := by
  have hl := h.len; obtain ⟨ad, e, hb, hc⟩ := h.rd.2 (by omega); refine ⟨ad, L[j], e, hb, List.getElem?_eq_getElem (by omega), hc j _ ?_, h.all _ (List.getElem_mem _)⟩; rw [List.getElem?_map, List.getElem?_eq_getElem (by omega)]; rfl
theorem GG.of_og {w : World} {base : Nat} {A : Option Addr} {n c : Nat} {L : List SlV} (h : OG w base A n c L) : GG w A n L := ⟨h.len, Reads.of_own h.row, fun s hs => (h.all s hs).ii⟩
theorem GG.of_blk {w : World} {g n : Nat} {t : TypeId} {cs : Array Value} {L : List SlV} (h : Blk w g t cs) (hl : L.length = n) (hc : cs.toList = L.map SlV.val) (ha : ∀ s ∈ L, II w s.A s.n s.l) : GG w (some ⟨g, 0, none⟩) n L := by
  refine ⟨hl, ⟨by rw [List.length_map, hl, Nat.mul_one], fun _ => ⟨_, rfl, h.lt, fun j u hu => ?_⟩⟩, ha⟩; rw [← hc] at hu; rw [show (⟨g, 0, none⟩ : Addr).add j = ⟨g, j, none⟩ by unfold Addr.add; split <;> simp_all]; have := h.cell j; rw [this, ← Array.getElem?_toList]; exact hu
theorem groups_any (A B : Option Addr) (n c d : Nat) (L M : List SlV) (w : World) (h1 : GG w A n L) (h2 : GG w B n M) (hn : n ≤ 1000000) (he : L.map SlV.l = M.map SlV.l) (hL : ∀ s ∈ L, s.n ≤ 1000000) :
    Calls Tryz.prog 21 #[.slice A n c, .slice B n d] w fun e w' => e = .returned (.bool true) ∧ Below w.heap.size w w' := by
  have H1 : Sl _ := ⟨h1⟩; have H2 : Sl _ := ⟨h2⟩; have HE : Sl _ := ⟨he⟩; have HL : Sl _ := ⟨hL⟩; have HB : Sl _ := ⟨Below.refl w.heap.size w⟩; have hne : ((n : Int) != (n : Int)) = false := (by simp); clear h1 h2 he hL; go_enter Tryz.func21, Tryz.ntmps21; go_wp2_with fail
  go_loopw [5] (fun s5 wv => ∃ k : Nat, k ≤ n ∧ s5 = .int .i64 k ∧ Sl (Below w.heap.size w wv)) (fun s5 _ => n - (RowKit.intOf s5).toNat)
  case atStart => exact ⟨0, Nat.zero_le _, rfl, HB⟩
  case round =>
    clear HB; obtain ⟨k, hk, rfl, HB⟩ := hrel
    by_cases hkn : k < n
    · have hkI : decide ((k : Int) < (n : Int)) = true := decide_eq_true (by omega); have hkI2 : (k : Int) < (n : Int) := (by omega); have hk0 : (0 : Int) ≤ (k : Int) := (by omega); obtain ⟨a1, x, e1, hb1, hx, c1, i1⟩ := (H1.out.below HB.out).cell (j := k) hkn; obtain ⟨a2, y, e2, hb2, hy, c2, i2⟩ := (H2.out.below HB.out).cell (j := k) hkn
      have hxy : y.l = x.l := by
        have := congrArg (fun l => l[k]?) HE.out; simp only [List.getElem?_map, hx, hy, Option.map_some, Option.some.injEq] at this; exact this.symm
      have hnn : y.n = x.n := (by rw [← i1.1, ← i2.1, hxy]); rw [hxy, hnn] at i2; have HX : Sl (∀ W, Below wr.heap.size wr W → Calls Tryz.prog 63 #[.slice x.A x.n x.c, .slice y.A x.n y.c] W fun e w' => e = .returned (.bool true) ∧ Below W.heap.size W w') := ⟨fun W hW => sameI_any x.A y.A x.n x.c y.c x.l W (i1.below hW) (i2.below hW) (HL.out x (List.mem_of_getElem? hx))⟩; have HC1 : Sl (∀ W, Below wr.heap.size wr W → W.cell? (a1.add k) = some (.slice x.A x.n x.c)) := ⟨fun W hW => (hW.cell (by rw [block_of_add]; exact hb1)).trans c1⟩; have HC2 : Sl (∀ W, Below wr.heap.size wr W → W.cell? (a2.add k) = some (.slice y.A x.n y.c)) := ⟨fun W hW => by rw [← hnn]; exact (hW.cell (by rw [block_of_add]; exact hb2)).trans c2⟩; rw [e1, e2]; clear e1 e2 c1 c2 i1 i2 hx hy hxy hnn; have hS0 : Below wr.heap.size wr wr.drew := below_drewN (Below.refl _ _) 1; have hSR := hS0; go_wp2_with fail; have hm := hS0; refine wp_region_held_drew (S := fun w' => Below wr.heap.size wr w') (by kernel_rfl) hm (fun hHeld => ?_); clear hm; refine hM 0 (v := .slice (some a1) n c) rfl rfl ?_; simp only [pS]; refine hM 1 (v := .int .i64 (k : Int)) rfl rfl ?_; simp only [pS]; refine hS 2 (v := .pointer (some (a1.add k))) rfl rfl ?_; simp only [pS]
      refine hC 3 (v := .slice x.A x.n x.c) rfl rfl (fun w' h => by
        have hc := HC1.out w' h
        go_simp) ?_
      simp only [pS]; refine hM 4 (v := .slice (some a2) n d) rfl rfl ?_; simp only [pS]; refine hM 5 (v := .int .i64 (k : Int)) rfl rfl ?_; simp only [pS]; refine hS 6 (v := .pointer (some (a2.add k))) rfl rfl ?_; simp only [pS]
      refine hC 7 (v := .slice y.A x.n y.c) rfl rfl (fun w' h => by
        have hc := HC2.out w' h
        go_simp) ?_
      simp only [pS]; refine hO 8 rfl rfl fun K hK => ?_; go_simp; go_at_call 63
      (with_reducible refine (HX.out _ hSR).mono ?_)
      rintro e w6 ⟨rfl, hb⟩; have hW6 : Below wr.heap.size wr w6 := hSR.trans (hb.mono hSR.size); refine hK.out _ _ hW6 (fun hHeld => ?_); clear hK K
      (try simp only [pS])
      refine hS 9 (v := .bool false) rfl rfl ?_; simp only [pS]; refine wpAnyH_done (by kernel_rfl) ?_ _; go_wp2_with fail; exact ⟨⟨k + 1, by omega, by go_num, ⟨HB.out.trans (hW6.mono HB.out.size)⟩⟩, by simp [RowKit.intOf]; omega⟩
    · obtain rfl : k = n := (by omega); go_wp2_with fail; go_ret; exact ⟨rfl, HB.out⟩
theorem sameR_any (r s : RgV) (w : World) (hr : RgM w r) (hs : RgM w s) (h1 : s.l = r.l) (h2 : s.k = r.k) (hn : r.n ≤ 1000000) (hm : r.m ≤ 1000000) :
    Calls Tryz.prog 23 #[.agg #[.slice r.A r.n r.c, .slice r.B r.m r.d], .agg #[.slice s.A s.n s.c, .slice s.B s.m s.d]] w fun e w' => e = .returned (.bool true) ∧ Below w.heap.size w w' := by
  have e1 : s.n = r.n := (by rw [← hs.s.1, ← hr.s.1, h1]); have e2 : s.m = r.m := (by rw [← hs.c.1, ← hr.c.1, h2]); have i1 := hs.s; have i2 := hs.c; rw [e1, h1] at i1; rw [e2, h2] at i2; rw [e1, e2]; have H1 : Sl _ := ⟨fun W (hW : Below w.heap.size w W) => sameI_any r.A s.A r.n r.c s.c r.l W (hr.s.below hW) (i1.below hW) hn⟩; have H2 : Sl _ := ⟨fun W (hW : Below w.heap.size w W) => sameI_any r.B s.B r.m r.d s.d r.k W (hr.c.below hW) (i2.below hW) hm⟩; have HD : Sl (Lg w w []) := ⟨Lg.nil w⟩; clear e1 e2 i1 i2 h1 h2 hr hs; go_enter Tryz.func23, Tryz.ntmps23
  go_upto_region 1 with ((with_reducible show wpList _ _ _ _ _ _); first
    | (refine wpList_box_new 2 rfl rfl 45 (.tmp 0) rfl #[.slice r.A r.n r.c, .slice r.B r.m r.d] rfl (fun _ => by kernel_rfl) ?_; rintro w1 g1 zg zm zs zb; replace HD : Sl _ := ⟨HD.out.new zg zm zb⟩; clear zg zm zs zb)
    | (refine wpList_box_new 3 rfl rfl 45 (.tmp 1) rfl #[.slice s.A r.n s.c, .slice s.B r.m s.d] rfl (fun _ => by kernel_rfl) ?_; rintro w2 g2 zg zm zs zb; replace HD : Sl _ := ⟨HD.out.new zg zm zb⟩; clear zg zm zs zb))
  have s0 := (HD.out.at_ 1 rfl).cell 0; have s1 := (HD.out.at_ 1 rfl).cell 1; have t0 := (HD.out.at_ 0 rfl).cell 0; have t1 := (HD.out.at_ 0 rfl).cell 1; simp at s0 s1 t0 t1; go_wp2_with fail; refine (H1.out _ HD.out.bl).mono ?_; rintro e w3 ⟨rfl, hb⟩; replace HD : Sl _ := ⟨HD.out.below hb⟩; clear hb s0 s1 t0 t1; have s1 := (HD.out.at_ 1 rfl).cell 1; have t1 := (HD.out.at_ 0 rfl).cell 1; simp at s1 t1; go_wp2_with fail; refine (H2.out _ HD.out.bl).mono ?_; rintro e w4 ⟨rfl, hb⟩; replace HD : Sl _ := ⟨HD.out.below hb⟩; go_wp2_with fail; go_ret; exact ⟨rfl, HD.out.bl⟩
section
variable {P : Program} {ops : Array Oper} {Q : Exit → Act → World → Prop} {md : Region.Mode} {S : World → Prop}
theorem wpAnyH_threem (i j k : Nat) {oi oj ok : Oper} {fuel : Nat} {listed : Array Bool} {a : Act} {w : World} (hi0 : ops.toList[i]? = some oi) (hj0 : ops.toList[j]? = some oj) (hk0 : ops.toList[k]? = some ok) (hr : Region.ready md ops listed = [i, j, k]) (hgi : oi.guard = none) (hgj : oj.guard = none) (hgk : ok.guard = none)
    (h1 : ∀ K' : Act → World → Prop, Shut (∀ a w, S w → (S w → wpAnyH P md ops Q S fuel (listed.setIfInBounds i true) a w) → K' a w) → Oper.wp P oi a w K' Q)
    (h2 : ∀ K' : Act → World → Prop, Shut (∀ a w, S w → (S w → wpAnyH P md ops Q S fuel (listed.setIfInBounds j true) a w) → K' a w) → Oper.wp P oj a w K' Q)
    (h3 : ∀ K' : Act → World → Prop, Shut (∀ a w, S w → (S w → wpAnyH P md ops Q S fuel (listed.setIfInBounds k true) a w) → K' a w) → Oper.wp P ok a w K' Q) : wpAnyH P md ops Q S (fuel + 1) listed a w :=
  have hi : ops[i]? = some oi := (by rw [← Array.getElem?_toList]; exact hi0); have hj : ops[j]? = some oj := (by rw [← Array.getElem?_toList]; exact hj0); have hk : ops[k]? = some ok := (by rw [← Array.getElem?_toList]; exact hk0)
  wpAnyH_ready hr (by simp) (AllReadyH.cons hi (fun K' hK => by
    have hw : Region.wanted oi (yielded ops a.tmps) = true := (by simp [Region.wanted, hgi]); rw [if_pos hw]
    exact h1 K' hK) (AllReadyH.cons hj (fun K' hK => by
    have hw : Region.wanted oj (yielded ops a.tmps) = true := (by simp [Region.wanted, hgj]); rw [if_pos hw]
    exact h2 K' hK) (AllReadyH.cons hk (fun K' hK => by
    have hw : Region.wanted ok (yielded ops a.tmps) = true := (by simp [Region.wanted, hgk]); rw [if_pos hw]
    exact h3 K' hK) AllReadyH.nil)))
end
theorem wp_newblk {P : Program} {Q : Exit → Act → World → Prop} {op : Oper} {a : Act} {w : World} {K : Act → World → Prop} (mk : Nat → Value) (ty : TypeId) (cells : Array Value)
    (hr : ∀ w : World, (execOp a.eval op).run P w = .ok (.value (mk w.heap.size)) (w.alloc (.cells cells ty)))
    (h : ∀ w' g, g = w.heap.size → Mv w.heap.size w w' → Below w.heap.size w w' → Blk w' g ty cells → K (a.put op.dst (mk g)) w') : Oper.wp P op a w K Q := by
  unfold Oper.wp; rw [hr w, Oper.upon_value]; exact h _ _ rfl (Mv.of_below ((Below.refl _ _).alloc (Nat.le_refl _) _)) ((Below.refl _ _).alloc (Nat.le_refl _) _) (Blk.new w ty cells)
section
variable (A1 A2 A3 A4 P1 P2 P3 a b c d e f : Option Addr)
theorem shE1 : atE (exO A1 A2 A3 A4 P1 P2 P3) (tbL a b c d) ⟨e, 1, 1, [1], none, 0, 0, []⟩ 2 = 0 := by kernel_rfl
theorem shL1 : atL (exO A1 A2 A3 A4 P1 P2 P3) (tbL a b c d) ⟨e, 1, 1, [1], none, 0, 0, []⟩ 2 RgV.l = [0, 1, 2] := by
  unfold atL; rw [if_pos (shE1 ..)]; show uniI [1, 0, 2] = [0, 1, 2]
  have hs : srtI [1, 0, 2] = [0, 1, 2] := by
    simp [srtI, List.mergeSort, List.MergeSort.Internal.splitInTwo, List.merge]
  have hc : Lib.compact ([0, 1, 2] : List Int) = [0, 1, 2] := (by kernel_rfl); unfold uniI; rw [hs, hc]
theorem shK1 : atL (exO A1 A2 A3 A4 P1 P2 P3) (tbL a b c d) ⟨e, 1, 1, [1], none, 0, 0, []⟩ 2 RgV.k = [0] := by kernel_rfl
theorem shN : neeF (exO A1 A2 A3 A4 P1 P2 P3) (tbL a b c d) ⟨e, 1, 1, [0], f, 1, 1, [0]⟩ = (2, 0) := by kernel_rfl
theorem shPE : planE [5, 1, 3, 4, 2] 2 = 0 := by kernel_rfl
theorem shPS : planS [5, 1, 3, 4, 2] 2 = 9 := by kernel_rfl
theorem shPG : planG [5, 1, 3, 4, 2] 2 = [[1, 4, 2], [3, 0]] := by kernel_rfl
theorem shTE : printE (exO A1 A2 A3 A4 P1 P2 P3) [⟨a, 2, 2, [0, 2], b, 1, 1, [0]⟩, ⟨none, 0, 0, [], none, 0, 0, []⟩] = 0 := by kernel_rfl
theorem shTX : printX (exO A1 A2 A3 A4 P1 P2 P3) [⟨a, 2, 2, [0, 2], b, 1, 1, [0]⟩, ⟨none, 0, 0, [], none, 0, 0, []⟩] = ⟨#[102, 114, 97, 109, 101, 32, 102, 108, 117, 116, 101, 56, 64, 103, 114, 101, 97, 116, 32, 98, 97, 115, 115, 64, 103, 114, 101, 97, 116, 32, 43, 111, 99, 116, 97, 118, 101, 10, 102, 114, 97, 109, 101, 10]⟩ := by kernel_rfl
end
theorem shAt (A1 A2 A3 A4 P1 P2 P3 : Option Addr) (T a b c d : Option Addr) (ga : Nat) (w : World) (hM : SpM w (exO A1 A2 A3 A4 P1 P2 P3)) (hT : TbM w T 3 3 (tbL a b c d)) (hB : Blk w ga 3 #[.int .i64 1]) :
    Calls Tryz.prog 17 #[.agg #[.slice A1 1 1, .slice A2 2 2, .slice A3 3 3, .slice A4 1 1], .agg #[.slice T 3 3], .int .i64 2, .agg #[.slice (some ⟨ga, 0, none⟩) 1 1, .slice none 0 0]] w fun e w' =>
      (∃ A n c B m d, e = .returned (.tuple #[.agg #[.slice A n c, .slice B m d], .int .i64 0]) ∧ RgM w' ⟨A, n, c, [0, 1, 2], B, m, d, [0]⟩) ∧ Below w.heap.size w w' := by
  refine (At_any (exO A1 A2 A3 A4 P1 P2 P3) T 3 3 (tbL a b c d) 2 ⟨some ⟨ga, 0, none⟩, 1, 1, [1], none, 0, 0, []⟩ w hM (exO_F ..) hT ⟨.of_blk hB rfl rfl, II.nil _ _, ⟨Nat.le_refl _, by show 1 ≤ maxLen; decide⟩, ⟨Nat.le_refl _, Nat.zero_le _⟩⟩ (by decide)).mono ?_; rintro e w' ⟨⟨A, n, c', B, m, d', h1, h2⟩, hb⟩; rw [shE1] at h1; rw [shL1, shK1] at h2; exact ⟨⟨A, n, c', B, m, d', h1, h2⟩, hb⟩
theorem shNeeded (A1 A2 A3 A4 P1 P2 P3 : Option Addr) (T a b c d : Option Addr) (ga gb : Nat) (w : World) (hM : SpM w (exO A1 A2 A3 A4 P1 P2 P3)) (hT : TbM w T 3 3 (tbL a b c d)) (hB : Blk w ga 3 #[.int .i64 0]) (hC : Blk w gb 3 #[.int .i64 0]) :
    Calls Tryz.prog 19 #[.agg #[.slice A1 1 1, .slice A2 2 2, .slice A3 3 3, .slice A4 1 1], .agg #[.slice T 3 3], .agg #[.slice (some ⟨ga, 0, none⟩) 1 1, .slice (some ⟨gb, 0, none⟩) 1 1]] w fun e w' =>
      e = .returned (.tuple #[.int .i64 2, .int .i64 0]) ∧ Below w.heap.size w w' := by
  refine (Needed_any (exO A1 A2 A3 A4 P1 P2 P3) T 3 3 (tbL a b c d) ⟨some ⟨ga, 0, none⟩, 1, 1, [0], some ⟨gb, 0, none⟩, 1, 1, [0]⟩ w hM (exO_F ..) hT ⟨.of_blk hB rfl rfl, .of_blk hC rfl rfl, ⟨Nat.le_refl _, by show 1 ≤ maxLen; decide⟩, ⟨Nat.le_refl _, by show 1 ≤ maxLen; decide⟩⟩).mono ?_; rintro e w' ⟨h1, hb⟩; rw [shN] at h1; exact ⟨h1, hb⟩
theorem shPrint (A1 A2 A3 A4 P1 P2 P3 : Option Addr) (gt ga gb : Nat) (w : World) (hM : SpM w (exO A1 A2 A3 A4 P1 P2 P3)) (hB : Blk w ga 3 #[.int .i64 0, .int .i64 2]) (hC : Blk w gb 3 #[.int .i64 0]) (hT : Blk w gt 45 #[.slice (some ⟨ga, 0, none⟩) 2 2, .slice (some ⟨gb, 0, none⟩) 1 1, .slice none 0 0, .slice none 0 0]) :
    Calls Tryz.prog 34 #[.agg #[.slice A1 1 1, .slice A2 2 2, .slice A3 3 3, .slice A4 1 1], .slice (some ⟨gt, 0, none⟩) 2 2] w fun e w' =>
      e = .returned (.tuple #[.string ⟨#[102, 114, 97, 109, 101, 32, 102, 108, 117, 116, 101, 56, 64, 103, 114, 101, 97, 116, 32, 98, 97, 115, 115, 64, 103, 114, 101, 97, 116, 32, 43, 111, 99, 116, 97, 118, 101, 10, 102, 114, 97, 109, 101, 10]⟩, .int .i64 0]) ∧ Below w.heap.size w w' := by
  refine (crPrint_any (exO A1 A2 A3 A4 P1 P2 P3) (some ⟨gt, 0, none⟩) 2 2 [⟨some ⟨ga, 0, none⟩, 2, 2, [0, 2], some ⟨gb, 0, none⟩, 1, 1, [0]⟩, ⟨none, 0, 0, [], none, 0, 0, []⟩] w hM (exO_F ..) ⟨.of_blk hT (fun _ => rfl) rfl rfl, ⟨Nat.le_refl _, by decide⟩, fun y hy => ?_⟩).mono ?_
  · simp only [List.mem_cons, List.not_mem_nil, or_false] at hy; rcases hy with rfl | rfl
    · exact ⟨.of_blk hB rfl rfl, .of_blk hC rfl rfl, ⟨Nat.le_refl _, by show 2 ≤ maxLen; decide⟩, ⟨Nat.le_refl _, by show 1 ≤ maxLen; decide⟩⟩
    · exact ⟨II.nil _ _, II.nil _ _, ⟨Nat.le_refl _, Nat.zero_le _⟩, ⟨Nat.le_refl _, Nat.zero_le _⟩⟩
  · rintro e w' ⟨h1, hb⟩; rw [shTX, shTE] at h1; exact ⟨h1, hb⟩
def risK (l : List Int) (lo hi bad : Int) (k : Nat) : Int := if gt l k < lo ∨ hi < gt l k then bad else if 0 < k ∧ gt l k ≤ gt l (k - 1) then 8 else 0
def risE (l : List Int) (lo hi bad : Int) : Int := fstE (risK l lo hi bad) l.length 0
theorem risE_drw (l : List Int) (many : Int) : risE l 0 (many - 1) 4 = drwE l many := by
  unfold risE drwE; congr 1; funext k; unfold risK drwK; have : (gt l k < 0 ∨ many - 1 < gt l k) ↔ (gt l k < 0 ∨ many ≤ gt l k) := (by omega); simp only [this]
theorem rising_any (A : Option Addr) (n c : Nat) (l : List Int) (lo hi bad : Int) (w : World) (hl : II w A n l) (hn : n ≤ maxLen) (hbad : bad ≠ 0) :
    Calls Tryz.prog 144 #[.slice A n c, .int .i64 lo, .int .i64 hi, .int .i64 bad] w fun e w' => e = .returned (.int .i64 (risE l lo hi bad)) ∧ Below w.heap.size w w' := by
  have HL : Sl _ := ⟨hl⟩; obtain ⟨X, hX⟩ : ∃ X, risE l lo hi bad = X := ⟨_, rfl⟩; have HX : Sl (fstE (risK l lo hi bad) n 0 = X) := ⟨by rw [← hl.1]; exact hX⟩; rw [hX]; unfold maxLen at hn; have HBAD : Sl (bad ≠ 0) := ⟨hbad⟩; clear hbad; clear hl hX; go_enter Tryz.func144, Tryz.ntmps144; go_wp2_with fail
  go_loopw [9] (fun s9 wv => ∃ k : Nat, k ≤ n ∧ s9 = .int .i64 (k : Int) ∧ Sl (Below w.heap.size w wv) ∧ Sl (fstE (risK l lo hi bad) (n - k) k = X)) (fun s9 _ => n - (RowKit.intOf s9).toNat)
  case atStart => exact ⟨0, Nat.zero_le _, rfl, ⟨Below.refl _ _⟩, HX⟩
  case round =>
    obtain ⟨k, hk, rfl, HB, HK⟩ := hrel; have hn63 : (n : Int) ≤ 9223372036854775807 := (by omega)
    by_cases hkn : k < n
    · have hkI : decide ((k : Int) < (n : Int)) = true := decide_eq_true (by omega); have hkI2 : (k : Int) < (n : Int) := (by omega); have hk0 : (0 : Int) ≤ (k : Int) := (by omega); obtain ⟨ad, hA, hab, c1⟩ := (HL.out.below HB.out).cell (j := k) hkn; have hSU := fstE_succ (risK l lo hi bad) hkn; rw [HK.out] at hSU; have HS2 : Sl _ := ⟨hSU⟩; have HRK : Sl (risK l lo hi bad k = if gt l k < lo ∨ hi < gt l k then bad else if 0 < k ∧ gt l k ≤ gt l (k - 1) then 8 else 0) := ⟨rfl⟩; obtain ⟨z, hz⟩ : ∃ z, gt l k = z := ⟨_, rfl⟩; rw [hz] at c1 HRK; have HZ : Sl _ := ⟨hz⟩; rw [hA]; have HA : Sl _ := ⟨hA⟩; have HKN : Sl (k < n) := ⟨hkn⟩; clear hz hA hSU hkn
      by_cases p1 : z < lo
      · have p1d : decide (z < lo) = true := decide_eq_true p1
        have HV : Sl (X = bad) := ⟨by
          have hr : risK l lo hi bad k = bad := (by rw [HRK.out, if_pos (.inl p1)])
          rw [HS2.out, hr, if_neg HBAD.out]⟩
        go_wp2_with fail; go_ret; exact ⟨by first | (rw [HV.out]; rfl) | rw [HV.out], HB.out⟩
      · have p1d : decide (z < lo) = false := decide_eq_false p1
        by_cases p2 : hi < z
        · have p2d : decide (hi < z) = true := decide_eq_true p2
          have HV : Sl (X = bad) := ⟨by
            have hr : risK l lo hi bad k = bad := (by rw [HRK.out, if_pos (.inr p2)])
            rw [HS2.out, hr, if_neg HBAD.out]⟩
          go_wp2_with fail; go_ret; exact ⟨by first | (rw [HV.out]; rfl) | rw [HV.out], HB.out⟩
        · have p2d : decide (hi < z) = false := decide_eq_false p2; replace HRK : Sl (risK l lo hi bad k = if 0 < k ∧ z ≤ gt l (k - 1) then 8 else 0) := ⟨by rw [HRK.out, if_neg (by omega)]⟩; have hS0 : Below wr.heap.size wr wr.drew := below_drewN (Below.refl _ _) 1; go_wp2_with fail
          by_cases hk00 : k = 0
          · have HR : Sl (risK l lo hi bad k = 0) := ⟨by rw [HRK.out, if_neg (by omega)]⟩; rw [HR.out, if_pos rfl] at HS2; have HS3 : Sl _ := ⟨HS2.out.symm⟩; have hkz : decide ((0 : Int) < (k : Int)) = false := decide_eq_false (by omega); have HKZ : Sl (k = 0) := ⟨hk00⟩; clear hk00; have hm := hS0; refine wp_region_held_drew (S := fun w' => Below wr.heap.size wr w') (by kernel_rfl) hm (fun hHeld => ?_); clear hm; refine hM 0 (v := .int .i64 (k : Int)) rfl rfl ?_; simp only [pS]; refine hP 1 (v := .bool false) rfl rfl (fun _ => by go_simp; (try (have := HKZ.out; omega))) ?_; simp only [pS]; refine hM 2 (v := .bool false) rfl rfl ?_; simp only [pS]; refine gN 3 rfl ?_; simp only [pS]; refine gN 4 rfl ?_; simp only [pS]; refine gN 5 rfl ?_; simp only [pS]; refine gN 6 rfl ?_; simp only [pS]; refine gN 7 rfl ?_; simp only [pS]; refine gN 8 rfl ?_; simp only [pS]; refine gN 9 rfl ?_; simp only [pS]; refine gN 10 rfl ?_; simp only [pS]; refine gN 11 rfl ?_; simp only [pS]; refine gN 12 rfl ?_; simp only [pS]; refine hS 13 (v := .bool false) rfl rfl ?_; simp only [pS]; refine wpAnyH_done (by kernel_rfl) ?_ _; clear hHeld; go_wp2_with fail; exact ⟨⟨k + 1, HKN.out, by go_num, ⟨below_drewN HB.out 1⟩, HS3⟩, by have := HKN.out; simp [RowKit.intOf]; omega⟩
          · obtain ⟨J, hJ⟩ : ∃ J, k = J + 1 := ⟨k - 1, by omega⟩; obtain ⟨ad2, hA2, hab2, c2⟩ := (HL.out.below HB.out).cell (j := J) (by have := HKN.out; omega); rw [HA.out] at hA2; injection hA2 with hA2
            subst hA2; rw [show k - 1 = J by omega] at HRK; obtain ⟨u, hu⟩ : ∃ u, gt l J = u := ⟨_, rfl⟩; rw [hu] at c2 HRK; have HQ : Sl (∀ W, Below wr.heap.size wr W → W.cell? (ad.add k) = some (.int .i64 z) ∧ W.cell? (ad.add J) = some (.int .i64 u)) := ⟨fun W hW => ⟨(hW.cell (by rw [block_of_add]; exact hab)).trans c1, (hW.cell (by rw [block_of_add]; exact hab)).trans c2⟩⟩; have hJ0 : decide ((0 : Int) < (k : Int)) = true := decide_eq_true (by omega); have hJ1 : (0 : Int) < (k : Int) := (by omega); have hJ3 : (0 : Int) ≤ (J : Int) := (by omega); have hJ4 : (J : Int) < (n : Int) := (by have := HKN.out; omega); have hJw : IntKind.i64.wrap ((k : Int) - 1) = (J : Int) := (by rw [IntKind.wrap_i64]; omega); have HKP : Sl (0 < k) := ⟨by omega⟩; clear hu c2 hab2 hk00 hJ
            by_cases hzu : z ≤ u
            · have hzd : decide (z ≤ u) = true := decide_eq_true hzu
              have HV : Sl (X = 8) := ⟨by
                have hr : risK l lo hi bad k = 8 := (by rw [HRK.out, if_pos ⟨HKP.out, hzu⟩])
                rw [HS2.out, hr, if_neg (by decide)]⟩
              have hm := hS0; refine wp_region_held_drew (S := fun w' => Below wr.heap.size wr w') (by kernel_rfl) hm (fun hHeld => ?_); clear hm; refine hM 0 (v := .int .i64 (k : Int)) rfl rfl ?_; simp only [pS]; refine hP 1 (v := .bool true) rfl rfl (fun _ => by go_simp; (try (have := HKP.out; omega))) ?_; simp only [pS]; refine hM 2 (v := .bool true) rfl rfl ?_; simp only [pS]; refine gM 3 (v := .slice (some ad) n c) rfl ?_; simp only [pS]; refine gS 4 (v := .int .i64 (k : Int)) rfl ?_; simp only [pS]; refine gS 5 (v := .pointer (some (ad.add k))) rfl ?_; simp only [pS]
              refine gC 6 (v := .int .i64 z) rfl (fun w' h => by
                have hc := (HQ.out w' h).1
                go_simp) ?_
              simp only [pS]; refine gM 7 (v := .slice (some ad) n c) rfl ?_; simp only [pS]; refine gS 8 (v := .int .i64 (k : Int)) rfl ?_; simp only [pS]; refine gS 9 (v := .int .i64 (J : Int)) rfl ?_; simp only [pS]; refine gS 10 (v := .pointer (some (ad.add J))) rfl ?_; simp only [pS]
              refine gC 11 (v := .int .i64 u) rfl (fun w' h => by
                have hc := (HQ.out w' h).2
                go_simp) ?_
              simp only [pS]; refine gS 12 (v := .bool true) rfl ?_; simp only [pS]; refine hS 13 (v := .bool true) rfl rfl ?_; simp only [pS]; refine wpAnyH_done (by kernel_rfl) ?_ _; clear hHeld; go_wp2_with fail; go_ret; exact ⟨by first | (rw [HV.out]; rfl) | rw [HV.out], below_drewN HB.out 1⟩
            · have hzd : decide (z ≤ u) = false := decide_eq_false hzu; have HR : Sl (risK l lo hi bad k = 0) := ⟨by rw [HRK.out, if_neg (fun h => hzu h.2)]⟩; rw [HR.out, if_pos rfl] at HS2; have HS3 : Sl _ := ⟨HS2.out.symm⟩; have hm := hS0; refine wp_region_held_drew (S := fun w' => Below wr.heap.size wr w') (by kernel_rfl) hm (fun hHeld => ?_); clear hm; refine hM 0 (v := .int .i64 (k : Int)) rfl rfl ?_; simp only [pS]; refine hP 1 (v := .bool true) rfl rfl (fun _ => by go_simp; (try (have := HKP.out; omega))) ?_; simp only [pS]; refine hM 2 (v := .bool true) rfl rfl ?_; simp only [pS]; refine gM 3 (v := .slice (some ad) n c) rfl ?_; simp only [pS]; refine gS 4 (v := .int .i64 (k : Int)) rfl ?_; simp only [pS]; refine gS 5 (v := .pointer (some (ad.add k))) rfl ?_; simp only [pS]
              refine gC 6 (v := .int .i64 z) rfl (fun w' h => by
                have hc := (HQ.out w' h).1
                go_simp) ?_
              simp only [pS]; refine gM 7 (v := .slice (some ad) n c) rfl ?_; simp only [pS]; refine gS 8 (v := .int .i64 (k : Int)) rfl ?_; simp only [pS]; refine gS 9 (v := .int .i64 (J : Int)) rfl ?_; simp only [pS]; refine gS 10 (v := .pointer (some (ad.add J))) rfl ?_; simp only [pS]
              refine gC 11 (v := .int .i64 u) rfl (fun w' h => by
                have hc := (HQ.out w' h).2
                go_simp) ?_
              simp only [pS]; refine gS 12 (v := .bool false) rfl ?_; simp only [pS]; refine hS 13 (v := .bool false) rfl rfl ?_; simp only [pS]; refine wpAnyH_done (by kernel_rfl) ?_ _; clear hHeld; go_wp2_with fail; exact ⟨⟨k + 1, HKN.out, by go_num, ⟨below_drewN HB.out 1⟩, HS3⟩, by have := HKN.out; simp [RowKit.intOf]; omega⟩
    · obtain rfl : n = k := (by omega); have hkI : decide ((n : Int) < (n : Int)) = false := (by simp); have HV : Sl (X = 0) := ⟨by rw [← HK.out, Nat.sub_self]; rfl⟩; go_wp2_with fail; go_ret; exact ⟨by rw [HV.out]; rfl, HB.out⟩
theorem rcheck12_any (o : SpO) (r : RgV) (gk : Nat) (w : World) (hM : SpM w o) (hF : SpF o) (hr : RgM w r) (hk : ∀ j, j < o.n1 → w.cell? ⟨gk, j, none⟩ = some (.slice none 0 0)) (hgk : gk < w.heap.size) :
    Calls Tryz.prog 110 #[.agg #[.slice o.A1 o.n1 o.c1, .slice o.A2 o.n2 o.c2, .slice o.A3 o.n3 o.c3, .slice o.A4 o.n4 o.c4], .agg #[.slice (some ⟨gk, 0, none⟩) o.n1 o.n1, .slice r.A r.n r.c, .slice r.B r.m r.d]] w fun e w' => e = .returned (.int .i64 (if specE o = 0 then regE o r else specE o)) ∧ Below w.heap.size w w' := by
  have HD : Sl (Lg w w []) := ⟨Lg.nil w⟩; have HM : Sl _ := ⟨hM⟩; have HF : Sl _ := ⟨hF⟩; have HR : Sl _ := ⟨hr⟩; have HK : Sl _ := ⟨hk⟩; have HGK : Sl _ := ⟨hgk⟩; obtain ⟨X, hX⟩ : ∃ X, (if specE o = 0 then regE o r else specE o) = X := ⟨_, rfl⟩; have HX : Sl _ := ⟨hX⟩; rw [hX]; clear hM hF hr hk hgk hX; go_enter Tryz.func110, Tryz.ntmps110
  go_wp2_with ((with_reducible show wpList _ _ _ _ _ _); first
    | (refine wpList_box_new 2 rfl rfl 33 (.tmp 0) rfl #[.slice o.A1 o.n1 o.c1, .slice o.A2 o.n2 o.c2, .slice o.A3 o.n3 o.c3, .slice o.A4 o.n4 o.c4] rfl (fun _ => by kernel_rfl) ?_; rintro w1 g2 zg zm zs zb; replace HD : Sl _ := ⟨HD.out.new zg zm zb⟩; clear zg zm zs zb)
    | (refine wpList_box_new 3 rfl rfl 181 (.tmp 1) rfl #[.slice (some ⟨gk, 0, none⟩) o.n1 o.n1, .slice r.A r.n r.c, .slice r.B r.m r.d] rfl (fun _ => by kernel_rfl) ?_; rintro w2 g3 zg zm zs zb; replace HD : Sl _ := ⟨HD.out.new zg zm zb⟩; clear zg zm zs zb)
    | (refine wpList_load_whole rfl 33 (.tmp 2) rfl g2 rfl 33 _ _ (HD.out.at_ 1 rfl) Tryz.underlying33 rfl (by kernel_rfl) ?_))
  refine (rcheck_any o _ (HM.out.below HD.out.bl) HF.out).mono ?_; rintro e w4 ⟨⟨a, b, c, rfl⟩, hb4⟩; replace HD : Sl _ := ⟨HD.out.below hb4⟩; clear hb4; have HSB : Sl (specE o = 0 → o.n1 ≤ 6 ∧ o.n2 ≤ 40 ∧ o.n3 ≤ 80 ∧ o.n4 ≤ 24) := ⟨specE_bd⟩; obtain ⟨z, hz⟩ : ∃ z, specE o = z := ⟨_, rfl⟩; rw [hz] at HX HSB ⊢; clear hz
  by_cases hz0 : z = 0
  · subst hz0; rw [if_pos rfl] at HX; have hzz : ((0 : Int) != 0) = false := (by decide); have HN : Sl _ := ⟨HSB.out rfl⟩; clear HSB
    go_upto_region 2 with ((with_reducible show wpList _ _ _ _ _ _); first
      | (refine wpList_alloc_new 5 rfl rfl 72 rfl #[.int .i64 0, .int .i64 0, .int .i64 0] (fun _ => by kernel_rfl) ?_; rintro w5 g5 zg zm zs zb; replace HD : Sl _ := ⟨HD.out.new zg zm zb⟩; clear zg zm zs zb)
      | (refine wpList_store_whole rfl 72 (.tmp 5) (.tmp 13) rfl g5 #[.int .i64 a, .int .i64 b, .int .i64 c] rfl rfl 72 _ (HD.out.at_ 0 rfl) rfl (by kernel_rfl) (by simp [Value.oneCell']) ?_; rintro w6 zm zs zb; replace HD : Sl _ := ⟨HD.out.upd zm zb⟩; clear zm zs zb))
    have c0 : w6.cell? ⟨g3, 0, none⟩ = some (.slice (some ⟨gk, 0, none⟩) o.n1 o.n1) := (HD.out.at_ 1 rfl).cell 0; have c1 : w6.cell? ⟨g2, 0, none⟩ = some (.slice o.A1 o.n1 o.c1) := (HD.out.at_ 2 rfl).cell 0; have hnn : ((o.n1 : Int) != (o.n1 : Int)) = false := (by simp); go_wp2_with fail; clear c0 c1 hnn
    go_loopw [7] (fun s7 wv => ∃ k : Nat, k ≤ o.n1 ∧ s7 = .int .i64 (k : Int) ∧ Sl (Lg w wv [(g5, 72, #[.int .i64 a, .int .i64 b, .int .i64 c]), (g3, 181, #[.slice (some ⟨gk, 0, none⟩) o.n1 o.n1, .slice r.A r.n r.c, .slice r.B r.m r.d]), (g2, 33, #[.slice o.A1 o.n1 o.c1, .slice o.A2 o.n2 o.c2, .slice o.A3 o.n3 o.c3, .slice o.A4 o.n4 o.c4])])) (fun s7 _ => o.n1 - (RowKit.intOf s7).toNat)
    case atStart => exact ⟨0, Nat.zero_le _, rfl, HD⟩
    case round =>
      clear HD; obtain ⟨k, hk, rfl, HD⟩ := hrel; have c0 : wr.cell? ⟨g3, 0, none⟩ = some (.slice (some ⟨gk, 0, none⟩) o.n1 o.n1) := (HD.out.at_ 1 rfl).cell 0
      by_cases hkn : k < o.n1
      · have hkI : decide ((k : Int) < (o.n1 : Int)) = true := decide_eq_true (by omega); have hkI2 : (k : Int) < (o.n1 : Int) := (by omega); have hk0 : (0 : Int) ≤ (k : Int) := (by omega); have HKN : Sl (k < o.n1 ∧ o.n1 ≤ 6) := ⟨hkn, HN.out.1⟩; obtain ⟨gd, od, hA, hgd, hall⟩ := HM.out.d.all_ (by decide) (show 0 < o.n1 by omega); obtain ⟨d, hd, _⟩ := hall w (Below.refl _ _) k hkn; have HA : Sl _ := ⟨hA⟩
        have HDR : Sl (∀ W, Below w.heap.size w W → W.cell? ⟨gd, od + k * 3 + 1, none⟩ = some (.int .i64 d.lo) ∧ W.cell? ⟨gd, od + k * 3 + 2, none⟩ = some (.int .i64 d.hi)) := ⟨fun W hW => by
          obtain ⟨x2, hx2, h2⟩ := hall W hW k HKN.out.1; rw [hd] at hx2; injection hx2 with hx2
          subst hx2
          exact ⟨h2 1 _ rfl, h2 2 _ rfl⟩⟩
        have HQ : Sl (∀ W, Below wr.heap.size wr W → Lg w W [(g5, 72, #[.int .i64 a, .int .i64 b, .int .i64 c]), (g3, 181, #[.slice (some ⟨gk, 0, none⟩) o.n1 o.n1, .slice r.A r.n r.c, .slice r.B r.m r.d]), (g2, 33, #[.slice o.A1 o.n1 o.c1, .slice o.A2 o.n2 o.c2, .slice o.A3 o.n3 o.c3, .slice o.A4 o.n4 o.c4])]) := ⟨fun W hW => HD.out.below hW⟩; have hS0 : Below wr.heap.size wr wr.drew := below_drewN (Below.refl _ _) 1; have HS0 : Sl _ := ⟨hS0⟩; clear hA hgd hall hd hkn; go_wp2_with fail; clear c0; have hm := hS0; refine wp_region_held_drew (S := fun w' => Below wr.heap.size wr w') (by kernel_rfl) hm (fun hHeld => ?_); clear hm; refine hS 0 (v := .pointer (some ⟨g3, 0, none⟩)) rfl rfl ?_; simp only [pS]
        refine hC 1 (v := .slice (some ⟨gk, 0, none⟩) o.n1 o.n1) rfl rfl (fun w' h => by
          have hc := ((HQ.out w' h).at_ 1 rfl).cell 0
          go_simp) ?_
        simp only [pS]; refine hM 2 (v := .int .i64 (k : Int)) rfl rfl ?_; simp only [pS]; refine hS 3 (v := .pointer (some ⟨gk, k, none⟩)) rfl rfl ?_; simp only [pS]
        refine hC 4 (v := .slice none 0 0) rfl rfl (fun w' h => by
          have hc := ((HQ.out w' h).bl.cell (p := ⟨gk, k, none⟩) HGK.out).trans (HK.out k HKN.out.1)
          go_simp) ?_
        simp only [pS]; refine hS 5 (v := .pointer (some ⟨g2, 0, none⟩)) rfl rfl ?_; simp only [pS]
        refine hC 6 (v := .slice (some ⟨gd, od, none⟩) o.n1 o.c1) rfl rfl (fun w' h => by
          have hc := (((HQ.out w' h).at_ 2 rfl).cell 0).trans (show _ = some (.slice (some ⟨gd, od, none⟩) o.n1 o.c1) by rw [← HA.out]; rfl)
          go_simp) ?_
        simp only [pS]; refine hM 7 (v := .int .i64 (k : Int)) rfl rfl ?_; simp only [pS]; refine hS 8 (v := .pointer (some ⟨gd, od + k * 3, none⟩)) rfl rfl ?_; simp only [pS]; refine hS 9 (v := .pointer (some ⟨gd, od + k * 3 + 1, none⟩)) rfl rfl ?_; simp only [pS]
        refine hC 10 (v := .int .i64 d.lo) rfl rfl (fun w' h => by
          have hc := (HDR.out w' (HQ.out w' h).bl).1
          go_simp) ?_
        simp only [pS]; refine hS 11 (v := .pointer (some ⟨g2, 0, none⟩)) rfl rfl ?_; simp only [pS]
        refine hC 12 (v := .slice (some ⟨gd, od, none⟩) o.n1 o.c1) rfl rfl (fun w' h => by
          have hc := (((HQ.out w' h).at_ 2 rfl).cell 0).trans (show _ = some (.slice (some ⟨gd, od, none⟩) o.n1 o.c1) by rw [← HA.out]; rfl)
          go_simp) ?_
        simp only [pS]; refine hM 13 (v := .int .i64 (k : Int)) rfl rfl ?_; simp only [pS]; refine hS 14 (v := .pointer (some ⟨gd, od + k * 3, none⟩)) rfl rfl ?_; simp only [pS]; refine hS 15 (v := .pointer (some ⟨gd, od + k * 3 + 2, none⟩)) rfl rfl ?_; simp only [pS]
        refine hC 16 (v := .int .i64 d.hi) rfl rfl (fun w' h => by
          have hc := (HDR.out w' (HQ.out w' h).bl).2
          go_simp) ?_
        simp only [pS]; refine hO 17 rfl rfl fun K hK => ?_; go_simp; go_at_call 144
        (with_reducible refine (rising_any none 0 0 [] d.lo d.hi 7 _ (II.nil _ _) (Nat.zero_le _) (by decide)).mono ?_)
        rintro e4 w7 ⟨rfl, hb4⟩; have hb5 : Below wr.heap.size wr w7 := HS0.out.trans (hb4.mono HS0.out.size); have HB5 : Sl _ := ⟨hb5⟩; clear hb4 hb5; rw [show risE [] d.lo d.hi 7 = 0 from rfl]; refine hK.out _ _ HB5.out (fun hHeld => ?_); clear hK K
        (try simp only [pS])
        refine hM 18 (v := .int .i64 0) rfl rfl ?_; simp only [pS]; refine wpAnyH_done (by kernel_rfl) ?_ _; clear hHeld; have hzz : ((0 : Int) != 0) = false := (by decide); have hn6 : (o.n1 : Int) ≤ 6 := (by have := HKN.out; omega); go_wp2_with fail; exact ⟨⟨k + 1, HKN.out.1, by go_num, ⟨HQ.out _ HB5.out⟩⟩, by have := HKN.out; simp [RowKit.intOf]; omega⟩
      · obtain rfl : o.n1 = k := (by omega); have hkI : decide ((o.n1 : Int) < (o.n1 : Int)) = false := (by simp); have c1 : wr.cell? ⟨g3, 1, none⟩ = some (.slice r.A r.n r.c) := (HD.out.at_ 1 rfl).cell 1; have c2 : wr.cell? ⟨g3, 2, none⟩ = some (.slice r.B r.m r.d) := (HD.out.at_ 1 rfl).cell 2; have c3 : wr.cell? ⟨g2, 2, none⟩ = some (.slice o.A3 o.n3 o.c3) := (HD.out.at_ 2 rfl).cell 2; have c4 : wr.cell? ⟨g2, 3, none⟩ = some (.slice o.A4 o.n4 o.c4) := (HD.out.at_ 2 rfl).cell 3; have hw3 : IntKind.i64.wrap ((o.n3 : Int) - 1) = (o.n3 : Int) - 1 := (by have := HN.out; rw [IntKind.wrap_i64]; omega); have hw4 : IntKind.i64.wrap ((o.n4 : Int) - 1) = (o.n4 : Int) - 1 := (by have := HN.out; rw [IntKind.wrap_i64]; omega); have HRE : Sl (regE o r = if drwE r.l (o.n3 : Int) = 0 then drwE r.k (o.n4 : Int) else drwE r.l (o.n3 : Int)) := ⟨rfl⟩; rw [HRE.out] at HX; clear HRE hkn hk; go_wp2_with fail; refine (rising_any r.A r.n r.c r.l 0 ((o.n3 : Int) - 1) 4 _ (HR.out.below HD.out.bl).s (Nat.le_trans HR.out.sc.1 HR.out.sc.2) (by decide)).mono ?_; rintro e w7 ⟨rfl, hb7⟩; rw [risE_drw]; replace HD : Sl _ := ⟨HD.out.below hb7⟩; clear hb7 c0 c1 c2 c3 c4 hw3; obtain ⟨y, hy⟩ : ∃ y, drwE r.l (o.n3 : Int) = y := ⟨_, rfl⟩; rw [hy] at HX ⊢; clear hy
        by_cases hy0 : y = 0
        · subst hy0; rw [if_pos rfl] at HX; have hyy : ((0 : Int) == 0) = true := (by decide); have c2 : w7.cell? ⟨g3, 2, none⟩ = some (.slice r.B r.m r.d) := (HD.out.at_ 1 rfl).cell 2; have c4 : w7.cell? ⟨g2, 3, none⟩ = some (.slice o.A4 o.n4 o.c4) := (HD.out.at_ 2 rfl).cell 3; go_wp2_with fail; refine (rising_any r.B r.m r.d r.k 0 ((o.n4 : Int) - 1) 4 _ (HR.out.below HD.out.bl).c (Nat.le_trans HR.out.cc.1 HR.out.cc.2) (by decide)).mono ?_; rintro e w8 ⟨rfl, hb8⟩; rw [risE_drw]; replace HD : Sl _ := ⟨HD.out.below hb8⟩; clear hb8 c2 c4; rw [HX.out]; go_wp2_with fail; go_ret; exact ⟨rfl, HD.out.bl⟩
        · rw [if_neg hy0] at HX; have hyy : (y == 0) = false := (by simpa using hy0); rw [HX.out]; rw [HX.out] at hyy; go_wp2_with fail; go_ret; exact ⟨rfl, HD.out.bl⟩
  · rw [if_neg hz0] at HX; have hzz : (z != 0) = true := (by simpa using hz0); clear hz0 HSB
    go_wp2_with ((with_reducible show wpList _ _ _ _ _ _); first
      | (refine wpList_alloc_new 5 rfl rfl 72 rfl #[.int .i64 0, .int .i64 0, .int .i64 0] (fun _ => by kernel_rfl) ?_; rintro w5 g5 zg zm zs zb; replace HD : Sl _ := ⟨HD.out.new zg zm zb⟩; clear zg zm zs zb)
      | (refine wpList_store_whole rfl 72 (.tmp 5) (.tmp 13) rfl g5 #[.int .i64 a, .int .i64 b, .int .i64 c] rfl rfl 72 _ (HD.out.at_ 0 rfl) rfl (by kernel_rfl) (by simp [Value.oneCell']) ?_; rintro w6 zm zs zb; replace HD : Sl _ := ⟨HD.out.upd zm zb⟩; clear zm zs zb))
    go_ret; exact ⟨by first | (rw [HX.out]; rfl) | rw [HX.out], HD.out.bl⟩
theorem make_irows (n : Nat) (hn : n ≤ 1000000) (W : World) : (Instr.makeSlice 57 (.int .i64 (n : Int)) (.int .i64 (n : Int))).run Tryz.prog W = .ok (.slice (some ⟨W.heap.size, 0, none⟩) n n) (W.alloc (.cells (madeCells #[.slice none 0 0] n) 43)) := by
  obtain ⟨i, h1, h2, h3, h4⟩ := infoSl; have h := run_make (P := Tryz.prog) W 57 43 i _ Tryz.underlying57 h1 h2 .i64 .i64 (n : Int) (n : Int) (by omega) (Int.le_refl _) (by rw [h4]; omega) (by omega); rw [h3] at h; simpa [Value.cells] using h
theorem madeR {z : Value} {n j : Nat} (hj : j < n) : (madeCells #[z] n)[j]? = some z := by
  unfold madeCells; simp [hj, Nat.mod_one]
theorem rreg_any (o : SpO) (r : RgV) (w : World) (hM : SpM w o) (hF : SpF o) (hr : RgM w r) (hn1 : o.n1 ≤ 1000) :
    Calls Tryz.prog 49 #[.agg #[.slice o.A1 o.n1 o.c1, .slice o.A2 o.n2 o.c2, .slice o.A3 o.n3 o.c3, .slice o.A4 o.n4 o.c4], .agg #[.slice r.A r.n r.c, .slice r.B r.m r.d]] w fun e w' => e = .returned (.int .i64 (if specE o = 0 then regE o r else specE o)) ∧ Below w.heap.size w w' := by
  have HD : Sl (Lg w w []) := ⟨Lg.nil w⟩; have HM : Sl _ := ⟨hM⟩; have HF : Sl _ := ⟨hF⟩; have HR : Sl _ := ⟨hr⟩; have HN1 : Sl _ := ⟨hn1⟩; obtain ⟨X, hX⟩ : ∃ X, (if specE o = 0 then regE o r else specE o) = X := ⟨_, rfl⟩; have HX : Sl _ := ⟨hX⟩; rw [hX]; clear hM hF hr hX hn1; go_enter Tryz.func49, Tryz.ntmps49
  go_wp2_with ((with_reducible show wpList _ _ _ _ _ _); first
    | (refine wpList_box_new 2 rfl rfl 33 (.tmp 0) rfl #[.slice o.A1 o.n1 o.c1, .slice o.A2 o.n2 o.c2, .slice o.A3 o.n3 o.c3, .slice o.A4 o.n4 o.c4] rfl (fun _ => by kernel_rfl) ?_; rintro w1 g2 zg zm zs zb; replace HD : Sl _ := ⟨HD.out.new zg zm zb⟩; clear zg zm zs zb)
    | (refine wpList_box_new 3 rfl rfl 45 (.tmp 1) rfl #[.slice r.A r.n r.c, .slice r.B r.m r.d] rfl (fun _ => by kernel_rfl) ?_; rintro w2 g3 zg zm zs zb; replace HD : Sl _ := ⟨HD.out.new zg zm zb⟩; clear zg zm zs zb))
  have hS0 : Below w2.heap.size w2 w2.drew := below_drewN (Below.refl _ _) 1; have HS0 : Sl _ := ⟨hS0⟩; have HQ : Sl (∀ W, Below w2.heap.size w2 W → Lg w W [(g3, 45, #[.slice r.A r.n r.c, .slice r.B r.m r.d]), (g2, 33, #[.slice o.A1 o.n1 o.c1, .slice o.A2 o.n2 o.c2, .slice o.A3 o.n3 o.c3, .slice o.A4 o.n4 o.c4])]) := ⟨fun W hW => HD.out.below hW⟩; have hm := hS0; refine wp_region_held_drew (S := fun w' => Below w2.heap.size w2 w') (by kernel_rfl) hm (fun hHeld => ?_); clear hm
  refine hL 0 33 (.tmp 2) rfl rfl rfl g2 0 rfl #[.slice o.A1 o.n1 o.c1, .slice o.A2 o.n2 o.c2, .slice o.A3 o.n3 o.c3, .slice o.A4 o.n4 o.c4] _ (fun w' h => by
    have := World.rangeAt_of_block ((HQ.out w' h).at_ 1 rfl) 0 4
    exact this) Tryz.underlying33 rfl ?_
  simp only [pS]; refine hS 1 (v := .pointer (some ⟨g2, 0, none⟩)) rfl rfl ?_; simp only [pS]
  refine hC 2 (v := .slice o.A1 o.n1 o.c1) rfl rfl (fun w' h => by
    have hc := ((HQ.out w' h).at_ 1 rfl).cell 0
    go_simp) ?_
  simp only [pS]; refine hS 3 (v := .int .i64 (o.n1 : Int)) rfl rfl ?_; simp only [pS]; refine hS 5 (v := .pointer (some ⟨g3, 0, none⟩)) rfl rfl ?_; simp only [pS]
  refine hC 6 (v := .slice r.A r.n r.c) rfl rfl (fun w' h => by
    have hc := ((HQ.out w' h).at_ 0 rfl).cell 0
    go_simp) ?_
  simp only [pS]; refine hS 7 (v := .pointer (some ⟨g3, 1, none⟩)) rfl rfl ?_; simp only [pS]
  refine hC 8 (v := .slice r.B r.m r.d) rfl rfl (fun w' h => by
    have hc := ((HQ.out w' h).at_ 0 rfl).cell 1
    go_simp) ?_
  simp only [pS]; refine hO 4 rfl rfl fun K hK => ?_
  refine wp_newblk (fun g => .slice (some ⟨g, 0, none⟩) o.n1 o.n1) 43 (madeCells #[.slice none 0 0] o.n1) (fun W => by
    have := make_irows o.n1 (by have := HN1.out; omega) W
    go_simp) ?_
  rintro w5 gk zg zm zb zB; have hb5 : Below w2.heap.size w2 w5 := HS0.out.trans (zb.mono HS0.out.size); have HB5 : Sl _ := ⟨hb5⟩; have HBK : Sl _ := ⟨zB⟩; clear zg zm zb zB hb5; refine hK.out _ _ HB5.out (fun hHeld => ?_); clear hK K
  (try simp only [pS])
  refine hS 9 (v := .agg #[.slice (some ⟨gk, 0, none⟩) o.n1 o.n1, .slice r.A r.n r.c, .slice r.B r.m r.d]) rfl rfl ?_; simp only [pS]; refine hO 10 rfl rfl fun K hK => ?_; go_simp; go_at_call 110
  (with_reducible refine (rcheck12_any o r gk _ (HM.out.below (HQ.out _ HB5.out).bl) HF.out (HR.out.below (HQ.out _ HB5.out).bl) (fun j hj => (HBK.out.cell j).trans (madeR hj)) HBK.out.lt).mono ?_)
  rintro e4 w7 ⟨rfl, hb4⟩; have hb6 : Below w2.heap.size w2 w7 := HB5.out.trans (hb4.mono HB5.out.size); have HB6 : Sl _ := ⟨hb6⟩; clear hb4 hb6; rw [HX.out]; refine hK.out _ _ HB6.out (fun hHeld => ?_); clear hK K
  (try simp only [pS])
  refine hM 11 (v := .int .i64 X) rfl rfl ?_; simp only [pS]; refine wpAnyH_done (by kernel_rfl) ?_ _; clear hHeld; go_wp2_with fail; go_ret; exact ⟨rfl, (HQ.out _ HB6.out).bl⟩
theorem alloc_state (w : World) : (Instr.alloc 38 true (.tuple #[])).run Tryz.prog w = .ok (.pointer (some ⟨w.heap.size, 0, none⟩)) (w.alloc (.cells #[.slice none 0 0, .int .i64 0] 38)) := by kernel_rfl
theorem ins_del_set {α : Type} {L : List α} {p : Nat} {x : α} (h : p < L.length) : insL (delL L p) p x = L.set p x := by
  have h1 : (L.set p x)[p]? = some x := List.getElem?_set_self h; have h2 := ins_del h1
  have h3 : delL (L.set p x) p = delL L p := by
    unfold delL; rw [List.take_set_of_le (Nat.le_refl _), List.drop_set_of_lt (by omega)]
  rw [h3] at h2; exact h2
theorem StO.ok.now {w : World} {imm : Nat → Prop} {s : StO} (h : StO.ok w imm s) : TbM w s.A s.L.length s.c s.L := Dep.now h
def posI (z : Int) (p : Nat) : Nat := if z < (p : Int) then p + 1 else p
def posD (z : Int) (p : Nat) : Nat := if z < (p : Int) then p - 1 else p
def rinsE (o : SpO) (n : Nat) (z : Int) (r : RgV) : Int := if z < 0 ∨ (n : Int) < z then 7 else if regE o r ≠ 0 then regE o r else if 500 ≤ n then 5 else 0
def rrepE (o : SpO) (n : Nat) (z : Int) (r : RgV) : Int := if z < 0 ∨ (n : Int) ≤ z then 7 else regE o r
def rdelE (n : Nat) (z : Int) : Int := if z < 0 ∨ (n : Int) ≤ z then 7 else 0
def RedP (base : Nat) (o : SpO) (m : SqM) (R : RqV) (e : Int) (L : List (List Int × List Int)) (p : Nat) (w : World) (en : Ending) (w' : World) : Prop :=
  en = .returned (.int .i64 e) ∧ ∃ m' R', RQ w' base o m' R' ∧ Foot m m' w w' ∧ (∀ i, m.imm i → m'.imm i) ∧ R'.rs = if e = 0 then R.rs.edit L p else R.rs
theorem RedP.no {base : Nat} {o : SpO} {m : SqM} {R : RqV} {e : Int} {L : List (List Int × List Int)} {p : Nat} {w w' : World} (he : e ≠ 0) (hs : RQ w' base o m R) (hb : Below w.heap.size w w') : RedP base o m R e L p w (.returned (.int .i64 e)) w' :=
  ⟨rfl, m, R, hs, Foot.of_below hb, fun _ h => h, by rw [if_neg he]⟩
theorem rInsert_any (base : Nat) (o : SpO) (m : SqM) (R : RqV) (z : Int) (r : RgV) (w : World) (h : RQ w base o m R) (hF : SpF o) (hsp : specE o = 0) (hr : Dep w m.imm fun w' => RgM w' r) (hn : R.N.L.length ≤ 500) (hB : R.d ≤ R.E.length ∧ R.E.length ≤ 100 ∧ R.N.p ≤ 500) :
    Calls Tryz.prog 13 #[ptr m.q, .int .i64 z, .agg #[.slice r.A r.n r.c, .slice r.B r.m r.d]] w fun en w' => RedP base o m R (rinsE o R.N.L.length z r) (insL (R.N.L.map RgV.v) z.toNat r.v) (posI z R.N.p) w en w' := by
  have H : Sl _ := ⟨h⟩; obtain ⟨q, hq⟩ : ∃ q, m.q = q := ⟨_, rfl⟩; obtain ⟨n, hnn⟩ : ∃ n, R.N.L.length = n := ⟨_, rfl⟩; obtain ⟨p, hpp⟩ : ∃ p, R.N.p = p := ⟨_, rfl⟩; have HQ : Sl (m.q = q ∧ R.N.L.length = n ∧ R.N.p = p ∧ n ≤ 500) := ⟨⟨hq, hnn, hpp, by omega⟩⟩; have HBD : Sl (R.d ≤ R.E.length ∧ R.E.length ≤ 100 ∧ R.N.p ≤ 500) := ⟨hB⟩; have hn500 : (n : Int) ≤ 500 := (by omega); have hp500 : (p : Int) ≤ 500 := (by have := hB.2.2; omega); rw [hnn, hpp]; have HF : Sl _ := ⟨hF⟩; have HSP : Sl _ := ⟨hsp⟩; have HR : Sl _ := ⟨hr⟩; obtain ⟨LL, hLL⟩ : ∃ LL, insL (R.N.L.map RgV.v) z.toNat r.v = LL := ⟨_, rfl⟩; obtain ⟨PP, hPP⟩ : ∃ PP, posI z p = PP := ⟨_, rfl⟩; rw [hLL, hPP]; have HLP : Sl (insL (R.N.L.map RgV.v) z.toNat r.v = LL ∧ posI z p = PP) := ⟨⟨hLL, hPP⟩⟩; clear hLL hPP; have HE : Sl (rinsE o n z r = if z < 0 ∨ (n : Int) < z then 7 else if regE o r ≠ 0 then regE o r else if 500 ≤ n then 5 else 0) := ⟨rfl⟩; have HD : Sl (Lg w w []) := ⟨Lg.nil w⟩; rw [hq]; clear h hF hsp hr hn hB hq hnn hpp; go_enter Tryz.func13, Tryz.ntmps13
  go_upto_region 1 with ((with_reducible show wpList _ _ _ _ _ _); first
    | (refine wpList_box_new 5 rfl rfl 45 (.tmp 2) rfl #[.slice r.A r.n r.c, .slice r.B r.m r.d] rfl (fun _ => by kernel_rfl) ?_; rintro w1 g5 zg zm zs zb; replace HD : Sl _ := ⟨HD.out.new zg zm zb⟩; clear zg zm zs zb))
  have HBL : Sl (Below w.heap.size w w1) := ⟨HD.out.bl⟩; have HS : Sl (RQ w1 base o m R) := ⟨H.out.below HBL.out⟩; have c4 : w1.cell? ⟨q, 4, none⟩ = some (.slice R.N.A n R.N.c) := (by rw [← HQ.out.1, ← HQ.out.2.1]; exact HS.out.cell 4 rfl)
  by_cases q1 : z < 0
  · have q1d : decide (z < 0) = true := decide_eq_true q1; have HV : Sl (rinsE o n z r = 7) := ⟨by rw [HE.out]; exact if_pos (.inl q1)⟩; go_wp2_with fail; go_ret; rw [HV.out]; exact RedP.no (by decide) HS.out HBL.out
  · have q1d : decide (z < 0) = false := decide_eq_false q1; obtain ⟨k, rfl⟩ := Int.eq_ofNat_of_zero_le (show 0 ≤ z by omega)
    by_cases q2 : n < k
    · have q2d : decide ((n : Int) < (k : Int)) = true := decide_eq_true (by omega); have q2I : (n : Int) < (k : Int) := (by omega); have HV : Sl (rinsE o n (k : Int) r = 7) := ⟨by rw [HE.out]; exact if_pos (.inr (by omega))⟩; go_wp2_with fail; go_ret; rw [HV.out]; exact RedP.no (by decide) HS.out HBL.out
    · have q2d : decide ((n : Int) < (k : Int)) = false := decide_eq_false (by omega); have q2I : ¬ (n : Int) < (k : Int) := (by omega); have HK : Sl (k ≤ n) := ⟨by omega⟩; rw [if_neg (by omega)] at HE; have hb5 : Below w1.heap.size w1 w1.drew := below_drewN (Below.refl _ _) 1; have HB5 : Sl _ := ⟨hb5⟩
      go_upto_region 3 with fail
      have HQD : Sl (∀ W, Below w1.heap.size w1 W → RQ W base o m R ∧ Lg w W [(g5, 45, #[.slice r.A r.n r.c, .slice r.B r.m r.d])]) := ⟨fun W hW => ⟨HS.out.below hW, HD.out.below hW⟩⟩
      have HRG : Sl (Calls Tryz.prog 49 #[.agg #[.slice o.A1 o.n1 o.c1, .slice o.A2 o.n2 o.c2, .slice o.A3 o.n3 o.c3, .slice o.A4 o.n4 o.c4], .agg #[.slice r.A r.n r.c, .slice r.B r.m r.d]] w1.drew fun e w' => e = .returned (.int .i64 (regE o r)) ∧ Below w1.drew.heap.size w1.drew w') := ⟨by
        have h := rreg_any o r w1.drew (HQD.out _ hb5).1.sp.now HF.out (HR.out.go (MvP.of_below ((HQD.out _ hb5).2.bl)) (fun _ _ e => e)).now (by have := specE_bd HSP.out; omega); rw [HSP.out, if_pos rfl] at h
        exact h⟩
      obtain ⟨E, hE⟩ : ∃ E, regE o r = E := ⟨_, rfl⟩; have HEE : Sl _ := ⟨hE⟩; rw [hE] at HRG HE; clear hE c4; have hm := hb5; refine wp_region_held_drew (S := fun w' => Below w1.heap.size w1 w') (by kernel_rfl) hm (fun hHeld => ?_); clear hm; refine hM 0 (v := ptr q) rfl rfl ?_; simp only [pS]; refine hS 1 (v := ptr q) rfl rfl ?_; simp only [pS]; refine hS 2 (v := .pointer (some ⟨q, 0, none⟩)) rfl rfl ?_; simp only [pS]; refine hL 3 33 (.tmp 23) rfl rfl rfl q 0 rfl #[.slice o.A1 o.n1 o.c1, .slice o.A2 o.n2 o.c2, .slice o.A3 o.n3 o.c3, .slice o.A4 o.n4 o.c4] _ (fun w' h => by have hb := (HQD.out w' h).1.blk; rw [HQ.out.1] at hb; have := World.rangeAt_of_block hb 0 4; exact this) Tryz.underlying33 rfl ?_; simp only [pS]; refine hL 4 45 (.tmp 5) rfl rfl rfl g5 0 rfl #[.slice r.A r.n r.c, .slice r.B r.m r.d] _ (fun w' h => by have := World.rangeAt_of_block ((HQD.out w' h).2.at_ 0 rfl) 0 2; exact this) Tryz.underlying45 rfl ?_; simp only [pS]; refine hO 5 rfl rfl fun K hK => ?_; go_simp; go_at_call 49
      (with_reducible refine (HRG.out).mono ?_)
      rintro e w6 ⟨rfl, hb⟩; have hb6 : Below w1.heap.size w1 w6 := hb5.trans (hb.mono hb5.size); clear hb; refine hK.out _ _ hb6 (fun hHeld => ?_); clear hK K
      (try simp only [pS])
      refine hS 6 (v := .int .i64 E) rfl rfl ?_; simp only [pS]; refine wpAnyH_done (by kernel_rfl) ?_ _; clear hHeld hb5; obtain ⟨h1, h2⟩ := HQD.out w6 hb6; replace HD : Sl _ := ⟨h2⟩; replace HS : Sl _ := ⟨h1⟩; replace HBL : Sl (Below w.heap.size w w6) := ⟨HD.out.bl⟩; clear h1 h2 hb6 HQD HRG HB5
      by_cases e0 : E = 0
      · subst e0; rw [if_neg (by decide)] at HE; have c4 : w6.cell? ⟨q, 4, none⟩ = some (.slice R.N.A n R.N.c) := (by rw [← HQ.out.1, ← HQ.out.2.1]; exact HS.out.cell 4 rfl)
        by_cases q3 : 500 ≤ n
        · have q3d : decide ((500 : Int) ≤ (n : Int)) = true := decide_eq_true (by omega); have q3I : (500 : Int) ≤ (n : Int) := (by omega); have HV : Sl (rinsE o n (k : Int) r = 5) := ⟨by rw [HE.out, if_pos q3]⟩; go_wp2_with fail; go_ret; rw [HV.out]; exact RedP.no (by decide) HS.out HBL.out
        · have q3d : decide ((500 : Int) ≤ (n : Int)) = false := decide_eq_false (by omega); have q3I : ¬ (500 : Int) ≤ (n : Int) := (by omega); have HV : Sl (rinsE o n (k : Int) r = 0) := ⟨by rw [HE.out, if_neg q3]⟩
          go_upto_region 8 with fail
          clear c4; have HQD : Sl (∀ W, Below w6.heap.size w6 W → RQ W base o m R ∧ Lg w W [(g5, 45, #[.slice r.A r.n r.c, .slice r.B r.m r.d])]) := ⟨fun W hW => ⟨HS.out.below hW, HD.out.below hW⟩⟩
          go_cut [8] from 37 to 50 (fun s8 wx => ∃ (g8 : Nat) (A0 : Option Addr) (c0 : Nat), s8 = .pointer (some ⟨g8, 0, none⟩) ∧ Sl (Below w6.heap.size w6 wx ∧ w6.heap.size ≤ g8 ∧ Blk wx g8 38 #[.slice A0 (n + 1) c0, .int .i64 (p : Int)] ∧ FR wx w6.heap.size A0 (n + 1) c0 (insL R.N.L k r)))
          case first =>
            have hb5 : Below w6.heap.size w6 w6.drew := below_drewN (Below.refl _ _) 1; have HB5 : Sl _ := ⟨hb5⟩; have hm := hb5; refine wp_region_held_drew (S := fun w' => Below w6.heap.size w6 w') (by kernel_rfl) hm (fun hHeld => ?_); clear hm; refine hM 0 (v := ptr q) rfl rfl ?_; simp only [pS]; refine hS 1 (v := ptr q) rfl rfl ?_; simp only [pS]; refine hS 2 (v := .pointer (some ⟨q, 4, none⟩)) rfl rfl ?_; simp only [pS]; refine hS 3 (v := .pointer (some ⟨q, 4, none⟩)) rfl rfl ?_; simp only [pS]
            refine hC 4 (v := .slice R.N.A n R.N.c) rfl rfl (fun w' h => by
              have hc : w'.cell? ⟨q, 4, none⟩ = some (.slice R.N.A n R.N.c) := (by rw [← HQ.out.1, ← HQ.out.2.1]; exact (HQD.out w' h).1.cell 4 rfl)
              go_simp) ?_
            simp only [pS]; refine hM 5 (v := .int .i64 (k : Int)) rfl rfl ?_; simp only [pS]; refine hL 6 45 (.tmp 5) rfl rfl rfl g5 0 rfl #[.slice r.A r.n r.c, .slice r.B r.m r.d] _ (fun w' h => by have := World.rangeAt_of_block ((HQD.out w' h).2.at_ 0 rfl) 0 2; exact this) Tryz.underlying45 rfl ?_; simp only [pS]; refine hM 8 (v := ptr q) rfl rfl ?_; simp only [pS]; refine hS 9 (v := ptr q) rfl rfl ?_; simp only [pS]; refine hS 10 (v := .pointer (some ⟨q, 4, none⟩)) rfl rfl ?_; simp only [pS]; refine hS 11 (v := .pointer (some ⟨q, 5, none⟩)) rfl rfl ?_; simp only [pS]
            refine hC 12 (v := .int .i64 (p : Int)) rfl rfl (fun w' h => by
              have hc : w'.cell? ⟨q, 5, none⟩ = some (.int .i64 (p : Int)) := (by rw [← HQ.out.1, ← HQ.out.2.2.1]; exact (HQD.out w' h).1.cell 5 rfl)
              go_simp) ?_
            simp only [pS]; refine wpAnyH_twom 7 14 rfl rfl (by kernel_rfl) rfl rfl (fun K hK => ?_) (fun K hK => ?_)
            · skip; go_simp; go_at_call 50
              (with_reducible refine (rWith_any R.N.A n R.N.c R.N.L k r _ (by have h := (HQD.out _ HB5.out).1.nw.now.row; rw [HQ.out.2.1] at h; exact h) (by have h := (HQD.out _ HB5.out).1.nw.now.cap.1; rw [HQ.out.2.1] at h; exact h) HK.out (by have := HQ.out; omega)).mono ?_)
              rintro e w7 ⟨⟨A0, c0, rfl, ho⟩, hb⟩; have HB7 : Sl (Below w6.heap.size w6 w7) := ⟨HB5.out.trans (hb.mono HB5.out.size)⟩; have HFR : Sl (FR w7 w6.heap.size A0 (n + 1) c0 (insL R.N.L k r)) := ⟨own_low ho HB5.out.size⟩; clear ho hb; refine hK.out _ _ HB7.out (fun hHeld => ?_); clear hK K
              (try simp only [pS])
              refine hS 13 (v := .agg #[.slice A0 (n + 1) c0, .int .i64 (p : Int)]) rfl rfl ?_; simp only [pS]; refine hO 14 rfl rfl fun K hK => ?_; refine wp_alloc_newm 38 rfl #[.slice none 0 0, .int .i64 0] alloc_state ?_; rintro wz g8 zg zb zs zk; have HB6 : Sl (Below w6.heap.size w6 wz) := ⟨HB7.out.trans (zb.mono HB7.out.size)⟩; have HG8 : Sl (Blk wz g8 38 #[.slice none 0 0, .int .i64 0] ∧ w6.heap.size ≤ g8) := ⟨⟨zk, by rw [zg]; exact HB7.out.size⟩⟩; replace HFR : Sl (FR wz w6.heap.size A0 (n + 1) c0 (insL R.N.L k r)) := ⟨HFR.out.below zb⟩; clear zg zb zs zk; refine hK.out _ _ HB6.out (fun hHeld => ?_); clear hK K
              (try simp only [pS])
              refine hO 15 rfl rfl fun K hK => ?_; refine wp_store_partm 38 (.tmp 8) (.tmp 50) rfl g8 0 #[.slice A0 (n + 1) c0, .int .i64 (p : Int)] rfl rfl 38 _ #[.slice A0 (n + 1) c0, .int .i64 (p : Int)] HG8.out.1 (by simp) (putA_all _ _ rfl) (by kernel_rfl) (by simp [Value.oneCell']) ?_; rintro w8 zm zs zb; have HZ8 : Sl (Below w6.heap.size w6 w8) := ⟨below_mv HB6.out zm HG8.out.2 HB6.out.size⟩; have HF8 : Sl (FR w8 w6.heap.size A0 (n + 1) c0 (insL R.N.L k r)) := ⟨own_mv HFR.out zm (fun k hk e => own_ne HFR.out hk HG8.out.1 (by decide) e)⟩; refine hK.out _ _ HZ8.out (fun hHeld => ?_); clear hK K zm zs
              (try simp only [pS])
              refine wpAnyH_done (by kernel_rfl) ?_ _
              (try go_wp2_with fail)
              go_meet
              exact ⟨g8, A0, c0, rfl, ⟨HZ8.out, HG8.out.2, zb, HF8.out⟩⟩
            · skip; refine wp_alloc_newm 38 rfl #[.slice none 0 0, .int .i64 0] alloc_state ?_; rintro wz g8 zg zb zs zk; have HB6 : Sl (Below w6.heap.size w6 wz) := ⟨HB5.out.trans (zb.mono HB5.out.size)⟩; have HG8 : Sl (Blk wz g8 38 #[.slice none 0 0, .int .i64 0] ∧ w6.heap.size ≤ g8) := ⟨⟨zk, by rw [zg]; exact HB5.out.size⟩⟩; clear zg zb zs zk; refine hK.out _ _ HB6.out (fun hHeld => ?_); clear hK K
              (try simp only [pS])
              refine hO 7 rfl rfl fun K hK => ?_; go_simp; go_at_call 50
              (with_reducible refine (rWith_any R.N.A n R.N.c R.N.L k r _ (by have h := (HQD.out _ HB6.out).1.nw.now.row; rw [HQ.out.2.1] at h; exact h) (by have h := (HQD.out _ HB6.out).1.nw.now.cap.1; rw [HQ.out.2.1] at h; exact h) HK.out (by have := HQ.out; omega)).mono ?_)
              rintro e w7 ⟨⟨A0, c0, rfl, ho⟩, hb⟩; have HB7 : Sl (Below w6.heap.size w6 w7) := ⟨HB6.out.trans (hb.mono HB6.out.size)⟩; have HFR : Sl (FR w7 w6.heap.size A0 (n + 1) c0 (insL R.N.L k r)) := ⟨own_low ho HB6.out.size⟩; replace HG8 : Sl (Blk w7 g8 38 _ ∧ _) := ⟨HG8.out.1.below hb HG8.out.1.lt, HG8.out.2⟩; clear ho hb; refine hK.out _ _ HB7.out (fun hHeld => ?_); clear hK K
              (try simp only [pS])
              refine hS 13 (v := .agg #[.slice A0 (n + 1) c0, .int .i64 (p : Int)]) rfl rfl ?_; simp only [pS]; refine hO 15 rfl rfl fun K hK => ?_; refine wp_store_partm 38 (.tmp 8) (.tmp 50) rfl g8 0 #[.slice A0 (n + 1) c0, .int .i64 (p : Int)] rfl rfl 38 _ #[.slice A0 (n + 1) c0, .int .i64 (p : Int)] HG8.out.1 (by simp) (putA_all _ _ rfl) (by kernel_rfl) (by simp [Value.oneCell']) ?_; rintro w8 zm zs zb; have HZ8 : Sl (Below w6.heap.size w6 w8) := ⟨below_mv HB7.out zm HG8.out.2 HB7.out.size⟩; have HF8 : Sl (FR w8 w6.heap.size A0 (n + 1) c0 (insL R.N.L k r)) := ⟨own_mv HFR.out zm (fun k hk e => own_ne HFR.out hk HG8.out.1 (by decide) e)⟩; refine hK.out _ _ HZ8.out (fun hHeld => ?_); clear hK K zm zs
              (try simp only [pS])
              refine wpAnyH_done (by kernel_rfl) ?_ _
              (try go_wp2_with fail)
              go_meet
              exact ⟨g8, A0, c0, rfl, ⟨HZ8.out, HG8.out.2, zb, HF8.out⟩⟩
          case rest =>
            obtain ⟨g8, A0, c0, rfl, HC⟩ := hcut; have HB8 : Sl (Below w.heap.size w wc) := ⟨HBL.out.trans (HC.out.1.mono HBL.out.size)⟩; replace HBL := HB8; have HFR : Sl (FR wc w.heap.size A0 (n + 1) c0 (insL R.N.L k r)) := ⟨own_low HC.out.2.2.2 HD.out.bl.size⟩; replace HS : Sl (RQ wc base o m R) := ⟨HS.out.below HC.out.1⟩; have HZ : Sl (Blk wc g8 38 #[.slice A0 (n + 1) c0, .int .i64 (p : Int)] ∧ w6.heap.size ≤ g8) := ⟨⟨HC.out.2.2.1, HC.out.2.1⟩⟩; have hG := HD.out.bl.size; have HG8 : Sl (w.heap.size ≤ g8) := ⟨by have := HZ.out.2; omega⟩; clear HQD HC hG HD; have c5 : wc.cell? ⟨q, 5, none⟩ = some (.int .i64 (p : Int)) := (by rw [← HQ.out.1, ← HQ.out.2.2.1]; exact HS.out.cell 5 rfl)
            by_cases q4 : k < p
            · have q4d : decide ((k : Int) < (p : Int)) = true := decide_eq_true (by omega); have q4I : (k : Int) < (p : Int) := (by omega); have x1 : wc.cell? ⟨g8, 1, none⟩ = some (.int .i64 (p : Int)) := HZ.out.1.cell 1
              go_upto_region 11 with ((with_reducible show wpList _ _ _ _ _ _); (refine wpList_store_cell rfl 3 (.tmp 61) (.tmp 60) rfl g8 1 (.int .i64 ((p : Int) + 1)) rfl rfl 38 _ #[.slice A0 (n + 1) c0, .int .i64 ((p : Int) + 1)] HZ.out.1 (by simp) rfl (by kernel_rfl) rfl rfl ?_; rintro w8 zm zs zb zw; have HY : Sl _ := ⟨And.intro zm zb⟩; clear zm zs zb zw))
              have HB9 : Sl (Below w.heap.size w w8) := ⟨below_mv HBL.out HY.out.1 HG8.out HBL.out.size⟩; replace HBL := HB9; replace HFR : Sl (FR w8 w.heap.size A0 (n + 1) c0 (insL R.N.L k r)) := ⟨own_mv HFR.out HY.out.1 (fun i hk e => own_ne HFR.out hk HZ.out.1 (by decide) e)⟩; clear c5 x1; have HW : Sl (RQ w8 base o (m.wide w.heap.size w8.heap.size) R ∧ Foot m (m.wide w.heap.size w8.heap.size) w w8) := ⟨H.out.widen (MvP.of_below HBL.out) (fun _ e => e.elim)⟩
              have HOK : Sl (StO.ok w8 (m.wide w.heap.size w8.heap.size).imm ⟨A0, c0, insL R.N.L k r, R.N.p + 1⟩) := ⟨by
                have hlen : (insL R.N.L k r).length = n + 1 := (by rw [insL_len (by rw [HQ.out.2.1]; exact HK.out), HQ.out.2.1]); unfold StO.ok; show Dep w8 _ fun w' => TbM w' A0 (insL R.N.L k r).length c0 (insL R.N.L k r)
                rw [hlen]; refine Dep.tb HFR.out (fun i hi => .inr (own_lt2 HFR.out (blkOf_own.1 hi))) (fun y hy => ?_); rcases mem_ins hy with hy | rfl
                rotate_left
                · exact (HR.out.go (MvP.of_below HBL.out) (fun _ _ e => e)).more (fun i e => .inl e)
                exact (Dep.tb_all H.out.nw y hy).go (MvP.of_below HBL.out) (fun _ _ e => e) |>.more (fun i e => .inl e)⟩
              have HCE : Sl (Calls Tryz.prog 51 #[ptr q, .agg #[.slice A0 (n + 1) c0, .int .i64 ((p : Int) + 1)]] w8 fun en w' => en = .returned (.tuple #[]) ∧ ∃ EA ec, RQ w' base o ((m.wide w.heap.size w8.heap.size).re EA ec) (R.edit ⟨A0, c0, insL R.N.L k r, R.N.p + 1⟩) ∧ Foot (m.wide w.heap.size w8.heap.size) ((m.wide w.heap.size w8.heap.size).re EA ec) w8 w') := ⟨by
                have h := rEdit_any base o (m.wide w.heap.size w8.heap.size) R ⟨A0, c0, insL R.N.L k r, R.N.p + 1⟩ w8 HW.out.1 HOK.out HBD.out.1 HBD.out.2.1; have hlen : (insL R.N.L k r).length = n + 1 := (by rw [insL_len (by rw [HQ.out.2.1]; exact HK.out), HQ.out.2.1]); rw [show (m.wide w.heap.size w8.heap.size).q = q from HQ.out.1, show (⟨A0, c0, insL R.N.L k r, R.N.p + 1⟩ : StO).L.length = n + 1 from hlen, show (((⟨A0, c0, insL R.N.L k r, R.N.p + 1⟩ : StO).p : Nat) : Int) = (p : Int) + 1 by rw [← HQ.out.2.2.1]; push_cast; rfl] at h
                exact h⟩
              clear HOK; go_wp2_with ((with_reducible show wpList _ _ _ _ _ _); (refine wpList_load_whole rfl 38 (.tmp 8) rfl g8 rfl 38 _ _ HY.out.2 Tryz.underlying38 rfl (by kernel_rfl) ?_)); refine HCE.out.mono ?_; rintro en w9 ⟨rfl, EA, ec, h1, h2⟩; have HX : Sl (RedP base o m R 0 (LL) (PP) w (.returned (.int .i64 0)) w9) := ⟨⟨rfl, _, _, h1, HW.out.2.trans h2, fun i e => .inl e, by rw [if_pos rfl, RqV.edit_rs]; rw [← HLP.out.1, ← HLP.out.2, Int.toNat_natCast]; unfold posI; rw [if_pos (show (k : Int) < (p : Int) by omega), ← HQ.out.2.2.1]; show R.rs.edit ((insL R.N.L k r).map RgV.v) _ = _; rw [show (insL R.N.L k r).map RgV.v = insL (R.N.L.map RgV.v) k r.v from (Ed.fw_map RgV.v (.ins k r) R.N.L).symm]⟩⟩; clear h1 h2 HCE; go_wp2_with fail; go_ret; rw [HV.out]; exact HX.out
            · have q4d : decide ((k : Int) < (p : Int)) = false := decide_eq_false (by omega); have q4I : ¬ (k : Int) < (p : Int) := (by omega)
              go_upto_region 11 with fail
              clear c5; have HW : Sl (RQ wc base o (m.wide w.heap.size wc.heap.size) R ∧ Foot m (m.wide w.heap.size wc.heap.size) w wc) := ⟨H.out.widen (MvP.of_below HBL.out) (fun _ e => e.elim)⟩
              have HOK : Sl (StO.ok wc (m.wide w.heap.size wc.heap.size).imm ⟨A0, c0, insL R.N.L k r, R.N.p⟩) := ⟨by
                have hlen : (insL R.N.L k r).length = n + 1 := (by rw [insL_len (by rw [HQ.out.2.1]; exact HK.out), HQ.out.2.1]); unfold StO.ok; show Dep wc _ fun w' => TbM w' A0 (insL R.N.L k r).length c0 (insL R.N.L k r)
                rw [hlen]; refine Dep.tb HFR.out (fun i hi => .inr (own_lt2 HFR.out (blkOf_own.1 hi))) (fun y hy => ?_); rcases mem_ins hy with hy | rfl
                rotate_left
                · exact (HR.out.go (MvP.of_below HBL.out) (fun _ _ e => e)).more (fun i e => .inl e)
                exact (Dep.tb_all H.out.nw y hy).go (MvP.of_below HBL.out) (fun _ _ e => e) |>.more (fun i e => .inl e)⟩
              have HCE : Sl (Calls Tryz.prog 51 #[ptr q, .agg #[.slice A0 (n + 1) c0, .int .i64 ((p : Int))]] wc fun en w' => en = .returned (.tuple #[]) ∧ ∃ EA ec, RQ w' base o ((m.wide w.heap.size wc.heap.size).re EA ec) (R.edit ⟨A0, c0, insL R.N.L k r, R.N.p⟩) ∧ Foot (m.wide w.heap.size wc.heap.size) ((m.wide w.heap.size wc.heap.size).re EA ec) wc w') := ⟨by
                have h := rEdit_any base o (m.wide w.heap.size wc.heap.size) R ⟨A0, c0, insL R.N.L k r, R.N.p⟩ wc HW.out.1 HOK.out HBD.out.1 HBD.out.2.1; have hlen : (insL R.N.L k r).length = n + 1 := (by rw [insL_len (by rw [HQ.out.2.1]; exact HK.out), HQ.out.2.1]); rw [show (m.wide w.heap.size wc.heap.size).q = q from HQ.out.1, show (⟨A0, c0, insL R.N.L k r, R.N.p⟩ : StO).L.length = n + 1 from hlen, show (((⟨A0, c0, insL R.N.L k r, R.N.p⟩ : StO).p : Nat) : Int) = (p : Int) by rw [← HQ.out.2.2.1]] at h
                exact h⟩
              clear HOK; go_wp2_with ((with_reducible show wpList _ _ _ _ _ _); (refine wpList_load_whole rfl 38 (.tmp 8) rfl g8 rfl 38 _ _ HZ.out.1 Tryz.underlying38 rfl (by kernel_rfl) ?_)); refine HCE.out.mono ?_; rintro en w9 ⟨rfl, EA, ec, h1, h2⟩; have HX : Sl (RedP base o m R 0 (LL) (PP) w (.returned (.int .i64 0)) w9) := ⟨⟨rfl, _, _, h1, HW.out.2.trans h2, fun i e => .inl e, by rw [if_pos rfl, RqV.edit_rs]; rw [← HLP.out.1, ← HLP.out.2, Int.toNat_natCast]; unfold posI; rw [if_neg (show ¬ (k : Int) < (p : Int) by omega), ← HQ.out.2.2.1]; show R.rs.edit ((insL R.N.L k r).map RgV.v) _ = _; rw [show (insL R.N.L k r).map RgV.v = insL (R.N.L.map RgV.v) k r.v from (Ed.fw_map RgV.v (.ins k r) R.N.L).symm]⟩⟩; clear h1 h2 HCE; go_wp2_with fail; go_ret; rw [HV.out]; exact HX.out
      · have e1 : (E != 0) = true := (by simp [e0]); have HV : Sl (rinsE o n (k : Int) r = E ∧ E ≠ 0) := ⟨⟨by rw [HE.out]; exact if_pos e0, e0⟩⟩; clear e0; go_wp2_with fail; go_ret; rw [HV.out.1]; exact RedP.no HV.out.2 HS.out HBL.out
theorem rDelete_any (base : Nat) (o : SpO) (m : SqM) (R : RqV) (z : Int) (w : World) (h : RQ w base o m R) (hn : R.N.L.length ≤ 500) (hB : R.d ≤ R.E.length ∧ R.E.length ≤ 100 ∧ R.N.p ≤ 500) :
    Calls Tryz.prog 73 #[ptr m.q, .int .i64 z] w fun en w' => RedP base o m R (rdelE R.N.L.length z) (delL (R.N.L.map RgV.v) z.toNat) (posD z R.N.p) w en w' := by
  have H : Sl _ := ⟨h⟩; obtain ⟨q, hq⟩ : ∃ q, m.q = q := ⟨_, rfl⟩; obtain ⟨n, hnn⟩ : ∃ n, R.N.L.length = n := ⟨_, rfl⟩; obtain ⟨p, hpp⟩ : ∃ p, R.N.p = p := ⟨_, rfl⟩; have HQ : Sl (m.q = q ∧ R.N.L.length = n ∧ R.N.p = p ∧ n ≤ 500) := ⟨⟨hq, hnn, hpp, by omega⟩⟩; have HBD : Sl (R.d ≤ R.E.length ∧ R.E.length ≤ 100 ∧ R.N.p ≤ 500) := ⟨hB⟩; have hn500 : (n : Int) ≤ 500 := (by omega); have hp500 : (p : Int) ≤ 500 := (by have := hB.2.2; omega); rw [hnn, hpp]; obtain ⟨LL, hLL⟩ : ∃ LL, delL (R.N.L.map RgV.v) z.toNat = LL := ⟨_, rfl⟩; obtain ⟨PP, hPP⟩ : ∃ PP, posD z p = PP := ⟨_, rfl⟩; rw [hLL, hPP]; have HLP : Sl (delL (R.N.L.map RgV.v) z.toNat = LL ∧ posD z p = PP) := ⟨⟨hLL, hPP⟩⟩; clear hLL hPP; have HE : Sl (rdelE n z = if z < 0 ∨ (n : Int) ≤ z then 7 else 0) := ⟨rfl⟩; rw [hq]; clear h hn hB hq hnn hpp; go_enter Tryz.func73, Tryz.ntmps73; have HBL : Sl (Below w.heap.size w w) := ⟨Below.refl _ _⟩; have HS : Sl (RQ w base o m R) := ⟨H.out⟩; have c4 : w.cell? ⟨q, 4, none⟩ = some (.slice R.N.A n R.N.c) := (by rw [← HQ.out.1, ← HQ.out.2.1]; exact HS.out.cell 4 rfl)
  by_cases q1 : z < 0
  · have q1d : decide (z < 0) = true := decide_eq_true q1; have HV : Sl (rdelE n z = 7) := ⟨by rw [HE.out]; exact if_pos (.inl q1)⟩; go_wp2_with fail; go_ret; rw [HV.out]; exact RedP.no (by decide) HS.out HBL.out
  · have q1d : decide (z < 0) = false := decide_eq_false q1; obtain ⟨k, rfl⟩ := Int.eq_ofNat_of_zero_le (show 0 ≤ z by omega)
    by_cases q2 : n ≤ k
    · have q2d : decide ((n : Int) ≤ (k : Int)) = true := decide_eq_true (by omega); have q2I : (n : Int) ≤ (k : Int) := (by omega); have HV : Sl (rdelE n (k : Int) = 7) := ⟨by rw [HE.out]; exact if_pos (.inr (by omega))⟩; go_wp2_with fail; go_ret; rw [HV.out]; exact RedP.no (by decide) HS.out HBL.out
    · have q2d : decide ((n : Int) ≤ (k : Int)) = false := decide_eq_false (by omega); have q2I : ¬ (n : Int) ≤ (k : Int) := (by omega); have HK : Sl (k < n) := ⟨by omega⟩; rw [if_neg (by omega)] at HE; have HV : Sl (rdelE n (k : Int) = 0) := ⟨HE.out⟩
      go_upto_region 3 with fail
      clear c4; have HQD : Sl (∀ W, Below w.heap.size w W → RQ W base o m R) := ⟨fun W hW => HS.out.below hW⟩
      go_cut [5] from 18 to 30 (fun s8 wx => ∃ (g8 : Nat) (A0 : Option Addr) (c0 : Nat), s8 = .pointer (some ⟨g8, 0, none⟩) ∧ Sl (Below w.heap.size w wx ∧ w.heap.size ≤ g8 ∧ Blk wx g8 38 #[.slice A0 (n - 1) c0, .int .i64 (p : Int)] ∧ FR wx w.heap.size A0 (n - 1) c0 (delL R.N.L k)))
      case first =>
        have hb5 : Below w.heap.size w w.drew := below_drewN (Below.refl _ _) 1; have HB5 : Sl _ := ⟨hb5⟩; have hm := hb5; refine wp_region_held_drew (S := fun w' => Below w.heap.size w w') (by kernel_rfl) hm (fun hHeld => ?_); clear hm; refine hM 0 (v := ptr q) rfl rfl ?_; simp only [pS]; refine hS 1 (v := ptr q) rfl rfl ?_; simp only [pS]; refine hS 2 (v := .pointer (some ⟨q, 4, none⟩)) rfl rfl ?_; simp only [pS]; refine hS 3 (v := .pointer (some ⟨q, 4, none⟩)) rfl rfl ?_; simp only [pS]
        refine hC 4 (v := .slice R.N.A n R.N.c) rfl rfl (fun w' h => by
          have hc : w'.cell? ⟨q, 4, none⟩ = some (.slice R.N.A n R.N.c) := (by rw [← HQ.out.1, ← HQ.out.2.1]; exact (HQD.out w' h).cell 4 rfl)
          go_simp) ?_
        simp only [pS]; refine hM 5 (v := .int .i64 (k : Int)) rfl rfl ?_; simp only [pS]; refine hM 7 (v := ptr q) rfl rfl ?_; simp only [pS]; refine hS 8 (v := ptr q) rfl rfl ?_; simp only [pS]; refine hS 9 (v := .pointer (some ⟨q, 4, none⟩)) rfl rfl ?_; simp only [pS]; refine hS 10 (v := .pointer (some ⟨q, 5, none⟩)) rfl rfl ?_; simp only [pS]
        refine hC 11 (v := .int .i64 (p : Int)) rfl rfl (fun w' h => by
          have hc : w'.cell? ⟨q, 5, none⟩ = some (.int .i64 (p : Int)) := (by rw [← HQ.out.1, ← HQ.out.2.2.1]; exact (HQD.out w' h).cell 5 rfl)
          go_simp) ?_
        simp only [pS]; refine wpAnyH_twom 6 13 rfl rfl (by kernel_rfl) rfl rfl (fun K hK => ?_) (fun K hK => ?_)
        · skip; go_simp; go_at_call 121
          (with_reducible refine (rWithout_any R.N.A n R.N.c R.N.L k _ (by have h := (HQD.out _ HB5.out).nw.now.row; rw [HQ.out.2.1] at h; exact h) (by have h := (HQD.out _ HB5.out).nw.now.cap.1; rw [HQ.out.2.1] at h; exact h) HK.out (by have := HQ.out; omega)).mono ?_)
          rintro e w7 ⟨⟨A0, c0, rfl, ho⟩, hb⟩; have HB7 : Sl (Below w.heap.size w w7) := ⟨HB5.out.trans (hb.mono HB5.out.size)⟩; have HFR : Sl (FR w7 w.heap.size A0 (n - 1) c0 (delL R.N.L k)) := ⟨own_low ho HB5.out.size⟩; clear ho hb; refine hK.out _ _ HB7.out (fun hHeld => ?_); clear hK K
          (try simp only [pS])
          refine hS 12 (v := .agg #[.slice A0 (n - 1) c0, .int .i64 (p : Int)]) rfl rfl ?_; simp only [pS]; refine hO 13 rfl rfl fun K hK => ?_; refine wp_alloc_newm 38 rfl #[.slice none 0 0, .int .i64 0] alloc_state ?_; rintro wz g8 zg zb zs zk; have HB6 : Sl (Below w.heap.size w wz) := ⟨HB7.out.trans (zb.mono HB7.out.size)⟩; have HG8 : Sl (Blk wz g8 38 #[.slice none 0 0, .int .i64 0] ∧ w.heap.size ≤ g8) := ⟨⟨zk, by rw [zg]; exact HB7.out.size⟩⟩; replace HFR : Sl (FR wz w.heap.size A0 (n - 1) c0 (delL R.N.L k)) := ⟨HFR.out.below zb⟩; clear zg zb zs zk; refine hK.out _ _ HB6.out (fun hHeld => ?_); clear hK K
          (try simp only [pS])
          refine hO 14 rfl rfl fun K hK => ?_; refine wp_store_partm 38 (.tmp 5) (.tmp 30) rfl g8 0 #[.slice A0 (n - 1) c0, .int .i64 (p : Int)] rfl rfl 38 _ #[.slice A0 (n - 1) c0, .int .i64 (p : Int)] HG8.out.1 (by simp) (putA_all _ _ rfl) (by kernel_rfl) (by simp [Value.oneCell']) ?_; rintro w8 zm zs zb; have HZ8 : Sl (Below w.heap.size w w8) := ⟨below_mv HB6.out zm HG8.out.2 HB6.out.size⟩; have HF8 : Sl (FR w8 w.heap.size A0 (n - 1) c0 (delL R.N.L k)) := ⟨own_mv HFR.out zm (fun k hk e => own_ne HFR.out hk HG8.out.1 (by decide) e)⟩; refine hK.out _ _ HZ8.out (fun hHeld => ?_); clear hK K zm zs
          (try simp only [pS])
          refine wpAnyH_done (by kernel_rfl) ?_ _
          (try go_wp2_with fail)
          go_meet
          exact ⟨g8, A0, c0, rfl, ⟨HZ8.out, HG8.out.2, zb, HF8.out⟩⟩
        · skip; refine wp_alloc_newm 38 rfl #[.slice none 0 0, .int .i64 0] alloc_state ?_; rintro wz g8 zg zb zs zk; have HB6 : Sl (Below w.heap.size w wz) := ⟨HB5.out.trans (zb.mono HB5.out.size)⟩; have HG8 : Sl (Blk wz g8 38 #[.slice none 0 0, .int .i64 0] ∧ w.heap.size ≤ g8) := ⟨⟨zk, by rw [zg]; exact HB5.out.size⟩⟩; clear zg zb zs zk; refine hK.out _ _ HB6.out (fun hHeld => ?_); clear hK K
          (try simp only [pS])
          refine hO 6 rfl rfl fun K hK => ?_; go_simp; go_at_call 121
          (with_reducible refine (rWithout_any R.N.A n R.N.c R.N.L k _ (by have h := (HQD.out _ HB6.out).nw.now.row; rw [HQ.out.2.1] at h; exact h) (by have h := (HQD.out _ HB6.out).nw.now.cap.1; rw [HQ.out.2.1] at h; exact h) HK.out (by have := HQ.out; omega)).mono ?_)
          rintro e w7 ⟨⟨A0, c0, rfl, ho⟩, hb⟩; have HB7 : Sl (Below w.heap.size w w7) := ⟨HB6.out.trans (hb.mono HB6.out.size)⟩; have HFR : Sl (FR w7 w.heap.size A0 (n - 1) c0 (delL R.N.L k)) := ⟨own_low ho HB6.out.size⟩; replace HG8 : Sl (Blk w7 g8 38 _ ∧ _) := ⟨HG8.out.1.below hb HG8.out.1.lt, HG8.out.2⟩; clear ho hb; refine hK.out _ _ HB7.out (fun hHeld => ?_); clear hK K
          (try simp only [pS])
          refine hS 12 (v := .agg #[.slice A0 (n - 1) c0, .int .i64 (p : Int)]) rfl rfl ?_; simp only [pS]; refine hO 14 rfl rfl fun K hK => ?_; refine wp_store_partm 38 (.tmp 5) (.tmp 30) rfl g8 0 #[.slice A0 (n - 1) c0, .int .i64 (p : Int)] rfl rfl 38 _ #[.slice A0 (n - 1) c0, .int .i64 (p : Int)] HG8.out.1 (by simp) (putA_all _ _ rfl) (by kernel_rfl) (by simp [Value.oneCell']) ?_; rintro w8 zm zs zb; have HZ8 : Sl (Below w.heap.size w w8) := ⟨below_mv HB7.out zm HG8.out.2 HB7.out.size⟩; have HF8 : Sl (FR w8 w.heap.size A0 (n - 1) c0 (delL R.N.L k)) := ⟨own_mv HFR.out zm (fun k hk e => own_ne HFR.out hk HG8.out.1 (by decide) e)⟩; refine hK.out _ _ HZ8.out (fun hHeld => ?_); clear hK K zm zs
          (try simp only [pS])
          refine wpAnyH_done (by kernel_rfl) ?_ _
          (try go_wp2_with fail)
          go_meet
          exact ⟨g8, A0, c0, rfl, ⟨HZ8.out, HG8.out.2, zb, HF8.out⟩⟩
      case rest =>
        obtain ⟨g8, A0, c0, rfl, HC⟩ := hcut; have HB8 : Sl (Below w.heap.size w wc) := ⟨HC.out.1⟩; replace HBL := HB8; have HFR : Sl (FR wc w.heap.size A0 (n - 1) c0 (delL R.N.L k)) := ⟨HC.out.2.2.2⟩; replace HS : Sl (RQ wc base o m R) := ⟨HS.out.below HC.out.1⟩; have HZ : Sl (Blk wc g8 38 #[.slice A0 (n - 1) c0, .int .i64 (p : Int)] ∧ True) := ⟨⟨HC.out.2.2.1, trivial⟩⟩; have HG8 : Sl (w.heap.size ≤ g8) := ⟨HC.out.2.1⟩; clear HQD HC; have c5 : wc.cell? ⟨q, 5, none⟩ = some (.int .i64 (p : Int)) := (by rw [← HQ.out.1, ← HQ.out.2.2.1]; exact HS.out.cell 5 rfl)
        by_cases q4 : k < p
        · have q4d : decide ((k : Int) < (p : Int)) = true := decide_eq_true (by omega); have q4I : (k : Int) < (p : Int) := (by omega); have hp0 : (0 : Int) ≤ (p : Int) := (by omega); have HPK : Sl (1 ≤ p) := ⟨by omega⟩; have x1 : wc.cell? ⟨g8, 1, none⟩ = some (.int .i64 (p : Int)) := HZ.out.1.cell 1
          go_upto_region 6 with ((with_reducible show wpList _ _ _ _ _ _); (refine wpList_store_cell rfl 3 (.tmp 41) (.tmp 40) rfl g8 1 (.int .i64 ((p : Int) - 1)) rfl rfl 38 _ #[.slice A0 (n - 1) c0, .int .i64 ((p : Int) - 1)] HZ.out.1 (by simp) rfl (by kernel_rfl) rfl rfl ?_; rintro w8 zm zs zb zw; have HY : Sl _ := ⟨And.intro zm zb⟩; clear zm zs zb zw))
          have HB9 : Sl (Below w.heap.size w w8) := ⟨below_mv HBL.out HY.out.1 HG8.out HBL.out.size⟩; replace HBL := HB9; replace HFR : Sl (FR w8 w.heap.size A0 (n - 1) c0 (delL R.N.L k)) := ⟨own_mv HFR.out HY.out.1 (fun i hk e => own_ne HFR.out hk HZ.out.1 (by decide) e)⟩; clear c5 x1; have HW : Sl (RQ w8 base o (m.wide w.heap.size w8.heap.size) R ∧ Foot m (m.wide w.heap.size w8.heap.size) w w8) := ⟨H.out.widen (MvP.of_below HBL.out) (fun _ e => e.elim)⟩
          have HOK : Sl (StO.ok w8 (m.wide w.heap.size w8.heap.size).imm ⟨A0, c0, delL R.N.L k, R.N.p - 1⟩) := ⟨by
            have hlen : (delL R.N.L k).length = n - 1 := (by rw [delL_len (by rw [HQ.out.2.1]; exact HK.out), HQ.out.2.1]); unfold StO.ok; show Dep w8 _ fun w' => TbM w' A0 (delL R.N.L k).length c0 (delL R.N.L k)
            rw [hlen]; refine Dep.tb HFR.out (fun i hi => .inr (own_lt2 HFR.out (blkOf_own.1 hi))) (fun y hy => ?_); replace hy := mem_del hy
            exact (Dep.tb_all H.out.nw y hy).go (MvP.of_below HBL.out) (fun _ _ e => e) |>.more (fun i e => .inl e)⟩
          have HCE : Sl (Calls Tryz.prog 51 #[ptr q, .agg #[.slice A0 (n - 1) c0, .int .i64 ((p : Int) - 1)]] w8 fun en w' => en = .returned (.tuple #[]) ∧ ∃ EA ec, RQ w' base o ((m.wide w.heap.size w8.heap.size).re EA ec) (R.edit ⟨A0, c0, delL R.N.L k, R.N.p - 1⟩) ∧ Foot (m.wide w.heap.size w8.heap.size) ((m.wide w.heap.size w8.heap.size).re EA ec) w8 w') := ⟨by
            have h := rEdit_any base o (m.wide w.heap.size w8.heap.size) R ⟨A0, c0, delL R.N.L k, R.N.p - 1⟩ w8 HW.out.1 HOK.out HBD.out.1 HBD.out.2.1; have hlen : (delL R.N.L k).length = n - 1 := (by rw [delL_len (by rw [HQ.out.2.1]; exact HK.out), HQ.out.2.1]); rw [show (m.wide w.heap.size w8.heap.size).q = q from HQ.out.1, show (⟨A0, c0, delL R.N.L k, R.N.p - 1⟩ : StO).L.length = n - 1 from hlen, show (((⟨A0, c0, delL R.N.L k, R.N.p - 1⟩ : StO).p : Nat) : Int) = (p : Int) - 1 by have h1 := HQ.out.2.2.1; have h2 := HPK.out; show ((R.N.p - 1 : Nat) : Int) = _; omega] at h
            exact h⟩
          clear HOK; go_wp2_with ((with_reducible show wpList _ _ _ _ _ _); (refine wpList_load_whole rfl 38 (.tmp 5) rfl g8 rfl 38 _ _ HY.out.2 Tryz.underlying38 rfl (by kernel_rfl) ?_)); refine HCE.out.mono ?_; rintro en w9 ⟨rfl, EA, ec, h1, h2⟩; have HX : Sl (RedP base o m R 0 (LL) (PP) w (.returned (.int .i64 0)) w9) := ⟨⟨rfl, _, _, h1, HW.out.2.trans h2, fun i e => .inl e, by rw [if_pos rfl, RqV.edit_rs]; rw [← HLP.out.1, ← HLP.out.2, Int.toNat_natCast]; unfold posD; rw [if_pos (show (k : Int) < (p : Int) by omega), ← HQ.out.2.2.1]; show R.rs.edit ((delL R.N.L k).map RgV.v) _ = _; rw [show (delL R.N.L k).map RgV.v = delL (R.N.L.map RgV.v) k by unfold delL; rw [List.map_append, List.map_take, List.map_drop]]⟩⟩; clear h1 h2 HCE; go_wp2_with fail; go_ret; rw [HV.out]; exact HX.out
        · have q4d : decide ((k : Int) < (p : Int)) = false := decide_eq_false (by omega); have q4I : ¬ (k : Int) < (p : Int) := (by omega)
          go_upto_region 6 with fail
          clear c5; have HW : Sl (RQ wc base o (m.wide w.heap.size wc.heap.size) R ∧ Foot m (m.wide w.heap.size wc.heap.size) w wc) := ⟨H.out.widen (MvP.of_below HBL.out) (fun _ e => e.elim)⟩
          have HOK : Sl (StO.ok wc (m.wide w.heap.size wc.heap.size).imm ⟨A0, c0, delL R.N.L k, R.N.p⟩) := ⟨by
            have hlen : (delL R.N.L k).length = n - 1 := (by rw [delL_len (by rw [HQ.out.2.1]; exact HK.out), HQ.out.2.1]); unfold StO.ok; show Dep wc _ fun w' => TbM w' A0 (delL R.N.L k).length c0 (delL R.N.L k)
            rw [hlen]; refine Dep.tb HFR.out (fun i hi => .inr (own_lt2 HFR.out (blkOf_own.1 hi))) (fun y hy => ?_); replace hy := mem_del hy
            exact (Dep.tb_all H.out.nw y hy).go (MvP.of_below HBL.out) (fun _ _ e => e) |>.more (fun i e => .inl e)⟩
          have HCE : Sl (Calls Tryz.prog 51 #[ptr q, .agg #[.slice A0 (n - 1) c0, .int .i64 ((p : Int))]] wc fun en w' => en = .returned (.tuple #[]) ∧ ∃ EA ec, RQ w' base o ((m.wide w.heap.size wc.heap.size).re EA ec) (R.edit ⟨A0, c0, delL R.N.L k, R.N.p⟩) ∧ Foot (m.wide w.heap.size wc.heap.size) ((m.wide w.heap.size wc.heap.size).re EA ec) wc w') := ⟨by
            have h := rEdit_any base o (m.wide w.heap.size wc.heap.size) R ⟨A0, c0, delL R.N.L k, R.N.p⟩ wc HW.out.1 HOK.out HBD.out.1 HBD.out.2.1; have hlen : (delL R.N.L k).length = n - 1 := (by rw [delL_len (by rw [HQ.out.2.1]; exact HK.out), HQ.out.2.1]); rw [show (m.wide w.heap.size wc.heap.size).q = q from HQ.out.1, show (⟨A0, c0, delL R.N.L k, R.N.p⟩ : StO).L.length = n - 1 from hlen, show (((⟨A0, c0, delL R.N.L k, R.N.p⟩ : StO).p : Nat) : Int) = (p : Int) by rw [← HQ.out.2.2.1]] at h
            exact h⟩
          clear HOK; go_wp2_with ((with_reducible show wpList _ _ _ _ _ _); (refine wpList_load_whole rfl 38 (.tmp 5) rfl g8 rfl 38 _ _ HZ.out.1 Tryz.underlying38 rfl (by kernel_rfl) ?_)); refine HCE.out.mono ?_; rintro en w9 ⟨rfl, EA, ec, h1, h2⟩; have HX : Sl (RedP base o m R 0 (LL) (PP) w (.returned (.int .i64 0)) w9) := ⟨⟨rfl, _, _, h1, HW.out.2.trans h2, fun i e => .inl e, by rw [if_pos rfl, RqV.edit_rs]; rw [← HLP.out.1, ← HLP.out.2, Int.toNat_natCast]; unfold posD; rw [if_neg (show ¬ (k : Int) < (p : Int) by omega), ← HQ.out.2.2.1]; show R.rs.edit ((delL R.N.L k).map RgV.v) _ = _; rw [show (delL R.N.L k).map RgV.v = delL (R.N.L.map RgV.v) k by unfold delL; rw [List.map_append, List.map_take, List.map_drop]]⟩⟩; clear h1 h2 HCE; go_wp2_with fail; go_ret; rw [HV.out]; exact HX.out
theorem rReplace_any (base : Nat) (o : SpO) (m : SqM) (R : RqV) (z : Int) (r : RgV) (w : World) (h : RQ w base o m R) (hF : SpF o) (hsp : specE o = 0) (hr : Dep w m.imm fun w' => RgM w' r) (hn : R.N.L.length ≤ 500) (hB : R.d ≤ R.E.length ∧ R.E.length ≤ 100 ∧ R.N.p ≤ 500) :
    Calls Tryz.prog 72 #[ptr m.q, .int .i64 z, .agg #[.slice r.A r.n r.c, .slice r.B r.m r.d]] w fun en w' => RedP base o m R (rrepE o R.N.L.length z r) ((R.N.L.map RgV.v).set z.toNat r.v) R.N.p w en w' := by
  have H : Sl _ := ⟨h⟩; obtain ⟨q, hq⟩ : ∃ q, m.q = q := ⟨_, rfl⟩; obtain ⟨n, hnn⟩ : ∃ n, R.N.L.length = n := ⟨_, rfl⟩; obtain ⟨p, hpp⟩ : ∃ p, R.N.p = p := ⟨_, rfl⟩; have HQ : Sl (m.q = q ∧ R.N.L.length = n ∧ R.N.p = p ∧ n ≤ 500) := ⟨⟨hq, hnn, hpp, by omega⟩⟩; have HBD : Sl (R.d ≤ R.E.length ∧ R.E.length ≤ 100 ∧ R.N.p ≤ 500) := ⟨hB⟩; have hn500 : (n : Int) ≤ 500 := (by omega); have hp500 : (p : Int) ≤ 500 := (by have := hB.2.2; omega); rw [hnn, hpp]; have HF : Sl _ := ⟨hF⟩; have HSP : Sl _ := ⟨hsp⟩; have HR : Sl _ := ⟨hr⟩; obtain ⟨LL, hLL⟩ : ∃ LL, (R.N.L.map RgV.v).set z.toNat r.v = LL := ⟨_, rfl⟩; obtain ⟨PP, hPP⟩ : ∃ PP, p = PP := ⟨_, rfl⟩; rw [hLL, hPP]; have HLP : Sl ((R.N.L.map RgV.v).set z.toNat r.v = LL ∧ p = PP) := ⟨⟨hLL, hPP⟩⟩; clear hLL hPP; have HE : Sl (rrepE o n z r = if z < 0 ∨ (n : Int) ≤ z then 7 else regE o r) := ⟨rfl⟩; have HD : Sl (Lg w w []) := ⟨Lg.nil w⟩; rw [hq]; clear h hF hsp hr hn hB hq hnn hpp; go_enter Tryz.func72, Tryz.ntmps72
  go_upto_region 1 with ((with_reducible show wpList _ _ _ _ _ _); first
    | (refine wpList_box_new 5 rfl rfl 45 (.tmp 2) rfl #[.slice r.A r.n r.c, .slice r.B r.m r.d] rfl (fun _ => by kernel_rfl) ?_; rintro w1 g5 zg zm zs zb; replace HD : Sl _ := ⟨HD.out.new zg zm zb⟩; clear zg zm zs zb))
  have HBL : Sl (Below w.heap.size w w1) := ⟨HD.out.bl⟩; have HS : Sl (RQ w1 base o m R) := ⟨H.out.below HBL.out⟩; have c4 : w1.cell? ⟨q, 4, none⟩ = some (.slice R.N.A n R.N.c) := (by rw [← HQ.out.1, ← HQ.out.2.1]; exact HS.out.cell 4 rfl)
  by_cases q1 : z < 0
  · have q1d : decide (z < 0) = true := decide_eq_true q1; have HV : Sl (rrepE o n z r = 7) := ⟨by rw [HE.out]; exact if_pos (.inl q1)⟩; go_wp2_with fail; go_ret; rw [HV.out]; exact RedP.no (by decide) HS.out HBL.out
  · have q1d : decide (z < 0) = false := decide_eq_false q1; obtain ⟨k, rfl⟩ := Int.eq_ofNat_of_zero_le (show 0 ≤ z by omega)
    by_cases q2 : n ≤ k
    · have q2d : decide ((n : Int) ≤ (k : Int)) = true := decide_eq_true (by omega); have q2I : (n : Int) ≤ (k : Int) := (by omega); have HV : Sl (rrepE o n (k : Int) r = 7) := ⟨by rw [HE.out]; exact if_pos (.inr (by omega))⟩; go_wp2_with fail; go_ret; rw [HV.out]; exact RedP.no (by decide) HS.out HBL.out
    · have q2d : decide ((n : Int) ≤ (k : Int)) = false := decide_eq_false (by omega); have q2I : ¬ (n : Int) ≤ (k : Int) := (by omega); have HK : Sl (k < n) := ⟨by omega⟩; rw [if_neg (by omega)] at HE; have hb5 : Below w1.heap.size w1 w1.drew := below_drewN (Below.refl _ _) 1; have HB5 : Sl _ := ⟨hb5⟩
      go_upto_region 3 with fail
      have HQD : Sl (∀ W, Below w1.heap.size w1 W → RQ W base o m R ∧ Lg w W [(g5, 45, #[.slice r.A r.n r.c, .slice r.B r.m r.d])]) := ⟨fun W hW => ⟨HS.out.below hW, HD.out.below hW⟩⟩
      have HRG : Sl (Calls Tryz.prog 49 #[.agg #[.slice o.A1 o.n1 o.c1, .slice o.A2 o.n2 o.c2, .slice o.A3 o.n3 o.c3, .slice o.A4 o.n4 o.c4], .agg #[.slice r.A r.n r.c, .slice r.B r.m r.d]] w1.drew fun e w' => e = .returned (.int .i64 (regE o r)) ∧ Below w1.drew.heap.size w1.drew w') := ⟨by
        have h := rreg_any o r w1.drew (HQD.out _ hb5).1.sp.now HF.out (HR.out.go (MvP.of_below ((HQD.out _ hb5).2.bl)) (fun _ _ e => e)).now (by have := specE_bd HSP.out; omega); rw [HSP.out, if_pos rfl] at h
        exact h⟩
      obtain ⟨E, hE⟩ : ∃ E, regE o r = E := ⟨_, rfl⟩; have HEE : Sl _ := ⟨hE⟩; rw [hE] at HRG HE; clear hE c4; have hm := hb5; refine wp_region_held_drew (S := fun w' => Below w1.heap.size w1 w') (by kernel_rfl) hm (fun hHeld => ?_); clear hm; refine hM 0 (v := ptr q) rfl rfl ?_; simp only [pS]; refine hS 1 (v := ptr q) rfl rfl ?_; simp only [pS]; refine hS 2 (v := .pointer (some ⟨q, 0, none⟩)) rfl rfl ?_; simp only [pS]; refine hL 3 33 (.tmp 22) rfl rfl rfl q 0 rfl #[.slice o.A1 o.n1 o.c1, .slice o.A2 o.n2 o.c2, .slice o.A3 o.n3 o.c3, .slice o.A4 o.n4 o.c4] _ (fun w' h => by have hb := (HQD.out w' h).1.blk; rw [HQ.out.1] at hb; have := World.rangeAt_of_block hb 0 4; exact this) Tryz.underlying33 rfl ?_; simp only [pS]; refine hL 4 45 (.tmp 5) rfl rfl rfl g5 0 rfl #[.slice r.A r.n r.c, .slice r.B r.m r.d] _ (fun w' h => by have := World.rangeAt_of_block ((HQD.out w' h).2.at_ 0 rfl) 0 2; exact this) Tryz.underlying45 rfl ?_; simp only [pS]; refine hO 5 rfl rfl fun K hK => ?_; go_simp; go_at_call 49
      (with_reducible refine (HRG.out).mono ?_)
      rintro e w6 ⟨rfl, hb⟩; have hb6 : Below w1.heap.size w1 w6 := hb5.trans (hb.mono hb5.size); clear hb; refine hK.out _ _ hb6 (fun hHeld => ?_); clear hK K
      (try simp only [pS])
      refine hS 6 (v := .int .i64 E) rfl rfl ?_; simp only [pS]; refine wpAnyH_done (by kernel_rfl) ?_ _; clear hHeld hb5; obtain ⟨h1, h2⟩ := HQD.out w6 hb6; replace HD : Sl _ := ⟨h2⟩; replace HS : Sl _ := ⟨h1⟩; replace HBL : Sl (Below w.heap.size w w6) := ⟨HD.out.bl⟩; clear h1 h2 hb6 HQD HRG HB5
      by_cases e0 : E = 0
      · subst e0; have HV : Sl (rrepE o n (k : Int) r = 0) := ⟨HE.out⟩; have HQD : Sl (∀ W, Below w6.heap.size w6 W → RQ W base o m R ∧ Lg w W [(g5, 45, #[.slice r.A r.n r.c, .slice r.B r.m r.d])]) := ⟨fun W hW => ⟨HS.out.below hW, HD.out.below hW⟩⟩
        go_upto_region 6 with fail
        have hb5 : Below w6.heap.size w6 w6.drew := below_drewN (Below.refl _ _) 1; have HB5 : Sl _ := ⟨hb5⟩; have hm := hb5; refine wp_region_E (S := fun w' => Below w6.heap.size w6 w') 17 (by kernel_rfl) hm (fun hHeld => ?_); clear hm; refine fM 0 (v := ptr q) rfl rfl ?_; simp only [pS]; refine fM 1 (v := ptr q) rfl rfl ?_; simp only [pS]; refine fS 2 (v := ptr q) rfl rfl ?_; simp only [pS]; refine fS 3 (v := .pointer (some ⟨q, 4, none⟩)) rfl rfl ?_; simp only [pS]; refine fS 4 (v := .pointer (some ⟨q, 4, none⟩)) rfl rfl ?_; simp only [pS]
        refine fC 5 (v := .slice R.N.A n R.N.c) rfl rfl (fun w' h => by
          have hc : w'.cell? ⟨q, 4, none⟩ = some (.slice R.N.A n R.N.c) := (by rw [← HQ.out.1, ← HQ.out.2.1]; exact (HQD.out w' h).1.cell 4 rfl)
          go_simp) ?_
        simp only [pS]; refine fM 6 (v := .int .i64 (k : Int)) rfl rfl ?_; simp only [pS]; refine fM 8 (v := .int .i64 (k : Int)) rfl rfl ?_; simp only [pS]; refine fL 9 45 (.tmp 5) rfl rfl rfl g5 (0) rfl #[.slice r.A r.n r.c, .slice r.B r.m r.d] _ (fun w' h => by have := World.rangeAt_of_block ((HQD.out w' h).2.at_ 0 rfl) 0 2; exact this) Tryz.underlying45 rfl ?_; simp only [pS]; refine fM 11 (v := ptr q) rfl rfl ?_; simp only [pS]; refine fS 12 (v := ptr q) rfl rfl ?_; simp only [pS]; refine fS 13 (v := .pointer (some ⟨q, 4, none⟩)) rfl rfl ?_; simp only [pS]; refine fS 14 (v := .pointer (some ⟨q, 5, none⟩)) rfl rfl ?_; simp only [pS]
        refine fC 15 (v := .int .i64 (p : Int)) rfl rfl (fun w' h => by
          have hc : w'.cell? ⟨q, 5, none⟩ = some (.int .i64 (p : Int)) := (by rw [← HQ.out.1, ← HQ.out.2.2.1]; exact (HQD.out w' h).1.cell 5 rfl)
          go_simp) ?_
        simp only [pS]; refine eO 7 rfl rfl fun K hK => ?_; go_simp; go_at_call 121
        (with_reducible refine (rWithout_any R.N.A n R.N.c R.N.L k _ (by have h := (HQD.out _ HB5.out).1.nw.now.row; rw [HQ.out.2.1] at h; exact h) (by have h := (HQD.out _ HB5.out).1.nw.now.cap.1; rw [HQ.out.2.1] at h; exact h) HK.out (by have := HQ.out; omega)).mono ?_)
        rintro e w7 ⟨⟨A1, c1, rfl, ho⟩, hb⟩; have HB7 : Sl (Below w6.heap.size w6 w7) := ⟨HB5.out.trans (hb.mono HB5.out.size)⟩; have HF7 : Sl (FR w7 _ A1 (n - 1) c1 (delL R.N.L k)) := ⟨ho⟩; clear ho hb; refine hK.out _ _ (fun _ => HB7.out) (fun hHeld => ?_); clear hK K
        (try simp only [pS])
        refine eO 10 rfl rfl fun K hK => ?_; go_simp; go_at_call 50
        (with_reducible refine (rWith_any A1 (n - 1) c1 (delL R.N.L k) k r _ HF7.out.row.1 HF7.out.row.2.1 (by have := HK.out; omega) (by have := HQ.out; omega)).mono ?_)
        rintro e w8 ⟨⟨A0, c0, rfl, ho⟩, hb⟩; have HB8 : Sl (Below w6.heap.size w6 w8) := ⟨HB7.out.trans (hb.mono HB7.out.size)⟩; rw [ins_del_set (by rw [HQ.out.2.1]; exact HK.out), Nat.sub_add_cancel (by have := HK.out; omega)] at ho; rw [Nat.sub_add_cancel (by have := HK.out; omega)]; have HF8 : Sl (FR w8 w7.heap.size A0 n c0 (R.N.L.set k r)) := ⟨ho⟩; clear ho hb; refine hK.out _ _ (fun _ => HB8.out) (fun hHeld => ?_); clear hK K
        (try simp only [pS])
        have hb8 := HB8.out; refine fS 16 (v := .agg #[.slice A0 n c0, .int .i64 (p : Int)]) rfl rfl ?_; simp only [pS]; have HB9 : Sl (Below w.heap.size w w8) := ⟨HBL.out.trans (HB8.out.mono HBL.out.size)⟩; replace HBL := HB9; have HFR : Sl (FR w8 w.heap.size A0 n c0 (R.N.L.set k r)) := ⟨own_low HF8.out (Nat.le_trans HD.out.bl.size HB7.out.size)⟩; have HW : Sl (RQ w8 base o (m.wide w.heap.size w8.heap.size) R ∧ Foot m (m.wide w.heap.size w8.heap.size) w w8) := ⟨H.out.widen (MvP.of_below HBL.out) (fun _ e => e.elim)⟩
        have HOK : Sl (StO.ok w8 (m.wide w.heap.size w8.heap.size).imm ⟨A0, c0, R.N.L.set k r, R.N.p⟩) := ⟨by
          have hlen : (R.N.L.set k r).length = n := (by rw [List.length_set, HQ.out.2.1]); unfold StO.ok; show Dep w8 _ fun w' => TbM w' A0 (R.N.L.set k r).length c0 (R.N.L.set k r)
          rw [hlen]; refine Dep.tb HFR.out (fun i hi => .inr (own_lt2 HFR.out (blkOf_own.1 hi))) (fun y hy => ?_); rcases List.mem_or_eq_of_mem_set hy with hy | rfl
          rotate_left
          · exact (HR.out.go (MvP.of_below HBL.out) (fun _ _ e => e)).more (fun i e => .inl e)
          exact (Dep.tb_all H.out.nw y hy).go (MvP.of_below HBL.out) (fun _ _ e => e) |>.more (fun i e => .inl e)⟩
        have HCE : Sl (Calls Tryz.prog 51 #[ptr q, .agg #[.slice A0 (n) c0, .int .i64 ((p : Int))]] w8 fun en w' => en = .returned (.tuple #[]) ∧ ∃ EA ec, RQ w' base o ((m.wide w.heap.size w8.heap.size).re EA ec) (R.edit ⟨A0, c0, R.N.L.set k r, R.N.p⟩) ∧ Foot (m.wide w.heap.size w8.heap.size) ((m.wide w.heap.size w8.heap.size).re EA ec) w8 w') := ⟨by
          have h := rEdit_any base o (m.wide w.heap.size w8.heap.size) R ⟨A0, c0, R.N.L.set k r, R.N.p⟩ w8 HW.out.1 HOK.out HBD.out.1 HBD.out.2.1; have hlen : (R.N.L.set k r).length = n := (by rw [List.length_set, HQ.out.2.1]); rw [show (m.wide w.heap.size w8.heap.size).q = q from HQ.out.1, show (⟨A0, c0, R.N.L.set k r, R.N.p⟩ : StO).L.length = n from hlen, show (((⟨A0, c0, R.N.L.set k r, R.N.p⟩ : StO).p : Nat) : Int) = (p : Int) by rw [← HQ.out.2.2.1]] at h
          exact h⟩
        clear HOK; refine eO 17 rfl rfl fun K hK => ?_; go_simp; go_at_call 51
        (with_reducible refine (HCE.out).mono ?_)
        rintro en w9 ⟨rfl, EA, ec, h1, h2⟩; have HX : Sl (RedP base o m R 0 LL PP w (.returned (.int .i64 0)) w9) := ⟨⟨rfl, _, _, h1, HW.out.2.trans h2, fun i e => .inl e, by rw [if_pos rfl, RqV.edit_rs, ← HLP.out.1, ← HLP.out.2, ← HQ.out.2.2.1, Int.toNat_natCast]; show R.rs.edit ((R.N.L.set k r).map RgV.v) _ = _; rw [List.map_set]⟩⟩; clear h1 h2 HCE; refine hK.out _ _ (fun h => absurd rfl h) (fun hHeld => ?_); clear hK K
        (try simp only [pS])
        refine wpAnyE_done (by kernel_rfl) ?_ _; clear hHeld hb5; go_wp2_with fail; go_ret; rw [HV.out]; exact HX.out
      · have e1 : (E != 0) = true := (by simp [e0]); have HV : Sl (rrepE o n (k : Int) r = E ∧ E ≠ 0) := ⟨⟨by rw [HE.out], e0⟩⟩; clear e0; go_wp2_with fail; go_ret; rw [HV.out.1]; exact RedP.no HV.out.2 HS.out HBL.out
theorem map_v_get {L K : List RgV} (h : K.map RgV.v = L.map RgV.v) {k : Nat} {x y : RgV} (hx : L[k]? = some x) (hy : K[k]? = some y) : y.l = x.l ∧ y.k = x.k := by
  have h1 : (K.map RgV.v)[k]? = (L.map RgV.v)[k]? := (by rw [h]); rw [List.getElem?_map, List.getElem?_map, hx, hy] at h1; have h2 : y.v = x.v := (by simpa using h1); unfold RgV.v at h2; injection h2 with a b
  exact ⟨a, b⟩
theorem sameF_any (A B : Option Addr) (n c d : Nat) (L K : List RgV) (w : World) (hA : TbM w A n c L) (hB : TbM w B n d K) (he : K.map RgV.v = L.map RgV.v) (hn : n ≤ 100000) (hb : ∀ r ∈ L, r.n ≤ 1000000 ∧ r.m ≤ 1000000) :
    Calls Tryz.prog 26 #[.slice A n c, .slice B n d] w fun e w' => e = .returned (.bool true) ∧ Below w.heap.size w w' := by
  have HA : Sl _ := ⟨hA⟩; have HB : Sl _ := ⟨hB⟩; have HE : Sl _ := ⟨he⟩; have HX : Sl _ := ⟨hb⟩; have HC : Sl (n ≤ c ∧ n ≤ d) := ⟨⟨hA.cap.1, hB.cap.1⟩⟩; have hn5 : (n : Int) ≤ 100000 := (by omega); have hb0 : ((n : Int) != (n : Int)) = false := (by simp); clear hA hB he hb; go_enter Tryz.func26, Tryz.ntmps26; go_wp2_with fail; clear hb0
  go_loopw [5] (fun s5 wr => ∃ (k : Nat), k ≤ n ∧ s5 = .int .i64 k ∧ Sl (Below w.heap.size w wr)) (fun s5 _ => n - (RowKit.intOf s5).toNat)
  case atStart => exact ⟨0, Nat.zero_le _, rfl, ⟨Below.refl _ _⟩⟩
  case round =>
    obtain ⟨k, hk, rfl, HW⟩ := hrel; have hk0 : (0 : Int) ≤ (k : Int) := (by omega)
    by_cases hkn : k < n
    · have hkI : decide ((k : Int) < (n : Int)) = true := decide_eq_true (by omega); have hkI2 : (k : Int) < (n : Int) := (by omega); have HBD : Sl (Below wr.heap.size wr wr.drew) := ⟨below_drewN (Below.refl _ _) 1⟩; obtain ⟨ga, oa, x, ha, hga, hx, x0, x1⟩ := (HA.out.below HW.out).at_ hkn; obtain ⟨gb, ob, y, hbb, hgb, hy, y0, y1⟩ := (HB.out.below HW.out).at_ hkn; have HXM : Sl (RgM wr x ∧ RgM wr y ∧ y.l = x.l ∧ y.k = x.k ∧ x.n ≤ 1000000 ∧ x.m ≤ 1000000) := ⟨⟨(HA.out.all x (List.mem_of_getElem? hx)).below HW.out, (HB.out.all y (List.mem_of_getElem? hy)).below HW.out, (map_v_get HE.out hx hy).1, (map_v_get HE.out hx hy).2, HX.out x (List.mem_of_getElem? hx)⟩⟩
      have HQ : Sl (∀ W, Below wr.heap.size wr W → W.rangeAt ga (oa + k * 2) [.slice x.A x.n x.c, .slice x.B x.m x.d] ∧ W.rangeAt gb (ob + k * 2) [.slice y.A y.n y.c, .slice y.B y.m y.d]) := ⟨fun W hW => ⟨fun j v hj => by
          have hj2 : j < 2 := (List.getElem?_eq_some_iff.1 hj).1; rw [hW.cell (p := ⟨ga, oa + k * 2 + j, none⟩) hga]; rcases j with _ | _ | j
          · injection hj with hj; subst hj; exact x0
          · injection hj with hj; subst hj; exact x1
          · omega, fun j v hj => by
          have hj2 : j < 2 := (List.getElem?_eq_some_iff.1 hj).1; rw [hW.cell (p := ⟨gb, ob + k * 2 + j, none⟩) hgb]; rcases j with _ | _ | j
          · injection hj with hj; subst hj; exact y0
          · injection hj with hj; subst hj; exact y1
          · omega⟩⟩
      have HS : Sl (Calls Tryz.prog 23 #[.agg #[.slice x.A x.n x.c, .slice x.B x.m x.d], .agg #[.slice y.A y.n y.c, .slice y.B y.m y.d]] wr.drew fun e w' => e = .returned (.bool true) ∧ Below wr.drew.heap.size wr.drew w') := ⟨sameR_any x y _ (HXM.out.1.below HBD.out) (HXM.out.2.1.below HBD.out) HXM.out.2.2.1 HXM.out.2.2.2.1 HXM.out.2.2.2.2.1 HXM.out.2.2.2.2.2⟩; have hnc : (n : Int) ≤ (c : Int) := (by have := HC.out; omega); have hnd : (n : Int) ≤ (d : Int) := (by have := HC.out; omega); rw [ha, hbb]; clear ha hbb hx hy x0 x1 y0 y1 hga hgb; have hm := HBD.out
      go_upto_region 6 with fail
      have hm := hm; refine wp_region_held_drew (S := fun w' => Below wr.heap.size wr w') (by kernel_rfl) hm (fun hHeld => ?_); clear hm; refine hM 0 (v := .slice (some ⟨ga, oa, none⟩) n c) rfl rfl ?_; simp only [pS]; refine hM 1 (v := .int .i64 (k : Int)) rfl rfl ?_; simp only [pS]; refine hS 2 (v := .pointer (some ⟨ga, oa + k * 2, none⟩)) rfl rfl ?_; simp only [pS]; refine hL 3 45 (.tmp 19) rfl rfl rfl ga (oa + k * 2) rfl #[.slice x.A x.n x.c, .slice x.B x.m x.d] _ (fun w' h => (HQ.out w' h).1) Tryz.underlying45 rfl ?_; simp only [pS]; refine hM 4 (v := .slice (some ⟨gb, ob, none⟩) n d) rfl rfl ?_; simp only [pS]; refine hM 5 (v := .int .i64 (k : Int)) rfl rfl ?_; simp only [pS]; refine hS 6 (v := .pointer (some ⟨gb, ob + k * 2, none⟩)) rfl rfl ?_; simp only [pS]; refine hL 7 45 (.tmp 23) rfl rfl rfl gb (ob + k * 2) rfl #[.slice y.A y.n y.c, .slice y.B y.m y.d] _ (fun w' h => (HQ.out w' h).2) Tryz.underlying45 rfl ?_; simp only [pS]; refine hO 8 rfl rfl fun K hK => ?_; go_simp; go_at_call 23
      (with_reducible refine (HS.out).mono ?_)
      rintro e w3 ⟨rfl, hb3⟩; have hb3 : Below wr.heap.size wr w3 := HBD.out.trans (hb3.mono HBD.out.size); have HV : Sl (Below w.heap.size w w3) := ⟨HW.out.trans (hb3.mono HW.out.size)⟩; refine hK.out _ _ hb3 (fun hHeld => ?_); clear hK K
      (try simp only [pS])
      refine hS 9 (v := .bool false) rfl rfl ?_; simp only [pS]; refine wpAnyH_done (by kernel_rfl) ?_ _; clear hHeld hm hb3; have hk5 : (k : Int) < 100000 := (by omega); go_wp2_with fail; exact ⟨⟨k + 1, by omega, by go_num, HV⟩, by simp [RowKit.intOf]; omega⟩
    · obtain rfl : k = n := (by omega); have hkI : decide ((k : Int) < (k : Int)) = false := decide_eq_false (by omega); go_wp2_with fail; go_ret; exact ⟨rfl, HW.out⟩
theorem lsame_any (w0 w : World) (oq o : SpO) (m m2 : SqM) (V : SqV RgV) (R : RqV) (h : Duo w0 w oq o m m2 V R) (hL : R.N.L.map RgV.v = V.L.map RgV.v) (hp : R.N.p = V.p) (hn500 : V.L.length ≤ 500) (hb : ∀ r ∈ V.L, r.n ≤ 1000000 ∧ r.m ≤ 1000000) :
    Calls Tryz.prog 14 #[ptr m.q, ptr m2.q] w fun e w' => e = .returned (.bool true) ∧ Below w.heap.size w w' := by
  have H : Sl _ := ⟨h⟩; have HF : Sl _ := ⟨qFrames_any w0.heap.size oq m V w h.q hn500 hb⟩; have hlen : R.N.L.length = V.L.length := (by have := congrArg List.length hL; rwa [List.length_map, List.length_map] at this); obtain ⟨q, hq⟩ : ∃ q, m2.q = q := ⟨_, rfl⟩; obtain ⟨n, hn⟩ : ∃ n, V.L.length = n := ⟨_, rfl⟩; obtain ⟨p, hpp⟩ : ∃ p, V.p = p := ⟨_, rfl⟩; rw [hn, hpp] at HF; have HQ : Sl (m2.q = q ∧ R.N.L.length = n ∧ R.N.p = p ∧ n ≤ 500) := ⟨⟨hq, hlen.trans hn, hp.trans hpp, by omega⟩⟩; have HL : Sl (R.N.L.map RgV.v = V.L.map RgV.v) := ⟨hL⟩; have HBD : Sl _ := ⟨hb⟩; rw [hq]; clear h hb hn500 hL hlen hp hq hn hpp; go_enter Tryz.func14, Tryz.ntmps14; go_wp2_with fail; refine HF.out.mono ?_; rintro e w1 ⟨⟨A, c, L, rfl, hT, hv⟩, hb1⟩; have HT : Sl (TbM w1 A n c L ∧ L.map RgV.v = V.L.map RgV.v ∧ Below w.heap.size w w1) := ⟨⟨hT.now, hv, hb1⟩⟩; clear hT hv hb1 HF; have HS : Sl (RQ w1 w0.heap.size o m2 R) := ⟨(H.out.below HT.out.2.2).r⟩; have c4 : w1.cell? ⟨q, 4, none⟩ = some (.slice R.N.A n R.N.c) := (by rw [← HQ.out.1, ← HQ.out.2.1]; exact HS.out.cell 4 rfl)
  have HSF : Sl (Calls Tryz.prog 26 #[.slice A n c, .slice R.N.A n R.N.c] w1 fun e w' => e = .returned (.bool true) ∧ Below w1.heap.size w1 w') := ⟨by
    have hn := HS.out.nw.now; rw [HQ.out.2.1] at hn; refine sameF_any A R.N.A n c R.N.c L R.N.L w1 HT.out.1 hn (HL.out.trans HT.out.2.1.symm) (by have := HQ.out; omega) (fun r hr => ?_); have hm : r.v ∈ V.L.map RgV.v := (by rw [← HT.out.2.1]; exact List.mem_map.2 ⟨r, hr, rfl⟩); obtain ⟨s, hs, e⟩ := List.mem_map.1 hm; have hb := HBD.out s hs; have h1 := HT.out.1.all r hr; have h2 := (H.out.q.rg s hs).now; unfold RgV.v at e; injection e with e1 e2
    have l1 := h1.s.1; have l2 := h2.s.1; have l3 := h1.c.1; have l4 := h2.c.1; rw [e1] at l2; rw [e2] at l4
    omega⟩
  go_wp2_with fail; refine HSF.out.mono ?_; rintro e w2 ⟨rfl, hb2⟩; have HS2 : Sl (RQ w2 w0.heap.size o m2 R) := ⟨HS.out.below hb2⟩; have HB2 : Sl (Below w.heap.size w w2) := ⟨HT.out.2.2.trans (hb2.mono HT.out.2.2.size)⟩; have c5 : w2.cell? ⟨q, 5, none⟩ = some (.int .i64 (p : Int)) := (by rw [← HQ.out.1, ← HQ.out.2.2.1]; exact HS2.out.cell 5 rfl); clear hb2 c4 HSF; go_wp2_with fail; go_ret; exact ⟨rfl, HB2.out⟩
def RsV.map {α β : Type} (f : α → β) (r : RsV α) : RsV β := ⟨r.L.map f, r.p, r.E.map fun e => (⟨e.1.L.map f, e.1.p⟩, ⟨e.2.L.map f, e.2.p⟩), r.d⟩
theorem RsV.edit_map {α β : Type} (f : α → β) (r : RsV α) (L : List α) (p : Nat) : (r.edit L p).map f = (r.map f).edit (L.map f) p := by
  have h : (trim (r.E.take r.d ++ [((⟨r.L, r.p⟩, ⟨[], 0⟩) : StV α × StV α)])).map (fun e => ((⟨e.1.L.map f, e.1.p⟩, ⟨e.2.L.map f, e.2.p⟩) : StV β × StV β)) = trim ((r.map f).E.take (r.map f).d ++ [(⟨(r.map f).L, (r.map f).p⟩, ⟨[], 0⟩)]) := by
    rw [← trim_map, List.map_append, List.map_take]; rfl
  unfold RsV.edit; rw [← h, List.length_map]; rfl
theorem RsV.undo_map {α β : Type} (f : α → β) (r : RsV α) : r.undo.map f = (r.map f).undo := by
  have h : (r.map f).E[(r.map f).d - 1]? = (r.E[r.d - 1]?).map fun e => (⟨e.1.L.map f, e.1.p⟩, ⟨e.2.L.map f, e.2.p⟩) := by simp [RsV.map]
  cases hx : r.E[r.d - 1]? with
  | none => rw [hx] at h; unfold RsV.undo; rw [hx]; simp only [Option.map_none] at h; rw [h]
  | some x =>
    rw [hx] at h; rw [RsV.undo_at hx, RsV.undo_at h]; simp only [RsV.map, List.map_set]
theorem RsV.redo_map {α β : Type} (f : α → β) (r : RsV α) : r.redo.map f = (r.map f).redo := by
  have h : (r.map f).E[(r.map f).d]? = (r.E[r.d]?).map fun e => (⟨e.1.L.map f, e.1.p⟩, ⟨e.2.L.map f, e.2.p⟩) := by simp [RsV.map]
  cases hx : r.E[r.d]? with
  | none => rw [hx] at h; unfold RsV.redo; rw [hx]; simp only [Option.map_none] at h; rw [h]
  | some x =>
    rw [hx] at h; rw [RsV.redo_at hx, RsV.redo_at h]; simp only [RsV.map]
def Ed.all {α : Type} (P : α → Prop) : Ed α → Prop
  | .ins _ r => P r
  | .rep _ r o => P r ∧ P o
  | .del _ o => P o
theorem Ed.fw_mem {α : Type} {P : α → Prop} {e : Ed α} {L : List α} (he : e.all P) (h : ∀ r ∈ L, P r) : ∀ r ∈ e.fw L, P r := fun r hr => by
  cases e with
  | ins p x =>
    have hr : r ∈ L.take p ++ x :: L.drop p := hr; rcases List.mem_append.1 hr with hr | hr
    · exact h r (List.mem_of_mem_take hr)
    · rcases List.mem_cons.1 hr with rfl | hr
      · exact he
      · exact h r (List.mem_of_mem_drop hr)
  | rep p x o =>
    rcases List.mem_or_eq_of_mem_set (show r ∈ L.set p x from hr) with hr | rfl
    · exact h r hr
    · exact he.1
  | del p o =>
    have hr : r ∈ L.take p ++ L.drop (p + 1) := hr; rcases List.mem_append.1 hr with hr | hr
    · exact h r (List.mem_of_mem_take hr)
    · exact h r (List.mem_of_mem_drop hr)
theorem Ed.bw_mem {α : Type} {P : α → Prop} {e : Ed α} {L : List α} (he : e.all P) (h : ∀ r ∈ L, P r) : ∀ r ∈ e.bw L, P r := fun r hr => by
  cases e with
  | ins p x =>
    have hr : r ∈ L.take p ++ L.drop (p + 1) := hr; rcases List.mem_append.1 hr with hr | hr
    · exact h r (List.mem_of_mem_take hr)
    · exact h r (List.mem_of_mem_drop hr)
  | rep p x o =>
    rcases List.mem_or_eq_of_mem_set (show r ∈ L.set p o from hr) with hr | rfl
    · exact h r hr
    · exact he.2
  | del p o =>
    have hr : r ∈ L.take p ++ o :: L.drop p := hr; rcases List.mem_append.1 hr with hr | hr
    · exact h r (List.mem_of_mem_take hr)
    · rcases List.mem_cons.1 hr with rfl | hr
      · exact he
      · exact h r (List.mem_of_mem_drop hr)
structure Bnd {α : Type} (P : α → Prop) (V : SqV α) : Prop where
  L : ∀ r ∈ V.L, P r
  E : ∀ x ∈ V.E, x.e.all P
theorem Bnd.emp {α : Type} (P : α → Prop) : Bnd P (SqV.emp α) := ⟨fun r h => (by cases h), fun x h => (by cases h)⟩
theorem Bnd.does {α : Type} {P : α → Prop} {V : SqV α} (h : Bnd P V) {e : Ed α} (he : e.all P) (p : Nat) : Bnd P (V.does e p) :=
  ⟨Ed.fw_mem he h.L, fun x hx => by
    rcases List.mem_append.1 (mem_trim hx) with hx | hx
    · exact h.E x (List.mem_of_mem_take hx)
    · rw [List.mem_singleton.1 hx]; exact he⟩
theorem Bnd.undo {α : Type} {P : α → Prop} {V : SqV α} (h : Bnd P V) : Bnd P V.undo := by
  cases hx : V.E[V.d - 1]? with
  | none => unfold SqV.undo; rw [hx]; exact h
  | some x =>
    have hm := h.E x (List.mem_of_getElem? hx); rw [SqV.undo_at hx]; refine ⟨Ed.bw_mem hm h.L, fun y hy => ?_⟩; rcases List.mem_or_eq_of_mem_set hy with hy | rfl
    · exact h.E y hy
    · exact hm
theorem Bnd.redo {α : Type} {P : α → Prop} {V : SqV α} (h : Bnd P V) : Bnd P V.redo := by
  cases hx : V.E[V.d]? with
  | none => unfold SqV.redo; rw [hx]; exact h
  | some x =>
    rw [SqV.redo_at hx]; exact ⟨Ed.fw_mem (h.E x (List.mem_of_getElem? hx)) h.L, h.E⟩
theorem Bnd.pos {α : Type} {P : α → Prop} {V : SqV α} (h : Bnd P V) (p : Nat) : Bnd P { V with p := p } := ⟨h.L, h.E⟩
def smR (r : RgV) : Prop := r.n ≤ 1000000 ∧ r.m ≤ 1000000
structure Pair (w0 w : World) (oq o : SpO) (m m2 : SqM) (V : SqV RgV) (R : RqV) : Prop where
  d : Duo w0 w oq o m m2 V R
  s : ∃ ρ : RsV RgV, Sim V ρ ∧ R.rs = ρ.map RgV.v
  b : Bnd smR V
  im : ∀ i, i < w0.heap.size → m2.imm i
structure Spc (oq o : SpO) : Prop where
  fq : SpF oq
  f : SpF o
  ok : specE o = 0
  n3 : oq.n3 = o.n3
  n4 : oq.n4 = o.n4
theorem Spc.reg {oq o : SpO} (h : Spc oq o) (r : RgV) : regE oq r = regE o r := by unfold regE; rw [h.n3, h.n4]
theorem Spc.bd {oq o : SpO} (h : Spc oq o) : oq.n3 ≤ 1000 ∧ oq.n4 ≤ 1000 := by have := specE_bd h.ok; rw [h.n3, h.n4]; omega
section
variable {w0 w w' : World} {oq o : SpO} {m m2 : SqM} {V : SqV RgV} {R : RqV}
theorem Pair.len (h : Pair w0 w oq o m m2 V R) : R.N.L.length = V.L.length ∧ R.N.p = V.p ∧ R.d = V.d ∧ R.E.length = V.E.length ∧ V.L.length ≤ 500 ∧ V.p ≤ V.L.length ∧ V.d ≤ V.E.length ∧ V.E.length ≤ 100 := by
  obtain ⟨ρ, hs, he⟩ := h.s; have h1 : R.N.L.map RgV.v = ρ.L.map RgV.v := congrArg RsV.L he; have h2 : R.N.p = ρ.p := congrArg RsV.p he; have h3 : R.d = ρ.d := congrArg RsV.d he; have h4 := congrArg (fun r => r.E.length) he; have h5 := congrArg List.length h1; simp only [RqV.rs, RsV.map, List.length_map] at h4 h5; rw [hs.L] at h5; exact ⟨h5, h2.trans hs.p, h3.trans hs.d, h4.trans hs.n, hs.sq.len, hs.ok.1, hs.ok.2.1, hs.ok.2.2⟩
theorem Pair.eqL (h : Pair w0 w oq o m m2 V R) : R.N.L.map RgV.v = V.L.map RgV.v := by
  obtain ⟨ρ, hs, he⟩ := h.s; have h1 : R.N.L.map RgV.v = ρ.L.map RgV.v := congrArg RsV.L he; rw [h1, hs.L]
theorem Pair.below (h : Pair w0 w oq o m m2 V R) (hb : Below w.heap.size w w') : Pair w0 w' oq o m m2 V R := ⟨h.d.below hb, h.s, h.b, h.im⟩
theorem Pair.sqb (h : Pair w0 w oq o m m2 V R) (hc : Spc oq o) : SqB oq V := by have := h.len; have := hc.bd; unfold SqB; omega
theorem Pair.rb (h : Pair w0 w oq o m m2 V R) : R.N.L.length ≤ 500 ∧ R.d ≤ R.E.length ∧ R.E.length ≤ 100 ∧ R.N.p ≤ 500 := by have := h.len; omega
theorem Duo.keep {p : Nat → Prop} (h : Duo w0 w oq o m m2 V R) (hm : MvP p w w') (hq : ∀ i, m.held i → ¬ p i) (hr : ∀ i, m2.held i → ¬ p i) (hp : ∀ i, p i → w0.heap.size ≤ i) : Duo w0 w' oq o m m2 V R :=
  ⟨h.q.keep hm hq, h.r.keep hm hr, h.a, h.b, hm.below h.bl h.bl.size hp⟩
theorem dep_arg {r : RgV} {imm : Nat → Prop} (hr : RgM w0 r) (hi : ∀ i, i < w0.heap.size → imm i) (bl : Below w0.heap.size w0 w) : Dep w imm fun w' => RgM w' r := fun w' hm =>
  hr.below (bl.trans ⟨hm.os, hm.tape, hm.output, hm.size, fun k hk => hm.block k (Nat.lt_of_lt_of_le hk bl.size) (fun e => e (hi k hk))⟩)
end
def PairE (w0 : World) (oq o : SpO) (q r : Nat) (w : World) : Prop := ∃ m m2 V R, Pair w0 w oq o m m2 V R ∧ m.q = q ∧ m2.q = r
def Half (w0 : World) (oq o : SpO) (m m2 : SqM) (f : FuncId) (args : Array Value) (X : World → Prop) (w : World) (en : Ending) (w' : World) : Prop :=
  ∃ (E : Int) (m' : SqM) (V' : SqV RgV) (R : RqV), en = .returned (.int .i64 E) ∧ Foot m m' w w' ∧ Duo w0 w' oq o m' m2 V' R ∧ ∀ W, Duo w0 W oq o m' m2 V' R → X W → Calls Tryz.prog f args W fun en' w'' => en' = .returned (.int .i64 E) ∧ PairE w0 oq o m.q m2.q w'' ∧ Below w0.heap.size w0 w'' ∧ MvP m2.own W w''
section
variable {w0 w : World} {oq o : SpO} {m m2 : SqM} {V : SqV RgV} {R : RqV}
theorem v_eq {r s : RgV} (h : r.v = s.v) : r.l = s.l ∧ r.k = s.k := by
  unfold RgV.v at h; injection h with a b
  exact ⟨a, b⟩
theorem v_of {r s : RgV} (h : r.l = s.l ∧ r.k = s.k) : r.v = s.v := by unfold RgV.v; rw [h.1, h.2]
theorem regE_v {o : SpO} {r s : RgV} (h : r.v = s.v) : regE o r = regE o s := by
  obtain ⟨a, b⟩ := v_eq h; unfold regE; rw [a, b]
theorem sm_of {w : World} {oq : SpO} {r s : RgV} (hr : RgM w r) (hv : s.v = r.v) (he : regE oq s = 0) (h3 : oq.n3 ≤ 1000 ∧ oq.n4 ≤ 1000) : smR r := by
  obtain ⟨a, b⟩ := v_eq hv; obtain ⟨r1, r2⟩ := regE_ok he; have l1 := drwE_len r1; have l2 := drwE_len r2; rw [a] at l1; rw [b] at l2; have e1 := hr.s.1; have e2 := hr.c.1; unfold smR; omega
theorem insL_map {L : List RgV} {k : Nat} {r : RgV} : (insL L k r).map RgV.v = insL (L.map RgV.v) k r.v := (Ed.fw_map RgV.v (.ins k r) L).symm
theorem delL_map {L : List RgV} {k : Nat} : (delL L k).map RgV.v = delL (L.map RgV.v) k := by unfold delL; rw [List.map_append, List.map_take, List.map_drop]
theorem pInsert (h : Pair w0 w oq o m m2 V R) (hc : Spc oq o) (z : Int) (rP r : RgV) (hv : rP.v = r.v) (hP : RgM w rP) :
    Calls Tryz.prog 12 #[ptr m.q, .int .i64 z, .agg #[.slice rP.A rP.n rP.c, .slice rP.B rP.m rP.d]] w
      (Half w0 oq o m m2 13 #[ptr m2.q, .int .i64 z, .agg #[.slice r.A r.n r.c, .slice r.B r.m r.d]] (fun W => Dep W m2.imm fun w' => RgM w' r) w) := by
  obtain ⟨l1, l2, l3, l4, l5, l6, l7, l8⟩ := h.len; refine (qInsert_any w0.heap.size oq m V z rP w h.d.q hc.fq hP (h.sqb hc)).mono fun en w' hh => ?_
  obtain ⟨rfl, m', r', hr', hS, hF⟩ := hh
  have hE : rinsE o R.N.L.length z r = insE oq V z rP := by
    unfold rinsE insE; rw [l1, hc.reg, regE_v hv]
  refine ⟨_, m', _, R, rfl, hF, h.d.stepq hS hF, fun W hW hX => ?_⟩; refine (rInsert_any w0.heap.size o m2 R z r W hW.r hc.f hc.ok hX h.rb.1 h.rb.2).mono fun en' w'' hh2 => ?_
  obtain ⟨rfl, m2', R', hR, hF2, him, hrs⟩ := hh2; have hD := hW.stepr hR hF2; refine ⟨by rw [hE], ⟨m', m2', _, R', ⟨hD, ?_, ?_, fun i hi => him i (h.im i hi)⟩, hF.q, hF2.q⟩, hD.bl, hF2.mv⟩
  · obtain ⟨ρ, hs, he⟩ := h.s; rw [hE] at hrs
    by_cases h0 : insE oq V z rP = 0
    · rw [if_pos h0] at hrs ⊢; have h1 : ¬ (z < 0 ∨ (V.L.length : Int) < z) := fun e => by unfold insE at h0; rw [if_pos e] at h0; cases h0
      have h2 : regE oq rP = 0 := (by unfold insE at h0; rw [if_neg h1] at h0; by_cases e : regE oq rP = 0; exact e; rw [if_pos e] at h0; exact h0); have h3 : ¬ 500 ≤ V.L.length := fun e => by unfold insE at h0; rw [if_neg h1, if_neg (by rw [h2]; exact fun e => e rfl), if_pos e] at h0; cases h0
      have hok : (Ed.ins z.toNat r').ok V.L := ⟨by omega, by omega⟩; refine ⟨_, hs.edit hok ?_, ?_⟩
      · show _ ≤ (insL V.L z.toNat r').length; rw [insL_len hok.1]
        split <;> omega
      · rw [hrs, RsV.edit_map, ← he]; show R.rs.edit (insL (R.N.L.map RgV.v) z.toNat r.v) (posI z R.N.p) = R.rs.edit ((insL V.L z.toNat r').map RgV.v) _; rw [insL_map, h.eqL, v_of hr', hv, l2]; rfl
    · rw [if_neg h0] at hrs ⊢; exact ⟨ρ, hs, hrs.trans he⟩
  · by_cases h0 : insE oq V z rP = 0
    · rw [if_pos h0] at hS ⊢; have h1 : ¬ (z < 0 ∨ (V.L.length : Int) < z) := fun e => by unfold insE at h0; rw [if_pos e] at h0; cases h0
      have h2 : regE oq rP = 0 := (by unfold insE at h0; rw [if_neg h1] at h0; by_cases e : regE oq rP = 0; exact e; rw [if_pos e] at h0; exact h0); refine h.b.does (e := .ins z.toNat r') ?_ _; have hm : r' ∈ (V.does (.ins z.toNat r') (if z < (V.p : Int) then V.p + 1 else V.p)).L := List.mem_append.2 (.inr List.mem_cons_self); exact sm_of (hS.rg r' hm).now (v_of hr').symm h2 hc.bd
    · rw [if_neg h0]; exact h.b
theorem pReplace (h : Pair w0 w oq o m m2 V R) (hc : Spc oq o) (z : Int) (rP r : RgV) (hv : rP.v = r.v) (hP : RgM w rP) :
    Calls Tryz.prog 31 #[ptr m.q, .int .i64 z, .agg #[.slice rP.A rP.n rP.c, .slice rP.B rP.m rP.d]] w
      (Half w0 oq o m m2 72 #[ptr m2.q, .int .i64 z, .agg #[.slice r.A r.n r.c, .slice r.B r.m r.d]] (fun W => Dep W m2.imm fun w' => RgM w' r) w) := by
  obtain ⟨l1, l2, l3, l4, l5, l6, l7, l8⟩ := h.len; refine (qReplace_any w0.heap.size oq m V z rP w h.d.q hc.fq hP (h.sqb hc)).mono fun en w' hh => ?_
  obtain ⟨rfl, m', hS1, hS2, hF⟩ := hh
  have hE : rrepE o R.N.L.length z r = repE oq V z rP := by
    unfold rrepE repE; rw [l1, hc.reg, regE_v hv]
  by_cases h0 : repE oq V z rP = 0
  · obtain ⟨x, r', hx, hr', hS⟩ := hS2 h0; refine ⟨_, m', _, R, rfl, hF, h.d.stepq hS hF, fun W hW hX => ?_⟩; refine (rReplace_any w0.heap.size o m2 R z r W hW.r hc.f hc.ok hX h.rb.1 h.rb.2).mono fun en' w'' hh2 => ?_
    obtain ⟨rfl, m2', R', hR, hF2, him, hrs⟩ := hh2; have hD := hW.stepr hR hF2; have h1 : ¬ (z < 0 ∨ (V.L.length : Int) ≤ z) := fun e => by unfold repE at h0; rw [if_pos e] at h0; cases h0
    have h2 : regE oq rP = 0 := (by unfold repE at h0; rw [if_neg h1] at h0; exact h0); rw [hE, if_pos h0] at hrs; refine ⟨by rw [hE], ⟨m', m2', _, R', ⟨hD, ?_, ?_, fun i hi => him i (h.im i hi)⟩, hF.q, hF2.q⟩, hD.bl, hF2.mv⟩
    · obtain ⟨ρ, hs, he⟩ := h.s; refine ⟨_, hs.edit (e := .rep z.toNat r' x) hx ?_, ?_⟩
      · show _ ≤ (V.L.set z.toNat r').length; rw [List.length_set]; exact l6
      · rw [hrs, RsV.edit_map, ← he]; show _ = R.rs.edit ((V.L.set z.toNat r').map RgV.v) _; rw [List.map_set, h.eqL, v_of hr', hv, l2]
    · refine h.b.does (e := .rep z.toNat r' x) ⟨?_, h.b.L x (List.mem_of_getElem? hx)⟩ _; have hlt := (List.getElem?_eq_some_iff.1 hx).1; have hm : r' ∈ (V.does (.rep z.toNat r' x) V.p).L := List.mem_of_getElem? (List.getElem?_set_self hlt); exact sm_of (hS.rg r' hm).now (v_of hr').symm h2 hc.bd
  · refine ⟨_, m', _, R, rfl, hF, h.d.stepq (hS1 h0) hF, fun W hW hX => ?_⟩; refine (rReplace_any w0.heap.size o m2 R z r W hW.r hc.f hc.ok hX h.rb.1 h.rb.2).mono fun en' w'' hh2 => ?_
    obtain ⟨rfl, m2', R', hR, hF2, him, hrs⟩ := hh2; have hD := hW.stepr hR hF2; rw [hE, if_neg h0] at hrs; obtain ⟨ρ, hs, he⟩ := h.s; exact ⟨by rw [hE], ⟨m', m2', _, R', ⟨hD, ⟨ρ, hs, hrs.trans he⟩, h.b, fun i hi => him i (h.im i hi)⟩, hF.q, hF2.q⟩, hD.bl, hF2.mv⟩
theorem pDelete (h : Pair w0 w oq o m m2 V R) (hc : Spc oq o) (z : Int) :
    Calls Tryz.prog 24 #[ptr m.q, .int .i64 z] w
      (Half w0 oq o m m2 73 #[ptr m2.q, .int .i64 z] (fun _ => True) w) := by
  obtain ⟨l1, l2, l3, l4, l5, l6, l7, l8⟩ := h.len; refine (qDelete_any w0.heap.size oq m V z w h.d.q (h.sqb hc)).mono fun en w' hh => ?_
  obtain ⟨rfl, m', hS1, hS2, hF⟩ := hh
  have hE : rdelE R.N.L.length z = delE V z := by
    unfold rdelE delE; rw [l1]
  by_cases h0 : delE V z = 0
  · obtain ⟨x, hx, hS⟩ := hS2 h0; refine ⟨_, m', _, R, rfl, hF, h.d.stepq hS hF, fun W hW hX => ?_⟩; refine (rDelete_any w0.heap.size o m2 R z W hW.r h.rb.1 h.rb.2).mono fun en' w'' hh2 => ?_
    obtain ⟨rfl, m2', R', hR, hF2, him, hrs⟩ := hh2; have hD := hW.stepr hR hF2; have h1 : ¬ (z < 0 ∨ (V.L.length : Int) ≤ z) := fun e => by unfold delE at h0; rw [if_pos e] at h0; cases h0
    have hlt := (List.getElem?_eq_some_iff.1 hx).1; rw [hE, if_pos h0] at hrs; refine ⟨by rw [hE], ⟨m', m2', _, R', ⟨hD, ?_, ?_, fun i hi => him i (h.im i hi)⟩, hF.q, hF2.q⟩, hD.bl, hF2.mv⟩
    · obtain ⟨ρ, hs, he⟩ := h.s; refine ⟨_, hs.edit (e := .del z.toNat x) hx ?_, ?_⟩
      · show _ ≤ (delL V.L z.toNat).length; rw [delL_len hlt]
        split <;> omega
      · rw [hrs, RsV.edit_map, ← he]; show R.rs.edit (delL (R.N.L.map RgV.v) z.toNat) (posD z R.N.p) = R.rs.edit ((delL V.L z.toNat).map RgV.v) _; rw [delL_map, h.eqL, l2]; rfl
    · exact h.b.does (e := .del z.toNat x) (h.b.L x (List.mem_of_getElem? hx)) _
  · refine ⟨_, m', _, R, rfl, hF, h.d.stepq (hS1 h0) hF, fun W hW hX => ?_⟩; refine (rDelete_any w0.heap.size o m2 R z W hW.r h.rb.1 h.rb.2).mono fun en' w'' hh2 => ?_
    obtain ⟨rfl, m2', R', hR, hF2, him, hrs⟩ := hh2; have hD := hW.stepr hR hF2; rw [hE, if_neg h0] at hrs; obtain ⟨ρ, hs, he⟩ := h.s; exact ⟨by rw [hE], ⟨m', m2', _, R', ⟨hD, ⟨ρ, hs, hrs.trans he⟩, h.b, fun i hi => him i (h.im i hi)⟩, hF.q, hF2.q⟩, hD.bl, hF2.mv⟩
theorem pGo (h : Pair w0 w oq o m m2 V R) (z : Int) :
    Calls Tryz.prog 77 #[ptr m.q, .int .i64 z] w
      (Half w0 oq o m m2 78 #[ptr m2.q, .int .i64 z] (fun _ => True) w) := by
  obtain ⟨l1, l2, l3, l4, l5, l6, l7, l8⟩ := h.len
  by_cases h0 : z < 0 ∨ (V.L.length : Int) < z
  · refine (qGo_no w0.heap.size oq m V z w h.d.q l5 h0).mono fun en w' hh => ?_
    obtain ⟨rfl, rfl⟩ := hh; refine ⟨_, m, V, R, rfl, Foot.refl _ _, h.d, fun W hW hX => ?_⟩; refine (rGo_no w0.heap.size o m2 R z W hW.r h.rb.1 (by rw [l1]; exact h0)).mono fun en' w'' hh2 => ?_
    obtain ⟨rfl, hb⟩ := hh2; exact ⟨rfl, ⟨m, m2, V, R, ⟨hW.below hb, h.s, h.b, h.im⟩, rfl, rfl⟩, (hW.below hb).bl, (MvP.of_below hb).mono fun _ e => e.elim⟩
  · obtain ⟨p, rfl⟩ := Int.eq_ofNat_of_zero_le (show 0 ≤ z by omega); have hp : p ≤ V.L.length := (by omega); refine (qGo_any w0.heap.size oq m V p w h.d.q l5 hp).mono fun en w' hh => ?_
    obtain ⟨rfl, hS, hF⟩ := hh; refine ⟨_, m, _, R, rfl, hF, h.d.stepq hS hF, fun W hW hX => ?_⟩; refine (rGo_any w0.heap.size o m2 R p W hW.r h.rb.1 (by rw [l1]; exact hp)).mono fun en' w'' hh2 => ?_
    obtain ⟨rfl, hR, hF2⟩ := hh2; have hD := hW.stepr hR hF2; refine ⟨rfl, ⟨m, m2, _, _, ⟨hD, ?_, h.b.pos p, h.im⟩, rfl, rfl⟩, hD.bl, hF2.mv⟩; obtain ⟨ρ, hs, he⟩ := h.s; refine ⟨_, hs.pos hp, ?_⟩; have : R.rs = ρ.map RgV.v := he; show ({ R.rs with p := p } : RsV (List Int × List Int)) = { ρ.map RgV.v with p := p }; rw [he]
theorem pUndo (h : Pair w0 w oq o m m2 V R) :
    Calls Tryz.prog 15 #[ptr m.q] w
      (Half w0 oq o m m2 16 #[ptr m2.q] (fun _ => True) w) := by
  obtain ⟨l1, l2, l3, l4, l5, l6, l7, l8⟩ := h.len
  by_cases h0 : V.d = 0
  · refine (qUndo_no w0.heap.size oq m V w h.d.q h0).mono fun en w' hh => ?_
    obtain ⟨rfl, rfl⟩ := hh; refine ⟨_, m, V, R, rfl, Foot.refl _ _, h.d, fun W hW hX => ?_⟩; refine (rUndo_no w0.heap.size o m2 R W hW.r (by rw [l3]; exact h0)).mono fun en' w'' hh2 => ?_
    obtain ⟨rfl, hb⟩ := hh2; exact ⟨rfl, ⟨m, m2, V, R, ⟨hW.below hb, h.s, h.b, h.im⟩, rfl, rfl⟩, (hW.below hb).bl, (MvP.of_below hb).mono fun _ e => e.elim⟩
  · obtain ⟨x, hx⟩ : ∃ x, V.E[V.d - 1]? = some x := ⟨_, List.getElem?_eq_getElem (by omega)⟩; obtain ⟨y, hy⟩ : ∃ y, R.E[R.d - 1]? = some y := ⟨_, List.getElem?_eq_getElem (by omega)⟩; obtain ⟨ρ, hs, he⟩ := h.s; obtain ⟨F, hF, hEE⟩ := hs.chn
    have hko : x.e.ko V.L := by
      obtain ⟨a, b⟩ := hF.ok _ x hx; rw [← hF.now, show V.d = V.d - 1 + 1 by omega, b]; exact Ed.ko_fw a
    refine (qUndo_any w0.heap.size oq m V (V.d - 1) x w h.d.q (by omega) hx (by omega) l5 hko).mono fun en w' hh => ?_
    obtain ⟨rfl, m', hS, hFt⟩ := hh; rw [← SqV.undo_at hx] at hS; refine ⟨_, m', _, R, rfl, hFt, h.d.stepq hS hFt, fun W hW hX => ?_⟩; refine (rUndo_any w0.heap.size o m2 R y W hW.r (by omega) (by omega) hy).mono fun en' w'' hh2 => ?_
    obtain ⟨rfl, hR, hF2⟩ := hh2; have hD := hW.stepr hR hF2; exact ⟨rfl, ⟨m', m2, _, _, ⟨hD, ⟨_, hs.undo h0, by rw [RqV.undo_rs, he, RsV.undo_map]⟩, h.b.undo, h.im⟩, hFt.q, rfl⟩, hD.bl, hF2.mv⟩
theorem pRedo (h : Pair w0 w oq o m m2 V R) :
    Calls Tryz.prog 32 #[ptr m.q] w
      (Half w0 oq o m m2 79 #[ptr m2.q] (fun _ => True) w) := by
  obtain ⟨l1, l2, l3, l4, l5, l6, l7, l8⟩ := h.len
  by_cases h0 : V.d = V.E.length
  · refine (qRedo_no w0.heap.size oq m V w h.d.q h0).mono fun en w' hh => ?_
    obtain ⟨rfl, hb0⟩ := hh; refine ⟨_, m, V, R, rfl, Foot.of_below hb0, h.d.below hb0, fun W hW hX => ?_⟩; refine (rRedo_no w0.heap.size o m2 R W hW.r (by rw [l3, l4]; exact h0)).mono fun en' w'' hh2 => ?_
    obtain ⟨rfl, hb⟩ := hh2; exact ⟨rfl, ⟨m, m2, V, R, ⟨hW.below hb, h.s, h.b, h.im⟩, rfl, rfl⟩, (hW.below hb).bl, (MvP.of_below hb).mono fun _ e => e.elim⟩
  · obtain ⟨x, hx⟩ : ∃ x, V.E[V.d]? = some x := ⟨_, List.getElem?_eq_getElem (by omega)⟩; obtain ⟨y, hy⟩ : ∃ y, R.E[R.d]? = some y := ⟨_, List.getElem?_eq_getElem (by omega)⟩; obtain ⟨ρ, hs, he⟩ := h.s; obtain ⟨F, hF, hEE⟩ := hs.chn
    have hok : x.e.ok V.L := by
      obtain ⟨a, b⟩ := hF.ok _ x hx; rw [← hF.now]; exact a
    refine (qRedo_any w0.heap.size oq m V V.d x w h.d.q rfl hx (by omega) l5 hok).mono fun en w' hh => ?_
    obtain ⟨rfl, m', hS, hFt⟩ := hh; rw [← SqV.redo_at hx] at hS; refine ⟨_, m', _, R, rfl, hFt, h.d.stepq hS hFt, fun W hW hX => ?_⟩; refine (rRedo_any w0.heap.size o m2 R y W hW.r (by omega) hy).mono fun en' w'' hh2 => ?_
    obtain ⟨rfl, hR, hF2⟩ := hh2; have hD := hW.stepr hR hF2; exact ⟨rfl, ⟨m', m2, _, _, ⟨hD, ⟨_, hs.redo h0, by rw [RqV.redo_rs, he, RsV.redo_map]⟩, h.b.redo, h.im⟩, hFt.q, rfl⟩, hD.bl, hF2.mv⟩
def HalfN (w0 : World) (oq o : SpO) (m m2 : SqM) (f : FuncId) (w : World) (en : Ending) (w' : World) : Prop :=
  ∃ (E : Int) (rP : RgV) (m' : SqM) (V' : SqV RgV) (R : RqV), en = .returned (.tuple #[.agg #[.slice rP.A rP.n rP.c, .slice rP.B rP.m rP.d], .int .i64 E]) ∧ smR rP ∧ (Dep w' (fun i => w.heap.size ≤ i) fun W => RgM W rP) ∧ Foot m m' w w' ∧ Duo w0 w' oq o m' m2 V' R ∧
    ∀ W, Duo w0 W oq o m' m2 V' R → (Dep W (fun i => w.heap.size ≤ i) fun W => RgM W rP) → Calls Tryz.prog f #[ptr m2.q] W fun en' w'' => ∃ rR, en' = .returned (.tuple #[.agg #[.slice rR.A rR.n rR.c, .slice rR.B rR.m rR.d], .int .i64 E]) ∧ RgM w'' rR ∧ RgM w'' rP ∧ rR.l = rP.l ∧ rR.k = rP.k ∧ PairE w0 oq o m.q m2.q w'' ∧ Below w0.heap.size w0 w'' ∧ MvP m2.own W w''
theorem rg0_m (w : World) : RgM w ⟨none, 0, 0, [], none, 0, 0, []⟩ := ⟨II.nil _ _, II.nil _ _, ⟨Nat.le_refl _, by show 0 ≤ maxLen; exact Nat.zero_le _⟩, ⟨Nat.le_refl _, by show 0 ≤ maxLen; exact Nat.zero_le _⟩⟩
theorem sm0 : smR ⟨none, 0, 0, [], none, 0, 0, []⟩ := ⟨Nat.zero_le _, Nat.zero_le _⟩
theorem pNext (h : Pair w0 w oq o m m2 V R) :
    Calls Tryz.prog 22 #[ptr m.q] w (HalfN w0 oq o m m2 74 w) := by
  obtain ⟨l1, l2, l3, l4, l5, l6, l7, l8⟩ := h.len
  by_cases h0 : V.p = V.L.length
  · refine (qNext_no w0.heap.size oq m V w h.d.q l5 h0).mono fun en w' hh => ?_
    obtain ⟨rfl, hb0⟩ := hh; refine ⟨4, ⟨none, 0, 0, [], none, 0, 0, []⟩, m, V, R, rfl, sm0, fun _ _ => rg0_m _, Foot.of_below hb0, h.d.below hb0, fun W hW hX => ?_⟩; refine (rNext_no w0.heap.size o m2 R W hW.r h.rb.1 (by omega)).mono fun en' w'' hh2 => ?_
    obtain ⟨rfl, hb⟩ := hh2; exact ⟨⟨none, 0, 0, [], none, 0, 0, []⟩, rfl, rg0_m _, rg0_m _, rfl, rfl, ⟨m, m2, V, R, ⟨hW.below hb, h.s, h.b, h.im⟩, rfl, rfl⟩, (hW.below hb).bl, (MvP.of_below hb).mono fun _ e => e.elim⟩
  · obtain ⟨x, hx⟩ : ∃ x, V.L[V.p]? = some x := ⟨_, List.getElem?_eq_getElem (by omega)⟩; obtain ⟨y, hy⟩ : ∃ y, R.N.L[R.N.p]? = some y := ⟨_, List.getElem?_eq_getElem (by omega)⟩; have hv : y.l = x.l ∧ y.k = x.k := map_v_get h.eqL hx (by rw [← l2]; exact hy); have hsm := h.b.L x (List.mem_of_getElem? hx); refine (qNext_any w0.heap.size oq m V x w h.d.q l5 hx hsm.1 hsm.2).mono fun en w' hh => ?_
    obtain ⟨⟨A, c, B, d, rfl, hM⟩, hS, hF⟩ := hh; refine ⟨0, ⟨A, x.n, c, x.l, B, x.m, d, x.k⟩, m, _, R, rfl, hsm, hM, hF, h.d.stepq hS hF, fun W hW hX => ?_⟩; refine (rNext_any w0.heap.size o m2 R y W hW.r h.rb.1 hy).mono fun en' w'' hh2 => ?_
    obtain ⟨rfl, hR, hF2⟩ := hh2; have hD := hW.stepr hR hF2; have hym : y ∈ (({ R.N with p := R.N.p + 1 } : StO)).L := List.mem_of_getElem? hy; refine ⟨y, rfl, (Dep.tb_all hR.nw y hym).now, ?_, hv.1, hv.2, ⟨m, m2, _, _, ⟨hD, ?_, h.b.pos _, h.im⟩, rfl, rfl⟩, hD.bl, hF2.mv⟩
    · exact (hX.go hF2.mv (fun i hi e => by have := h.d.r.held_lt (.inl e); omega)).now
    · obtain ⟨ρ, hs, he⟩ := h.s; refine ⟨_, hs.pos (p := V.p + 1) (by omega), ?_⟩; show ({ R.rs with p := R.N.p + 1 } : RsV (List Int × List Int)) = { ρ.map RgV.v with p := V.p + 1 }; rw [he, l2]
theorem pBack (h : Pair w0 w oq o m m2 V R) :
    Calls Tryz.prog 75 #[ptr m.q] w (HalfN w0 oq o m m2 76 w) := by
  obtain ⟨l1, l2, l3, l4, l5, l6, l7, l8⟩ := h.len
  by_cases h0 : V.p < 2
  · refine (qBack_no w0.heap.size oq m V w h.d.q h0).mono fun en w' hh => ?_
    obtain ⟨rfl, hb0⟩ := hh; refine ⟨4, ⟨none, 0, 0, [], none, 0, 0, []⟩, m, V, R, rfl, sm0, fun _ _ => rg0_m _, Foot.of_below hb0, h.d.below hb0, fun W hW hX => ?_⟩; refine (rBack_no w0.heap.size o m2 R W hW.r (by omega)).mono fun en' w'' hh2 => ?_
    obtain ⟨rfl, hb⟩ := hh2; exact ⟨⟨none, 0, 0, [], none, 0, 0, []⟩, rfl, rg0_m _, rg0_m _, rfl, rfl, ⟨m, m2, V, R, ⟨hW.below hb, h.s, h.b, h.im⟩, rfl, rfl⟩, (hW.below hb).bl, (MvP.of_below hb).mono fun _ e => e.elim⟩
  · obtain ⟨x, hx⟩ : ∃ x, V.L[V.p - 2]? = some x := ⟨_, List.getElem?_eq_getElem (by omega)⟩; obtain ⟨y, hy⟩ : ∃ y, R.N.L[V.p - 2]? = some y := ⟨_, List.getElem?_eq_getElem (by omega)⟩; have hv : y.l = x.l ∧ y.k = x.k := map_v_get h.eqL hx hy; have hsm := h.b.L x (List.mem_of_getElem? hx); refine (qBack_any w0.heap.size oq m V (V.p - 2) x w h.d.q l5 (by omega) hx hsm.1 hsm.2).mono fun en w' hh => ?_
    obtain ⟨⟨A, c, B, d, rfl, hM⟩, hS, hF⟩ := hh; refine ⟨0, ⟨A, x.n, c, x.l, B, x.m, d, x.k⟩, m, _, R, rfl, hsm, hM, hF, h.d.stepq hS hF, fun W hW hX => ?_⟩; refine (rBack_any w0.heap.size o m2 R (V.p - 2) y W hW.r h.rb.1 (by omega) hy).mono fun en' w'' hh2 => ?_
    obtain ⟨rfl, hR, hF2⟩ := hh2; have hD := hW.stepr hR hF2; have hym : y ∈ (({ R.N with p := R.N.p - 1 } : StO)).L := List.mem_of_getElem? hy; refine ⟨y, rfl, (Dep.tb_all hR.nw y hym).now, ?_, hv.1, hv.2, ⟨m, m2, _, _, ⟨hD, ?_, h.b.pos _, h.im⟩, rfl, rfl⟩, hD.bl, hF2.mv⟩
    · exact (hX.go hF2.mv (fun i hi e => by have := h.d.r.held_lt (.inl e); omega)).now
    · obtain ⟨ρ, hs, he⟩ := h.s; refine ⟨_, hs.pos (p := V.p - 1) (by omega), ?_⟩; show ({ R.rs with p := R.N.p - 1 } : RsV (List Int × List Int)) = { ρ.map RgV.v with p := V.p - 1 }; rw [he, l2]
end
end Go.Proofs.YtabkpbbjodfolaaGreatDoor
