/- Plain law: ratios as whole exponents over a common denominator. No program in sight. Plain law: the fifths and notes of a temperament as exponents over the common denominator of its parts. No program in sight. Plain law: octaves of exponents, notes from 1 to below 2, intervals. No program in sight. Plain law: the notes of the meantone temperament that a call of awake asks for. No program in sight. Plain law: the ratios of whole numbers that chapter 05 names, as exponents. No program in sight. Plain law: a temperament as exponents. No program in sight. Plain law: the steps of fifths, notes and intervals of a temperament. No program in sight. -/
import Derived.Test.YtmcoadmnkelkkaaDoorCenE
import Derived.Test.YtmcoadmnkelkkaaDoorTemI
namespace Go.Proofs.YtmcoadmnkelkkaaDoor
set_option linter.unusedSimpArgs false
set_option linter.unusedVariables false

/-- the ratio in lowest terms of exponents over a denominator -/
def nr (v : Nat → Int) (D : Int) : RV := mkR (RV.of v D)
theorem RV.ext6 {r s : RV} (h : ∀ j, j < 6 → r.num j = s.num j) (hd : r.d = s.d) : r = s := by
  obtain ⟨a0, a1, a2, a3, a4, a5, ad⟩ := r
  obtain ⟨b0, b1, b2, b3, b4, b5, bd⟩ := s
  have h0 := h 0 (by decide)
  have h1 := h 1 (by decide)
  have h2 := h 2 (by decide)
  have h3 := h 3 (by decide)
  have h4 := h 4 (by decide)
  have h5 := h 5 (by decide)
  simp only [RV.num] at h0 h1 h2 h3 h4 h5 hd
  subst h0 h1 h2 h3 h4 h5 hd
  rfl
theorem RV.gcd_scale (r : RV) (c : Int) : ∀ i, i ≤ 6 → (RV.of (fun j => r.num j * c) (r.d * c)).gcd i = r.gcd i * c.natAbs
  | 0, _ => Int.natAbs_mul _ _
  | i+1, hi => by
    show Nat.gcd ((RV.of (fun j => r.num j * c) (r.d * c)).gcd i) ((RV.of (fun j => r.num j * c) (r.d * c)).num i).natAbs = Nat.gcd (r.gcd i) (r.num i).natAbs * c.natAbs
    rw [RV.gcd_scale r c i (by omega), RV.of_num _ _ (by omega), Int.natAbs_mul, Nat.gcd_mul_right]
theorem RV.red_unique {r s : RV} (hr : r.gcd 6 = 1) (hs : s.gcd 6 = 1) (r0 : 1 ≤ r.d) (s0 : 1 ≤ s.d) (h : ∀ j, j < 6 → r.num j * s.d = s.num j * r.d) : r = s := by
  have e1 := RV.gcd_scale r s.d 6 (Nat.le_refl _)
  have e2 := RV.gcd_scale s r.d 6 (Nat.le_refl _)
  rw [RV.of_congr _ h, Int.mul_comm r.d s.d] at e1
  rw [e1, hr, hs] at e2
  have hd : r.d = s.d := by omega
  refine RV.ext6 (fun j hj => ?_) hd
  have := h j hj
  rw [hd] at this
  exact Int.eq_of_mul_eq_mul_right (by omega) this
theorem RV.of_d (f : Nat → Int) (d : Int) : (RV.of f d).d = d := rfl
theorem nr_g (v : Nat → Int) {D : Int} (hD : 1 ≤ D) : ∃ g : Nat, 0 < g ∧ (nr v D).d * (g : Int) = D ∧ ∀ j, j < 6 → (nr v D).num j * (g : Int) = v j := by
  refine ⟨(RV.of v D).gcd 6, (RV.gcd_pos (by exact hD) 6).1, mkR_dg _, fun j hj => ?_⟩
  unfold nr
  rw [mkR_numg _ hj, RV.of_num _ _ hj]
theorem mkR_cross {R S : RV} (hR : 1 ≤ R.d) (hS : 1 ≤ S.d) (h : ∀ j, j < 6 → R.num j * S.d = S.num j * R.d) : mkR R = mkR S := by
  refine RV.red_unique (mkR_one R hR) (mkR_one S hS) (mkR_pos R hR) (mkR_pos S hS) fun j hj => ?_
  have h1 := mkR_numg R hj
  have h2 := mkR_numg S hj
  have h3 := mkR_dg R
  have h4 := mkR_dg S
  have p1 := (RV.gcd_pos hR 6).1
  have p2 := (RV.gcd_pos hS 6).1
  have h5 := h j hj
  rw [← h1, ← h2, ← h3, ← h4] at h5
  generalize (mkR R).num j = a at *
  generalize (mkR S).num j = b at *
  generalize (mkR R).d = c at *
  generalize (mkR S).d = d at *
  have hp : (0 : Int) < ((R.gcd 6 : Nat) : Int) * ((S.gcd 6 : Nat) : Int) := Int.mul_pos (by omega) (by omega)
  generalize ((R.gcd 6 : Nat) : Int) = x at *
  generalize ((S.gcd 6 : Nat) : Int) = y at *
  refine Int.eq_of_mul_eq_mul_right (a := x * y) (by omega) ?_
  grind
theorem nr_cross {u v : Nat → Int} {D E : Int} (hD : 1 ≤ D) (hE : 1 ≤ E) (h : ∀ j, j < 6 → u j * E = v j * D) : nr u D = nr v E :=
  mkR_cross hD hE fun j hj => by rw [RV.of_num _ _ hj, RV.of_num _ _ hj]; exact h j hj
theorem nr_congr {u v : Nat → Int} {D : Int} (h : ∀ j, j < 6 → u j = v j) : nr u D = nr v D := by unfold nr; rw [RV.of_congr D h]
theorem nr_inj {u v : Nat → Int} {D : Int} (hD : 1 ≤ D) (h : nr u D = nr v D) : ∀ j, j < 6 → u j = v j := by
  obtain ⟨g, hg, h1, h2⟩ := nr_g u hD
  obtain ⟨g', hg', h3, h4⟩ := nr_g v hD
  intro j hj
  have h5 := h2 j hj
  have h6 := h4 j hj
  rw [h] at h1 h5
  have hp : 1 ≤ (nr v D).d := mkR_pos _ hD
  have : (g : Int) = (g' : Int) := by
    have := h1.trans h3.symm
    exact Int.eq_of_mul_eq_mul_left (by omega) this
  rw [← h5, ← h6, this]
/-- Bounds in which a ratio of exponents is valid -/
def fitsV (v : Nat → Int) (D : Int) : Prop := (1 ≤ D ∧ D ≤ 1000) ∧ ∀ j, j < 6 → -100000 ≤ v j ∧ v j ≤ 100000
theorem nr_ok {v : Nat → Int} {D : Int} (h : fitsV v D) : checkS (nr v D) = 0 := by
  obtain ⟨⟨h1, h2⟩, h3⟩ := h
  obtain ⟨g, hg, e1, e2⟩ := nr_g v h1
  have hp : 1 ≤ (nr v D).d := mkR_pos _ h1
  have hg1 : (1 : Int) ≤ (g : Int) := by omega
  unfold checkS
  rw [if_neg, if_pos, if_pos]
  · exact mkR_one _ h1
  · intro j hj
    have h4 := e2 j hj
    have h5 := h3 j hj
    have h6 : ((nr v D).num j).natAbs * g = (v j).natAbs := by rw [← h4, Int.natAbs_mul]; rfl
    have h7 : ((nr v D).num j).natAbs ≤ (v j).natAbs := by rw [← h6]; exact Nat.le_mul_of_pos_right _ hg
    unfold inR
    omega
  · have h4 : (nr v D).d * 1 ≤ (nr v D).d * (g : Int) := Int.mul_le_mul_of_nonneg_left hg1 (by omega)
    omega
theorem made_nr {R : RV} {v : Nat → Int} {D : Int} (h : fitsV v D) (hR : 1 ≤ R.d) (hc : ∀ j, j < 6 → R.num j * D = v j * R.d) : madeS R = (nr v D, 0) := by
  have e : mkR R = nr v D := mkR_cross hR h.1.1 fun j hj => by rw [RV.of_num _ _ hj]; exact hc j hj
  have := (madeS_check R hR).1 (by rw [e]; exact nr_ok h)
  rw [this, e]
theorem of_nr {r : RV} (h : checkS r = 0) : r = nr r.num r.d := by
  obtain ⟨h1, _, h2⟩ := checkS_ok h
  have e : RV.of r.num r.d = r := RV.ext6 (fun j hj => RV.of_num _ _ hj) rfl
  unfold nr
  rw [e]
  have h3 := mkR_one r h1.1
  exact RV.red_unique h2 h3 h1.1 (mkR_pos r h1.1) fun j hj => by
    have e1 := mkR_numg r hj
    have e2 := mkR_dg r
    rw [h2] at e1 e2
    rw [show ((1 : Nat) : Int) = 1 by rfl, Int.mul_one] at e1 e2
    rw [e1, e2]
theorem join_nr {u v z : Nat → Int} {D s : Int} (hu : fitsV u D) (hv : fitsV v D) (hz : fitsV z D) (he : ∀ j, j < 6 → z j = u j + s * v j) : joinS (nr u D) (nr v D) s = (nr z D, 0) := by
  unfold joinS
  rw [if_pos (by unfold firstE; rw [if_pos (nr_ok hu), nr_ok hv])]
  obtain ⟨g, hg, a1, a2⟩ := nr_g u hu.1.1
  obtain ⟨g', hg', b1, b2⟩ := nr_g v hv.1.1
  have p1 : 1 ≤ (nr u D).d := mkR_pos _ hu.1.1
  have p2 : 1 ≤ (nr v D).d := mkR_pos _ hv.1.1
  refine made_nr hz ?_ fun j hj => ?_
  · have := Int.mul_le_mul p1 p2 (by decide) (by omega : (0 : Int) ≤ (nr u D).d)
    show 1 ≤ (nr u D).d * (nr v D).d
    omega
  · unfold joinR
    rw [RV.of_num _ _ hj, RV.of_d, he j hj, ← a2 j hj, ← b2 j hj]
    generalize (nr u D).num j = x at *
    generalize (nr v D).num j = y at *
    generalize (nr u D).d = c at *
    generalize (nr v D).d = d at *
    generalize (g : Int) = m at *
    generalize (g' : Int) = n at *
    rw [Int.add_mul, Int.add_mul]
    have e1 : x * d * D = x * m * (c * d) := by rw [← a1]; grind
    have e2 : s * y * c * D = s * (y * n) * (c * d) := by rw [← b1]; grind
    rw [e1, e2]
theorem pow_nr {c z : Nat → Int} {n d D m : Int} (hc : fitsV c 1) (hz : fitsV z D) (hn : -1000 ≤ n ∧ n ≤ 1000) (hd : 1 ≤ d ∧ d ≤ 1000) (hD : D = d * m) (he : ∀ j, j < 6 → z j = c j * n * m) : powS (nr c 1) n d = (nr z D, 0) := by
  unfold powS
  rw [if_pos (nr_ok hc), if_pos ⟨hn, ⟨by omega, hd.2⟩, by omega⟩]
  obtain ⟨g, hg, a1, a2⟩ := nr_g c hc.1.1
  have p1 : 1 ≤ (nr c 1).d := mkR_pos _ hc.1.1
  unfold powR
  rw [if_neg (by omega), if_neg (by omega)]
  refine made_nr hz ?_ fun j hj => ?_
  · show 1 ≤ (nr c 1).d * d
    have := Int.mul_le_mul p1 hd.1 (by decide) (by omega : (0 : Int) ≤ (nr c 1).d)
    omega
  · rw [RV.of_num _ _ hj, RV.of_d, he j hj, ← a2 j hj, hD]
    generalize (nr c 1).num j = x at *
    generalize (nr c 1).d = y at *
    generalize (g : Int) = w at *
    have : x * w * n * m * (y * d) = x * n * m * d * (y * w) := by grind
    rw [this, a1]
    grind
theorem fold_nr {u z : Nat → Int} {D k : Int} (hu : fitsV u D) (hz : fitsV z D) (he : ∀ j, j < 6 → z j = if j = 0 then u j - k * D else u j) : foldS (nr u D) k = (nr z D, k, 0) := by
  obtain ⟨g, hg, a1, a2⟩ := nr_g u hu.1.1
  have p1 : 1 ≤ (nr u D).d := mkR_pos _ hu.1.1
  have hm : madeS (foldR (nr u D) k) = (nr z D, 0) := by
    refine made_nr hz p1 fun j hj => ?_
    unfold foldR
    rw [RV.of_num _ _ hj, RV.of_d, he j hj]
    generalize hx : (if j = 0 then u j - k * D else u j) = a
    have : (if j = 0 then (nr u D).num j - k * (nr u D).d else (nr u D).num j) * (g : Int) = a := by
      rw [← hx]
      split
      · rw [Int.sub_mul, a2 j hj, Int.mul_assoc, a1]
      · exact a2 j hj
    generalize (if j = 0 then (nr u D).num j - k * (nr u D).d else (nr u D).num j) = b at *
    rw [← this, ← a1]
    grind
  rw [foldS_ok (nr_ok hu) (by rw [hm]), hm]
theorem TT_nr {u : Nat → Int} {D x : Int} (s : Int) (hD : 1 ≤ D) : TT (x * (nr u D).d) (fun j => (nr u D).num j * s) ↔ TT (x * D) (fun j => u j * s) := by
  obtain ⟨g, hg, a1, a2⟩ := nr_g u hD
  have e : ∀ j, j < 6 → (nr u D).num j * s * (g : Int) = u j * s := fun j hj => by rw [Int.mul_right_comm, a2 j hj]
  constructor
  · intro h
    exact (h.scale g).cast (by rw [Int.mul_assoc, a1]) e
  · intro h
    exact TT.unscale hg (h.cast (by rw [Int.mul_assoc, a1]) fun j hj => (e j hj).symm)
theorem SS_nr {u : Nat → Int} {D x : Int} (s : Int) (hD : 1 ≤ D) : SS (x * (nr u D).d) (fun j => (nr u D).num j * s) ↔ SS (x * D) (fun j => u j * s) := by
  rw [← not_TT, ← not_TT, TT_nr s hD]
end Go.Proofs.YtmcoadmnkelkkaaDoor
namespace Go.Proofs.YtmcoadmnkelkkaaDoor
set_option linter.unusedSimpArgs false
set_option linter.unusedVariables false

/-- a power of 2 as exponents -/
def oct (x : Int) (j : Nat) : Int := if j = 0 then x else 0
/-- the comma -/
def cmv (syn : Bool) (j : Nat) : Int :=
  if syn then (if j = 0 then -4 else if j = 1 then 4 else if j = 2 then -1 else 0) else (if j = 0 then -19 else if j = 1 then 12 else 0)
/-- 3/2 -/
def b32 (j : Nat) : Int := if j = 0 then -1 else if j = 1 then 1 else 0
def bd (j : Nat) : Int := if j = 0 then 39 else if j = 1 then 25 else if j = 2 then 2 else 0
/-- a temperament: of which comma, the wolf, the common denominator, the parts over it -/
structure TP where
  syn : Bool
  w : Nat
  D : Int
  e : Nat → Int
structure TP.Ok (t : TP) : Prop where
  hw : t.w < 12
  hD : 1 ≤ t.D ∧ t.D ≤ 120
  he : ∀ k, k < 12 → -(2 * t.D) ≤ t.e k ∧ t.e k ≤ 2 * t.D
/-- the fifths, but for the wolf -/
def TP.g (t : TP) (k j : Nat) : Int := if k = t.w then 0 else t.D * b32 j - t.e k * cmv t.syn j
def TP.G (t : TP) : Nat → Nat → Int
  | 0, _ => 0
  | n+1, j => t.G n j + t.g n j
theorem TP.Ok.g_bd {t : TP} (h : t.Ok) {k : Nat} (hk : k < 12) (j : Nat) : -(bd j * t.D) ≤ t.g k j ∧ t.g k j ≤ bd j * t.D := by
  obtain ⟨d1, d2⟩ := h.hD
  obtain ⟨e1, e2⟩ := h.he k hk
  unfold TP.g
  by_cases hw : k = t.w
  · rw [if_pos hw]
    unfold bd
    split
    · omega
    · split
      · omega
      · split <;> omega
  · rw [if_neg hw]
    unfold b32 cmv bd
    by_cases h0 : j = 0
    · rw [if_pos h0, if_pos h0, if_pos h0, if_pos h0]
      split <;> omega
    · by_cases h1 : j = 1
      · rw [if_neg h0, if_pos h1, if_neg h0, if_pos h1, if_neg h0, if_pos h1, if_neg h0, if_pos h1]
        split <;> omega
      · rw [if_neg h0, if_neg h1, if_neg h0, if_neg h1, if_neg h0, if_neg h1, if_neg h0, if_neg h1]
        split
        · split <;> omega
        · split <;> omega
theorem TP.Ok.G_bd {t : TP} (h : t.Ok) (j m : Nat) : ∀ d : Nat, m + d ≤ 12 → -((d : Int) * (bd j * t.D)) ≤ t.G (m + d) j - t.G m j ∧ t.G (m + d) j - t.G m j ≤ (d : Int) * (bd j * t.D)
  | 0, _ => by
    rw [Nat.add_zero]
    omega
  | d+1, hd => by
    have ih := TP.Ok.G_bd h j m d (by omega)
    have hg := h.g_bd (k := m + d) (by omega) j
    rw [← Nat.add_assoc, TP.G, show ((d + 1 : Nat) : Int) = (d : Int) + 1 by omega, Int.add_mul, Int.one_mul]
    generalize (d : Int) * (bd j * t.D) = x at *
    omega
theorem bd_nonneg (j : Nat) {D : Int} (hD : 1 ≤ D) : 0 ≤ bd j * D := by
  unfold bd
  split
  · omega
  · split
    · omega
    · split <;> omega
theorem TP.Ok.G_le {t : TP} (h : t.Ok) (j : Nat) {m n : Nat} (hmn : m ≤ n) (hn : n ≤ 12) : -(((n - m : Nat) : Int) * (bd j * t.D)) ≤ t.G n j - t.G m j ∧ t.G n j - t.G m j ≤ ((n - m : Nat) : Int) * (bd j * t.D) := by
  have := h.G_bd j m (n - m) (by omega)
  rwa [show m + (n - m) = n by omega] at this
/-- the first notes' fifths, up from the first one -/
def TP.S (t : TP) (n j : Nat) : Int := if n ≤ t.w then t.G n j else oct (7 * t.D) j - (t.G 12 j - t.G n j)
/-- what is left of seven octaves -/
def TP.rv (t : TP) (n j : Nat) : Int := oct (7 * t.D) j - t.G n j
/-- the fifths -/
def TP.f (t : TP) (k j : Nat) : Int := if k = t.w then t.rv 12 j else t.g k j
theorem TP.S_zero (t : TP) (j : Nat) : t.S 0 j = 0 := by unfold TP.S; rw [if_pos (Nat.zero_le _)]; rfl
theorem TP.S_succ (t : TP) (n j : Nat) : t.S (n + 1) j = t.S n j + t.f n j := by
  unfold TP.S TP.f TP.rv
  have hg : t.G (n + 1) j = t.G n j + t.g n j := rfl
  rcases Nat.lt_trichotomy n t.w with h | h | h
  · rw [if_pos (by omega), if_pos (by omega), if_neg (by omega), hg]
  · have : t.g n j = 0 := by unfold TP.g; rw [if_pos h]
    rw [if_neg (by omega), if_pos (by omega), if_pos h, hg, this]
    omega
  · rw [if_neg (by omega), if_neg (by omega), if_neg (by omega), hg]
    omega
theorem TP.Ok.S_last {t : TP} (h : t.Ok) (j : Nat) : t.S 12 j = oct (7 * t.D) j := by
  unfold TP.S
  rw [if_neg (by have := h.hw; omega)]
  omega
theorem TP.Ok.diff {t : TP} (h : t.Ok) {a b : Nat} (ha : a ≤ 12) (hb : b ≤ 12) (j : Nat) : -(12 * (bd j * t.D) + oct (7 * t.D) j) ≤ t.S a j - t.S b j ∧ t.S a j - t.S b j ≤ 12 * (bd j * t.D) + oct (7 * t.D) j := by
  have hD := h.hD
  have hn := bd_nonneg j hD.1
  have ho : 0 ≤ oct (7 * t.D) j := by unfold oct; split <;> omega
  have mul : ∀ n : Nat, n ≤ 12 → ((n : Int) * (bd j * t.D) ≤ 12 * (bd j * t.D)) := fun n h => Int.mul_le_mul_of_nonneg_right (by omega) hn
  unfold TP.S
  by_cases h1 : a ≤ t.w
  · by_cases h2 : b ≤ t.w
    · rw [if_pos h1, if_pos h2]
      rcases Nat.le_total a b with h3 | h3
      · have := h.G_le j h3 hb; have := mul (b - a) (by omega); omega
      · have := h.G_le j h3 ha; have := mul (a - b) (by omega); omega
    · rw [if_pos h1, if_neg h2]
      have h3 := h.G_le j (m := 0) (n := a) (Nat.zero_le _) ha
      have h4 := h.G_le j (m := b) (n := 12) hb (Nat.le_refl _)
      have h5 := mul (a + (12 - b)) (by omega)
      rw [show ((a + (12 - b) : Nat) : Int) = (a : Int) + ((12 - b : Nat) : Int) by omega, Int.add_mul] at h5
      rw [show t.G 0 j = 0 from rfl, Nat.sub_zero] at h3
      generalize (a : Int) * (bd j * t.D) = x at *
      generalize ((12 - b : Nat) : Int) * (bd j * t.D) = y at *
      omega
  · by_cases h2 : b ≤ t.w
    · rw [if_neg h1, if_pos h2]
      have h3 := h.G_le j (m := 0) (n := b) (Nat.zero_le _) hb
      have h4 := h.G_le j (m := a) (n := 12) ha (Nat.le_refl _)
      have h5 := mul (b + (12 - a)) (by omega)
      rw [show ((b + (12 - a) : Nat) : Int) = (b : Int) + ((12 - a : Nat) : Int) by omega, Int.add_mul] at h5
      rw [show t.G 0 j = 0 from rfl, Nat.sub_zero] at h3
      generalize (b : Int) * (bd j * t.D) = x at *
      generalize ((12 - a : Nat) : Int) * (bd j * t.D) = y at *
      omega
    · rw [if_neg h1, if_neg h2]
      rcases Nat.le_total a b with h3 | h3
      · have := h.G_le j h3 hb; have := mul (b - a) (by omega); omega
      · have := h.G_le j h3 ha; have := mul (a - b) (by omega); omega
/-- exponents within these bounds -/
def small (z : Nat → Int) (D : Int) : Prop := ∀ j, -(12 * (bd j * D) + oct (7 * D) j) ≤ z j ∧ z j ≤ 12 * (bd j * D) + oct (7 * D) j
theorem small.fits {z : Nat → Int} {D : Int} (hD : 1 ≤ D ∧ D ≤ 120) (h : small z D) : fitsV z D := by
  refine ⟨⟨hD.1, by omega⟩, fun j _ => ?_⟩
  have := h j
  unfold bd oct at this
  split at this
  · omega
  · split at this
    · omega
    · split at this <;> omega
theorem TP.Ok.S_small {t : TP} (h : t.Ok) {n : Nat} (hn : n ≤ 12) : small (t.S n) t.D := fun j => by
  have := h.diff hn (Nat.zero_le 12) j
  rwa [t.S_zero, Int.sub_zero] at this
theorem TP.Ok.f_small {t : TP} (h : t.Ok) {n : Nat} (hn : n < 12) : small (t.f n) t.D := fun j => by
  have := h.diff (a := n + 1) (b := n) (by omega) (by omega) j
  rwa [t.S_succ, show t.S n j + t.f n j - t.S n j = t.f n j by omega] at this
theorem TP.Ok.rv_small {t : TP} (h : t.Ok) {n : Nat} (hn : n ≤ 12) : small (t.rv n) t.D := fun j => by
  have h3 := h.G_le j (m := 0) (n := n) (Nat.zero_le _) hn
  have hnn := bd_nonneg j h.hD.1
  have h5 : (n : Int) * (bd j * t.D) ≤ 12 * (bd j * t.D) := Int.mul_le_mul_of_nonneg_right (by omega) hnn
  have ho : 0 ≤ oct (7 * t.D) j := by unfold oct; (have := h.hD; split <;> omega)
  rw [show t.G 0 j = 0 from rfl, Nat.sub_zero] at h3
  unfold TP.rv
  generalize (n : Int) * (bd j * t.D) = x at *
  omega
end Go.Proofs.YtmcoadmnkelkkaaDoor
namespace Go.Proofs.YtmcoadmnkelkkaaDoor
set_option linter.unusedSimpArgs false
set_option linter.unusedVariables false

theorem TT.mono {x y : Int} {f : Nat → Int} (h : TT y f) (hxy : x ≤ y) : TT x f := Rat.le_trans (two_le hxy) h
theorem SS.mono {x y : Int} {f : Nat → Int} (h : SS x f) (hxy : x ≤ y) : SS y f := rlt_of_le h (two_le hxy)
theorem find_floor (D : Int) (u : Nat → Int) : ∀ n : Nat, ∀ a : Int, TT (a * D) u → SS ((a + n) * D) u → ∃ k, TT (k * D) u ∧ SS ((k + 1) * D) u
  | 0, a, h1, h2 => by
    rw [show a + ((0 : Nat) : Int) = a by omega] at h2
    exact absurd h1 (not_TT.2 h2)
  | n+1, a, h1, h2 => by
    by_cases h3 : SS ((a + 1) * D) u
    · exact ⟨a, h1, h3⟩
    · exact find_floor D u n (a + 1) (not_SS.1 h3) (by rwa [show a + 1 + (n : Int) = a + ((n + 1 : Nat) : Int) by omega])
theorem floor_ex {u : Nat → Int} {D : Int} (h : fitsV u D) : ∃ k, TT (k * D) u ∧ SS ((k + 1) * D) u := by
  have hD := h.1
  have lo : TT (-2400000 * D) u := by
    refine TT.mono (y := -2400000) ?_ (by omega)
    refine not_SS.1 fun hs => ?_
    have := hs.small (fun j hj => (h.2 j hj).1)
    omega
  have hi : SS (2400001 * D) u := by
    refine SS.mono (x := 2400001) ?_ (by omega)
    refine not_TT.1 fun ht => ?_
    have := ht.small (fun j hj => (h.2 j hj).2)
    omega
  exact find_floor D u 4800001 (-2400000) lo (by rwa [show (-2400000 : Int) + ((4800001 : Nat) : Int) = 2400001 by decide])
open Classical in
/-- the octaves in exponents -/
noncomputable def flo (u : Nat → Int) (D : Int) : Int := if h : ∃ k, TT (k * D) u ∧ SS ((k + 1) * D) u then Classical.choose h else 0
theorem flo_spec {u : Nat → Int} {D : Int} (h : fitsV u D) : TT (flo u D * D) u ∧ SS ((flo u D + 1) * D) u := by
  have he := floor_ex h
  unfold flo
  rw [dif_pos he]
  exact Classical.choose_spec he
theorem flo_eq {u : Nat → Int} {D k : Int} (hD : 1 ≤ D) (h1 : TT (k * D) u) (h2 : SS ((k + 1) * D) u) : flo u D = k := by
  have he : ∃ k, TT (k * D) u ∧ SS ((k + 1) * D) u := ⟨k, h1, h2⟩
  unfold flo
  rw [dif_pos he]
  obtain ⟨h3, h4⟩ := Classical.choose_spec he
  have l1 := lt_of_mul_lt hD (h1.lt h4)
  have l2 := lt_of_mul_lt hD (h3.lt h2)
  omega
theorem flo_congr {u v : Nat → Int} {D : Int} (hu : fitsV u D) (h : ∀ j, j < 6 → u j = v j) : flo v D = flo u D := by
  obtain ⟨h1, h2⟩ := flo_spec hu
  exact flo_eq hu.1.1 (h1.congr h) (h2.congr h)
theorem prime_bits {i b : Nat} (hi : i < 6) (hb : prime i ≤ 2 ^ b) (k : Int) (K : Nat) (hk : k ≤ K) : ((prime i : Nat) : Rat) ^ k ≤ 2 ^ ((b * K : Nat) : Int) := by
  have hp := prime_two hi
  rcases Int.lt_or_le k 0 with h | h
  · obtain ⟨n, rfl⟩ : ∃ n : Nat, k = -(n : Int) := ⟨k.natAbs, by omega⟩
    have hne : ((prime i : Nat) : Rat) ≠ 0 := Rat.ne_of_gt (prime_pos hi)
    have e : ((prime i : Nat) : Rat) ^ (-(n : Int)) * ((prime i : Nat) : Rat) ^ (n : Int) = 1 := by rw [← Rat.zpow_add hne, show -(n : Int) + (n : Int) = 0 by omega, Rat.zpow_zero]
    have h1 : (1 : Rat) ≤ ((prime i : Nat) : Rat) ^ (n : Int) := by
      rw [Rat.zpow_natCast, ← Rat.natCast_pow]
      have : 1 ≤ prime i ^ n := Nat.pow_pos (by omega)
      exact Rat.natCast_le_natCast.2 this
    have h2 : ((prime i : Nat) : Rat) ^ (-(n : Int)) ≤ 1 := by
      have := Rat.mul_le_mul_of_nonneg_left h1 (Rat.le_of_lt (Rat.zpow_pos (n := -(n : Int)) (prime_pos hi)))
      rwa [Rat.mul_one, e] at this
    refine Rat.le_trans h2 ?_
    have := two_le (x := 0) (y := ((b * K : Nat) : Int)) (by omega)
    rwa [Rat.zpow_zero] at this
  · obtain ⟨n, rfl⟩ := Int.eq_ofNat_of_zero_le h
    have h1 : prime i ^ n ≤ 2 ^ (b * K) := by
      refine Nat.le_trans (Nat.pow_le_pow_left hb n) ?_
      rw [← Nat.pow_mul]
      exact Nat.pow_le_pow_right (by decide) (Nat.mul_le_mul_left b (by omega))
    rw [Rat.zpow_natCast, ← Rat.natCast_pow, Rat.zpow_natCast]
    have := Rat.natCast_le_natCast.2 h1
    rwa [Rat.natCast_pow 2] at this
theorem pv_bits {f : Nat → Int} {A B : Nat} (h1 : f 1 ≤ A) (h2 : f 2 ≤ B) (h0 : f 0 = 0) (h3 : f 3 = 0) (h4 : f 4 = 0) (h5 : f 5 = 0) : SS ((2 * A + 3 * B + 1 : Nat) : Int) f := by
  have e1 := prime_bits (i := 1) (b := 2) (by decide) (by decide) (f 1) A h1
  have e2 := prime_bits (i := 2) (b := 3) (by decide) (by decide) (f 2) B h2
  have hp : pv f 6 = ((prime 1 : Nat) : Rat) ^ (f 1) * ((prime 2 : Nat) : Rat) ^ (f 2) := by
    simp only [pv]
    rw [h0, h3, h4, h5, Rat.zpow_zero, Rat.zpow_zero, Rat.zpow_zero, Rat.zpow_zero, Rat.mul_one, Rat.mul_one, Rat.mul_one, Rat.mul_one, Rat.one_mul]
  unfold SS
  rw [hp]
  have h := rmul_le e1 e2 (Rat.zpow_pos (prime_pos (by decide))) (Rat.zpow_pos two_pos)
  refine rlt_of_lt h ?_
  rw [← Rat.zpow_add two_ne]
  exact two_lt (by omega)
theorem oct_is (x : Int) : QQ x (oct x) := oct_QQ x
/-- exponents of a value near 1 -/
structure tame (z : Nat → Int) (x : Int) : Prop where
  h1 : -37000 ≤ z 1 ∧ z 1 ≤ 37000
  h2 : -3500 ≤ z 2 ∧ z 2 ≤ 3500
  h3 : z 3 = 0 ∧ z 4 = 0 ∧ z 5 = 0
  lo : TT (-x) z
  hi : SS x z
theorem tame.fits {z : Nat → Int} {x D : Int} (h : tame z x) (hD : 1 ≤ D ∧ D ≤ 1000) (hx : x ≤ 2000) : fitsV z D := by
  obtain ⟨h1, h2, ⟨h3, h4, h5⟩, lo, hi⟩ := h
  obtain ⟨y, hy⟩ : ∃ y : Nat → Int, y = fun j => if j = 0 then 0 else z j := ⟨_, rfl⟩
  have y1 : SS ((2 * 37000 + 3 * 3500 + 1 : Nat) : Int) y := by
    subst hy
    exact pv_bits (A := 37000) (B := 3500) h1.2 h2.2 rfl h3 h4 h5
  have y2 : SS ((2 * 37000 + 3 * 3500 + 1 : Nat) : Int) (fun j => -y j) := by
    subst hy
    refine pv_bits (A := 37000) (B := 3500) ?_ ?_ rfl ?_ ?_ ?_
    · show -z 1 ≤ _; omega
    · show -z 2 ≤ _; omega
    · show -z 3 = 0; omega
    · show -z 4 = 0; omega
    · show -z 5 = 0; omega
  have hz : ∀ j, j < 6 → y j + oct (z 0) j = z j := fun j _ => by
    subst hy
    unfold oct
    show (if j = 0 then 0 else z j) + (if j = 0 then z 0 else 0) = z j
    split
    · rename_i hj; subst hj; omega
    · omega
  have a1 := lo.lt ((y1.addQ (oct_is (z 0))).congr hz)
  have a2 := (oct_is (z 0)).tt.lt ((hi.add y2).congr (g := oct (z 0)) fun j hj => by have := hz j hj; omega)
  refine ⟨hD, fun j hj => ?_⟩
  have hj6 : j = 0 ∨ j = 1 ∨ j = 2 ∨ j = 3 ∨ j = 4 ∨ j = 5 := by omega
  rcases hj6 with rfl | rfl | rfl | rfl | rfl | rfl <;> omega
/-- exponents without their octaves -/
noncomputable def fol (u : Nat → Int) (D : Int) (j : Nat) : Int := u j - oct (flo u D * D) j
theorem fol_range {u : Nat → Int} {D : Int} (h : fitsV u D) : TT 0 (fol u D) ∧ SS D (fol u D) := by
  obtain ⟨h1, h2⟩ := flo_spec h
  have hE := (oct_is (flo u D * D)).neg
  exact ⟨(h1.add hE.tt).cast (by omega) (fun j _ => by unfold fol; omega), (h2.addQ hE).cast (by rw [Int.add_mul, Int.one_mul]; omega) (fun j _ => by unfold fol; omega)⟩
theorem fol_same (u : Nat → Int) (D : Int) {j : Nat} (hj : j ≠ 0) : fol u D j = u j := by unfold fol oct; rw [if_neg hj]; omega
theorem sub_range {u v : Nat → Int} {D : Int} (u1 : TT 0 u) (u2 : SS D u) (v1 : TT 0 v) (v2 : SS D v) : TT (-D) (fun j => u j - v j) ∧ SS D (fun j => u j - v j) := by
  constructor
  · refine not_SS.1 fun h => not_TT.2 ((h.add v2).cast (by omega) (fun j _ => ?_)) u1
    show u j - v j + v j = u j
    omega
  · refine not_TT.1 fun h => not_SS.2 ((h.add v1).cast (by omega) (fun j _ => ?_)) u2
    show u j - v j + v j = u j
    omega
/-- a note as exponents -/
noncomputable def TP.n (t : TP) (k : Nat) : Nat → Int := fol (t.S k) t.D
theorem TP.Ok.n_range {t : TP} (h : t.Ok) {k : Nat} (hk : k ≤ 12) : TT 0 (t.n k) ∧ SS t.D (t.n k) := fol_range ((h.S_small hk).fits h.hD)
theorem TP.Ok.n_tame {t : TP} (h : t.Ok) {k : Nat} (hk : k ≤ 12) : tame (t.n k) t.D := by
  obtain ⟨r1, r2⟩ := h.n_range hk
  have hs := h.S_small hk
  have hD := h.hD
  refine ⟨?_, ?_, ⟨?_, ?_, ?_⟩, r1.mono (by omega), r2⟩
  · have := hs 1; unfold TP.n; rw [fol_same _ _ (by decide)]; rw [show bd 1 = 25 from rfl, show oct (7 * t.D) 1 = 0 from rfl] at this; omega
  · have := hs 2; unfold TP.n; rw [fol_same _ _ (by decide)]; rw [show bd 2 = 2 from rfl, show oct (7 * t.D) 2 = 0 from rfl] at this; omega
  · have := hs 3; unfold TP.n; rw [fol_same _ _ (by decide)]; rw [show bd 3 = 0 from rfl, show oct (7 * t.D) 3 = 0 from rfl] at this; omega
  · have := hs 4; unfold TP.n; rw [fol_same _ _ (by decide)]; rw [show bd 4 = 0 from rfl, show oct (7 * t.D) 4 = 0 from rfl] at this; omega
  · have := hs 5; unfold TP.n; rw [fol_same _ _ (by decide)]; rw [show bd 5 = 0 from rfl, show oct (7 * t.D) 5 = 0 from rfl] at this; omega
/-- how far it is from a note to another one, not yet from 1 to below 2 -/
noncomputable def TP.y (t : TP) (a b j : Nat) : Int := t.n b j - t.n a j
theorem TP.Ok.y_tame {t : TP} (h : t.Ok) {a b : Nat} (ha : a ≤ 12) (hb : b ≤ 12) : tame (t.y a b) t.D := by
  obtain ⟨a1, a2⟩ := h.n_range ha
  obtain ⟨b1, b2⟩ := h.n_range hb
  obtain ⟨r1, r2⟩ := sub_range b1 b2 a1 a2
  have hD := h.hD
  have hs := h.diff hb ha
  refine ⟨?_, ?_, ⟨?_, ?_, ?_⟩, r1, r2⟩
  · have := hs 1; unfold TP.y TP.n; rw [fol_same _ _ (by decide), fol_same _ _ (by decide)]; rw [show bd 1 = 25 from rfl, show oct (7 * t.D) 1 = 0 from rfl] at this; omega
  · have := hs 2; unfold TP.y TP.n; rw [fol_same _ _ (by decide), fol_same _ _ (by decide)]; rw [show bd 2 = 2 from rfl, show oct (7 * t.D) 2 = 0 from rfl] at this; omega
  · have := hs 3; unfold TP.y TP.n; rw [fol_same _ _ (by decide), fol_same _ _ (by decide)]; rw [show bd 3 = 0 from rfl, show oct (7 * t.D) 3 = 0 from rfl] at this; omega
  · have := hs 4; unfold TP.y TP.n; rw [fol_same _ _ (by decide), fol_same _ _ (by decide)]; rw [show bd 4 = 0 from rfl, show oct (7 * t.D) 4 = 0 from rfl] at this; omega
  · have := hs 5; unfold TP.y TP.n; rw [fol_same _ _ (by decide), fol_same _ _ (by decide)]; rw [show bd 5 = 0 from rfl, show oct (7 * t.D) 5 = 0 from rfl] at this; omega
theorem flo_near {u : Nat → Int} {D : Int} (hD : 1 ≤ D) (h1 : TT (-D) u) (h2 : SS D u) : (TT 0 u → flo u D = 0) ∧ (SS 0 u → flo u D = -1) := by
  refine ⟨fun h => flo_eq hD (h.mono (by omega)) (by rwa [show (0 + 1) * D = D by omega]), fun h => flo_eq hD (by rwa [show -1 * D = -D by omega]) (by rwa [show (-1 + 1) * D = 0 by omega])⟩
/-- how far it is up from a note to another one -/
noncomputable def TP.b (t : TP) (a b : Nat) : Nat → Int := fol (t.y a b) t.D
theorem TP.Ok.b_range {t : TP} (h : t.Ok) {a b : Nat} (ha : a ≤ 12) (hb : b ≤ 12) : TT 0 (t.b a b) ∧ SS t.D (t.b a b) := fol_range ((h.y_tame ha hb).fits ⟨h.hD.1, by have := h.hD; omega⟩ (by have := h.hD; omega))
theorem TP.Ok.b_tame {t : TP} (h : t.Ok) {a b : Nat} (ha : a ≤ 12) (hb : b ≤ 12) : tame (t.b a b) t.D := by
  obtain ⟨r1, r2⟩ := h.b_range ha hb
  obtain ⟨h1, h2, h3, _, _⟩ := h.y_tame ha hb
  have hD := h.hD
  refine ⟨?_, ?_, ⟨?_, ?_, ?_⟩, r1.mono (by omega), r2⟩
  · unfold TP.b; rw [fol_same _ _ (by decide)]; exact h1
  · unfold TP.b; rw [fol_same _ _ (by decide)]; exact h2
  · unfold TP.b; rw [fol_same _ _ (by decide)]; exact h3.1
  · unfold TP.b; rw [fol_same _ _ (by decide)]; exact h3.2.1
  · unfold TP.b; rw [fol_same _ _ (by decide)]; exact h3.2.2
end Go.Proofs.YtmcoadmnkelkkaaDoor
namespace Go.Proofs.YtmcoadmnkelkkaaDoor
set_option linter.unusedSimpArgs false
set_option linter.unusedVariables false

def pn (u : Nat → Nat) : Nat → Nat
  | 0 => 1
  | i+1 => pn u i * prime i ^ u i
theorem pn_pv (u : Nat → Nat) : ∀ i, pv (fun j => (u j : Int)) i = ((pn u i : Nat) : Rat)
  | 0 => rfl
  | i+1 => by rw [pv, pn, pn_pv u i, Rat.natCast_mul, Rat.natCast_pow, Rat.zpow_natCast]
theorem pv_frac {f : Nat → Int} {u d : Nat → Nat} (h : ∀ j, j < 6 → f j = (u j : Int) - (d j : Int)) : pv f 6 * ((pn d 6 : Nat) : Rat) = ((pn u 6 : Nat) : Rat) := by
  rw [← pn_pv, ← pn_pv, ← pv_add f _ 6 (Nat.le_refl _)]
  exact pv_congr 6 fun j hj => by rw [h j hj]; omega
theorem two_frac {x : Int} {a b : Nat} (h : x = (a : Int) - b) : (2 : Rat) ^ x * ((2 ^ b : Nat) : Rat) = ((2 ^ a : Nat) : Rat) := by
  rw [Rat.natCast_pow, Rat.natCast_pow, ← Rat.zpow_natCast, ← Rat.zpow_natCast]
  show (2 : Rat) ^ x * (2 : Rat) ^ (b : Int) = (2 : Rat) ^ (a : Int)
  rw [← Rat.zpow_add two_ne, h, show (a : Int) - b + b = a by omega]
theorem pn_pos (u : Nat → Nat) : ∀ i, i ≤ 6 → 0 < pn u i
  | 0, _ => Nat.one_pos
  | i+1, hi => Nat.mul_pos (pn_pos u i (by omega)) (Nat.pow_pos (by have := prime_two (i := i) (by omega); omega))
theorem TT_nat {x : Int} {f : Nat → Int} (a b : Nat) (u d : Nat → Nat) (hx : x = (a : Int) - b) (hf : ∀ j, j < 6 → f j = (u j : Int) - (d j : Int)) (h : 2 ^ a * pn d 6 ≤ 2 ^ b * pn u 6) : TT x f := by
  have h1 := pv_frac hf
  have h2 := two_frac hx
  have h3 : (((2 ^ a * pn d 6 : Nat)) : Rat) ≤ ((2 ^ b * pn u 6 : Nat) : Rat) := Rat.natCast_le_natCast.2 h
  rw [Rat.natCast_mul, Rat.natCast_mul, ← h1, ← h2] at h3
  have p1 : (0 : Rat) < ((2 ^ b : Nat) : Rat) := Rat.natCast_pos.2 (Nat.pow_pos (by decide))
  have p2 : (0 : Rat) < ((pn d 6 : Nat) : Rat) := Rat.natCast_pos.2 (pn_pos d 6 (Nat.le_refl _))
  unfold TT
  refine rcancel p1 (rcancel p2 ?_)
  rw [Rat.mul_assoc (pv f 6), Rat.mul_comm ((2 ^ b : Nat) : Rat), ← Rat.mul_assoc, Rat.mul_comm (pv f 6 * _)]
  exact h3
theorem SS_nat {x : Int} {f : Nat → Int} (a b : Nat) (u d : Nat → Nat) (hx : x = (a : Int) - b) (hf : ∀ j, j < 6 → f j = (u j : Int) - (d j : Int)) (h : 2 ^ b * pn u 6 < 2 ^ a * pn d 6) : SS x f := by
  have h1 := pv_frac hf
  have h2 := two_frac hx
  have h3 : (((2 ^ b * pn u 6 : Nat)) : Rat) < ((2 ^ a * pn d 6 : Nat) : Rat) := Rat.natCast_lt_natCast.2 h
  rw [Rat.natCast_mul, Rat.natCast_mul, ← h1, ← h2] at h3
  have p1 : (0 : Rat) < ((2 ^ b : Nat) : Rat) := Rat.natCast_pos.2 (Nat.pow_pos (by decide))
  have p2 : (0 : Rat) < ((pn d 6 : Nat) : Rat) := Rat.natCast_pos.2 (pn_pos d 6 (Nat.le_refl _))
  unfold SS
  refine rcancel_lt p1 (rcancel_lt p2 ?_)
  rw [Rat.mul_assoc (pv f 6), Rat.mul_comm ((2 ^ b : Nat) : Rat), ← Rat.mul_assoc, Rat.mul_comm (pv f 6 * _)]
  exact h3
theorem cents_lo {z : Nat → Int} {D m p : Int} {q : Nat} (hq : 0 < q) (h : TT p (fun j => z j * q)) (hc : m * D * q ≤ p * 1200000) : TT (m * D) (fun j => z j * 1200000) :=
  TT.unscale hq (((h.scale 1200000).mono (x := m * D * q) hc).congr fun j _ => by
    show z j * q * 1200000 = z j * 1200000 * q
    rw [Int.mul_right_comm])
theorem cents_hi {z : Nat → Int} {D m p : Int} {q : Nat} (h : SS p (fun j => z j * q)) (hc : p * 1200000 ≤ (m + 1) * D * q) : SS ((m + 1) * D) (fun j => z j * 1200000) :=
  SS.unscale (n := q) (((h.scale' (n := 1200000) (by decide)).mono (y := (m + 1) * D * q) hc).congr fun j _ => by
    show z j * q * 1200000 = z j * 1200000 * q
    rw [Int.mul_right_comm])
theorem Ce.is {u : Nat → Int} {D m m' : Int} {b : Bool} (hD : 1 ≤ D) (h : Ce (nr u D) m' b) (h1 : TT (m * D) (fun j => u j * 1200000)) (h2 : SS ((m + 1) * D) (fun j => u j * 1200000)) : m' = m := by
  have l1 := lt_of_mul_lt hD (((TT_nr 1200000 hD).1 h.lo).lt h2)
  have l2 := lt_of_mul_lt hD (h1.lt ((SS_nr 1200000 hD).1 h.hi))
  omega
/-- the meantone temperament -/
def mt : TP := ⟨true, 8, 4, fun k => if k = 8 then 0 else 1⟩
theorem mt_ok : mt.Ok := ⟨by decide, by decide, by decide⟩
def v3 (a b c : Int) (j : Nat) : Int := if j = 0 then a else if j = 1 then b else if j = 2 then c else 0
theorem six {P : Nat → Prop} (h0 : P 0) (h1 : P 1) (h2 : P 2) (h3 : P 3) (h4 : P 4) (h5 : P 5) : ∀ j, j < 6 → P j := fun j hj => by
  have : j = 0 ∨ j = 1 ∨ j = 2 ∨ j = 3 ∨ j = 4 ∨ j = 5 := by omega
  rcases this with rfl | rfl | rfl | rfl | rfl | rfl <;> assumption
theorem flo_nat {u : Nat → Int} {D : Int} (k : Int) (a b c : Int) (h : ∀ j, j < 6 → u j = v3 a b c j) (hD : 1 ≤ D) (h1 : TT (k * D) (v3 a b c)) (h2 : SS ((k + 1) * D) (v3 a b c)) : flo u D = k :=
  flo_eq hD (h1.congr fun j hj => (h j hj).symm) (h2.congr fun j hj => (h j hj).symm)
theorem fol_v3 {u : Nat → Int} {D k a b c : Int} (h : ∀ j, j < 6 → u j = v3 a b c j) (hk : flo u D = k) : ∀ j, j < 6 → fol u D j = v3 (a - k * D) b c j := fun j hj => by
  unfold fol
  rw [hk, h j hj]
  unfold oct v3
  split
  · rfl
  · omega
theorem mt_n0_flo : flo (mt.S 0) mt.D = 0 :=
  flo_nat (0) (0) (0) (0) (by decide) (by decide) (TT_nat 0 0 (fun j => if j = 0 then 0 else if j = 1 then 0 else if j = 2 then 0 else 0) (fun j => if j = 0 then 0 else if j = 1 then 0 else if j = 2 then 0 else 0) (by decide) (by decide) (by decide +kernel)) (SS_nat 4 0 (fun j => if j = 0 then 0 else if j = 1 then 0 else if j = 2 then 0 else 0) (fun j => if j = 0 then 0 else if j = 1 then 0 else if j = 2 then 0 else 0) (by decide) (by decide) (by decide +kernel))
theorem mt_n0 : ∀ j, j < 6 → fol (mt.S 0) mt.D j = v3 (0) (0) (0) j := fol_v3 (a := 0) (b := 0) (c := 0) (by decide) mt_n0_flo
theorem mt_n1_flo : flo (mt.S 1) mt.D = 0 :=
  flo_nat (0) (0) (0) (1) (by decide) (by decide) (TT_nat 0 0 (fun j => if j = 0 then 0 else if j = 1 then 0 else if j = 2 then 1 else 0) (fun j => if j = 0 then 0 else if j = 1 then 0 else if j = 2 then 0 else 0) (by decide) (by decide) (by decide +kernel)) (SS_nat 4 0 (fun j => if j = 0 then 0 else if j = 1 then 0 else if j = 2 then 1 else 0) (fun j => if j = 0 then 0 else if j = 1 then 0 else if j = 2 then 0 else 0) (by decide) (by decide) (by decide +kernel))
theorem mt_n1 : ∀ j, j < 6 → fol (mt.S 1) mt.D j = v3 (0) (0) (1) j := fol_v3 (a := 0) (b := 0) (c := 1) (by decide) mt_n1_flo
theorem mt_n4_flo : flo (mt.S 4) mt.D = 2 :=
  flo_nat (2) (0) (0) (4) (by decide) (by decide) (TT_nat 8 0 (fun j => if j = 0 then 0 else if j = 1 then 0 else if j = 2 then 4 else 0) (fun j => if j = 0 then 0 else if j = 1 then 0 else if j = 2 then 0 else 0) (by decide) (by decide) (by decide +kernel)) (SS_nat 12 0 (fun j => if j = 0 then 0 else if j = 1 then 0 else if j = 2 then 4 else 0) (fun j => if j = 0 then 0 else if j = 1 then 0 else if j = 2 then 0 else 0) (by decide) (by decide) (by decide +kernel))
theorem mt_n4 : ∀ j, j < 6 → fol (mt.S 4) mt.D j = v3 (-8) (0) (4) j := fol_v3 (a := 0) (b := 0) (c := 4) (by decide) mt_n4_flo
theorem mt_n8_flo : flo (mt.S 8) mt.D = 4 :=
  flo_nat (4) (0) (0) (8) (by decide) (by decide) (TT_nat 16 0 (fun j => if j = 0 then 0 else if j = 1 then 0 else if j = 2 then 8 else 0) (fun j => if j = 0 then 0 else if j = 1 then 0 else if j = 2 then 0 else 0) (by decide) (by decide) (by decide +kernel)) (SS_nat 20 0 (fun j => if j = 0 then 0 else if j = 1 then 0 else if j = 2 then 8 else 0) (fun j => if j = 0 then 0 else if j = 1 then 0 else if j = 2 then 0 else 0) (by decide) (by decide) (by decide +kernel))
theorem mt_n8 : ∀ j, j < 6 → fol (mt.S 8) mt.D j = v3 (-16) (0) (8) j := fol_v3 (a := 0) (b := 0) (c := 8) (by decide) mt_n8_flo
theorem mt_n9_flo : flo (mt.S 9) mt.D = 5 :=
  flo_nat (5) (28) (0) (-3) (by decide) (by decide) (TT_nat 20 0 (fun j => if j = 0 then 28 else if j = 1 then 0 else if j = 2 then 0 else 0) (fun j => if j = 0 then 0 else if j = 1 then 0 else if j = 2 then 3 else 0) (by decide) (by decide) (by decide +kernel)) (SS_nat 24 0 (fun j => if j = 0 then 28 else if j = 1 then 0 else if j = 2 then 0 else 0) (fun j => if j = 0 then 0 else if j = 1 then 0 else if j = 2 then 3 else 0) (by decide) (by decide) (by decide +kernel))
theorem mt_n9 : ∀ j, j < 6 → fol (mt.S 9) mt.D j = v3 (8) (0) (-3) j := fol_v3 (a := 28) (b := 0) (c := -3) (by decide) mt_n9_flo
theorem mt_b80_flo : flo (mt.y 8 0) mt.D = -1 :=
  flo_nat (-1) (16) (0) (-8) (fun j hj => (by unfold TP.y TP.n; rw [mt_n0 j hj, mt_n8 j hj]; revert j; decide)) (by decide) (TT_nat 0 4 (fun j => if j = 0 then 16 else if j = 1 then 0 else if j = 2 then 0 else 0) (fun j => if j = 0 then 0 else if j = 1 then 0 else if j = 2 then 8 else 0) (by decide) (by decide) (by decide +kernel)) (SS_nat 0 0 (fun j => if j = 0 then 16 else if j = 1 then 0 else if j = 2 then 0 else 0) (fun j => if j = 0 then 0 else if j = 1 then 0 else if j = 2 then 8 else 0) (by decide) (by decide) (by decide +kernel))
theorem mt_b80 : ∀ j, j < 6 → fol (mt.y 8 0) mt.D j = v3 (20) (0) (-8) j := fol_v3 (a := 16) (b := 0) (c := -8) (fun j hj => (by unfold TP.y TP.n; rw [mt_n0 j hj, mt_n8 j hj]; revert j; decide)) mt_b80_flo
theorem mt_b89_flo : flo (mt.y 8 9) mt.D = -1 :=
  flo_nat (-1) (24) (0) (-11) (fun j hj => (by unfold TP.y TP.n; rw [mt_n9 j hj, mt_n8 j hj]; revert j; decide)) (by decide) (TT_nat 0 4 (fun j => if j = 0 then 24 else if j = 1 then 0 else if j = 2 then 0 else 0) (fun j => if j = 0 then 0 else if j = 1 then 0 else if j = 2 then 11 else 0) (by decide) (by decide) (by decide +kernel)) (SS_nat 0 0 (fun j => if j = 0 then 24 else if j = 1 then 0 else if j = 2 then 0 else 0) (fun j => if j = 0 then 0 else if j = 1 then 0 else if j = 2 then 11 else 0) (by decide) (by decide) (by decide +kernel))
theorem mt_b89 : ∀ j, j < 6 → fol (mt.y 8 9) mt.D j = v3 (28) (0) (-11) j := fol_v3 (a := 24) (b := 0) (c := -11) (fun j hj => (by unfold TP.y TP.n; rw [mt_n9 j hj, mt_n8 j hj]; revert j; decide)) mt_b89_flo
theorem mt_c4 {u : Nat → Int} (hu : ∀ j, j < 6 → u j = v3 (-8) (0) (4) j) {m : Int} {b : Bool} (h : Ce (nr u mt.D) m b) : m = 386313 := by
  have l := cents_lo (z := v3 (-8) (0) (4)) (D := mt.D) (m := 386313) (p := 1289) (q := 1001) (by decide) (TT_nat 1289 0 (fun j => if j = 0 then 0 else if j = 1 then 0 else if j = 2 then 4004 else 0) (fun j => if j = 0 then 8008 else if j = 1 then 0 else if j = 2 then 0 else 0) (by decide) (by decide) (by decide +kernel)) (by decide)
  have r := cents_hi (z := v3 (-8) (0) (4)) (D := mt.D) (m := 386313) (p := 2117) (q := 1644) (SS_nat 2117 0 (fun j => if j = 0 then 0 else if j = 1 then 0 else if j = 2 then 6576 else 0) (fun j => if j = 0 then 13152 else if j = 1 then 0 else if j = 2 then 0 else 0) (by decide) (by decide) (by decide +kernel)) (by decide)
  exact Ce.is (by decide) h (l.congr fun j hj => by rw [hu j hj]) (r.congr fun j hj => by rw [hu j hj])
theorem mt_c1 {u : Nat → Int} (hu : ∀ j, j < 6 → u j = v3 (0) (0) (1) j) {m : Int} {b : Bool} (h : Ce (nr u mt.D) m b) : m = 696578 := by
  have l := cents_lo (z := v3 (0) (0) (1)) (D := mt.D) (m := 696578) (p := 3325) (q := 1432) (by decide) (TT_nat 3325 0 (fun j => if j = 0 then 0 else if j = 1 then 0 else if j = 2 then 1432 else 0) (fun j => if j = 0 then 0 else if j = 1 then 0 else if j = 2 then 0 else 0) (by decide) (by decide) (by decide +kernel)) (by decide)
  have r := cents_hi (z := v3 (0) (0) (1)) (D := mt.D) (m := 696578) (p := 1493) (q := 643) (SS_nat 1493 0 (fun j => if j = 0 then 0 else if j = 1 then 0 else if j = 2 then 643 else 0) (fun j => if j = 0 then 0 else if j = 1 then 0 else if j = 2 then 0 else 0) (by decide) (by decide) (by decide +kernel)) (by decide)
  exact Ce.is (by decide) h (l.congr fun j hj => by rw [hu j hj]) (r.congr fun j hj => by rw [hu j hj])
theorem mt_third {u : Nat → Int} (hu : ∀ j, j < 6 → u j = v3 (28) (0) (-12) j) {m : Int} {b : Bool} (h : Ce (nr u mt.D) m b) : m = 41058 := by
  have l := cents_lo (z := v3 (28) (0) (-12)) (D := mt.D) (m := 41058) (p := 75) (q := 548) (by decide) (TT_nat 75 0 (fun j => if j = 0 then 15344 else if j = 1 then 0 else if j = 2 then 0 else 0) (fun j => if j = 0 then 0 else if j = 1 then 0 else if j = 2 then 6576 else 0) (by decide) (by decide) (by decide +kernel)) (by decide)
  have r := cents_hi (z := v3 (28) (0) (-12)) (D := mt.D) (m := 41058) (p := 137) (q := 1001) (SS_nat 137 0 (fun j => if j = 0 then 28028 else if j = 1 then 0 else if j = 2 then 0 else 0) (fun j => if j = 0 then 0 else if j = 1 then 0 else if j = 2 then 12012 else 0) (by decide) (by decide) (by decide +kernel)) (by decide)
  exact Ce.is (by decide) h (l.congr fun j hj => by rw [hu j hj]) (r.congr fun j hj => by rw [hu j hj])
theorem mt_fifth {u : Nat → Int} (hu : ∀ j, j < 6 → u j = v3 (32) (-4) (-11) j) {m : Int} {b : Bool} (h : Ce (nr u mt.D) m b) : m = 35682 := by
  have l := cents_lo (z := v3 (32) (-4) (-11)) (D := mt.D) (m := 35682) (p := 211) (q := 1774) (by decide) (TT_nat 211 0 (fun j => if j = 0 then 56768 else if j = 1 then 0 else if j = 2 then 0 else 0) (fun j => if j = 0 then 0 else if j = 1 then 7096 else if j = 2 then 19514 else 0) (by decide) (by decide) (by decide +kernel)) (by decide)
  have r := cents_hi (z := v3 (32) (-4) (-11)) (D := mt.D) (m := 35682) (p := 27) (q := 227) (SS_nat 27 0 (fun j => if j = 0 then 7264 else if j = 1 then 0 else if j = 2 then 0 else 0) (fun j => if j = 0 then 0 else if j = 1 then 908 else if j = 2 then 2497 else 0) (by decide) (by decide) (by decide +kernel)) (by decide)
  exact Ce.is (by decide) h (l.congr fun j hj => by rw [hu j hj]) (r.congr fun j hj => by rw [hu j hj])
end Go.Proofs.YtmcoadmnkelkkaaDoor
namespace Go.Proofs.YtmcoadmnkelkkaaDoor
set_option linter.unusedSimpArgs false
set_option linter.unusedVariables false

theorem nr_one (f : Nat → Int) : RV.of f 1 = nr f 1 := by
  have hg : (RV.of f 1).gcd 6 = 1 := Nat.eq_one_of_dvd_one ((RV.gcd_dvd (RV.of f 1) 6).1)
  unfold nr
  refine RV.red_unique hg (mkR_one _ (Int.le_refl 1)) (Int.le_refl 1) (mkR_pos _ (Int.le_refl 1)) fun j hj => ?_
  have e1 := mkR_numg (RV.of f 1) hj
  have e2 := mkR_dg (RV.of f 1)
  rw [hg] at e1 e2
  rw [show ((1 : Nat) : Int) = 1 by rfl, Int.mul_one] at e1 e2
  rw [e1, e2]
theorem nr_up (f : Nat → Int) {D : Int} (hD : 1 ≤ D) : nr f 1 = nr (fun j => f j * D) D := nr_cross (by decide) hD fun j _ => by rw [Int.mul_one]
theorem of_pyth : ofS 531441 524288 = (nr (v3 (-19) (12) (0)) 1, 0) := by
  have h1 : stripN (531441 : Int).natAbs 6 = stripN (524288 : Int).natAbs 6 := by decide +kernel
  have h2 : ∀ j, j < 6 → ofF (531441 : Int).natAbs (524288 : Int).natAbs 6 j = v3 (-19) (12) (0) j := six (by decide +kernel) (by decide +kernel) (by decide +kernel) (by decide +kernel) (by decide +kernel) (by decide +kernel)
  unfold ofS
  rw [if_pos ⟨⟨by decide, by decide⟩, ⟨by decide, by decide⟩⟩, if_pos h1, RV.of_congr 1 h2, nr_one]
theorem of_synt : ofS 81 80 = (nr (v3 (-4) (4) (-1)) 1, 0) := by
  have h1 : stripN (81 : Int).natAbs 6 = stripN (80 : Int).natAbs 6 := by decide +kernel
  have h2 : ∀ j, j < 6 → ofF (81 : Int).natAbs (80 : Int).natAbs 6 j = v3 (-4) (4) (-1) j := six (by decide +kernel) (by decide +kernel) (by decide +kernel) (by decide +kernel) (by decide +kernel) (by decide +kernel)
  unfold ofS
  rw [if_pos ⟨⟨by decide, by decide⟩, ⟨by decide, by decide⟩⟩, if_pos h1, RV.of_congr 1 h2, nr_one]
theorem of_seven : ofS 128 1 = (nr (v3 (7) (0) (0)) 1, 0) := by
  have h1 : stripN (128 : Int).natAbs 6 = stripN (1 : Int).natAbs 6 := by decide +kernel
  have h2 : ∀ j, j < 6 → ofF (128 : Int).natAbs (1 : Int).natAbs 6 j = v3 (7) (0) (0) j := six (by decide +kernel) (by decide +kernel) (by decide +kernel) (by decide +kernel) (by decide +kernel) (by decide +kernel)
  unfold ofS
  rw [if_pos ⟨⟨by decide, by decide⟩, ⟨by decide, by decide⟩⟩, if_pos h1, RV.of_congr 1 h2, nr_one]
theorem of_fif : ofS 3 2 = (nr (v3 (-1) (1) (0)) 1, 0) := by
  have h1 : stripN (3 : Int).natAbs 6 = stripN (2 : Int).natAbs 6 := by decide +kernel
  have h2 : ∀ j, j < 6 → ofF (3 : Int).natAbs (2 : Int).natAbs 6 j = v3 (-1) (1) (0) j := six (by decide +kernel) (by decide +kernel) (by decide +kernel) (by decide +kernel) (by decide +kernel) (by decide +kernel)
  unfold ofS
  rw [if_pos ⟨⟨by decide, by decide⟩, ⟨by decide, by decide⟩⟩, if_pos h1, RV.of_congr 1 h2, nr_one]
theorem of_thi : ofS 5 4 = (nr (v3 (-2) (0) (1)) 1, 0) := by
  have h1 : stripN (5 : Int).natAbs 6 = stripN (4 : Int).natAbs 6 := by decide +kernel
  have h2 : ∀ j, j < 6 → ofF (5 : Int).natAbs (4 : Int).natAbs 6 j = v3 (-2) (0) (1) j := six (by decide +kernel) (by decide +kernel) (by decide +kernel) (by decide +kernel) (by decide +kernel) (by decide +kernel)
  unfold ofS
  rw [if_pos ⟨⟨by decide, by decide⟩, ⟨by decide, by decide⟩⟩, if_pos h1, RV.of_congr 1 h2, nr_one]
theorem of_one : ofS 1 1 = (nr (v3 (0) (0) (0)) 1, 0) := by
  have h1 : stripN (1 : Int).natAbs 6 = stripN (1 : Int).natAbs 6 := by decide +kernel
  have h2 : ∀ j, j < 6 → ofF (1 : Int).natAbs (1 : Int).natAbs 6 j = v3 (0) (0) (0) j := six (by decide +kernel) (by decide +kernel) (by decide +kernel) (by decide +kernel) (by decide +kernel) (by decide +kernel)
  unfold ofS
  rw [if_pos ⟨⟨by decide, by decide⟩, ⟨by decide, by decide⟩⟩, if_pos h1, RV.of_congr 1 h2, nr_one]
theorem of_two : ofS 2 1 = (nr (v3 (1) (0) (0)) 1, 0) := by
  have h1 : stripN (2 : Int).natAbs 6 = stripN (1 : Int).natAbs 6 := by decide +kernel
  have h2 : ∀ j, j < 6 → ofF (2 : Int).natAbs (1 : Int).natAbs 6 j = v3 (1) (0) (0) j := six (by decide +kernel) (by decide +kernel) (by decide +kernel) (by decide +kernel) (by decide +kernel) (by decide +kernel)
  unfold ofS
  rw [if_pos ⟨⟨by decide, by decide⟩, ⟨by decide, by decide⟩⟩, if_pos h1, RV.of_congr 1 h2, nr_one]
end Go.Proofs.YtmcoadmnkelkkaaDoor
namespace Go.Proofs.YtmcoadmnkelkkaaDoor
set_option linter.unusedSimpArgs false
set_option linter.unusedVariables false

/-- the parts of a temperament over their common denominator -/
def TV.tp (t : TV) : TP := ⟨t.syn, t.wolf.toNat, (t.all 12 : Nat), fun k => t.num k * ((t.all 12 : Nat) / t.den k)⟩
theorem TV.tp_den {N : ByteArray → Bool} {t : TV} (h : t.chk N = 0) {k : Nat} (hk : k < 12) : t.tp.D = t.den k * ((t.all 12 : Nat) / t.den k) := by
  obtain ⟨_, h2, _, _, _, h6⟩ := TV.chk_ok h
  have hd := TV.all_dvd h2 12 (Nat.le_refl _) h6 k hk
  exact (Int.mul_ediv_cancel' (Int.natAbs_dvd.1 (Int.ofNat_dvd.2 hd))).symm
theorem TV.tp_ok {N : ByteArray → Bool} {t : TV} (h : t.chk N = 0) : t.tp.Ok := by
  obtain ⟨h1, h2, _, _, h5, h6⟩ := TV.chk_ok h
  have hp := TV.all_pos h2 12 (Nat.le_refl _)
  refine ⟨?_, ?_, fun k hk => ?_⟩
  · show t.wolf.toNat < 12; omega
  · show 1 ≤ ((t.all 12 : Nat) : Int) ∧ ((t.all 12 : Nat) : Int) ≤ 120; omega
  · have hb := h2 k hk
    have hD := TV.tp_den h hk
    have hD0 : 1 ≤ t.tp.D := by show 1 ≤ ((t.all 12 : Nat) : Int); omega
    unfold TV.bad at hb
    show -(2 * t.tp.D) ≤ t.num k * ((t.all 12 : Nat) / t.den k) ∧ t.num k * ((t.all 12 : Nat) / t.den k) ≤ 2 * t.tp.D
    rw [hD]
    rw [hD] at hD0
    generalize ((t.all 12 : Nat) : Int) / t.den k = m at *
    have hm : 0 ≤ m := by
      rcases Int.lt_or_le m 0 with g | g
      · have := Int.mul_le_mul_of_nonneg_left (show m ≤ 0 by omega) (show 0 ≤ t.den k by omega)
        omega
      · exact g
    have l1 := Int.mul_le_mul_of_nonneg_right (show -2 * t.den k ≤ t.num k by omega) hm
    have l2 := Int.mul_le_mul_of_nonneg_right (show t.num k ≤ 2 * t.den k by omega) hm
    rw [Int.mul_assoc] at l1 l2
    omega
theorem TV.tp_wolf {N : ByteArray → Bool} {t : TV} (h : t.chk N = 0) : t.tp.e t.tp.w = 0 := by
  obtain ⟨_, _, _, _, h5, _⟩ := TV.chk_ok h
  show t.num t.wolf.toNat * _ = 0
  rw [h5, Int.zero_mul]
/-- the meantone temperament as a value -/
def mtT : TV := ⟨"meantone".toUTF8, true, 8, fun k => if k = 8 then 0 else 1, fun k => if k = 8 then 1 else 4⟩
theorem mtT_all : mtT.all 12 = 4 := by decide +kernel
theorem mtT_chk : mtT.chk nameS = 0 := by
  have hn : nameS mtT.nm = true := by decide +kernel
  unfold TV.chk
  rw [if_neg (by decide), if_neg, if_neg, if_neg (by rw [mtT_all]; decide)]
  · rw [hn]
    rintro (h | ⟨i, hi, h⟩ | h)
    · exact absurd h (by decide)
    · refine h ?_
      unfold TV.low mtT
      show Nat.gcd (if i = 8 then (0 : Int) else 1).natAbs (if i = 8 then (1 : Int) else 4).natAbs = 1
      split <;> rfl
    · exact h (by decide)
  · rintro ⟨i, hi, h⟩
    unfold TV.bad mtT at h
    simp only [] at h
    split at h <;> omega
theorem mtT_tp : mtT.tp = mt := by
  unfold TV.tp mt
  rw [mtT_all]
  congr 1
  funext k
  show (if k = 8 then (0 : Int) else 1) * (((4 : Nat) : Int) / (if k = 8 then (1 : Int) else 4)) = if k = 8 then 0 else 1
  split <;> rfl
end Go.Proofs.YtmcoadmnkelkkaaDoor
namespace Go.Proofs.YtmcoadmnkelkkaaDoor
set_option linter.unusedSimpArgs false
set_option linter.unusedVariables false

theorem of_comma (syn : Bool) : (if syn then ofS 81 80 else ofS 531441 524288) = (nr (cmv syn) 1, 0) := by
  cases syn
  · show ofS 531441 524288 = _
    rw [of_pyth]
    exact congrArg (fun r : RV => (r, (0 : Int))) (nr_congr (by decide))
  · show ofS 81 80 = _
    rw [of_synt]
    exact congrArg (fun r : RV => (r, (0 : Int))) (nr_congr (by decide))
/-- a part of the comma as exponents -/
def TP.pt (t : TP) (k j : Nat) : Int := t.e k * cmv t.syn j
theorem cmv_bd (syn : Bool) : ∀ j, j < 6 → -19 ≤ cmv syn j ∧ cmv syn j ≤ 12 := by cases syn <;> decide
theorem TP.Ok.pt_fits {t : TP} (h : t.Ok) {k : Nat} (hk : k < 12) : fitsV (t.pt k) t.D := by
  have hD := h.hD
  refine ⟨⟨hD.1, by omega⟩, fun j hj => ?_⟩
  obtain ⟨e1, e2⟩ := h.he k hk
  obtain ⟨c1, c2⟩ := cmv_bd t.syn j hj
  unfold TP.pt
  have a : (t.e k * cmv t.syn j).natAbs ≤ 240 * 19 := by
    rw [Int.natAbs_mul]
    exact Nat.mul_le_mul (by omega) (by omega)
  omega
theorem cmv_fits (syn : Bool) : fitsV (cmv syn) 1 := ⟨by decide, fun j hj => by have := cmv_bd syn j hj; omega⟩
theorem TV.part_pow {N : ByteArray → Bool} {t : TV} (h : t.chk N = 0) {k : Nat} (hk : k < 12) : powS (nr (cmv t.syn) 1) (t.num k) (t.den k) = (nr (t.tp.pt k) t.tp.D, 0) := by
  have hok := TV.tp_ok h
  obtain ⟨_, h2, _, _, _, _⟩ := TV.chk_ok h
  have hb := h2 k hk
  unfold TV.bad at hb
  refine pow_nr (m := (t.all 12 : Nat) / t.den k) (cmv_fits t.syn) (hok.pt_fits hk) ⟨by omega, by omega⟩ ⟨by omega, by omega⟩ (TV.tp_den h hk) fun j hj => ?_
  show t.num k * ((t.all 12 : Nat) / t.den k) * cmv t.syn j = cmv t.syn j * t.num k * ((t.all 12 : Nat) / t.den k)
  generalize ((t.all 12 : Nat) : Int) / t.den k = m
  generalize cmv t.syn j = c
  generalize t.num k = n
  rw [Int.mul_comm, ← Int.mul_assoc]
theorem TP.Ok.g_fits {t : TP} (h : t.Ok) {k : Nat} (hk : k < 12) : fitsV (t.g k) t.D := by
  have hD := h.hD
  refine ⟨⟨hD.1, by omega⟩, fun j hj => ?_⟩
  have := h.g_bd hk j
  unfold bd at this
  split at this
  · omega
  · split at this
    · omega
    · split at this <;> omega
theorem up_fits {f : Nat → Int} {D : Int} (hD : 1 ≤ D ∧ D ≤ 120) (hf : ∀ j, j < 6 → -100 ≤ f j ∧ f j ≤ 100) : fitsV (fun j => f j * D) D := by
  refine ⟨⟨hD.1, by omega⟩, fun j hj => ?_⟩
  have a : (f j * D).natAbs ≤ 100 * 120 := by
    rw [Int.natAbs_mul]
    exact Nat.mul_le_mul (by have := hf j hj; omega) (by omega)
  show -100000 ≤ f j * D ∧ f j * D ≤ 100000
  omega
theorem fif_up {D : Int} (hD : 1 ≤ D) : ofS 3 2 = (nr (fun j => b32 j * D) D, 0) := by
  rw [of_fif, nr_up _ hD]
  refine congrArg (fun r : RV => (r, (0 : Int))) ?_
  exact nr_congr fun j hj => by
    have e : v3 (-1) 1 0 j = b32 j := by revert j; decide
    rw [e]
theorem b32_bd : ∀ j, j < 6 → -100 ≤ b32 j ∧ b32 j ≤ 100 := by decide
theorem TP.Ok.fifth_join {t : TP} (h : t.Ok) {k : Nat} (hk : k < 12) (hw : k ≠ t.w) : joinS (nr (fun j => b32 j * t.D) t.D) (nr (t.pt k) t.D) (-1) = (nr (t.g k) t.D, 0) :=
  join_nr (up_fits h.hD b32_bd) (h.pt_fits hk) (h.g_fits hk) fun j hj => by
    unfold TP.g TP.pt
    rw [if_neg hw, Int.mul_comm t.D]
    omega
theorem TP.Ok.rest_join {t : TP} (h : t.Ok) {k : Nat} (hk : k < 12) : joinS (nr (t.rv k) t.D) (nr (t.g k) t.D) (-1) = (nr (t.rv (k + 1)) t.D, 0) :=
  join_nr ((h.rv_small (by omega)).fits h.hD) (h.g_fits hk) ((h.rv_small (by omega)).fits h.hD) fun j hj => by
    unfold TP.rv
    rw [TP.G]
    omega
theorem TP.rest_wolf (t : TP) : nr (t.rv (t.w + 1)) t.D = nr (t.rv t.w) t.D := nr_congr fun j hj => by
  unfold TP.rv
  rw [TP.G]
  unfold TP.g
  rw [if_pos rfl]
  omega
theorem TP.Ok.seven {t : TP} (h : t.Ok) : ofS 128 1 = (nr (t.rv 0) t.D, 0) := by
  rw [of_seven, nr_up _ h.hD.1]
  refine congrArg (fun r : RV => (r, (0 : Int))) ?_
  exact nr_congr fun j hj => by
    have e : v3 7 0 0 j = oct 7 j := by revert j; decide
    unfold TP.rv
    rw [TP.G, e]
    unfold oct
    split <;> omega
theorem TP.f_ne {t : TP} {k : Nat} (hw : k ≠ t.w) : t.f k = t.g k := by unfold TP.f; funext j; rw [if_neg hw]
theorem TP.f_w (t : TP) : t.f t.w = t.rv 12 := by unfold TP.f; funext j; rw [if_pos rfl]
theorem TP.Ok.f_fits {t : TP} (h : t.Ok) {k : Nat} (hk : k < 12) : fitsV (t.f k) t.D := (h.f_small hk).fits h.hD
theorem TP.Ok.S_fits {t : TP} (h : t.Ok) {k : Nat} (hk : k ≤ 12) : fitsV (t.S k) t.D := (h.S_small hk).fits h.hD
theorem TP.Ok.note_join {t : TP} (h : t.Ok) {k : Nat} (hk : k < 12) : joinS (nr (t.S k) t.D) (nr (t.f k) t.D) 1 = (nr (t.S (k + 1)) t.D, 0) :=
  join_nr (h.S_fits (by omega)) (h.f_fits hk) (h.S_fits (by omega)) fun j hj => by rw [TP.S_succ]; omega
theorem TP.Ok.one {t : TP} (h : t.Ok) : ofS 1 1 = (nr (t.S 0) t.D, 0) := by
  rw [of_one, nr_up _ h.hD.1]
  refine congrArg (fun r : RV => (r, (0 : Int))) ?_
  exact nr_congr fun j hj => by
    have e : v3 0 0 0 j = 0 := by revert j; decide
    rw [TP.S_zero, e]
    omega
theorem TP.Ok.n_fits {t : TP} (h : t.Ok) {k : Nat} (hk : k ≤ 12) : fitsV (t.n k) t.D := (h.n_tame hk).fits ⟨h.hD.1, by have := h.hD; omega⟩ (by have := h.hD; omega)
theorem TP.Ok.y_fits {t : TP} (h : t.Ok) {a b : Nat} (ha : a ≤ 12) (hb : b ≤ 12) : fitsV (t.y a b) t.D := (h.y_tame ha hb).fits ⟨h.hD.1, by have := h.hD; omega⟩ (by have := h.hD; omega)
theorem TP.Ok.b_fits {t : TP} (h : t.Ok) {a b : Nat} (ha : a ≤ 12) (hb : b ≤ 12) : fitsV (t.b a b) t.D := (h.b_tame ha hb).fits ⟨h.hD.1, by have := h.hD; omega⟩ (by have := h.hD; omega)
theorem TP.Ok.way_join {t : TP} (h : t.Ok) {a b : Nat} (ha : a ≤ 12) (hb : b ≤ 12) : joinS (nr (t.n b) t.D) (nr (t.n a) t.D) (-1) = (nr (t.y a b) t.D, 0) :=
  join_nr (h.n_fits hb) (h.n_fits ha) (h.y_fits ha hb) fun j hj => by unfold TP.y; omega
/-- an interval less a pure one -/
noncomputable def TP.x (t : TP) (p : Nat → Int) (a b j : Nat) : Int := t.b a b j - p j * t.D
theorem b32_rng {D : Int} (hD : 1 ≤ D) : TT 0 (fun j => b32 j * D) ∧ SS D (fun j => b32 j * D) := by
  obtain ⟨n, rfl⟩ : ∃ n : Nat, D = (n : Int) := ⟨D.toNat, by omega⟩
  have h1 : TT 0 b32 := TT_nat 0 0 (fun j => if j = 1 then 1 else 0) (fun j => if j = 0 then 1 else 0) (by decide) (by decide) (by decide +kernel)
  have h2 : SS 1 b32 := SS_nat 1 0 (fun j => if j = 1 then 1 else 0) (fun j => if j = 0 then 1 else 0) (by decide) (by decide) (by decide +kernel)
  exact ⟨(h1.scale n).cast (by omega) fun _ _ => rfl, (h2.scale' (n := n) (by omega)).cast (by omega) fun _ _ => rfl⟩
def b54 (j : Nat) : Int := if j = 0 then -2 else if j = 2 then 1 else 0
theorem b54_rng {D : Int} (hD : 1 ≤ D) : TT 0 (fun j => b54 j * D) ∧ SS D (fun j => b54 j * D) := by
  obtain ⟨n, rfl⟩ : ∃ n : Nat, D = (n : Int) := ⟨D.toNat, by omega⟩
  have h1 : TT 0 b54 := TT_nat 0 0 (fun j => if j = 2 then 1 else 0) (fun j => if j = 0 then 2 else 0) (by decide) (by decide) (by decide +kernel)
  have h2 : SS 1 b54 := SS_nat 1 0 (fun j => if j = 2 then 1 else 0) (fun j => if j = 0 then 2 else 0) (by decide) (by decide) (by decide +kernel)
  exact ⟨(h1.scale n).cast (by omega) fun _ _ => rfl, (h2.scale' (n := n) (by omega)).cast (by omega) fun _ _ => rfl⟩
theorem thi_up {D : Int} (hD : 1 ≤ D) : ofS 5 4 = (nr (fun j => b54 j * D) D, 0) := by
  rw [of_thi, nr_up _ hD]
  refine congrArg (fun r : RV => (r, (0 : Int))) ?_
  exact nr_congr fun j hj => by
    have e : v3 (-2) 0 1 j = b54 j := by revert j; decide
    rw [e]
theorem b54_bd : ∀ j, j < 6 → -100 ≤ b54 j ∧ b54 j ≤ 100 := by decide
/-- what is asked of a pure interval -/
structure Pure (p : Nat → Int) : Prop where
  bd : ∀ j, j < 6 → -100 ≤ p j ∧ p j ≤ 100
  rng : ∀ D : Int, 1 ≤ D → TT 0 (fun j => p j * D) ∧ SS D (fun j => p j * D)
  z : p 3 = 0 ∧ p 4 = 0 ∧ p 5 = 0
  u : (-1 ≤ p 1 ∧ p 1 ≤ 1) ∧ -1 ≤ p 2 ∧ p 2 ≤ 1
theorem pure32 : Pure b32 := ⟨b32_bd, fun _ h => b32_rng h, by decide, by decide⟩
theorem pure54 : Pure b54 := ⟨b54_bd, fun _ h => b54_rng h, by decide, by decide⟩
theorem TP.Ok.x_rng {t : TP} (h : t.Ok) {p : Nat → Int} (hp : Pure p) {a b : Nat} (ha : a ≤ 12) (hb : b ≤ 12) : TT (-t.D) (t.x p a b) ∧ SS t.D (t.x p a b) := by
  obtain ⟨r1, r2⟩ := h.b_range ha hb
  obtain ⟨p1, p2⟩ := hp.rng t.D h.hD.1
  exact sub_range r1 r2 p1 p2
theorem TP.Ok.x_fits {t : TP} (h : t.Ok) {p : Nat → Int} (hp : Pure p) {a b : Nat} (ha : a ≤ 12) (hb : b ≤ 12) : fitsV (t.x p a b) t.D := by
  have hD := h.hD
  refine ⟨⟨hD.1, by omega⟩, fun j hj => ?_⟩
  have h1 := (h.b_fits ha hb).2 j hj
  have h2 := (up_fits (f := p) hD hp.bd).2 j hj
  obtain ⟨r1, r2⟩ := h.x_rng hp ha hb
  have hbt := h.b_tame ha hb
  have tx : tame (t.x p a b) t.D := by
    refine ⟨?_, ?_, ⟨?_, ?_, ?_⟩, r1, r2⟩
    · have e1 : t.x p a b 1 = t.S b 1 - t.S a 1 - p 1 * t.D := by
        unfold TP.x TP.b; rw [fol_same _ _ (by decide)]; unfold TP.y TP.n; rw [fol_same _ _ (by decide), fol_same _ _ (by decide)]
      have d1 := h.diff hb ha 1
      rw [show bd 1 = 25 from rfl, show oct (7 * t.D) 1 = 0 from rfl] at d1
      have m1 := Int.mul_le_mul_of_nonneg_right hp.u.1.1 (show 0 ≤ t.D by omega)
      have m2 := Int.mul_le_mul_of_nonneg_right hp.u.1.2 (show 0 ≤ t.D by omega)
      rw [e1]
      omega
    · have e1 : t.x p a b 2 = t.S b 2 - t.S a 2 - p 2 * t.D := by
        unfold TP.x TP.b; rw [fol_same _ _ (by decide)]; unfold TP.y TP.n; rw [fol_same _ _ (by decide), fol_same _ _ (by decide)]
      have d1 := h.diff hb ha 2
      rw [show bd 2 = 2 from rfl, show oct (7 * t.D) 2 = 0 from rfl] at d1
      have m1 := Int.mul_le_mul_of_nonneg_right hp.u.2.1 (show 0 ≤ t.D by omega)
      have m2 := Int.mul_le_mul_of_nonneg_right hp.u.2.2 (show 0 ≤ t.D by omega)
      rw [e1]
      omega
    · unfold TP.x; rw [hbt.h3.1, hp.z.1]; omega
    · unfold TP.x; rw [hbt.h3.2.1, hp.z.2.1]; omega
    · unfold TP.x; rw [hbt.h3.2.2, hp.z.2.2]; omega
  exact (tx.fits ⟨hD.1, by omega⟩ (by omega)).2 j hj
theorem TP.Ok.x_join {t : TP} (h : t.Ok) {p : Nat → Int} (hp : Pure p) {a b : Nat} (ha : a ≤ 12) (hb : b ≤ 12) : joinS (nr (t.b a b) t.D) (nr (fun j => p j * t.D) t.D) (-1) = (nr (t.x p a b) t.D, 0) :=
  join_nr (h.b_fits ha hb) (up_fits h.hD hp.bd) (h.x_fits hp ha hb) fun j hj => by unfold TP.x; omega
end Go.Proofs.YtmcoadmnkelkkaaDoor
