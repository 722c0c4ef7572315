/- The law WideField returns true, where awake does. -/
import Derived.Test.YtgjbaamhpapeeaaDoorQuoG
import Derived.Test.YtgjbaamhpapeeaaDoorLawI
import Derived.Test.YtgjbaamhpapeeaaDoorNatW
namespace Go.Proofs.YtgjbaamhpapeeaaDoor
open Go.RowKit
set_option linter.unusedVariables false
set_option linter.unusedSimpArgs false

@[go_sem] theorem run_max_int4 {P : Program} (w : World) (ts : Array TypeId) (t : TypeId) (k1 k2 k3 k4 : IntKind) (x y z u : Int) :
    (Builtin.max_ ts t #[.int k1 x, .int k2 y, .int k3 z, .int k4 u]).run P w = .ok (.int k1 (max (max (max x y) z) u)) w := by
  have e : ∀ x y : Int, (if y > x then y else x) = max x y := by
    intro x y
    rw [Int.max_def]
    split <;> split <;> omega
  simp [Builtin.max_, Builtin.max2, e]
theorem QF.prop {w : World} {ng A c B d a b k} (h : QF w ng A c B d a b k) (hk : k ≤ 512) : Calls Tryd.prog 48 #[qv ng A (limbs a).length c B (limbs b).length d] w fun e w' => e = .returned (.bool true) ∧ Below w.heap.size w w' := by
  have h1 := Proper_any ng A B _ _ c d _ _ w h.1 h.2.1
  have h2 := h.proper hk
  simp only [QV.proper, qof] at h2
  rw [h2] at h1
  exact h1
theorem QF.mono {w : World} {ng A c B d a b k l} (h : QF w ng A c B d a b k) (hk : k ≤ l) : QF w ng A c B d a b l := ⟨h.1, h.2.1, h.2.2.1, Nat.le_trans h.2.2.2.1 hk, Nat.le_trans h.2.2.2.2 hk⟩
/-- the difference, with what is asked of it -/
theorem QSub_s {w : World} {n m : Bool} {A B C D : Option Addr} {ca cb cc cd a b x y k l : Nat} (h1 : QF w n A ca B cb a b k) (h2 : QF w m C cc D cd x y l) (hk : k + l + 1 ≤ 512) :
    Calls Tryd.prog 50 #[qv n A (limbs a).length ca B (limbs b).length cb, qv m C (limbs x).length cc D (limbs y).length cd] w fun e w' => (∃ A c B d a' b', e = .returned (.tuple #[qv (decide (qcmpN n a b m x y < 0)) A (limbs a').length c B (limbs b').length d, .int .i64 0]) ∧ QF w' (decide (qcmpN n a b m x y < 0)) A c B d a' b' (k + l + 1) ∧ (qcmpN n a b m x y = 0 ↔ a' = 0)) ∧ Below w.heap.size w w' :=
  (QSub_r h1 h2 hk).mono fun e w' ⟨h, hb⟩ => ⟨by
    rw [qcmp_neg h1.pr h2.pr]
    obtain ⟨A, c, B, d, g1, g2⟩ := h
    exact ⟨A, c, B, d, _, _, g1, g2, by rw [qcmp_zero h1.pr h2.pr, redA_zero (Nat.mul_ne_zero h1.pr.pos h2.pr.pos)]⟩, hb⟩
/-- what is left beside the floor -/
theorem QSub_p {w : World} {n : Bool} {A B C D : Option Addr} {ca cb cc cd a b k l : Nat} (h1 : QF w n A ca B cb a b k) (h2 : QF w n C cc D cd (floorN n a b) 1 l) (hk : k + l + 1 ≤ 512) :
    Calls Tryd.prog 50 #[qv n A (limbs a).length ca B (limbs b).length cb, qv n C (limbs (floorN n a b)).length cc D (limbs 1).length cd] w fun e w' => (∃ A c B d a' b', e = .returned (.tuple #[qv false A (limbs a').length c B (limbs b').length d, .int .i64 0]) ∧ QF w' false A c B d a' b' (k + l + 1) ∧ qcmpN false a' b' false 1 1 = -1) ∧ Below w.heap.size w w' :=
  (QSub_r h1 h2 hk).mono fun e w' ⟨h, hb⟩ => ⟨by
    obtain ⟨f1, f2, f3⟩ := floor_part h1.pr
    obtain ⟨A, c, B, d, g1, g2⟩ := h
    rw [f1] at g1 g2
    refine ⟨A, c, B, d, _, _, g1, g2, ?_⟩
    have := (red_lt (a := (sumS n a b (!n) (floorN n a b) 1).2) (b := b * 1) (by have := h1.pr.pos; omega)).2 f2
    rw [Nat.mul_one b] at this ⊢
    simp only [qcmpN]
    simp
    exact cmpN_lt this, hb⟩
theorem floor_len {w : World} {n A ca B cb a b k} (h : QF w n A ca B cb a b k) : (limbs (floorN n a b)).length ≤ k + 1 := by
  have h1 := h.2.2.2.1
  have h2 : (limbs (a / b + 1)).length ≤ k + 1 := by
    refine limbs_len_add (Nat.le_trans (limbs_len_mono (Nat.div_le_self a b)) h1) ?_
    rcases Nat.eq_zero_or_pos k with h0 | h0
    · subst h0
      exact absurd (List.eq_nil_of_length_eq_zero (Nat.le_zero.1 h.2.2.2.2)) (fun h0 => h.pr.pos (limbs_nil_iff.1 h0))
    · exact Nat.le_trans (limbs_len_le (k := 1) (by decide)) h0
  refine Nat.le_trans (limbs_len_mono ?_) h2
  unfold floorN
  split <;> omega
theorem Arg.one {w w' : World} (t : TypeId) (h : w' = w.alloc (.cells #[.int .u32 1] t)) : Arg w' (some ⟨w.heap.size, 0, none⟩) (limbs 1).length 1 (limbs 1) := by
  subst h
  rw [limbs_one (by decide) (by decide)]
  exact ⟨U_one w 1 (by decide) t, by simp, by decide⟩

set_option maxHeartbeats 6400000 in
set_option maxRecDepth 100000 in
theorem field_main (HAW : Awake) {n m : Bool} {A B C D : Option Addr} {ca cb cc cd a b x y : Nat} (k : Int) (w : World) (HA : Sl (QF w n A ca B cb a b 8)) (HB : Sl (QF w m C cc D cd x y 8)) (HT : Sl (Tab10 w)) :
    Calls Tryd.prog 11 #[.agg #[.bool n, .slice A (limbs a).length ca, .slice B (limbs b).length cb, .bool m, .slice C (limbs x).length cc, .slice D (limbs y).length cd, .int .i64 k]] w fun e w' => e = .returned (.bool true) ∧ Below w.heap.size w w' := by
  have HPA : Sl _ := ⟨fun (W : World) (h : Below w.heap.size w W) => (HA.out.below h).prop (by decide)⟩
  have HPB : Sl _ := ⟨fun (W : World) (h : Below w.heap.size w W) => (HB.out.below h).prop (by decide)⟩
  unfold qv at HPA HPB
  have KP_0 : Sl _ := ⟨HA.out.below (w' := w.alloc (.cells #[.bool n, .slice A (limbs a).length ca, .slice B (limbs b).length cb, .bool m, .slice C (limbs x).length cc, .slice D (limbs y).length cd, .int .i64 k] 34)) ((Below.refl _ _).alloc (Nat.le_refl _) _)⟩
  have KQ_0 : Sl _ := ⟨HB.out.below (w' := w.alloc (.cells #[.bool n, .slice A (limbs a).length ca, .slice B (limbs b).length cb, .bool m, .slice C (limbs x).length cc, .slice D (limbs y).length cd, .int .i64 k] 34)) ((Below.refl _ _).alloc (Nat.le_refl _) _)⟩
  have u_0 : Below w.heap.size w (w.alloc (.cells #[.bool n, .slice A (limbs a).length ca, .slice B (limbs b).length cb, .bool m, .slice C (limbs x).length cc, .slice D (limbs y).length cd, .int .i64 k] 34)) := (Below.refl _ _).alloc (Nat.le_refl _) _
  have X_0 := Blk.new w 34 #[.bool n, .slice A (limbs a).length ca, .slice B (limbs b).length cb, .bool m, .slice C (limbs x).length cc, .slice D (limbs y).length cd, .int .i64 k]
  obtain ⟨M, hM⟩ : ∃ M : Nat, M = max (max (max (limbs a).length (limbs b).length) (limbs x).length) (limbs y).length := ⟨_, rfl⟩
  have hM8 : M ≤ 8 := by have := HA.out.2.2.2; have := HB.out.2.2.2; omega
  have hmax : max (max (max ((limbs a).length : Int) ((limbs b).length : Int)) ((limbs x).length : Int)) ((limbs y).length : Int) = (M : Int) := by omega
  clear hM
  go_enter Tryd.func11, Tryd.ntmps11
  go_wp2_with fail
  generalize w.alloc (.cells #[.bool n, .slice A (limbs a).length ca, .slice B (limbs b).length cb, .bool m, .slice C (limbs x).length cc, .slice D (limbs y).length cd, .int .i64 k] 34) = w0 at *
  refine (HPA.out w0 u_0).mono ?_; rintro e w1 ⟨rfl, hb⟩
  clear hmax hM8
  have X_1 := X_0.below hb X_0.lt
  have KP_1 : Sl _ := ⟨KP_0.out.below hb⟩
  have KQ_1 : Sl _ := ⟨KQ_0.out.below hb⟩
  have u_1 := u_0.trans (hb.mono u_0.size)
  clear X_0 KP_0 KQ_0 u_0 hb
  have x0 := X_1.cell 0
  have x1 := X_1.cell 1
  have x2 := X_1.cell 2
  have x3 := X_1.cell 3
  have x4 := X_1.cell 4
  have x5 := X_1.cell 5
  have x6 := X_1.cell 6
  simp at x0 x1 x2 x3 x4 x5 x6
  go_wp2_with fail
  refine (HPB.out w1 u_1).mono ?_; rintro e w2 ⟨rfl, hb⟩
  clear x0 x1 x2 x3 x4 x5 x6
  clear HPA HPB
  have X_2 := X_1.below hb X_1.lt
  have KP_2 : Sl _ := ⟨KP_1.out.below hb⟩
  have KQ_2 : Sl _ := ⟨KQ_1.out.below hb⟩
  have u_2 := u_1.trans (hb.mono u_1.size)
  clear X_1 KP_1 KQ_1 u_1 hb
  have x0 := X_2.cell 0
  have x1 := X_2.cell 1
  have x2 := X_2.cell 2
  have x3 := X_2.cell 3
  have x4 := X_2.cell 4
  have x5 := X_2.cell 5
  have x6 := X_2.cell 6
  simp at x0 x1 x2 x3 x4 x5 x6
  have hc := QAdd_f KP_2.out KQ_2.out (by decide)
  unfold qv at hc
  have HC : Sl _ := ⟨hc⟩
  clear hc
  go_wp2_with fail
  (with_reducible refine HC.out.mono ?_); rintro e w3 ⟨hr, hb⟩
  obtain ⟨s3, A3, c3, B3, d3, a3, b3, rfl, g, hq⟩ := hr
  unfold qv
  clear HC
  clear x0 x1 x2 x3 x4 x5 x6
  have RKS : Sl _ := ⟨hq⟩
  clear hq
  have hgKS : Sl _ := ⟨g⟩
  clear g
  have X_3 := X_2.below hb X_2.lt
  have KP_3 : Sl _ := ⟨KP_2.out.below hb⟩
  have KQ_3 : Sl _ := ⟨KQ_2.out.below hb⟩
  have u_3 := u_2.trans (hb.mono u_2.size)
  clear X_2 KP_2 KQ_2 u_2 hb
  have KS_3 := hgKS
  clear hgKS
  have hal : Below w3.heap.size w3 (w3.alloc (.cells #[.bool s3, .slice A3 (limbs a3).length c3, .slice B3 (limbs b3).length d3] 32)) := (Below.refl _ _).alloc (Nat.le_refl _) _
  have VS_4 := Blk.new w3 32 #[.bool s3, .slice A3 (limbs a3).length c3, .slice B3 (limbs b3).length d3]
  have X_4 := X_3.below hal X_3.lt
  have KP_4 : Sl _ := ⟨KP_3.out.below hal⟩
  have KQ_4 : Sl _ := ⟨KQ_3.out.below hal⟩
  have KS_4 : Sl _ := ⟨KS_3.out.below hal⟩
  have u_4 := u_3.trans (hal.mono u_3.size)
  clear X_3 KP_3 KQ_3 KS_3 u_3 hal
  have x0 := X_4.cell 0
  have x1 := X_4.cell 1
  have x2 := X_4.cell 2
  have x3 := X_4.cell 3
  have x4 := X_4.cell 4
  have x5 := X_4.cell 5
  have x6 := X_4.cell 6
  have vs0 := VS_4.cell 0
  have vs1 := VS_4.cell 1
  have vs2 := VS_4.cell 2
  simp at x0 x1 x2 x3 x4 x5 x6 vs0 vs1 vs2
  have hc := QSub_f KS_4.out KQ_4.out (by decide)
  unfold qv at hc
  have HC : Sl _ := ⟨hc⟩
  clear hc
  go_wp2_with fail
  generalize hw4 : w3.alloc (.cells #[.bool s3, .slice A3 (limbs a3).length c3, .slice B3 (limbs b3).length d3] 32) = w4 at *
  clear hw4
  generalize w3.heap.size = G4 at *
  (with_reducible refine HC.out.mono ?_); rintro e w5 ⟨hr, hb⟩
  obtain ⟨s5, A5, c5, B5, d5, a5, b5, rfl, g, hq⟩ := hr
  unfold qv
  clear HC
  clear x0 x1 x2 x3 x4 x5 x6 vs0 vs1 vs2
  have RKA : Sl _ := ⟨hq⟩
  clear hq
  have hgKA : Sl _ := ⟨g⟩
  clear g
  have X_5 := X_4.below hb X_4.lt
  have VS_5 := VS_4.below hb VS_4.lt
  have KP_5 : Sl _ := ⟨KP_4.out.below hb⟩
  have KQ_5 : Sl _ := ⟨KQ_4.out.below hb⟩
  have KS_5 : Sl _ := ⟨KS_4.out.below hb⟩
  have u_5 := u_4.trans (hb.mono u_4.size)
  clear X_4 VS_4 KP_4 KQ_4 KS_4 u_4 hb
  have KA_5 := hgKA
  clear hgKA
  have hal : Below w5.heap.size w5 (w5.alloc (.cells #[.bool s5, .slice A5 (limbs a5).length c5, .slice B5 (limbs b5).length d5] 32)) := (Below.refl _ _).alloc (Nat.le_refl _) _
  have VA_6 := Blk.new w5 32 #[.bool s5, .slice A5 (limbs a5).length c5, .slice B5 (limbs b5).length d5]
  have X_6 := X_5.below hal X_5.lt
  have VS_6 := VS_5.below hal VS_5.lt
  have KP_6 : Sl _ := ⟨KP_5.out.below hal⟩
  have KQ_6 : Sl _ := ⟨KQ_5.out.below hal⟩
  have KS_6 : Sl _ := ⟨KS_5.out.below hal⟩
  have KA_6 : Sl _ := ⟨KA_5.out.below hal⟩
  have u_6 := u_5.trans (hal.mono u_5.size)
  clear X_5 VS_5 KP_5 KQ_5 KS_5 KA_5 u_5 hal
  have x0 := X_6.cell 0
  have x1 := X_6.cell 1
  have x2 := X_6.cell 2
  have x3 := X_6.cell 3
  have x4 := X_6.cell 4
  have x5 := X_6.cell 5
  have x6 := X_6.cell 6
  simp at x0 x1 x2 x3 x4 x5 x6
  have hc := QMul_f KP_6.out KQ_6.out (by decide)
  unfold qv at hc
  have HC : Sl _ := ⟨hc⟩
  clear hc
  go_wp2_with fail
  generalize hw6 : w5.alloc (.cells #[.bool s5, .slice A5 (limbs a5).length c5, .slice B5 (limbs b5).length d5] 32) = w6 at *
  clear hw6
  generalize w5.heap.size = G6 at *
  (with_reducible refine HC.out.mono ?_); rintro e w7 ⟨hr, hb⟩
  obtain ⟨s7, A7, c7, B7, d7, a7, b7, rfl, g, hq⟩ := hr
  unfold qv
  clear HC
  clear x0 x1 x2 x3 x4 x5 x6
  have RKM : Sl _ := ⟨hq⟩
  clear hq
  have hgKM : Sl _ := ⟨g⟩
  clear g
  have X_7 := X_6.below hb X_6.lt
  have VS_7 := VS_6.below hb VS_6.lt
  have VA_7 := VA_6.below hb VA_6.lt
  have KP_7 : Sl _ := ⟨KP_6.out.below hb⟩
  have KQ_7 : Sl _ := ⟨KQ_6.out.below hb⟩
  have KS_7 : Sl _ := ⟨KS_6.out.below hb⟩
  have KA_7 : Sl _ := ⟨KA_6.out.below hb⟩
  have u_7 := u_6.trans (hb.mono u_6.size)
  clear X_6 VS_6 VA_6 KP_6 KQ_6 KS_6 KA_6 u_6 hb
  have KM_7 := hgKM
  clear hgKM
  have hal : Below w7.heap.size w7 (w7.alloc (.cells #[.bool s7, .slice A7 (limbs a7).length c7, .slice B7 (limbs b7).length d7] 32)) := (Below.refl _ _).alloc (Nat.le_refl _) _
  have VM_8 := Blk.new w7 32 #[.bool s7, .slice A7 (limbs a7).length c7, .slice B7 (limbs b7).length d7]
  have X_8 := X_7.below hal X_7.lt
  have VS_8 := VS_7.below hal VS_7.lt
  have VA_8 := VA_7.below hal VA_7.lt
  have KP_8 : Sl _ := ⟨KP_7.out.below hal⟩
  have KQ_8 : Sl _ := ⟨KQ_7.out.below hal⟩
  have KS_8 : Sl _ := ⟨KS_7.out.below hal⟩
  have KA_8 : Sl _ := ⟨KA_7.out.below hal⟩
  have KM_8 : Sl _ := ⟨KM_7.out.below hal⟩
  have u_8 := u_7.trans (hal.mono u_7.size)
  clear X_7 VS_7 VA_7 KP_7 KQ_7 KS_7 KA_7 KM_7 u_7 hal
  have x0 := X_8.cell 0
  have x1 := X_8.cell 1
  have x2 := X_8.cell 2
  have x3 := X_8.cell 3
  have x4 := X_8.cell 4
  have x5 := X_8.cell 5
  have x6 := X_8.cell 6
  have vs0 := VS_8.cell 0
  have vs1 := VS_8.cell 1
  have vs2 := VS_8.cell 2
  simp at x0 x1 x2 x3 x4 x5 x6 vs0 vs1 vs2
  have hc := QMul_f KS_8.out KQ_8.out (by decide)
  unfold qv at hc
  have HC : Sl _ := ⟨hc⟩
  clear hc
  go_wp2_with fail
  generalize hw8 : w7.alloc (.cells #[.bool s7, .slice A7 (limbs a7).length c7, .slice B7 (limbs b7).length d7] 32) = w8 at *
  clear hw8
  generalize w7.heap.size = G8 at *
  (with_reducible refine HC.out.mono ?_); rintro e w9 ⟨hr, hb⟩
  obtain ⟨s9, A9, c9, B9, d9, a9, b9, rfl, g, hq⟩ := hr
  unfold qv
  clear HC
  clear x0 x1 x2 x3 x4 x5 x6 vs0 vs1 vs2
  have RKU : Sl _ := ⟨hq⟩
  clear hq
  have hgKU : Sl _ := ⟨g⟩
  clear g
  have X_9 := X_8.below hb X_8.lt
  have VS_9 := VS_8.below hb VS_8.lt
  have VA_9 := VA_8.below hb VA_8.lt
  have VM_9 := VM_8.below hb VM_8.lt
  have KP_9 : Sl _ := ⟨KP_8.out.below hb⟩
  have KQ_9 : Sl _ := ⟨KQ_8.out.below hb⟩
  have KS_9 : Sl _ := ⟨KS_8.out.below hb⟩
  have KA_9 : Sl _ := ⟨KA_8.out.below hb⟩
  have KM_9 : Sl _ := ⟨KM_8.out.below hb⟩
  have u_9 := u_8.trans (hb.mono u_8.size)
  clear X_8 VS_8 VA_8 VM_8 KP_8 KQ_8 KS_8 KA_8 KM_8 u_8 hb
  have KU_9 := hgKU
  clear hgKU
  have hal : Below w9.heap.size w9 (w9.alloc (.cells #[.bool s9, .slice A9 (limbs a9).length c9, .slice B9 (limbs b9).length d9] 32)) := (Below.refl _ _).alloc (Nat.le_refl _) _
  have VU_10 := Blk.new w9 32 #[.bool s9, .slice A9 (limbs a9).length c9, .slice B9 (limbs b9).length d9]
  have X_10 := X_9.below hal X_9.lt
  have VS_10 := VS_9.below hal VS_9.lt
  have VA_10 := VA_9.below hal VA_9.lt
  have VM_10 := VM_9.below hal VM_9.lt
  have KP_10 : Sl _ := ⟨KP_9.out.below hal⟩
  have KQ_10 : Sl _ := ⟨KQ_9.out.below hal⟩
  have KS_10 : Sl _ := ⟨KS_9.out.below hal⟩
  have KA_10 : Sl _ := ⟨KA_9.out.below hal⟩
  have KM_10 : Sl _ := ⟨KM_9.out.below hal⟩
  have KU_10 : Sl _ := ⟨KU_9.out.below hal⟩
  have u_10 := u_9.trans (hal.mono u_9.size)
  clear X_9 VS_9 VA_9 VM_9 KP_9 KQ_9 KS_9 KA_9 KM_9 KU_9 u_9 hal
  have x0 := X_10.cell 0
  have x1 := X_10.cell 1
  have x2 := X_10.cell 2
  have x3 := X_10.cell 3
  have x4 := X_10.cell 4
  have x5 := X_10.cell 5
  have x6 := X_10.cell 6
  simp at x0 x1 x2 x3 x4 x5 x6
  have hc := QMul_f KQ_10.out KQ_10.out (by decide)
  unfold qv at hc
  have HC : Sl _ := ⟨hc⟩
  clear hc
  go_wp2_with fail
  generalize hw10 : w9.alloc (.cells #[.bool s9, .slice A9 (limbs a9).length c9, .slice B9 (limbs b9).length d9] 32) = w10 at *
  clear hw10
  generalize w9.heap.size = G10 at *
  (with_reducible refine HC.out.mono ?_); rintro e w11 ⟨hr, hb⟩
  obtain ⟨s11, A11, c11, B11, d11, a11, b11, rfl, g, hq⟩ := hr
  unfold qv
  clear HC
  clear x0 x1 x2 x3 x4 x5 x6
  have RKW : Sl _ := ⟨hq⟩
  clear hq
  have hgKW : Sl _ := ⟨g⟩
  clear g
  have X_11 := X_10.below hb X_10.lt
  have VS_11 := VS_10.below hb VS_10.lt
  have VA_11 := VA_10.below hb VA_10.lt
  have VM_11 := VM_10.below hb VM_10.lt
  have VU_11 := VU_10.below hb VU_10.lt
  have KP_11 : Sl _ := ⟨KP_10.out.below hb⟩
  have KQ_11 : Sl _ := ⟨KQ_10.out.below hb⟩
  have KS_11 : Sl _ := ⟨KS_10.out.below hb⟩
  have KA_11 : Sl _ := ⟨KA_10.out.below hb⟩
  have KM_11 : Sl _ := ⟨KM_10.out.below hb⟩
  have KU_11 : Sl _ := ⟨KU_10.out.below hb⟩
  have u_11 := u_10.trans (hb.mono u_10.size)
  clear X_10 VS_10 VA_10 VM_10 VU_10 KP_10 KQ_10 KS_10 KA_10 KM_10 KU_10 u_10 hb
  have KW_11 := hgKW
  clear hgKW
  have hal : Below w11.heap.size w11 (w11.alloc (.cells #[.bool s11, .slice A11 (limbs a11).length c11, .slice B11 (limbs b11).length d11] 32)) := (Below.refl _ _).alloc (Nat.le_refl _) _
  have VW_12 := Blk.new w11 32 #[.bool s11, .slice A11 (limbs a11).length c11, .slice B11 (limbs b11).length d11]
  have X_12 := X_11.below hal X_11.lt
  have VS_12 := VS_11.below hal VS_11.lt
  have VA_12 := VA_11.below hal VA_11.lt
  have VM_12 := VM_11.below hal VM_11.lt
  have VU_12 := VU_11.below hal VU_11.lt
  have KP_12 : Sl _ := ⟨KP_11.out.below hal⟩
  have KQ_12 : Sl _ := ⟨KQ_11.out.below hal⟩
  have KS_12 : Sl _ := ⟨KS_11.out.below hal⟩
  have KA_12 : Sl _ := ⟨KA_11.out.below hal⟩
  have KM_12 : Sl _ := ⟨KM_11.out.below hal⟩
  have KU_12 : Sl _ := ⟨KU_11.out.below hal⟩
  have KW_12 : Sl _ := ⟨KW_11.out.below hal⟩
  have u_12 := u_11.trans (hal.mono u_11.size)
  clear X_11 VS_11 VA_11 VM_11 VU_11 KP_11 KQ_11 KS_11 KA_11 KM_11 KU_11 KW_11 u_11 hal
  have vm0 := VM_12.cell 0
  have vm1 := VM_12.cell 1
  have vm2 := VM_12.cell 2
  have vw0 := VW_12.cell 0
  have vw1 := VW_12.cell 1
  have vw2 := VW_12.cell 2
  simp at vm0 vm1 vm2 vw0 vw1 vw2
  have hc := QAdd_f KM_12.out KW_12.out (by decide)
  unfold qv at hc
  have HC : Sl _ := ⟨hc⟩
  clear hc
  go_wp2_with fail
  generalize hw12 : w11.alloc (.cells #[.bool s11, .slice A11 (limbs a11).length c11, .slice B11 (limbs b11).length d11] 32) = w12 at *
  clear hw12
  generalize w11.heap.size = G12 at *
  (with_reducible refine HC.out.mono ?_); rintro e w13 ⟨hr, hb⟩
  obtain ⟨s13, A13, c13, B13, d13, a13, b13, rfl, g, hq⟩ := hr
  unfold qv
  clear HC
  clear vm0 vm1 vm2 vw0 vw1 vw2
  have RKR : Sl _ := ⟨hq⟩
  clear hq
  have hgKR : Sl _ := ⟨g⟩
  clear g
  have X_13 := X_12.below hb X_12.lt
  have VS_13 := VS_12.below hb VS_12.lt
  have VA_13 := VA_12.below hb VA_12.lt
  have VM_13 := VM_12.below hb VM_12.lt
  have VU_13 := VU_12.below hb VU_12.lt
  have VW_13 := VW_12.below hb VW_12.lt
  have KP_13 : Sl _ := ⟨KP_12.out.below hb⟩
  have KQ_13 : Sl _ := ⟨KQ_12.out.below hb⟩
  have KS_13 : Sl _ := ⟨KS_12.out.below hb⟩
  have KA_13 : Sl _ := ⟨KA_12.out.below hb⟩
  have KM_13 : Sl _ := ⟨KM_12.out.below hb⟩
  have KU_13 : Sl _ := ⟨KU_12.out.below hb⟩
  have KW_13 : Sl _ := ⟨KW_12.out.below hb⟩
  have u_13 := u_12.trans (hb.mono u_12.size)
  clear X_12 VS_12 VA_12 VM_12 VU_12 VW_12 KP_12 KQ_12 KS_12 KA_12 KM_12 KU_12 KW_12 u_12 hb
  have KR_13 := hgKR
  clear hgKR
  have hal : Below w13.heap.size w13 (w13.alloc (.cells #[.bool s13, .slice A13 (limbs a13).length c13, .slice B13 (limbs b13).length d13] 32)) := (Below.refl _ _).alloc (Nat.le_refl _) _
  have VR_14 := Blk.new w13 32 #[.bool s13, .slice A13 (limbs a13).length c13, .slice B13 (limbs b13).length d13]
  have X_14 := X_13.below hal X_13.lt
  have VS_14 := VS_13.below hal VS_13.lt
  have VA_14 := VA_13.below hal VA_13.lt
  have VM_14 := VM_13.below hal VM_13.lt
  have VU_14 := VU_13.below hal VU_13.lt
  have VW_14 := VW_13.below hal VW_13.lt
  have KP_14 : Sl _ := ⟨KP_13.out.below hal⟩
  have KQ_14 : Sl _ := ⟨KQ_13.out.below hal⟩
  have KS_14 : Sl _ := ⟨KS_13.out.below hal⟩
  have KA_14 : Sl _ := ⟨KA_13.out.below hal⟩
  have KM_14 : Sl _ := ⟨KM_13.out.below hal⟩
  have KU_14 : Sl _ := ⟨KU_13.out.below hal⟩
  have KW_14 : Sl _ := ⟨KW_13.out.below hal⟩
  have KR_14 : Sl _ := ⟨KR_13.out.below hal⟩
  have u_14 := u_13.trans (hal.mono u_13.size)
  clear X_13 VS_13 VA_13 VM_13 VU_13 VW_13 KP_13 KQ_13 KS_13 KA_13 KM_13 KU_13 KW_13 KR_13 u_13 hal
  have E1 : rq s5 a5 b5 = rq n a b := by rw [RKA.out, RKS.out]; exact rat_back _ _
  have E2 : rq s9 a9 b9 = rq s13 a13 b13 := by rw [RKU.out, RKS.out, RKR.out, RKM.out, RKW.out]; exact rat_dist _ _
  have HE1 : Sl _ := ⟨E1⟩
  have HE2 : Sl _ := ⟨E2⟩
  clear E1 E2 RKA RKS RKU RKR RKW
  have x0 := X_14.cell 0
  have x1 := X_14.cell 1
  have x2 := X_14.cell 2
  have x3 := X_14.cell 3
  have x4 := X_14.cell 4
  have x5 := X_14.cell 5
  have x6 := X_14.cell 6
  have va0 := VA_14.cell 0
  have va1 := VA_14.cell 1
  have va2 := VA_14.cell 2
  simp at x0 x1 x2 x3 x4 x5 x6 va0 va1 va2
  have hc := sameQuo_f KA_14.out KP_14.out (by decide) (by decide) HE1.out
  unfold qv at hc
  have HC : Sl _ := ⟨hc⟩
  clear hc
  go_wp2_with fail
  generalize hw14 : w13.alloc (.cells #[.bool s13, .slice A13 (limbs a13).length c13, .slice B13 (limbs b13).length d13] 32) = w14 at *
  clear hw14
  generalize w13.heap.size = G14 at *
  (with_reducible refine HC.out.mono ?_); rintro e w15 ⟨hr, hb⟩
  subst hr
  clear HC
  clear x0 x1 x2 x3 x4 x5 x6 va0 va1 va2
  have X_15 := X_14.below hb X_14.lt
  have VM_15 := VM_14.below hb VM_14.lt
  have VU_15 := VU_14.below hb VU_14.lt
  have VR_15 := VR_14.below hb VR_14.lt
  have KP_15 : Sl _ := ⟨KP_14.out.below hb⟩
  have KQ_15 : Sl _ := ⟨KQ_14.out.below hb⟩
  have KM_15 : Sl _ := ⟨KM_14.out.below hb⟩
  have KU_15 : Sl _ := ⟨KU_14.out.below hb⟩
  have KR_15 : Sl _ := ⟨KR_14.out.below hb⟩
  have u_15 := u_14.trans (hb.mono u_14.size)
  clear X_14 VS_14 VA_14 VM_14 VU_14 VW_14 VR_14 KP_14 KQ_14 KS_14 KA_14 KM_14 KU_14 KW_14 KR_14 u_14 hb
  have vu0 := VU_15.cell 0
  have vu1 := VU_15.cell 1
  have vu2 := VU_15.cell 2
  have vr0 := VR_15.cell 0
  have vr1 := VR_15.cell 1
  have vr2 := VR_15.cell 2
  simp at vu0 vu1 vu2 vr0 vr1 vr2
  have hc := sameQuo_f KU_15.out KR_15.out (by decide) (by decide) HE2.out
  unfold qv at hc
  have HC : Sl _ := ⟨hc⟩
  clear hc
  go_wp2_with fail
  (with_reducible refine HC.out.mono ?_); rintro e w16 ⟨hr, hb⟩
  subst hr
  clear HC
  clear vu0 vu1 vu2 vr0 vr1 vr2
  clear HE1 HE2
  have X_16 := X_15.below hb X_15.lt
  have VM_16 := VM_15.below hb VM_15.lt
  have KP_16 : Sl _ := ⟨KP_15.out.below hb⟩
  have KQ_16 : Sl _ := ⟨KQ_15.out.below hb⟩
  have KM_16 : Sl _ := ⟨KM_15.out.below hb⟩
  have u_16 := u_15.trans (hb.mono u_15.size)
  clear X_15 VM_15 VU_15 VR_15 KP_15 KQ_15 KM_15 KU_15 KR_15 u_15 hb
  have x0 := X_16.cell 0
  have x1 := X_16.cell 1
  have x2 := X_16.cell 2
  have x3 := X_16.cell 3
  have x4 := X_16.cell 4
  have x5 := X_16.cell 5
  have x6 := X_16.cell 6
  simp at x0 x1 x2 x3 x4 x5 x6
  have hxl := limbs_nil_iff (n := x)
  by_cases hx : x = 0
  · have hx0 : (limbs x).length = 0 := by rw [hxl.2 hx]; rfl
    clear hxl hx RKM
    skip
    clear x0 x1 x2 x3 x4 x5 x6
    have x0 := X_16.cell 0
    have x1 := X_16.cell 1
    have x2 := X_16.cell 2
    have x3 := X_16.cell 3
    have x4 := X_16.cell 4
    have x5 := X_16.cell 5
    have x6 := X_16.cell 6
    simp at x0 x1 x2 x3 x4 x5 x6
    have hc := QSub_s KP_16.out KQ_16.out (by decide)
    unfold qv at hc
    rw [hx0] at hc
    have HC : Sl _ := ⟨hc⟩
    clear hc
    go_wp2_with fail
    (with_reducible refine HC.out.mono ?_); rintro e w17 ⟨hr, hb⟩
    obtain ⟨A17, c17, B17, d17, a17, b17, rfl, g, hq⟩ := hr
    clear hx0
    clear HC
    clear x0 x1 x2 x3 x4 x5 x6
    have hcq : Sl _ := ⟨hq⟩
    clear hq g
    have hsz : (limbs a17).length = 0 ↔ qcmpN n a b m x y = 0 := by rw [List.length_eq_zero_iff, limbs_nil_iff]; exact hcq.out.symm
    have X_17 := X_16.below hb X_16.lt
    have VM_17 := VM_16.below hb VM_16.lt
    have KP_17 : Sl _ := ⟨KP_16.out.below hb⟩
    have KQ_17 : Sl _ := ⟨KQ_16.out.below hb⟩
    have KM_17 : Sl _ := ⟨KM_16.out.below hb⟩
    have u_17 := u_16.trans (hb.mono u_16.size)
    clear X_16 VM_16 KP_16 KQ_16 KM_16 u_16 hb
    have hal : Below w17.heap.size w17 (w17.alloc (.cells #[.bool (decide (qcmpN n a b m x y < 0)), .slice A17 (limbs a17).length c17, .slice B17 (limbs b17).length d17] 32)) := (Below.refl _ _).alloc (Nat.le_refl _) _
    have VD_18 := Blk.new w17 32 #[.bool (decide (qcmpN n a b m x y < 0)), .slice A17 (limbs a17).length c17, .slice B17 (limbs b17).length d17]
    have X_18 := X_17.below hal X_17.lt
    have VM_18 := VM_17.below hal VM_17.lt
    have KP_18 : Sl _ := ⟨KP_17.out.below hal⟩
    have KQ_18 : Sl _ := ⟨KQ_17.out.below hal⟩
    have KM_18 : Sl _ := ⟨KM_17.out.below hal⟩
    have u_18 := u_17.trans (hal.mono u_17.size)
    clear X_17 VM_17 KP_17 KQ_17 KM_17 u_17 hal
    have hcc := QCmp_f KP_18.out KQ_18.out (by decide) (by decide)
    generalize qcmpN n a b m x y = z at *
    have hzz : (((limbs a17).length : Int) == 0) = (z == 0) := by rw [Bool.eq_iff_iff, beq_iff_eq, beq_iff_eq, ← hsz]; omega
    have HZZ : Sl _ := ⟨hzz⟩
    clear hsz hcq hzz
    have x0 := X_18.cell 0
    have x1 := X_18.cell 1
    have x2 := X_18.cell 2
    have x3 := X_18.cell 3
    have x4 := X_18.cell 4
    have x5 := X_18.cell 5
    have x6 := X_18.cell 6
    simp at x0 x1 x2 x3 x4 x5 x6
    have hc := hcc
    unfold qv at hc
    have HC : Sl _ := ⟨hc⟩
    clear hc
    go_wp2_with fail
    generalize hw18 : w17.alloc (.cells #[.bool (decide (qcmpN n a b m x y < 0)), .slice A17 (limbs a17).length c17, .slice B17 (limbs b17).length d17] 32) = w18 at *
    clear hw18
    generalize w17.heap.size = G18 at *
    (with_reducible refine HC.out.mono ?_); rintro e w19 ⟨hr, hb⟩
    subst hr
    clear HC
    clear x0 x1 x2 x3 x4 x5 x6
    clear hcc
    have X_19 := X_18.below hb X_18.lt
    have VM_19 := VM_18.below hb VM_18.lt
    have VD_19 := VD_18.below hb VD_18.lt
    have KP_19 : Sl _ := ⟨KP_18.out.below hb⟩
    have KQ_19 : Sl _ := ⟨KQ_18.out.below hb⟩
    have KM_19 : Sl _ := ⟨KM_18.out.below hb⟩
    have u_19 := u_18.trans (hb.mono u_18.size)
    clear X_18 VM_18 VD_18 KP_18 KQ_18 KM_18 u_18 hb
    have x0 := X_19.cell 0
    have x1 := X_19.cell 1
    have x2 := X_19.cell 2
    have x3 := X_19.cell 3
    have x4 := X_19.cell 4
    have x5 := X_19.cell 5
    have x6 := X_19.cell 6
    have vd0 := VD_19.cell 0
    have vd1 := VD_19.cell 1
    have vd2 := VD_19.cell 2
    simp at x0 x1 x2 x3 x4 x5 x6 vd0 vd1 vd2
    have hzz := HZZ.out
    have hc := QFloor_f KP_19.out (by decide)
    unfold qv at hc
    have HC : Sl _ := ⟨hc⟩
    clear hc
    go_wp2_with fail
    refine HC.out.mono ?_; rintro e w20 ⟨⟨A20, c20, rfl, g⟩, hb⟩
    have HF : Sl _ := ⟨g⟩
    clear g HC hzz HZZ
    clear x0 x1 x2 x3 x4 x5 x6 vd0 vd1 vd2
    have X_20 := X_19.below hb X_19.lt
    have VM_20 := VM_19.below hb VM_19.lt
    have KP_20 : Sl _ := ⟨KP_19.out.below hb⟩
    have KM_20 : Sl _ := ⟨KM_19.out.below hb⟩
    have u_20 := u_19.trans (hb.mono u_19.size)
    clear X_19 VM_19 VD_19 KP_19 KQ_19 KM_19 u_19 hb
    have hal : Below w20.heap.size w20 (w20.alloc (.cells #[.int .u32 1] 59)) := (Below.refl _ _).alloc (Nat.le_refl _) _
    have hfl := floor_len (KP_20.out)
    have KF_21 : Sl (QF (w20.alloc (.cells #[.int .u32 1] 59)) n A20 c20 (some ⟨w20.heap.size, 0, none⟩) 1 (floorN n a b) 1 9) := ⟨(HF.out.below hal), Arg.one _ rfl, (floor_part KP_20.out.pr).2.2, hfl, Nat.le_trans (limbs_len_le (k := 1) (by decide)) (by decide)⟩
    clear hfl HF
    have x0 := X_20.cell 0
    have x1 := X_20.cell 1
    have x2 := X_20.cell 2
    have x3 := X_20.cell 3
    have x4 := X_20.cell 4
    have x5 := X_20.cell 5
    have x6 := X_20.cell 6
    simp at x0 x1 x2 x3 x4 x5 x6
    have X_21 := X_20.below hal X_20.lt
    have VM_21 := VM_20.below hal VM_20.lt
    have KP_21 : Sl _ := ⟨KP_20.out.below hal⟩
    have KM_21 : Sl _ := ⟨KM_20.out.below hal⟩
    have u_21 := u_20.trans (hal.mono u_20.size)
    clear X_20 VM_20 KP_20 KM_20 u_20 hal
    have hl1 : (limbs 1).length = 1 := by rw [limbs_one (by decide) (by decide)]; rfl
    have hc := QSub_p KP_21.out KF_21.out (by decide)
    unfold qv at hc
    rw [hl1] at hc
    generalize floorN n a b = fl at *
    have HC : Sl _ := ⟨hc⟩
    clear hc hl1
    go_wp2_with fail
    generalize hw21 : w20.alloc (.cells #[.int .u32 1] 59) = w21 at *
    clear hw21
    refine HC.out.mono ?_; rintro e w22 ⟨⟨A21, c21, B21, d21, a21, b21, rfl, g, hq⟩, hb⟩
    have hgKT : Sl _ := ⟨g⟩
    have HQ : Sl _ := ⟨hq⟩
    clear g hq HC KF_21
    clear x0 x1 x2 x3 x4 x5 x6
    have VM_22 := VM_21.below hb VM_21.lt
    have KM_22 : Sl _ := ⟨KM_21.out.below hb⟩
    have u_22 := u_21.trans (hb.mono u_21.size)
    clear X_21 VM_21 KP_21 KM_21 u_21 hb
    have KT_22 := hgKT
    clear hgKT
    have hal : Below w22.heap.size w22 (w22.alloc (.cells #[.bool false, .slice A21 (limbs a21).length c21, .slice B21 (limbs b21).length d21] 32)) := (Below.refl _ _).alloc (Nat.le_refl _) _
    have VT_23 := Blk.new w22 32 #[.bool false, .slice A21 (limbs a21).length c21, .slice B21 (limbs b21).length d21]
    have VM_23 := VM_22.below hal VM_22.lt
    have KM_23 : Sl _ := ⟨KM_22.out.below hal⟩
    have KT_23 : Sl _ := ⟨KT_22.out.below hal⟩
    have u_23 := u_22.trans (hal.mono u_22.size)
    clear VM_22 KM_22 KT_22 u_22 hal
    go_wp2_with fail
    generalize hw23 : w22.alloc (.cells #[.bool false, .slice A21 (limbs a21).length c21, .slice B21 (limbs b21).length d21] 32) = w23 at *
    clear hw23
    generalize w22.heap.size = G23 at *
    have vt0 := VT_23.cell 0
    have vt1 := VT_23.cell 1
    have vt2 := VT_23.cell 2
    simp at vt0 vt1 vt2
    have hS : Sl (∀ w' : World, RowKit.Below w23.heap.size w23 w' → w'.cell? ⟨G23, 0, none⟩ = some (.bool false) ∧ w'.cell? ⟨G23, 1, none⟩ = some (.slice A21 (limbs a21).length c21) ∧ w'.cell? ⟨G23, 2, none⟩ = some (.slice B21 (limbs b21).length d21)) := ⟨fun w' h => by
      have e0 := VT_23.below h VT_23.lt
      exact ⟨by rw [e0.cell]; rfl, by rw [e0.cell]; rfl, by rw [e0.cell]; rfl⟩⟩
    have hQ1 : Sl (∀ w' : World, RowKit.Below w23.heap.size w23 w' → QF w' false A21 c21 B21 d21 a21 b21 18) := ⟨fun w' h => KT_23.out.below h⟩
    have hd1 : RowKit.Below w23.heap.size w23 w23.drew := below_drewN (Below.refl _ _) 1
    have hq1 := fun W => quo_one W
    unfold qv at hq1
    have HQ1 : Sl _ := ⟨hq1⟩
    clear hq1 KT_23 VT_23
    go_region_held3 (fun w' => w'.cell? ⟨G23, 0, none⟩ = some (.bool false) ∧ w'.cell? ⟨G23, 1, none⟩ = some (.slice A21 (limbs a21).length c21) ∧ w'.cell? ⟨G23, 2, none⟩ = some (.slice B21 (limbs b21).length d21))
      (first | (refine hS.out _ ?_; assumption) | go_keep)
      (first
        | (go_at_call 55; (with_reducible refine (HQ1.out _).mono ?_); rintro e wa ⟨⟨Aa, c_a, Ba, da, rfl, ga⟩, ha⟩; have ha' := hd1.trans (ha.mono hd1.size))
        | (go_at_call 53; have hh := QCmp_f (hQ1.out wa ha') ga (by decide) (by decide); unfold qv at hh; rw [HQ.out] at hh; (with_reducible refine hh.mono ?_); rintro e wb ⟨rfl, hb⟩; have hb' := ha'.trans (hb.mono ha'.size))
        | fail)
    all_goals (
      obtain ⟨t0, t1, t2⟩ := hS.out wb hb'
      have uu := u_23.trans (hb'.mono u_23.size)
      go_wp2_with fail
      refine (HAW wb (HT.out.below uu)).mono ?_; rintro e wc ⟨rfl, hc⟩
      go_wp2_with fail
      go_ret
      exact ⟨rfl, uu.trans (hc.mono uu.size)⟩)
  · have hx0 : (limbs x).length ≠ 0 := fun h => hx (hxl.1 (List.eq_nil_of_length_eq_zero h))
    have hxp : 0 < (limbs x).length := Nat.pos_of_ne_zero hx0
    have hxx : Sl _ := ⟨hx⟩
    clear hxl hx hx0
    clear x0 x1 x2 x3 x4 x5 x6
    have x0 := X_16.cell 0
    have x1 := X_16.cell 1
    have x2 := X_16.cell 2
    have x3 := X_16.cell 3
    have x4 := X_16.cell 4
    have x5 := X_16.cell 5
    have x6 := X_16.cell 6
    have vm0 := VM_16.cell 0
    have vm1 := VM_16.cell 1
    have vm2 := VM_16.cell 2
    simp at x0 x1 x2 x3 x4 x5 x6 vm0 vm1 vm2
    have hc := QDiv_f KM_16.out KQ_16.out hxx.out (by decide)
    unfold qv at hc
    have HC : Sl _ := ⟨hc⟩
    clear hc
    go_wp2_with fail
    (with_reducible refine HC.out.mono ?_); rintro e w17 ⟨hr, hb⟩
    obtain ⟨z, hr, hz⟩ := hr
    obtain ⟨s15, A15, c15, B15, d15, a15, b15, rfl, g, hq⟩ := hr
    unfold qv
    clear HC
    clear x0 x1 x2 x3 x4 x5 x6 vm0 vm1 vm2
    rw [← hq] at hz
    have E3 : rq s15 a15 b15 = rq n a b := rat_cancel (rq_ne (KQ_16.out.pr.pos) hxx.out) (by rw [hz, RKM.out])
    have HE3 : Sl _ := ⟨E3⟩
    clear E3 hz hxx RKM
    have RKV : Sl _ := ⟨hq⟩
    clear hq
    have hgKV : Sl _ := ⟨g⟩
    clear g
    have X_17 := X_16.below hb X_16.lt
    have VM_17 := VM_16.below hb VM_16.lt
    have KP_17 : Sl _ := ⟨KP_16.out.below hb⟩
    have KQ_17 : Sl _ := ⟨KQ_16.out.below hb⟩
    have KM_17 : Sl _ := ⟨KM_16.out.below hb⟩
    have u_17 := u_16.trans (hb.mono u_16.size)
    clear X_16 VM_16 KP_16 KQ_16 KM_16 u_16 hb
    have KV_17 := hgKV
    clear hgKV
    have hal : Below w17.heap.size w17 (w17.alloc (.cells #[.bool s15, .slice A15 (limbs a15).length c15, .slice B15 (limbs b15).length d15] 32)) := (Below.refl _ _).alloc (Nat.le_refl _) _
    have VV_18 := Blk.new w17 32 #[.bool s15, .slice A15 (limbs a15).length c15, .slice B15 (limbs b15).length d15]
    have X_18 := X_17.below hal X_17.lt
    have VM_18 := VM_17.below hal VM_17.lt
    have KP_18 : Sl _ := ⟨KP_17.out.below hal⟩
    have KQ_18 : Sl _ := ⟨KQ_17.out.below hal⟩
    have KM_18 : Sl _ := ⟨KM_17.out.below hal⟩
    have KV_18 : Sl _ := ⟨KV_17.out.below hal⟩
    have u_18 := u_17.trans (hal.mono u_17.size)
    clear X_17 VM_17 KP_17 KQ_17 KM_17 KV_17 u_17 hal
    have x0 := X_18.cell 0
    have x1 := X_18.cell 1
    have x2 := X_18.cell 2
    have x3 := X_18.cell 3
    have x4 := X_18.cell 4
    have x5 := X_18.cell 5
    have x6 := X_18.cell 6
    have vv0 := VV_18.cell 0
    have vv1 := VV_18.cell 1
    have vv2 := VV_18.cell 2
    simp at x0 x1 x2 x3 x4 x5 x6 vv0 vv1 vv2
    have hc := sameQuo_f KV_18.out KP_18.out (by decide) (by decide) HE3.out
    unfold qv at hc
    have HC : Sl _ := ⟨hc⟩
    clear hc
    go_wp2_with fail
    generalize hw18 : w17.alloc (.cells #[.bool s15, .slice A15 (limbs a15).length c15, .slice B15 (limbs b15).length d15] 32) = w18 at *
    clear hw18
    generalize w17.heap.size = G18 at *
    (with_reducible refine HC.out.mono ?_); rintro e w19 ⟨hr, hb⟩
    subst hr
    clear HC
    clear x0 x1 x2 x3 x4 x5 x6 vv0 vv1 vv2
    clear HE3 hxp
    have X_19 := X_18.below hb X_18.lt
    have KP_19 : Sl _ := ⟨KP_18.out.below hb⟩
    have KQ_19 : Sl _ := ⟨KQ_18.out.below hb⟩
    have u_19 := u_18.trans (hb.mono u_18.size)
    clear X_18 VM_18 VV_18 KP_18 KQ_18 KM_18 KV_18 u_18 hb
    have x0 := X_19.cell 0
    have x1 := X_19.cell 1
    have x2 := X_19.cell 2
    have x3 := X_19.cell 3
    have x4 := X_19.cell 4
    have x5 := X_19.cell 5
    have x6 := X_19.cell 6
    simp at x0 x1 x2 x3 x4 x5 x6
    have hc := QSub_s KP_19.out KQ_19.out (by decide)
    unfold qv at hc
    have HC : Sl _ := ⟨hc⟩
    clear hc
    go_wp2_with fail
    (with_reducible refine HC.out.mono ?_); rintro e w20 ⟨hr, hb⟩
    obtain ⟨A17, c17, B17, d17, a17, b17, rfl, g, hq⟩ := hr
    clear HC
    clear x0 x1 x2 x3 x4 x5 x6
    have hcq : Sl _ := ⟨hq⟩
    clear hq g
    have hsz : (limbs a17).length = 0 ↔ qcmpN n a b m x y = 0 := by rw [List.length_eq_zero_iff, limbs_nil_iff]; exact hcq.out.symm
    have X_20 := X_19.below hb X_19.lt
    have KP_20 : Sl _ := ⟨KP_19.out.below hb⟩
    have KQ_20 : Sl _ := ⟨KQ_19.out.below hb⟩
    have u_20 := u_19.trans (hb.mono u_19.size)
    clear X_19 KP_19 KQ_19 u_19 hb
    have hal : Below w20.heap.size w20 (w20.alloc (.cells #[.bool (decide (qcmpN n a b m x y < 0)), .slice A17 (limbs a17).length c17, .slice B17 (limbs b17).length d17] 32)) := (Below.refl _ _).alloc (Nat.le_refl _) _
    have VD_21 := Blk.new w20 32 #[.bool (decide (qcmpN n a b m x y < 0)), .slice A17 (limbs a17).length c17, .slice B17 (limbs b17).length d17]
    have X_21 := X_20.below hal X_20.lt
    have KP_21 : Sl _ := ⟨KP_20.out.below hal⟩
    have KQ_21 : Sl _ := ⟨KQ_20.out.below hal⟩
    have u_21 := u_20.trans (hal.mono u_20.size)
    clear X_20 KP_20 KQ_20 u_20 hal
    have hcc := QCmp_f KP_21.out KQ_21.out (by decide) (by decide)
    generalize qcmpN n a b m x y = z at *
    have hzz : (((limbs a17).length : Int) == 0) = (z == 0) := by rw [Bool.eq_iff_iff, beq_iff_eq, beq_iff_eq, ← hsz]; omega
    have HZZ : Sl _ := ⟨hzz⟩
    clear hsz hcq hzz
    have x0 := X_21.cell 0
    have x1 := X_21.cell 1
    have x2 := X_21.cell 2
    have x3 := X_21.cell 3
    have x4 := X_21.cell 4
    have x5 := X_21.cell 5
    have x6 := X_21.cell 6
    simp at x0 x1 x2 x3 x4 x5 x6
    have hc := hcc
    unfold qv at hc
    have HC : Sl _ := ⟨hc⟩
    clear hc
    go_wp2_with fail
    generalize hw21 : w20.alloc (.cells #[.bool (decide (qcmpN n a b m x y < 0)), .slice A17 (limbs a17).length c17, .slice B17 (limbs b17).length d17] 32) = w21 at *
    clear hw21
    generalize w20.heap.size = G21 at *
    (with_reducible refine HC.out.mono ?_); rintro e w22 ⟨hr, hb⟩
    subst hr
    clear HC
    clear x0 x1 x2 x3 x4 x5 x6
    clear hcc
    have X_22 := X_21.below hb X_21.lt
    have VD_22 := VD_21.below hb VD_21.lt
    have KP_22 : Sl _ := ⟨KP_21.out.below hb⟩
    have KQ_22 : Sl _ := ⟨KQ_21.out.below hb⟩
    have u_22 := u_21.trans (hb.mono u_21.size)
    clear X_21 VD_21 KP_21 KQ_21 u_21 hb
    have x0 := X_22.cell 0
    have x1 := X_22.cell 1
    have x2 := X_22.cell 2
    have x3 := X_22.cell 3
    have x4 := X_22.cell 4
    have x5 := X_22.cell 5
    have x6 := X_22.cell 6
    have vd0 := VD_22.cell 0
    have vd1 := VD_22.cell 1
    have vd2 := VD_22.cell 2
    simp at x0 x1 x2 x3 x4 x5 x6 vd0 vd1 vd2
    have hzz := HZZ.out
    have hc := QFloor_f KP_22.out (by decide)
    unfold qv at hc
    have HC : Sl _ := ⟨hc⟩
    clear hc
    go_wp2_with fail
    refine HC.out.mono ?_; rintro e w23 ⟨⟨A20, c20, rfl, g⟩, hb⟩
    have HF : Sl _ := ⟨g⟩
    clear g HC hzz HZZ
    clear x0 x1 x2 x3 x4 x5 x6 vd0 vd1 vd2
    have X_23 := X_22.below hb X_22.lt
    have KP_23 : Sl _ := ⟨KP_22.out.below hb⟩
    have u_23 := u_22.trans (hb.mono u_22.size)
    clear X_22 VD_22 KP_22 KQ_22 u_22 hb
    have hal : Below w23.heap.size w23 (w23.alloc (.cells #[.int .u32 1] 59)) := (Below.refl _ _).alloc (Nat.le_refl _) _
    have hfl := floor_len (KP_23.out)
    have KF_24 : Sl (QF (w23.alloc (.cells #[.int .u32 1] 59)) n A20 c20 (some ⟨w23.heap.size, 0, none⟩) 1 (floorN n a b) 1 9) := ⟨(HF.out.below hal), Arg.one _ rfl, (floor_part KP_23.out.pr).2.2, hfl, Nat.le_trans (limbs_len_le (k := 1) (by decide)) (by decide)⟩
    clear hfl HF
    have x0 := X_23.cell 0
    have x1 := X_23.cell 1
    have x2 := X_23.cell 2
    have x3 := X_23.cell 3
    have x4 := X_23.cell 4
    have x5 := X_23.cell 5
    have x6 := X_23.cell 6
    simp at x0 x1 x2 x3 x4 x5 x6
    have X_24 := X_23.below hal X_23.lt
    have KP_24 : Sl _ := ⟨KP_23.out.below hal⟩
    have u_24 := u_23.trans (hal.mono u_23.size)
    clear X_23 KP_23 u_23 hal
    have hl1 : (limbs 1).length = 1 := by rw [limbs_one (by decide) (by decide)]; rfl
    have hc := QSub_p KP_24.out KF_24.out (by decide)
    unfold qv at hc
    rw [hl1] at hc
    generalize floorN n a b = fl at *
    have HC : Sl _ := ⟨hc⟩
    clear hc hl1
    go_wp2_with fail
    generalize hw24 : w23.alloc (.cells #[.int .u32 1] 59) = w24 at *
    clear hw24
    refine HC.out.mono ?_; rintro e w25 ⟨⟨A21, c21, B21, d21, a21, b21, rfl, g, hq⟩, hb⟩
    have hgKT : Sl _ := ⟨g⟩
    have HQ : Sl _ := ⟨hq⟩
    clear g hq HC KF_24
    clear x0 x1 x2 x3 x4 x5 x6
    have u_25 := u_24.trans (hb.mono u_24.size)
    clear X_24 KP_24 u_24 hb
    have KT_25 := hgKT
    clear hgKT
    have hal : Below w25.heap.size w25 (w25.alloc (.cells #[.bool false, .slice A21 (limbs a21).length c21, .slice B21 (limbs b21).length d21] 32)) := (Below.refl _ _).alloc (Nat.le_refl _) _
    have VT_26 := Blk.new w25 32 #[.bool false, .slice A21 (limbs a21).length c21, .slice B21 (limbs b21).length d21]
    have KT_26 : Sl _ := ⟨KT_25.out.below hal⟩
    have u_26 := u_25.trans (hal.mono u_25.size)
    clear KT_25 u_25 hal
    go_wp2_with fail
    generalize hw26 : w25.alloc (.cells #[.bool false, .slice A21 (limbs a21).length c21, .slice B21 (limbs b21).length d21] 32) = w26 at *
    clear hw26
    generalize w25.heap.size = G26 at *
    have vt0 := VT_26.cell 0
    have vt1 := VT_26.cell 1
    have vt2 := VT_26.cell 2
    simp at vt0 vt1 vt2
    have hS : Sl (∀ w' : World, RowKit.Below w26.heap.size w26 w' → w'.cell? ⟨G26, 0, none⟩ = some (.bool false) ∧ w'.cell? ⟨G26, 1, none⟩ = some (.slice A21 (limbs a21).length c21) ∧ w'.cell? ⟨G26, 2, none⟩ = some (.slice B21 (limbs b21).length d21)) := ⟨fun w' h => by
      have e0 := VT_26.below h VT_26.lt
      exact ⟨by rw [e0.cell]; rfl, by rw [e0.cell]; rfl, by rw [e0.cell]; rfl⟩⟩
    have hQ1 : Sl (∀ w' : World, RowKit.Below w26.heap.size w26 w' → QF w' false A21 c21 B21 d21 a21 b21 18) := ⟨fun w' h => KT_26.out.below h⟩
    have hd1 : RowKit.Below w26.heap.size w26 w26.drew := below_drewN (Below.refl _ _) 1
    have hq1 := fun W => quo_one W
    unfold qv at hq1
    have HQ1 : Sl _ := ⟨hq1⟩
    clear hq1 KT_26 VT_26
    go_region_held3 (fun w' => w'.cell? ⟨G26, 0, none⟩ = some (.bool false) ∧ w'.cell? ⟨G26, 1, none⟩ = some (.slice A21 (limbs a21).length c21) ∧ w'.cell? ⟨G26, 2, none⟩ = some (.slice B21 (limbs b21).length d21))
      (first | (refine hS.out _ ?_; assumption) | go_keep)
      (first
        | (go_at_call 55; (with_reducible refine (HQ1.out _).mono ?_); rintro e wa ⟨⟨Aa, c_a, Ba, da, rfl, ga⟩, ha⟩; have ha' := hd1.trans (ha.mono hd1.size))
        | (go_at_call 53; have hh := QCmp_f (hQ1.out wa ha') ga (by decide) (by decide); unfold qv at hh; rw [HQ.out] at hh; (with_reducible refine hh.mono ?_); rintro e wb ⟨rfl, hb⟩; have hb' := ha'.trans (hb.mono ha'.size))
        | fail)
    all_goals (
      obtain ⟨t0, t1, t2⟩ := hS.out wb hb'
      have uu := u_26.trans (hb'.mono u_26.size)
      go_wp2_with fail
      refine (HAW wb (HT.out.below uu)).mono ?_; rintro e wc ⟨rfl, hc⟩
      go_wp2_with fail
      go_ret
      exact ⟨rfl, uu.trans (hc.mono uu.size)⟩)

theorem field_case {a b c d : Nat} {P Q : Bool} (h : ¬ ((a ≤ 8 ∧ b ≤ 8 ∧ c ≤ 8 ∧ d ≤ 8) ∧ P = true ∧ Q = true)) :
    8 < a ∨ 8 < b ∨ 8 < c ∨ 8 < d ∨ (a ≤ 8 ∧ b ≤ 8 ∧ c ≤ 8 ∧ d ≤ 8 ∧ P = false) ∨ (a ≤ 8 ∧ b ≤ 8 ∧ c ≤ 8 ∧ d ≤ 8 ∧ P = true ∧ Q = false) := by
  cases P <;> cases Q <;> simp at h ⊢ <;> omega
set_option maxHeartbeats 1600000 in
set_option maxRecDepth 100000 in
theorem field_any (HAW : Awake) (p q : QV) (k : Int) (hk : -9223372036854775808 ≤ k ∧ k < 9223372036854775808) (w : World) (hp : p.ok w) (hq : q.ok w) (ht : Tab10 w) :
    Calls Tryd.prog 11 #[.agg #[.bool p.neg, .slice p.A p.n p.c, .slice p.B p.m p.d, .bool q.neg, .slice q.A q.n q.c, .slice q.B q.m q.d, .int .i64 k]] w fun e w' => e = .returned (.bool true) ∧ Below w.heap.size w w' := by
  by_cases h : (p.n ≤ 8 ∧ p.m ≤ 8 ∧ q.n ≤ 8 ∧ q.m ≤ 8) ∧ p.proper = true ∧ q.proper = true
  · obtain ⟨⟨a1, a2, a3, a4⟩, a5, a6⟩ := h
    obtain ⟨e1, e2, h1⟩ := QV.qf hp a5 a1 a2
    obtain ⟨e3, e4, h2⟩ := QV.qf hq a6 a3 a4
    have hm := field_main HAW k w ⟨h1⟩ ⟨h2⟩ ⟨ht⟩
    rw [← e1, ← e2, ← e3, ← e4] at hm
    exact hm
  · have HT : Sl _ := ⟨ht⟩
    have HP1 : Sl _ := ⟨fun (W : World) (h : Below w.heap.size w W) => Proper_any p.neg p.A p.B p.n p.m p.c p.d p.la p.lb W (hp.num.below h) (hp.den.below h)⟩
    have HP2 : Sl _ := ⟨fun (W : World) (h : Below w.heap.size w W) => Proper_any q.neg q.A q.B q.n q.m q.c q.d q.la q.lb W (hq.num.below h) (hq.den.below h)⟩
    have e1 : p.proper = properS p.neg p.la p.lb := rfl
    have e2 : q.proper = properS q.neg q.la q.lb := rfl
    rw [← e1] at HP1
    rw [← e2] at HP2
    unfold qv at HP1 HP2
    have m1 := hp.num.2
    have m2 := hp.den.2
    have m3 := hq.num.2
    have m4 := hq.den.2
    unfold maxLen at m1 m2 m3 m4
    obtain ⟨l1, l2⟩ := m1
    obtain ⟨l3, l4⟩ := m2
    obtain ⟨l5, l6⟩ := m3
    obtain ⟨l7, l8⟩ := m4
    have u_0 : Below w.heap.size w (w.alloc (.cells #[.bool p.neg, .slice p.A p.n p.c, .slice p.B p.m p.d, .bool q.neg, .slice q.A q.n q.c, .slice q.B q.m q.d, .int .i64 k] 34)) := (Below.refl _ _).alloc (Nat.le_refl _) _
    have X_0 := Blk.new w 34 #[.bool p.neg, .slice p.A p.n p.c, .slice p.B p.m p.d, .bool q.neg, .slice q.A q.n q.c, .slice q.B q.m q.d, .int .i64 k]
    have hcs := field_case h
    clear h hp hq ht e1 e2
    generalize p.proper = pp at *
    generalize q.proper = qq at *
    rcases hcs with hc | hc | hc | hc | ⟨c1, c2, c3, c4, rfl⟩ | ⟨c1, c2, c3, c4, rfl, rfl⟩
    · go_enter Tryd.func11, Tryd.ntmps11
      go_wp2_with fail
      refine (HAW _ (HT.out.below u_0)).mono ?_; rintro e w2 ⟨rfl, hb⟩
      go_wp2_with fail
      go_ret
      exact ⟨rfl, u_0.trans (hb.mono u_0.size)⟩
    · go_enter Tryd.func11, Tryd.ntmps11
      go_wp2_with fail
      refine (HAW _ (HT.out.below u_0)).mono ?_; rintro e w2 ⟨rfl, hb⟩
      go_wp2_with fail
      go_ret
      exact ⟨rfl, u_0.trans (hb.mono u_0.size)⟩
    · go_enter Tryd.func11, Tryd.ntmps11
      go_wp2_with fail
      refine (HAW _ (HT.out.below u_0)).mono ?_; rintro e w2 ⟨rfl, hb⟩
      go_wp2_with fail
      go_ret
      exact ⟨rfl, u_0.trans (hb.mono u_0.size)⟩
    · go_enter Tryd.func11, Tryd.ntmps11
      go_wp2_with fail
      refine (HAW _ (HT.out.below u_0)).mono ?_; rintro e w2 ⟨rfl, hb⟩
      go_wp2_with fail
      go_ret
      exact ⟨rfl, u_0.trans (hb.mono u_0.size)⟩
    · go_enter Tryd.func11, Tryd.ntmps11
      go_wp2_with fail
      generalize w.alloc (.cells #[.bool p.neg, .slice p.A p.n p.c, .slice p.B p.m p.d, .bool q.neg, .slice q.A q.n q.c, .slice q.B q.m q.d, .int .i64 k] 34) = w0 at *
      refine (HP1.out w0 u_0).mono ?_; rintro e w1 ⟨rfl, hb⟩
      have u_1 := u_0.trans (hb.mono u_0.size)
      go_wp2_with fail
      refine (HAW _ (HT.out.below u_1)).mono ?_; rintro e w2 ⟨rfl, hb2⟩
      go_wp2_with fail
      go_ret
      exact ⟨rfl, u_1.trans (hb2.mono u_1.size)⟩
    · go_enter Tryd.func11, Tryd.ntmps11
      go_wp2_with fail
      generalize w.alloc (.cells #[.bool p.neg, .slice p.A p.n p.c, .slice p.B p.m p.d, .bool q.neg, .slice q.A q.n q.c, .slice q.B q.m q.d, .int .i64 k] 34) = w0 at *
      refine (HP1.out w0 u_0).mono ?_; rintro e w1 ⟨rfl, hb⟩
      have u_1 := u_0.trans (hb.mono u_0.size)
      have X_1 := X_0.below hb X_0.lt
      have x3 := X_1.cell 3
      have x4 := X_1.cell 4
      have x5 := X_1.cell 5
      simp at x3 x4 x5
      go_wp2_with fail
      refine (HP2.out w1 u_1).mono ?_; rintro e w2 ⟨rfl, hb2⟩
      have u_2 := u_1.trans (hb2.mono u_1.size)
      clear x3 x4 x5
      go_wp2_with fail
      refine (HAW _ (HT.out.below u_2)).mono ?_; rintro e w3 ⟨rfl, hb3⟩
      go_wp2_with fail
      go_ret
      exact ⟨rfl, u_2.trans (hb3.mono u_2.size)⟩
end Go.Proofs.YtgjbaamhpapeeaaDoor
