/- Package wide: the sum of two fractions, of any length. -/
import Derived.Test.YtgjbaamhpapeeaaGreatDoorWideO
namespace Go.Proofs.YtgjbaamhpapeeaaGreatDoor
set_option linter.unusedSimpArgs false
open Go.RowKit Go.Lib
set_option linter.unusedVariables false

/-- numerator and sign of a sum -/
def sumS (na : Bool) (a b : Nat) (nb : Bool) (c d : Nat) : Bool × Nat :=
  if na = nb then (na, a * d + c * b) else if a * d < c * b then (nb, c * b - a * d) else (na, a * d - c * b)
/-- a fraction as a result, not in lowest terms -/
def QVal (neg : Bool) (a b : Nat) (e : Ending) (w : World) : Prop :=
  ∃ A c B d, e = .returned (qv neg A (limbs a).length c B (limbs b).length d) ∧ Arg w A (limbs a).length c (limbs a) ∧ Arg w B (limbs b).length d (limbs b)

theorem times_at (A B : Option Addr) (n m c d a b : Nat) (w0 : World) (ha : U w0 A n (limbs a)) (hb : U w0 B m (limbs b)) (hn : n ≤ 4294967296) (hm : m ≤ 4294967296) :
    ∀ w : World, Below w0.heap.size w0 w → Calls Tryz.prog 45 #[.slice A n c, .slice B m d] w fun e w' => Limbs (limbs (a * b)) e w' ∧ Below w.heap.size w w' ∧ Below w0.heap.size w0 w' := fun w h =>
  (times_any A B n m c d a b w (ha.below h) (hb.below h) hn hm).mono fun e w' ⟨h1, h2⟩ => ⟨h1, h2, h.trans (h2.mono h.size)⟩

set_option maxHeartbeats 800000 in
set_option maxRecDepth 100000 in
theorem qplus_any (na nb : Bool) (A B C D : Option Addr) (n m k l ca cb cc cd a b c d : Nat) (w : World) (ha : Arg w A n ca (limbs a)) (hb : Arg w B m cb (limbs b)) (hc : Arg w C k cc (limbs c)) (hd : Arg w D l cd (limbs d))
    (hn : n ≤ 512) (hm : m ≤ 512) (hk : k ≤ 512) (hl : l ≤ 512) :
    Calls Tryz.prog 36 #[qv na A n ca B m cb, qv nb C k cc D l cd] w fun e w' => QVal (sumS na a b nb c d).1 (sumS na a b nb c d).2 (b * d) e w' ∧ Below w.heap.size w w' := by
  unfold qv
  have HA : Sl _ := ⟨ha⟩
  have HB : Sl _ := ⟨hb⟩
  have HC : Sl _ := ⟨hc⟩
  have HD : Sl _ := ⟨hd⟩
  clear ha hb hc hd
  go_enter Tryz.func36, Tryz.ntmps36
  go_wp2_with fail
  have hu : Below w.heap.size w (((w.alloc (.cells #[.bool na, .slice A n ca, .slice B m cb] 60)).alloc (.cells #[.bool nb, .slice C k cc, .slice D l cd] 60)).alloc (.cells #[.bool false, .slice none 0 0, .slice none 0 0] 60)) := (((Below.refl _ _).alloc (Nat.le_refl _) _).alloc (by simp) _).alloc (by simp; omega) _
  have hbl0 : Blk (((w.alloc (.cells #[.bool na, .slice A n ca, .slice B m cb] 60)).alloc (.cells #[.bool nb, .slice C k cc, .slice D l cd] 60)).alloc (.cells #[.bool false, .slice none 0 0, .slice none 0 0] 60)) w.heap.size 60 #[.bool na, .slice A n ca, .slice B m cb] := ((Blk.new _ _ _).alloc _).alloc _
  have hbl1 : Blk (((w.alloc (.cells #[.bool na, .slice A n ca, .slice B m cb] 60)).alloc (.cells #[.bool nb, .slice C k cc, .slice D l cd] 60)).alloc (.cells #[.bool false, .slice none 0 0, .slice none 0 0] 60)) (w.heap.size + 1) 60 #[.bool nb, .slice C k cc, .slice D l cd] := by
    have := (Blk.new (w.alloc (.cells #[.bool na, .slice A n ca, .slice B m cb] 60)) 60 #[.bool nb, .slice C k cc, .slice D l cd]).alloc (.cells #[.bool false, .slice none 0 0, .slice none 0 0] 60)
    simpa using this
  have hbl2 : Blk (((w.alloc (.cells #[.bool na, .slice A n ca, .slice B m cb] 60)).alloc (.cells #[.bool nb, .slice C k cc, .slice D l cd] 60)).alloc (.cells #[.bool false, .slice none 0 0, .slice none 0 0] 60)) (w.heap.size + 1 + 1) 60 #[.bool false, .slice none 0 0, .slice none 0 0] := by
    have := Blk.new ((w.alloc (.cells #[.bool na, .slice A n ca, .slice B m cb] 60)).alloc (.cells #[.bool nb, .slice C k cc, .slice D l cd] 60)) 60 #[.bool false, .slice none 0 0, .slice none 0 0]
    simpa using this
  generalize (((w.alloc (.cells #[.bool na, .slice A n ca, .slice B m cb] 60)).alloc (.cells #[.bool nb, .slice C k cc, .slice D l cd] 60)).alloc (.cells #[.bool false, .slice none 0 0, .slice none 0 0] 60)) = w1 at *
  have T1 : Sl _ := ⟨times_at A D n l ca cd a d w1 (HA.out.1.below hu) (HD.out.1.below hu) (by omega) (by omega)⟩
  have T2 : Sl _ := ⟨times_at C B k m cc cb c b w1 (HC.out.1.below hu) (HB.out.1.below hu) (by omega) (by omega)⟩
  have T3 : Sl _ := ⟨times_at B D m l cb cd b d w1 (HB.out.1.below hu) (HD.out.1.below hu) (by omega) (by omega)⟩
  have hS : Sl (∀ w' : World, RowKit.Below w1.heap.size w1 w' → w'.cell? ⟨w.heap.size, 1, none⟩ = some (.slice A n ca) ∧ w'.cell? ⟨w.heap.size, 2, none⟩ = some (.slice B m cb) ∧ w'.cell? ⟨w.heap.size + 1, 1, none⟩ = some (.slice C k cc) ∧ w'.cell? ⟨w.heap.size + 1, 2, none⟩ = some (.slice D l cd) ∧ RowKit.Below w1.heap.size w1 w') := ⟨fun w' h => by
    have e0 := hbl0.below h hbl0.lt
    have e1 := hbl1.below h hbl1.lt
    exact ⟨by rw [e0.cell]; rfl, by rw [e0.cell]; rfl, by rw [e1.cell]; rfl, by rw [e1.cell]; rfl, h⟩⟩
  have HBL : Sl _ := ⟨And.intro hbl0 (And.intro hbl1 hbl2)⟩
  have h0 := hS.out w1 (Below.refl _ _)
  obtain ⟨q1, q2, q3, q4, q5⟩ := h0
  have q5d : RowKit.Below w1.heap.size w1 w1.drew := below_drewN q5 1
  clear hbl0 hbl1 hbl2
  go_region_held3 (fun w' => w'.cell? ⟨w.heap.size, 1, none⟩ = some (.slice A n ca) ∧ w'.cell? ⟨w.heap.size, 2, none⟩ = some (.slice B m cb) ∧ w'.cell? ⟨w.heap.size + 1, 1, none⟩ = some (.slice C k cc) ∧ w'.cell? ⟨w.heap.size + 1, 2, none⟩ = some (.slice D l cd) ∧ RowKit.Below w1.heap.size w1 w')
    (first | exact hS.out _ (by assumption) | go_keep)
    (first
      | (go_at_call 45; (with_reducible refine (T1.out _ (by (go_split_ands; assumption))).mono ?_); rintro e w2 ⟨⟨A2, c2, rfl, a1, a2, a3⟩, hb2, hs2⟩)
      | (go_at_call 45; (with_reducible refine (T2.out _ (by (go_split_ands; assumption))).mono ?_); rintro e w3 ⟨⟨A3, c3, rfl, b1, b2, b3⟩, hb3, hs3⟩)
      | (go_at_call 45; (with_reducible refine (T3.out _ (by (go_split_ands; assumption))).mono ?_); rintro e w4 ⟨⟨A4, c4, rfl, d1, d2, d3⟩, hb4, hs4⟩))
  have hS4 : ∀ w' : World, RowKit.Below w4.heap.size w4 w' → (w'.cell? ⟨w.heap.size, 0, none⟩ = some (.bool na) ∧ w'.cell? ⟨w.heap.size + 1, 0, none⟩ = some (.bool nb)) ∧
      (w'.cell? ⟨w.heap.size + 1 + 1, 0, none⟩ = some (.bool false) ∧ w'.cell? ⟨w.heap.size + 1 + 1, 1, none⟩ = some (.slice none 0 0) ∧ w'.cell? ⟨w.heap.size + 1 + 1, 2, none⟩ = some (.slice none 0 0)) ∧
      (w'.frozen? ⟨w.heap.size + 1 + 1, 0, none⟩ = false ∧ w'.frozen? ⟨w.heap.size + 1 + 1, 1, none⟩ = false ∧ w'.frozen? ⟨w.heap.size + 1 + 1, 2, none⟩ = false) ∧ Blk w' (w.heap.size + 1 + 1) 60 #[.bool false, .slice none 0 0, .slice none 0 0] ∧ RowKit.Below w4.heap.size w4 w' := fun w' h => by
    have h' := hs4.trans (h.mono hs4.size)
    have e0 := HBL.out.1.below h' HBL.out.1.lt
    have e1 := HBL.out.2.1.below h' HBL.out.2.1.lt
    have e2 := HBL.out.2.2.below h' HBL.out.2.2.lt
    exact ⟨⟨by rw [e0.cell]; rfl, by rw [e1.cell]; rfl⟩, ⟨by rw [e2.cell]; rfl, by rw [e2.cell]; rfl, by rw [e2.cell]; rfl⟩, ⟨e2.frozen _, e2.frozen _, e2.frozen _⟩, e2, h⟩
  have H2 : Sl (Arg w4 A2 (limbs (a * d)).length c2 (limbs (a * d))) := ⟨⟨(a3.below hb3).below hb4, a1, a2⟩⟩
  have H3 : Sl (Arg w4 A3 (limbs (c * b)).length c3 (limbs (c * b))) := ⟨⟨b3.below hb4, b1, b2⟩⟩
  have H4 : Sl (Arg w4 A4 (limbs (b * d)).length c4 (limbs (b * d))) := ⟨⟨d3, d1, d2⟩⟩
  have hB4 := hu.trans (hs4.mono hu.size)
  have HS4 : Sl _ := ⟨hS4⟩
  have hl2 : (limbs (a * d)).length ≤ 1024 := by
    have h1 := limbs_len_mul a d; have h2 := HA.out.1.len; have h3 := HD.out.1.len; omega
  have hl3 : (limbs (c * b)).length ≤ 1024 := by
    have h1 := limbs_len_mul c b; have h2 := HC.out.1.len; have h3 := HB.out.1.len; omega
  clear hS4 a1 a2 a3 b1 b2 b3 d1 d2 d3 q1 q2 q3 q4 q5 q5d hs2 hs3 hb2 hb3 hb4 T1 T2 T3 hS
  try clear hHeld
  have hsum : sumS na a b nb c d = if na = nb then (na, a * d + c * b) else if a * d < c * b then (nb, c * b - a * d) else (na, a * d - c * b) := rfl
  have HSUM : Sl _ := ⟨hsum⟩
  clear hsum
  generalize hX : a * d = X at *
  generalize hY : c * b = Y at *
  generalize hZ : b * d = Z at *
  have HZ : Sl _ := ⟨hZ⟩
  clear hX hY hZ
  obtain ⟨⟨q0, q1⟩, ⟨q2, q3, q4⟩, ⟨q5, q6, q7⟩, q8, q9⟩ := HS4.out w4 (Below.refl _ _)
  have HQ8 : Sl _ := ⟨q8⟩
  clear q8
  have hn1 : noInt (.bool false) := fun _ _ => by simp
  have hn2 : noInt (.slice none 0 0) := fun _ _ => by simp
  by_cases hnn : na = nb
  · subst hnn
    have P1 : Sl _ := ⟨plus_any A2 A3 _ _ c2 c3 X Y w4.drew (H2.out.1.drewN 1) (H3.out.1.drewN 1) (by omega) (by omega)⟩
    go_wp2_with fail
    have hd : RowKit.Below w4.heap.size w4 w4.drew := below_drewN (Below.refl _ _) 1
    obtain ⟨⟨p0, p1⟩, _⟩ := HS4.out w4.drew hd
    go_region_with (go_at_call 48; (with_reducible refine P1.out.mono ?_); rintro e w5 ⟨⟨A5, c5, rfl, e1, e2, e3⟩, hb5⟩; have hb5' := hd.trans (hb5.mono hd.size); obtain ⟨⟨r0, r1⟩, ⟨r2, r3, r4⟩, ⟨r5, r6, r7⟩, r8, r9⟩ := HS4.out w5 hb5'; have HR8 : Sl _ := ⟨r8⟩; clear r8)
    all_goals (
      go_wp2_with fail
      refine bodyPost_ret (results_cell_row rfl _ _ (w.heap.size + 1 + 1) _ _ _ _ rfl (HR8.out.three _ _ _) Tryz.underlying60 rfl (by kernel_rfl)) rfl ?_
      rw [HSUM.out, if_pos True.intro, HZ.out]
      exact ⟨⟨A5, c5, A4, c4, rfl, Arg.three ⟨e3, e1, e2⟩ HR8.out hn1 hn2 hn2 _ _ _, (H4.out.below hb5').three HR8.out hn1 hn2 hn2 _ _ _⟩, below_three (hB4.trans (hb5'.mono hB4.size)) (by omega) _ _ _⟩)
  · have hnb : (na == nb) = false := by rw [beq_eq_false_iff_ne]; exact hnn
    have HC1 : Sl _ := ⟨cmp_any A2 A3 _ _ c2 c3 X Y w4 H2.out.1 H3.out.1 (by omega) (by omega)⟩
    have HNN : Sl _ := ⟨hnn⟩
    clear hnn
    by_cases hlt : X < Y
    · have hc := HC1.out
      rw [cmpN_lt hlt] at hc
      have HC2 : Sl _ := ⟨hc⟩
      have hml := limbs_len_mono (Nat.le_of_lt hlt)
      clear hc
      go_wp2_with fail
      refine HC2.out.mono ?_; rintro e w' ⟨rfl, nq, rfl⟩
      have hd : RowKit.Below w4.heap.size w4 (w4.drewN (nq + 1)) := below_drewN (Below.refl _ _) (nq + 1)
      have P1 : Sl _ := ⟨minus_any A3 A2 _ _ c3 c2 Y X (w4.drewN (nq + 1)) (H3.out.1.drewN (nq + 1)) (H2.out.1.drewN (nq + 1)) (by omega) hml (by omega)⟩
      go_wp2_with fail
      obtain ⟨⟨p0, p1⟩, _⟩ := HS4.out (w4.drewN (nq + 1)) hd
      go_region_with (go_at_call 66; (with_reducible refine P1.out.mono ?_); rintro e w5 ⟨⟨A5, c5, rfl, e1, e2, e3⟩, hb5⟩; have hb5' := hd.trans (hb5.mono hd.size); obtain ⟨⟨r0, r1⟩, ⟨r2, r3, r4⟩, ⟨r5, r6, r7⟩, r8, r9⟩ := HS4.out w5 hb5'; have HR8 : Sl _ := ⟨r8⟩; clear r8)
      all_goals (
        go_wp2_with fail
        refine bodyPost_ret (results_cell_row rfl _ _ (w.heap.size + 1 + 1) _ _ _ _ rfl (HR8.out.three _ _ _) Tryz.underlying60 rfl (by kernel_rfl)) rfl ?_
        rw [HSUM.out, if_neg HNN.out, if_pos hlt, HZ.out]
        exact ⟨⟨A5, c5, A4, c4, rfl, Arg.three ⟨e3, e1, e2⟩ HR8.out hn1 hn2 hn2 _ _ _, (H4.out.below hb5').three HR8.out hn1 hn2 hn2 _ _ _⟩, below_three (hB4.trans (hb5'.mono hB4.size)) (by omega) _ _ _⟩)
    · have hge : (0 : Int) ≤ cmpN X Y := by unfold cmpN; split <;> (try split) <;> omega
      have hc := HC1.out
      generalize cmpN X Y = z at hc hge
      have HC2 : Sl _ := ⟨hc⟩
      have hml := limbs_len_mono (Nat.le_of_not_lt hlt)
      clear hc
      go_wp2_with fail
      refine HC2.out.mono ?_; rintro e w' ⟨rfl, nq, rfl⟩
      have hd : RowKit.Below w4.heap.size w4 (w4.drewN (nq + 1)) := below_drewN (Below.refl _ _) (nq + 1)
      have P1 : Sl _ := ⟨minus_any A2 A3 _ _ c2 c3 X Y (w4.drewN (nq + 1)) (H2.out.1.drewN (nq + 1)) (H3.out.1.drewN (nq + 1)) (by omega) hml (by omega)⟩
      go_wp2_with fail
      obtain ⟨⟨p0, p1⟩, _⟩ := HS4.out (w4.drewN (nq + 1)) hd
      go_region_with (go_at_call 66; (with_reducible refine P1.out.mono ?_); rintro e w5 ⟨⟨A5, c5, rfl, e1, e2, e3⟩, hb5⟩; have hb5' := hd.trans (hb5.mono hd.size); obtain ⟨⟨r0, r1⟩, ⟨r2, r3, r4⟩, ⟨r5, r6, r7⟩, r8, r9⟩ := HS4.out w5 hb5'; have HR8 : Sl _ := ⟨r8⟩; clear r8)
      all_goals (
        go_wp2_with fail
        refine bodyPost_ret (results_cell_row rfl _ _ (w.heap.size + 1 + 1) _ _ _ _ rfl (HR8.out.three _ _ _) Tryz.underlying60 rfl (by kernel_rfl)) rfl ?_
        rw [HSUM.out, if_neg HNN.out, if_neg hlt, HZ.out]
        exact ⟨⟨A5, c5, A4, c4, rfl, Arg.three ⟨e3, e1, e2⟩ HR8.out hn1 hn2 hn2 _ _ _, (H4.out.below hb5').three HR8.out hn1 hn2 hn2 _ _ _⟩, below_three (hB4.trans (hb5'.mono hB4.size)) (by omega) _ _ _⟩)
end Go.Proofs.YtgjbaamhpapeeaaGreatDoor
