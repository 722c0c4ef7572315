/- Package wide: QFloor. -/
import Derived.Test.YtgjbaamhpapeeaaGreatDoorWideR
namespace Go.Proofs.YtgjbaamhpapeeaaGreatDoor
set_option linter.unusedSimpArgs false
open Go.RowKit
set_option linter.unusedVariables false

/-- sign, limbs, error -/
def FRes (neg : Bool) (l : List Nat) (er : Int) (e : Ending) (w : World) : Prop := ∃ A c, e = .returned (.tuple #[.bool neg, .slice A l.length c, .int .i64 er]) ∧ Arg w A l.length c l
def floorN (neg : Bool) (a b : Nat) : Nat := if neg = true ∧ a % b ≠ 0 then a / b + 1 else a / b
def QFloorRes (p : QV) (e : Ending) (w : World) : Prop :=
  if checkQ (fun _ => p) 1 = 0 then FRes p.neg (limbs (floorN p.neg (valOf p.la) (valOf p.lb))) 0 e w else FRes false [] (checkQ (fun _ => p) 1) e w
set_option maxHeartbeats 800000 in
set_option maxRecDepth 100000 in
theorem QFloor_any (p : QV) (w : World) (hp : p.ok w) :
    Calls Tryz.prog 19 #[p.val] w fun e w' => QFloorRes p e w' ∧ Below w.heap.size w w' := by
  have HP : Sl _ := ⟨hp⟩
  clear hp
  have hres : ∀ e w', QFloorRes p e w' = (if checkQ (fun _ => p) 1 = 0 then FRes p.neg (limbs (floorN p.neg (valOf p.la) (valOf p.lb))) 0 e w' else FRes false [] (checkQ (fun _ => p) 1) e w') := fun e w' => rfl
  have HR : Sl _ := ⟨hres⟩
  clear hres
  unfold QV.val qv
  go_enter Tryz.func19, Tryz.ntmps19
  go_wp2_with fail
  have hu : Below w.heap.size w ((w.alloc (.cells #[.bool p.neg, .slice p.A p.n p.c, .slice p.B p.m p.d] 25)).alloc (.cells #[.bool p.neg, .slice p.A p.n p.c, .slice p.B p.m p.d] 25)) := ((Below.refl _ _).alloc (Nat.le_refl _) _).alloc (by simp) _
  have hqc := qcells_one (w.alloc (.cells #[.bool p.neg, .slice p.A p.n p.c, .slice p.B p.m p.d] 25)) p 25
  have hbl := (Blk.new w 25 #[.bool p.neg, .slice p.A p.n p.c, .slice p.B p.m p.d]).alloc (.cells #[.bool p.neg, .slice p.A p.n p.c, .slice p.B p.m p.d] 25)
  have e2 : (w.alloc (.cells #[.bool p.neg, .slice p.A p.n p.c, .slice p.B p.m p.d] 25)).heap.size = w.heap.size + 1 := by simp
  rw [e2] at hqc
  clear e2
  generalize ((w.alloc (.cells #[.bool p.neg, .slice p.A p.n p.c, .slice p.B p.m p.d] 25)).alloc (.cells #[.bool p.neg, .slice p.A p.n p.c, .slice p.B p.m p.d] 25)) = w1 at *
  have HP1 : Sl _ := ⟨HP.out.below hu⟩
  have HCK : Sl _ := ⟨checked_any (w.heap.size + 1) 1 1 (fun _ => p) w1 (by decide) (by decide) hqc (fun _ _ => HP1.out)⟩
  clear hqc
  refine HCK.out.mono ?_; rintro e w2 ⟨hqs, hb2⟩
  have hu2 := hu.trans (hb2.mono hu.size)
  have hbl2 := hbl.below hb2 hbl.lt
  clear HCK hbl
  rcases hqs with ⟨h0, gg, cap, rfl, hqc⟩ | ⟨h0, rfl⟩
  · have hpp := checkQ_zero h0 0 (by decide)
    have FP : Sl (p.Fine w2) := ⟨QV.fine (HP1.out.below hb2) hpp⟩
    have hR0 : ∀ e w', QFloorRes p e w' = FRes p.neg (limbs (floorN p.neg (valOf p.la) (valOf p.lb))) 0 e w' := fun e w' => by rw [HR.out, if_pos h0]
    have HR0 : Sl _ := ⟨hR0⟩
    clear hpp h0 hR0 HR
    obtain ⟨p0, p1, p2⟩ := hqc.cells (i := 0) (by decide)
    simp only [Nat.zero_mul, Nat.zero_add] at p0 p1 p2
    have hdv := div_any p.A p.B p.n p.m p.c p.d (valOf p.la) (valOf p.lb) w2.drew (FP.out.num.1.drewN 1) (FP.out.den.1.drewN 1) (by have := FP.out.ln; omega) (by have := FP.out.ld; omega) FP.out.pos
    have hql : (limbs (valOf p.la / valOf p.lb)).length ≤ 512 := by
      have h1 := limbs_len_mono (Nat.div_le_self (valOf p.la) (valOf p.lb)); have h2 := FP.out.num.1.len; have h3 := FP.out.ln; omega
    have hfl : floorN p.neg (valOf p.la) (valOf p.lb) = if p.neg = true ∧ valOf p.la % valOf p.lb ≠ 0 then valOf p.la / valOf p.lb + 1 else valOf p.la / valOf p.lb := rfl
    have hrz : (limbs (valOf p.la % valOf p.lb)).length = 0 ↔ valOf p.la % valOf p.lb = 0 := by rw [List.length_eq_zero_iff, limbs_nil_iff]
    generalize floorN p.neg (valOf p.la) (valOf p.lb) = fl at *
    generalize valOf p.la / valOf p.lb = dq at *
    generalize valOf p.la % valOf p.lb = dr at *
    have HDV : Sl _ := ⟨hdv⟩
    have HFL : Sl _ := ⟨hfl⟩
    have HRZ : Sl _ := ⟨hrz⟩
    have hd : RowKit.Below w2.heap.size w2 w2.drew := below_drewN (Below.refl _ _) 1
    clear hdv hfl hrz hqc
    go_wp2_with fail
    go_region_with (go_at_call 47; (with_reducible refine HDV.out.mono ?_); rintro e w3 ⟨⟨A3, c3, B3, d3, rfl, k1, k2⟩, hb3⟩; have K1 : Sl _ := ⟨k1⟩; have hb3' := hd.trans (hb3.mono hd.size); clear k1 k2)
    all_goals (
      have hbl3 := hbl2.below hb3' hbl2.lt
      have y0 := hbl3.cell 0
      simp at y0
      have hB3 := hu2.trans (hb3'.mono hu2.size)
      have hqlz := HRZ.out
      rcases hng : p.neg with _ | _
      · rw [hng] at y0 HFL HR0
        have hf := HFL.out
        rw [if_neg (by simp)] at hf
        have HF2 : Sl _ := ⟨hf⟩
        clear hf hqlz hng
        go_wp2_with fail
        go_ret3
        rw [HR0.out, HF2.out]
        exact ⟨⟨A3, c3, rfl, K1.out⟩, hB3⟩
      · rw [hng] at y0 HFL HR0
        have HNG : Sl _ := ⟨hng⟩
        by_cases hz : dr = 0
        · have hf := HFL.out
          rw [if_neg (by simp [hz])] at hf
          have HF2 : Sl _ := ⟨hf⟩
          have hl0 := hqlz.2 hz
          clear hf hqlz hng hz
          go_wp2_with fail
          go_ret3
          rw [HR0.out, HF2.out]
          exact ⟨⟨A3, c3, rfl, K1.out⟩, hB3⟩
        · have hf := HFL.out
          rw [if_pos ⟨rfl, hz⟩] at hf
          have HF2 : Sl _ := ⟨hf⟩
          have hl0 : 0 < (limbs dr).length := by
            rcases Nat.eq_zero_or_pos (limbs dr).length with h | h
            · exact absurd (hqlz.1 h) hz
            · exact h
          clear hf hqlz hng hz
          go_wp2_with fail
          refine (of_any 1 _ (by decide)).mono ?_; rintro e w4 ⟨⟨A4, c4, rfl, k1, k2, k3⟩, hb4⟩
          have K3 : Sl _ := ⟨k3⟩
          clear k1 k2 k3
          have hB4 := hB3.trans (hb4.mono hB3.size)
          have hbl4 := hbl3.below hb4 hbl3.lt
          go_wp2_with fail
          refine (plus_any A3 A4 _ _ c3 c4 dq 1 _ (K1.out.below hb4).1 K3.out (by omega) (by have : (limbs 1).length ≤ 1 := limbs_len_le (by decide); omega)).mono ?_; rintro e w5 ⟨⟨A5, c5, rfl, k1, k2, k3⟩, hb5⟩
          have hB5 := hB4.trans (hb5.mono hB4.size)
          have z0 := (hbl4.below hb5 hbl4.lt).cell 0
          simp at z0
          rw [HNG.out] at z0
          have K5 : Sl (Arg w5 A5 (limbs (dq + 1)).length c5 (limbs (dq + 1))) := ⟨⟨k3, k1, k2⟩⟩
          clear k1 k2 k3
          go_wp2_with fail
          go_ret3
          rw [HR0.out, HF2.out]
          exact ⟨⟨A5, c5, rfl, K5.out⟩, hB5⟩)
  · have hR0 : ∀ e w', QFloorRes p e w' = FRes false [] (checkQ (fun _ => p) 1) e w' := fun e w' => by rw [HR.out, if_neg h0]
    have HR0 : Sl _ := ⟨hR0⟩
    clear hR0
    generalize checkQ (fun _ => p) 1 = er at *
    have hne : (er == 0) = false := by rw [beq_eq_false_iff_ne]; exact h0
    clear hbl2 h0 HR
    go_wp2_with fail
    go_ret3
    rw [HR0.out]
    exact ⟨⟨none, 0, rfl, ⟨U_nil _ _, by simp, by decide⟩⟩, hu2⟩
end Go.Proofs.YtgjbaamhpapeeaaGreatDoor
