/- Package crescendo: Needed. (Printed by gencxg.py.) -/
import Derived.Test.YtbaojmfkjpnfhaaGreatDoorCxF
namespace Go.Proofs.YtbaojmfkjpnfhaaGreatDoor
set_option linter.unusedSimpArgs false
open Go.RowKit
set_option linter.unusedVariables false

/-- the greatest of the steps that add the indices; none: one is never added -/
def ndA (st : Nat → Int) : List Int → Int → Option Int
  | [], p => some p
  | x :: l, p => if st x.toNat = 0 then none else ndA st l (max p (st x.toNat))
theorem ndA_drop {st : Nat → Int} {l : List Int} {j : Nat} (hj : j < l.length) (p : Int) : ndA st (l.drop j) p = if st (gt l j).toNat = 0 then none else ndA st (l.drop (j + 1)) (max p (st (gt l j).toNat)) := by
  have e : gt l j = l[j] := by rw [gt, List.getElem?_eq_getElem hj]; rfl
  rw [List.drop_eq_getElem_cons hj, ndA, e]
def stA (L : List RgV) (f : RgV → List Int) : Nat → Int := (stV 0 (L.map f) (fun _ => 0, 0)).1
/-- the position, and the error -/
def neeF (o : SpO) (L : List RgV) (r : RgV) : Int × Int :=
  if botE o L r = 0 then (match ndA (stA L RgV.l) r.l 0 with
    | none => (0, 4)
    | some p => match ndA (stA L RgV.k) r.k p with
      | none => (0, 4)
      | some q => (q, 0)) else (0, botE o L r)
theorem botE_ok {o : SpO} {L : List RgV} {r : RgV} (h : botE o L r = 0) : tabE o L = 0 ∧ regE o r = 0 := by
  unfold botE at h
  by_cases h1 : tabE o L = 0
  · rw [if_pos h1] at h; exact ⟨h1, h⟩
  · rw [if_neg h1] at h; exact absurd h h1
theorem tabE_ok {o : SpO} {L : List RgV} (h : tabE o L = 0) : specE o = 0 ∧ L.length ≤ 60 ∧ ∀ j, j < L.length → tabK o L j = 0 := by
  unfold tabE at h
  by_cases h1 : specE o = 0
  · rw [if_pos h1] at h
    by_cases h2 : 60 < L.length
    · rw [if_pos h2] at h; cases h
    · rw [if_neg h2] at h
      exact ⟨h1, by omega, fun j hj => fstE_zero h j (Nat.zero_le _) (by omega)⟩
  · rw [if_neg h1] at h; exact absurd h h1
theorem tabK_ok {o : SpO} {L : List RgV} {j : Nat} (h : tabK o L j = 0) : regE o (L[j]?.getD rg0) = 0 := by
  unfold tabK at h
  by_cases h4 : regE o (L[j]?.getD rg0) = 0
  · exact h4
  · rw [if_neg h4] at h; exact absurd h h4
/-- the registrations of a table without error -/
theorem tab_regs {o : SpO} {L : List RgV} (h : tabE o L = 0) : ∀ y ∈ L, regE o y = 0 := fun y hy => by
  obtain ⟨j, hj⟩ := List.mem_iff_getElem?.1 hy
  have h1 := tabK_ok ((tabE_ok h).2.2 j (List.getElem?_eq_some_iff.1 hj).1)
  rw [hj, Option.getD_some] at h1
  exact h1
theorem tab_ix {o : SpO} {L : List RgV} {w : World} {T : Option Addr} {n c : Nat} (h : tabE o L = 0) (hT : TbM w T n c L) : ∀ y ∈ L, (y.n ≤ 100000 ∧ ∀ j, j < y.n → 0 ≤ gt y.l j ∧ gt y.l j < (o.n3 : Int)) ∧ (y.m ≤ 100000 ∧ ∀ j, j < y.m → 0 ≤ gt y.k j ∧ gt y.k j < (o.n4 : Int)) := fun y hy => by
  obtain ⟨r1, r2⟩ := regE_ok (tab_regs h y hy)
  have l1 := drwE_len r1
  have l2 := drwE_len r2
  have hs1 := (hT.all y hy).s.1
  have hs2 := (hT.all y hy).c.1
  have hbd := specE_bd (tabE_ok h).1
  exact ⟨⟨by omega, fun i hi => (drwE_ok r1 (k := i) (by omega)).1⟩, ⟨by omega, fun i hi => (drwE_ok r2 (k := i) (by omega)).1⟩⟩
set_option maxHeartbeats 6400000 in
set_option maxRecDepth 100000 in
theorem Needed_any (o : SpO) (T : Option Addr) (n c : Nat) (L : List RgV) (r : RgV) (w : World) (hM : SpM w o) (hF : SpF o) (hT : TbM w T n c L) (hr : RgM w r) :
    Calls Tryz.prog 17 #[.agg #[.slice o.A1 o.n1 o.c1, .slice o.A2 o.n2 o.c2, .slice o.A3 o.n3 o.c3, .slice o.A4 o.n4 o.c4], .agg #[.slice T n c], .agg #[.slice r.A r.n r.c, .slice r.B r.m r.d]] w fun e w' => e = .returned (.tuple #[.int .i64 (neeF o L r).1, .int .i64 (neeF o L r).2]) ∧ Below w.heap.size w w' := by
  have HM : Sl _ := ⟨hM⟩
  have HF : Sl _ := ⟨hF⟩
  have HT : Sl _ := ⟨hT⟩
  have HR : Sl _ := ⟨hr⟩
  have HD : Sl (Lg w w []) := ⟨Lg.nil w⟩
  have HBT : Sl _ := ⟨fun (W : World) (hW : Below w.heap.size w W) => both_any o T n c L r W (hM.below hW) hF (hT.below hW) (hr.below hW)⟩
  obtain ⟨N, hN⟩ : ∃ N, neeF o L r = N := ⟨_, rfl⟩
  obtain ⟨b, hb⟩ : ∃ b, botE o L r = b := ⟨_, rfl⟩
  have HE : Sl (N = if b = 0 then (match ndA (stA L RgV.l) r.l 0 with
    | none => (0, 4)
    | some p => match ndA (stA L RgV.k) r.k p with
      | none => (0, 4)
      | some q => (q, 0)) else (0, b)) := ⟨by rw [← hN, ← hb]; rfl⟩
  have HOK : Sl (b = 0 → tabE o L = 0 ∧ regE o r = 0) := ⟨fun h => botE_ok (by rw [hb, h])⟩
  rw [hN]
  rw [hb] at HBT
  clear hM hF hT hr hb hN
  go_enter Tryz.func17, Tryz.ntmps17
  go_upto_region 1 with ((with_reducible show wpList _ _ _ _ _ _); first
    | (refine wpList_box_new 3 rfl rfl 27 (.tmp 0) rfl #[.slice o.A1 o.n1 o.c1, .slice o.A2 o.n2 o.c2, .slice o.A3 o.n3 o.c3, .slice o.A4 o.n4 o.c4] rfl (fun _ => by kernel_rfl) ?_; rintro wa gs zg zm zs zb; replace HD : Sl _ := ⟨HD.out.new zg zm zb⟩; clear zg zm zs zb)
    | (refine wpList_box_new 4 rfl rfl 30 (.tmp 1) rfl #[.slice T n c] rfl (fun _ => by kernel_rfl) ?_; rintro wb gtb zg zm zs zb; replace HD : Sl _ := ⟨HD.out.new zg zm zb⟩; clear zg zm zs zb)
    | (refine wpList_box_new 5 rfl rfl 33 (.tmp 2) rfl #[.slice r.A r.n r.c, .slice r.B r.m r.d] rfl (fun _ => by kernel_rfl) ?_; rintro wc grg zg zm zs zb; replace HD : Sl _ := ⟨HD.out.new zg zm zb⟩; clear zg zm zs zb))
  have s0 := (HD.out.at_ 2 rfl).cell 0
  have s1 := (HD.out.at_ 2 rfl).cell 1
  have s2 := (HD.out.at_ 2 rfl).cell 2
  have s3 := (HD.out.at_ 2 rfl).cell 3
  simp at s0 s1 s2 s3
  have t0 := (HD.out.at_ 1 rfl).cell 0
  simp at t0
  have r0 := (HD.out.at_ 0 rfl).cell 0
  have r1 := (HD.out.at_ 0 rfl).cell 1
  simp at r0 r1
  go_wp2_with fail
  refine (HBT.out _ HD.out.bl).mono ?_; rintro e w1 ⟨rfl, hb⟩
  replace HD : Sl _ := ⟨HD.out.below hb⟩
  clear HBT hb s0 s1 s2 s3 t0 r0 r1
  by_cases hb0 : b = 0
  · subst hb0
    rw [if_pos rfl] at HE
    have hok := HOK.out rfl
    have HTE : Sl _ := ⟨hok⟩
    have HIX : Sl _ := ⟨tab_ix hok.1 HT.out⟩
    have HBD : Sl _ := ⟨specE_bd (tabE_ok hok.1).1⟩
    have HNN : Sl (n ≤ 60) := ⟨by rw [← HT.out.row.len]; exact (tabE_ok hok.1).2.1⟩
    have HRL : Sl ((r.n ≤ 80 ∧ ∀ j, j < r.n → 0 ≤ gt r.l j ∧ gt r.l j < (o.n3 : Int)) ∧ (r.m ≤ 80 ∧ ∀ j, j < r.m → 0 ≤ gt r.k j ∧ gt r.k j < (o.n4 : Int))) := ⟨by
      obtain ⟨r1, r2⟩ := regE_ok hok.2
      have l1 := drwE_len r1
      have l2 := drwE_len r2
      have hs1 := HR.out.s.1
      have hs2 := HR.out.c.1
      have hbd := HBD.out
      exact ⟨⟨by omega, fun i hi => (drwE_ok r1 (k := i) (by omega)).1⟩, ⟨by omega, fun i hi => (drwE_ok r2 (k := i) (by omega)).1⟩⟩⟩
    clear hok HOK
    have s0 := (HD.out.at_ 2 rfl).cell 0
    have s1 := (HD.out.at_ 2 rfl).cell 1
    have s2 := (HD.out.at_ 2 rfl).cell 2
    have s3 := (HD.out.at_ 2 rfl).cell 3
    simp at s0 s1 s2 s3
    have t0 := (HD.out.at_ 1 rfl).cell 0
    simp at t0
    have H1 : Sl _ := ⟨steps_stops T n c L o.n3 w1 (HT.out.below HD.out.bl) (by have := HNN.out; omega) (by have := HBD.out; omega) (fun y hy => (HIX.out y hy).1)⟩
    go_wp2_with fail
    refine H1.out.mono ?_; rintro e w2 ⟨⟨g1, rfl, hir, _⟩, hb⟩
    replace HD : Sl _ := ⟨HD.out.below hb⟩
    have HI1 : Sl (IRow w2 g1 o.n3 (stA L RgV.l)) := ⟨hir⟩
    clear H1 hir hb s0 s1 s2 s3 t0
    have s0 := (HD.out.at_ 2 rfl).cell 0
    have s1 := (HD.out.at_ 2 rfl).cell 1
    have s2 := (HD.out.at_ 2 rfl).cell 2
    have s3 := (HD.out.at_ 2 rfl).cell 3
    simp at s0 s1 s2 s3
    have t0 := (HD.out.at_ 1 rfl).cell 0
    simp at t0
    have H1 : Sl _ := ⟨steps_couplers T n c L o.n4 w2 (HT.out.below HD.out.bl) (by have := HNN.out; omega) (by have := HBD.out; omega) (fun y hy => (HIX.out y hy).2)⟩
    go_wp2_with fail
    refine H1.out.mono ?_; rintro e w3 ⟨⟨g2, rfl, hir, _⟩, hb⟩
    replace HD : Sl _ := ⟨HD.out.below hb⟩
    have HI2 : Sl (IRow w3 g2 o.n4 (stA L RgV.k)) := ⟨hir⟩
    replace HI1 : Sl (IRow w3 g1 o.n3 (stA L RgV.l)) := ⟨HI1.out.below hb HI1.out.lt⟩
    clear H1 hir hb s0 s1 s2 s3 t0
    have r0 := (HD.out.at_ 0 rfl).cell 0
    have r1 := (HD.out.at_ 0 rfl).cell 1
    simp at r0 r1
    have HRL1 : Sl _ := ⟨HR.out.s.below HD.out.bl⟩
    have HRL2 : Sl _ := ⟨HR.out.c.below HD.out.bl⟩
    obtain ⟨st, hst⟩ : ∃ st, stA L RgV.l = st := ⟨_, rfl⟩
    obtain ⟨ct, hct⟩ : ∃ ct, stA L RgV.k = ct := ⟨_, rfl⟩
    rw [hst] at HE HI1
    rw [hct] at HE HI2
    clear hst hct
    obtain ⟨rn, hrn⟩ : ∃ rn, r.n = rn := ⟨_, rfl⟩
    obtain ⟨rm, hrm⟩ : ∃ rm, r.m = rm := ⟨_, rfl⟩
    obtain ⟨rl, hrl⟩ : ∃ rl, r.l = rl := ⟨_, rfl⟩
    obtain ⟨rk, hrk⟩ : ∃ rk, r.k = rk := ⟨_, rfl⟩
    obtain ⟨rA, hrA⟩ : ∃ rA, r.A = rA := ⟨_, rfl⟩
    obtain ⟨rB, hrB⟩ : ∃ rB, r.B = rB := ⟨_, rfl⟩
    rw [hrA, hrn] at r0
    rw [hrB, hrm] at r1
    rw [hrn, hrm, hrl, hrk] at HRL
    rw [hrn, hrl, hrA] at HRL1
    rw [hrm, hrk, hrB] at HRL2
    rw [hrl, hrk] at HE
    rw [hrn, hrm, hrA, hrB]
    clear hrn hrm hrl hrk hrA hrB
    obtain ⟨rc, hrc⟩ : ∃ rc, r.c = rc := ⟨_, rfl⟩
    obtain ⟨rd, hrd⟩ : ∃ rd, r.d = rd := ⟨_, rfl⟩
    rw [hrc] at r0 ⊢
    rw [hrd] at r1 ⊢
    clear hrc hrd
    have HRNK : Sl (rn ≤ 80 ∧ rm ≤ 80) := ⟨HRL.out.1.1, HRL.out.2.1⟩
    have hrn8 : (rn : Int) ≤ 80 := by have := HRNK.out; omega
    have hrm8 : (rm : Int) ≤ 80 := by have := HRNK.out; omega
    go_wp2_with fail
    clear r0
    obtain ⟨M, hM⟩ : ∃ M, ndA st rl 0 = M := ⟨_, rfl⟩
    rw [hM] at HE
    have HMM : Sl _ := ⟨hM⟩
    clear hM
    go_loop [13, 44] (fun s13 s44 => ∃ (j : Nat) (p : Int), j ≤ rn ∧ s13 = .int .i64 p ∧ s44 = .int .i64 j ∧ Sl (ndA st (rl.drop j) p = M)) (fun _ s44 => rn - (RowKit.intOf s44).toNat)
    case atStart => exact ⟨0, 0, Nat.zero_le _, rfl, rfl, HMM⟩
    case round =>
      clear HMM
      obtain ⟨j, p, hj, rfl, rfl, HJ⟩ := hrel
      by_cases hjn : j < rn
      · have hjI : decide ((j : Int) < (rn : Int)) = true := decide_eq_true (by omega)
        have hjI2 : (j : Int) < (rn : Int) := by omega
        obtain ⟨ad, hA2, hab, c1⟩ := HRL1.out.cell (j := j) hjn
        have hz := HRL.out.1.2 j hjn
        have HDR := ndA_drop (st := st) (l := rl) (j := j) (by rw [HRL1.out.1]; exact hjn) p
        rw [HJ.out] at HDR
        obtain ⟨z, hzz⟩ : ∃ z, gt rl j = z := ⟨_, rfl⟩
        rw [hzz] at hz HDR c1
        rw [hA2]
        clear hzz HJ hA2
        obtain ⟨zn, rfl⟩ := Int.eq_ofNat_of_zero_le hz.1
        have hzI : (zn : Int) < (o.n3 : Int) := hz.2
        have hzN : zn < o.n3 := by omega
        have c2 := HI1.out.cell hzN
        rw [Int.toNat_natCast] at HDR
        obtain ⟨y, hy⟩ : ∃ y, st zn = y := ⟨_, rfl⟩
        rw [hy] at c2 HDR
        have HX : Sl _ := ⟨HDR⟩
        clear hy hz HDR
        by_cases q1 : y = 0
        · have q1d : (y == 0) = true := by rw [q1]; rfl
          have HV : Sl (M = none) := ⟨by rw [HX.out, if_pos q1]⟩
          clear q1
          go_wp2_with fail
          (try simp only [Exit.inBlock, Exit.then])
          go_ret2
          exact ⟨by rw [HE.out, HV.out]; rfl, HD.out.bl⟩
        · have q1d : (y == 0) = false := by rw [beq_eq_false_iff_ne]; exact q1
          have HV : Sl (ndA st (rl.drop (j + 1)) (max p y) = M) := ⟨by rw [HX.out, if_neg q1]⟩
          clear q1
          go_wp2_with fail
          exact ⟨⟨j + 1, _, by omega, rfl, by go_num, HV⟩, by simp [RowKit.intOf]; omega⟩
      · obtain rfl : j = rn := by omega
        have HV : Sl (M = some p) := ⟨by rw [← HJ.out, ← HRL1.out.1, List.drop_length, ndA]⟩
        rw [HV.out] at HE
        replace HE : Sl (N = match ndA ct rk p with
          | none => (0, 4)
          | some q => (q, 0)) := ⟨HE.out⟩
        clear HV HJ
        go_wp2_with fail
        clear r1
        obtain ⟨M2, hM2⟩ : ∃ M2, ndA ct rk p = M2 := ⟨_, rfl⟩
        rw [hM2] at HE
        have HMM : Sl _ := ⟨hM2⟩
        clear hM2
        go_loop [13, 63] (fun s13 s63 => ∃ (j : Nat) (p : Int), j ≤ rm ∧ s13 = .int .i64 p ∧ s63 = .int .i64 j ∧ Sl (ndA ct (rk.drop j) p = M2)) (fun _ s63 => rm - (RowKit.intOf s63).toNat)
        case atStart => exact ⟨0, p, Nat.zero_le _, rfl, rfl, HMM⟩
        case round =>
          clear HMM
          obtain ⟨j, p, hj, rfl, rfl, HJ⟩ := hrel
          by_cases hjn : j < rm
          · have hjI : decide ((j : Int) < (rm : Int)) = true := decide_eq_true (by omega)
            have hjI2 : (j : Int) < (rm : Int) := by omega
            obtain ⟨ad, hA2, hab, c1⟩ := HRL2.out.cell (j := j) hjn
            have hz := HRL.out.2.2 j hjn
            have HDR := ndA_drop (st := ct) (l := rk) (j := j) (by rw [HRL2.out.1]; exact hjn) p
            rw [HJ.out] at HDR
            obtain ⟨z, hzz⟩ : ∃ z, gt rk j = z := ⟨_, rfl⟩
            rw [hzz] at hz HDR c1
            rw [hA2]
            clear hzz HJ hA2
            obtain ⟨zn, rfl⟩ := Int.eq_ofNat_of_zero_le hz.1
            have hzI : (zn : Int) < (o.n4 : Int) := hz.2
            have hzN : zn < o.n4 := by omega
            have c2 := HI2.out.cell hzN
            rw [Int.toNat_natCast] at HDR
            obtain ⟨y, hy⟩ : ∃ y, ct zn = y := ⟨_, rfl⟩
            rw [hy] at c2 HDR
            have HX : Sl _ := ⟨HDR⟩
            clear hy hz HDR
            by_cases q1 : y = 0
            · have q1d : (y == 0) = true := by rw [q1]; rfl
              have HV : Sl (M2 = none) := ⟨by rw [HX.out, if_pos q1]⟩
              clear q1
              go_wp2_with fail
              (try simp only [Exit.inBlock, Exit.then])
              go_ret2
              exact ⟨by rw [HE.out, HV.out]; rfl, HD.out.bl⟩
            · have q1d : (y == 0) = false := by rw [beq_eq_false_iff_ne]; exact q1
              have HV : Sl (ndA ct (rk.drop (j + 1)) (max p y) = M2) := ⟨by rw [HX.out, if_neg q1]⟩
              clear q1
              go_wp2_with fail
              exact ⟨⟨j + 1, _, by omega, rfl, by go_num, HV⟩, by simp [RowKit.intOf]; omega⟩
          · obtain rfl : j = rm := by omega
            have HV : Sl (M2 = some p) := ⟨by rw [← HJ.out, ← HRL2.out.1, List.drop_length, ndA]⟩
            go_wp2_with fail
            go_ret2
            exact ⟨by rw [HE.out, HV.out]; rfl, HD.out.bl⟩
  · rw [if_neg hb0] at HE
    have q0 : (b != 0) = true := by rw [bne_iff_ne]; exact hb0
    clear hb0
    go_wp2_with fail
    go_ret2
    exact ⟨by rw [HE.out]; rfl, HD.out.bl⟩
end Go.Proofs.YtbaojmfkjpnfhaaGreatDoor
