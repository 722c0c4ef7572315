/- Package crescendo: Needed. (Printed by gencxg.py.) -/
import Derived.Test.YtabkpbbjodfolaaGreatDoorZvQ
import Derived.Test.YtabkpbbjodfolaaGreatDoorZvH
namespace Go.Proofs.YtabkpbbjodfolaaGreatDoor
set_option linter.unusedSimpArgs false
open Go.RowKit
set_option linter.unusedVariables false
def ndA (st : Nat → Int) : List Int → Int → Option Int
  | [], p => some p
  | x :: l, p => if st x.toNat = 0 then none else ndA st l (max p (st x.toNat))
theorem ndA_drop {st : Nat → Int} {l : List Int} {j : Nat} (hj : j < l.length) (p : Int) : ndA st (l.drop j) p = if st (gt l j).toNat = 0 then none else ndA st (l.drop (j + 1)) (max p (st (gt l j).toNat)) := by
  have e : gt l j = l[j] := (by rw [gt, List.getElem?_eq_getElem hj]; rfl); rw [List.drop_eq_getElem_cons hj, ndA, e]
def stA (L : List RgV) (f : RgV → List Int) : Nat → Int := (stV 0 (L.map f) (fun _ => 0, 0)).1
def neeF (o : SpO) (L : List RgV) (r : RgV) : Int × Int :=
  if botE o L r = 0 then (match ndA (stA L RgV.l) r.l 0 with
    | none => (0, 4)
    | some p => match ndA (stA L RgV.k) r.k p with
      | none => (0, 4)
      | some q => (q, 0)) else (0, botE o L r)
theorem botE_ok {o : SpO} {L : List RgV} {r : RgV} (h : botE o L r = 0) : tabE o L = 0 ∧ regE o r = 0 := by
  unfold botE at h
  by_cases h1 : tabE o L = 0
  · rw [if_pos h1] at h; exact ⟨h1, h⟩
  · rw [if_neg h1] at h; exact absurd h h1
theorem tabE_ok {o : SpO} {L : List RgV} (h : tabE o L = 0) : specE o = 0 ∧ L.length ≤ 60 ∧ ∀ j, j < L.length → tabK o L j = 0 := by
  unfold tabE at h
  by_cases h1 : specE o = 0
  · rw [if_pos h1] at h
    by_cases h2 : 60 < L.length
    · rw [if_pos h2] at h; cases h
    · rw [if_neg h2] at h; exact ⟨h1, by omega, fun j hj => fstE_zero h j (Nat.zero_le _) (by omega)⟩
  · rw [if_neg h1] at h; exact absurd h h1
theorem tabK_ok {o : SpO} {L : List RgV} {j : Nat} (h : tabK o L j = 0) : regE o (L[j]?.getD rg0) = 0 := by
  unfold tabK at h
  by_cases h4 : regE o (L[j]?.getD rg0) = 0
  · exact h4
  · rw [if_neg h4] at h; exact absurd h h4
theorem tab_regs {o : SpO} {L : List RgV} (h : tabE o L = 0) : ∀ y ∈ L, regE o y = 0 := fun y hy => by
  obtain ⟨j, hj⟩ := List.mem_iff_getElem?.1 hy; have h1 := tabK_ok ((tabE_ok h).2.2 j (List.getElem?_eq_some_iff.1 hj).1); rw [hj, Option.getD_some] at h1; exact h1
theorem tab_ix {o : SpO} {L : List RgV} {w : World} {T : Option Addr} {n c : Nat} (h : tabE o L = 0) (hT : TbM w T n c L) : ∀ y ∈ L, (y.n ≤ 100000 ∧ ∀ j, j < y.n → 0 ≤ gt y.l j ∧ gt y.l j < (o.n3 : Int)) ∧ (y.m ≤ 100000 ∧ ∀ j, j < y.m → 0 ≤ gt y.k j ∧ gt y.k j < (o.n4 : Int)) := fun y hy => by
  obtain ⟨r1, r2⟩ := regE_ok (tab_regs h y hy); have l1 := drwE_len r1; have l2 := drwE_len r2; have hs1 := (hT.all y hy).s.1; have hs2 := (hT.all y hy).c.1; have hbd := specE_bd (tabE_ok h).1; exact ⟨⟨by omega, fun i hi => (drwE_ok r1 (k := i) (by omega)).1⟩, ⟨by omega, fun i hi => (drwE_ok r2 (k := i) (by omega)).1⟩⟩
set_option maxHeartbeats 6400000 in
set_option maxRecDepth 100000 in
theorem Needed_any (o : SpO) (T : Option Addr) (n c : Nat) (L : List RgV) (r : RgV) (w : World) (hM : SpM w o) (hF : SpF o) (hT : TbM w T n c L) (hr : RgM w r) :
    Calls Tryz.prog 19 #[.agg #[.slice o.A1 o.n1 o.c1, .slice o.A2 o.n2 o.c2, .slice o.A3 o.n3 o.c3, .slice o.A4 o.n4 o.c4], .agg #[.slice T n c], .agg #[.slice r.A r.n r.c, .slice r.B r.m r.d]] w fun e w' => e = .returned (.tuple #[.int .i64 (neeF o L r).1, .int .i64 (neeF o L r).2]) ∧ Below w.heap.size w w' := by
  have HM : Sl _ := ⟨hM⟩; have HF : Sl _ := ⟨hF⟩; have HT : Sl _ := ⟨hT⟩; have HR : Sl _ := ⟨hr⟩; have HD : Sl (Lg w w []) := ⟨Lg.nil w⟩; have HBT : Sl _ := ⟨fun (W : World) (hW : Below w.heap.size w W) => both_any o T n c L r W (hM.below hW) hF (hT.below hW) (hr.below hW)⟩; obtain ⟨N, hN⟩ : ∃ N, neeF o L r = N := ⟨_, rfl⟩; obtain ⟨b, hb⟩ : ∃ b, botE o L r = b := ⟨_, rfl⟩
  have HE : Sl (N = if b = 0 then (match ndA (stA L RgV.l) r.l 0 with
    | none => (0, 4)
    | some p => match ndA (stA L RgV.k) r.k p with
      | none => (0, 4)
      | some q => (q, 0)) else (0, b)) := ⟨by rw [← hN, ← hb]; rfl⟩
  have HOK : Sl (b = 0 → tabE o L = 0 ∧ regE o r = 0) := ⟨fun h => botE_ok (by rw [hb, h])⟩; rw [hN]; rw [hb] at HBT; clear hM hF hT hr hb hN; go_enter Tryz.func19, Tryz.ntmps19
  go_upto_region 1 with ((with_reducible show wpList _ _ _ _ _ _); first
    | (refine wpList_box_new 3 rfl rfl 33 (.tmp 0) rfl #[.slice o.A1 o.n1 o.c1, .slice o.A2 o.n2 o.c2, .slice o.A3 o.n3 o.c3, .slice o.A4 o.n4 o.c4] rfl (fun _ => by kernel_rfl) ?_; rintro wa gs zg zm zs zb; replace HD : Sl _ := ⟨HD.out.new zg zm zb⟩; clear zg zm zs zb)
    | (refine wpList_box_new 4 rfl rfl 53 (.tmp 1) rfl #[.slice T n c] rfl (fun _ => by kernel_rfl) ?_; rintro wb gtb zg zm zs zb; replace HD : Sl _ := ⟨HD.out.new zg zm zb⟩; clear zg zm zs zb)
    | (refine wpList_box_new 5 rfl rfl 45 (.tmp 2) rfl #[.slice r.A r.n r.c, .slice r.B r.m r.d] rfl (fun _ => by kernel_rfl) ?_; rintro wc grg zg zm zs zb; replace HD : Sl _ := ⟨HD.out.new zg zm zb⟩; clear zg zm zs zb))
  have s0 := (HD.out.at_ 2 rfl).cell 0; have s1 := (HD.out.at_ 2 rfl).cell 1; have s2 := (HD.out.at_ 2 rfl).cell 2; have s3 := (HD.out.at_ 2 rfl).cell 3; simp at s0 s1 s2 s3; have t0 := (HD.out.at_ 1 rfl).cell 0; simp at t0; have r0 := (HD.out.at_ 0 rfl).cell 0; have r1 := (HD.out.at_ 0 rfl).cell 1; simp at r0 r1; go_wp2_with fail; refine (HBT.out _ HD.out.bl).mono ?_; rintro e w1 ⟨rfl, hb⟩; replace HD : Sl _ := ⟨HD.out.below hb⟩; clear HBT hb s0 s1 s2 s3 t0 r0 r1
  by_cases hb0 : b = 0
  · subst hb0; rw [if_pos rfl] at HE; have hok := HOK.out rfl; have HTE : Sl _ := ⟨hok⟩; have HIX : Sl _ := ⟨tab_ix hok.1 HT.out⟩; have HBD : Sl _ := ⟨specE_bd (tabE_ok hok.1).1⟩; have HNN : Sl (n ≤ 60) := ⟨by rw [← HT.out.row.len]; exact (tabE_ok hok.1).2.1⟩
    have HRL : Sl ((r.n ≤ 80 ∧ ∀ j, j < r.n → 0 ≤ gt r.l j ∧ gt r.l j < (o.n3 : Int)) ∧ (r.m ≤ 80 ∧ ∀ j, j < r.m → 0 ≤ gt r.k j ∧ gt r.k j < (o.n4 : Int))) := ⟨by
      obtain ⟨r1, r2⟩ := regE_ok hok.2; have l1 := drwE_len r1; have l2 := drwE_len r2; have hs1 := HR.out.s.1; have hs2 := HR.out.c.1; have hbd := HBD.out
      exact ⟨⟨by omega, fun i hi => (drwE_ok r1 (k := i) (by omega)).1⟩, ⟨by omega, fun i hi => (drwE_ok r2 (k := i) (by omega)).1⟩⟩⟩
    clear hok HOK; have s0 := (HD.out.at_ 2 rfl).cell 0; have s1 := (HD.out.at_ 2 rfl).cell 1; have s2 := (HD.out.at_ 2 rfl).cell 2; have s3 := (HD.out.at_ 2 rfl).cell 3; simp at s0 s1 s2 s3; have t0 := (HD.out.at_ 1 rfl).cell 0; simp at t0; have H1 : Sl _ := ⟨steps_stops T n c L o.n3 w1 (HT.out.below HD.out.bl) (by have := HNN.out; omega) (by have := HBD.out; omega) (fun y hy => (HIX.out y hy).1)⟩; go_wp2_with fail; refine H1.out.mono ?_; rintro e w2 ⟨⟨g1, rfl, hir, _⟩, hb⟩; replace HD : Sl _ := ⟨HD.out.below hb⟩; have HI1 : Sl (IRow w2 g1 o.n3 (stA L RgV.l)) := ⟨hir⟩; clear H1 hir hb s0 s1 s2 s3 t0; have s0 := (HD.out.at_ 2 rfl).cell 0; have s1 := (HD.out.at_ 2 rfl).cell 1; have s2 := (HD.out.at_ 2 rfl).cell 2; have s3 := (HD.out.at_ 2 rfl).cell 3; simp at s0 s1 s2 s3; have t0 := (HD.out.at_ 1 rfl).cell 0; simp at t0; have H1 : Sl _ := ⟨steps_couplers T n c L o.n4 w2 (HT.out.below HD.out.bl) (by have := HNN.out; omega) (by have := HBD.out; omega) (fun y hy => (HIX.out y hy).2)⟩; go_wp2_with fail; refine H1.out.mono ?_; rintro e w3 ⟨⟨g2, rfl, hir, _⟩, hb⟩; replace HD : Sl _ := ⟨HD.out.below hb⟩; have HI2 : Sl (IRow w3 g2 o.n4 (stA L RgV.k)) := ⟨hir⟩; replace HI1 : Sl (IRow w3 g1 o.n3 (stA L RgV.l)) := ⟨HI1.out.below hb HI1.out.lt⟩; clear H1 hir hb s0 s1 s2 s3 t0; have r0 := (HD.out.at_ 0 rfl).cell 0; have r1 := (HD.out.at_ 0 rfl).cell 1; simp at r0 r1; have HRL1 : Sl _ := ⟨HR.out.s.below HD.out.bl⟩; have HRL2 : Sl _ := ⟨HR.out.c.below HD.out.bl⟩; obtain ⟨st, hst⟩ : ∃ st, stA L RgV.l = st := ⟨_, rfl⟩; obtain ⟨ct, hct⟩ : ∃ ct, stA L RgV.k = ct := ⟨_, rfl⟩; rw [hst] at HE HI1; rw [hct] at HE HI2; clear hst hct; obtain ⟨rn, hrn⟩ : ∃ rn, r.n = rn := ⟨_, rfl⟩; obtain ⟨rm, hrm⟩ : ∃ rm, r.m = rm := ⟨_, rfl⟩; obtain ⟨rl, hrl⟩ : ∃ rl, r.l = rl := ⟨_, rfl⟩; obtain ⟨rk, hrk⟩ : ∃ rk, r.k = rk := ⟨_, rfl⟩; obtain ⟨rA, hrA⟩ : ∃ rA, r.A = rA := ⟨_, rfl⟩; obtain ⟨rB, hrB⟩ : ∃ rB, r.B = rB := ⟨_, rfl⟩; rw [hrA, hrn] at r0; rw [hrB, hrm] at r1; rw [hrn, hrm, hrl, hrk] at HRL; rw [hrn, hrl, hrA] at HRL1; rw [hrm, hrk, hrB] at HRL2; rw [hrl, hrk] at HE; rw [hrn, hrm, hrA, hrB]; clear hrn hrm hrl hrk hrA hrB; obtain ⟨rc, hrc⟩ : ∃ rc, r.c = rc := ⟨_, rfl⟩; obtain ⟨rd, hrd⟩ : ∃ rd, r.d = rd := ⟨_, rfl⟩; rw [hrc] at r0 ⊢; rw [hrd] at r1 ⊢; clear hrc hrd; have HRNK : Sl (rn ≤ 80 ∧ rm ≤ 80) := ⟨HRL.out.1.1, HRL.out.2.1⟩; have hrn8 : (rn : Int) ≤ 80 := (by have := HRNK.out; omega); have hrm8 : (rm : Int) ≤ 80 := (by have := HRNK.out; omega); go_wp2_with fail; clear r0; obtain ⟨M, hM⟩ : ∃ M, ndA st rl 0 = M := ⟨_, rfl⟩; rw [hM] at HE; have HMM : Sl _ := ⟨hM⟩; clear hM
    go_loop [13, 44] (fun s13 s44 => ∃ (j : Nat) (p : Int), j ≤ rn ∧ s13 = .int .i64 p ∧ s44 = .int .i64 j ∧ Sl (ndA st (rl.drop j) p = M)) (fun _ s44 => rn - (RowKit.intOf s44).toNat)
    case atStart => exact ⟨0, 0, Nat.zero_le _, rfl, rfl, HMM⟩
    case round =>
      clear HMM; obtain ⟨j, p, hj, rfl, rfl, HJ⟩ := hrel
      by_cases hjn : j < rn
      · have hjI : decide ((j : Int) < (rn : Int)) = true := decide_eq_true (by omega); have hjI2 : (j : Int) < (rn : Int) := (by omega); obtain ⟨ad, hA2, hab, c1⟩ := HRL1.out.cell (j := j) hjn; have hz := HRL.out.1.2 j hjn; have HDR := ndA_drop (st := st) (l := rl) (j := j) (by rw [HRL1.out.1]; exact hjn) p; rw [HJ.out] at HDR; obtain ⟨z, hzz⟩ : ∃ z, gt rl j = z := ⟨_, rfl⟩; rw [hzz] at hz HDR c1; rw [hA2]; clear hzz HJ hA2; obtain ⟨zn, rfl⟩ := Int.eq_ofNat_of_zero_le hz.1; have hzI : (zn : Int) < (o.n3 : Int) := hz.2; have hzN : zn < o.n3 := (by omega); have c2 := HI1.out.cell hzN; rw [Int.toNat_natCast] at HDR; obtain ⟨y, hy⟩ : ∃ y, st zn = y := ⟨_, rfl⟩; rw [hy] at c2 HDR; have HX : Sl _ := ⟨HDR⟩; clear hy hz HDR
        by_cases q1 : y = 0
        · have q1d : (y == 0) = true := (by rw [q1]; rfl); have HV : Sl (M = none) := ⟨by rw [HX.out, if_pos q1]⟩; clear q1; go_wp2_with fail
          (try simp only [Exit.inBlock, Exit.then])
          go_ret2; exact ⟨by rw [HE.out, HV.out]; rfl, HD.out.bl⟩
        · have q1d : (y == 0) = false := (by rw [beq_eq_false_iff_ne]; exact q1); have HV : Sl (ndA st (rl.drop (j + 1)) (max p y) = M) := ⟨by rw [HX.out, if_neg q1]⟩; clear q1; go_wp2_with fail; exact ⟨⟨j + 1, _, by omega, rfl, by go_num, HV⟩, by simp [RowKit.intOf]; omega⟩
      · obtain rfl : j = rn := (by omega); have HV : Sl (M = some p) := ⟨by rw [← HJ.out, ← HRL1.out.1, List.drop_length, ndA]⟩; rw [HV.out] at HE
        replace HE : Sl (N = match ndA ct rk p with
          | none => (0, 4)
          | some q => (q, 0)) := ⟨HE.out⟩
        clear HV HJ; go_wp2_with fail; clear r1; obtain ⟨M2, hM2⟩ : ∃ M2, ndA ct rk p = M2 := ⟨_, rfl⟩; rw [hM2] at HE; have HMM : Sl _ := ⟨hM2⟩; clear hM2
        go_loop [13, 63] (fun s13 s63 => ∃ (j : Nat) (p : Int), j ≤ rm ∧ s13 = .int .i64 p ∧ s63 = .int .i64 j ∧ Sl (ndA ct (rk.drop j) p = M2)) (fun _ s63 => rm - (RowKit.intOf s63).toNat)
        case atStart => exact ⟨0, p, Nat.zero_le _, rfl, rfl, HMM⟩
        case round =>
          clear HMM; obtain ⟨j, p, hj, rfl, rfl, HJ⟩ := hrel
          by_cases hjn : j < rm
          · have hjI : decide ((j : Int) < (rm : Int)) = true := decide_eq_true (by omega); have hjI2 : (j : Int) < (rm : Int) := (by omega); obtain ⟨ad, hA2, hab, c1⟩ := HRL2.out.cell (j := j) hjn; have hz := HRL.out.2.2 j hjn; have HDR := ndA_drop (st := ct) (l := rk) (j := j) (by rw [HRL2.out.1]; exact hjn) p; rw [HJ.out] at HDR; obtain ⟨z, hzz⟩ : ∃ z, gt rk j = z := ⟨_, rfl⟩; rw [hzz] at hz HDR c1; rw [hA2]; clear hzz HJ hA2; obtain ⟨zn, rfl⟩ := Int.eq_ofNat_of_zero_le hz.1; have hzI : (zn : Int) < (o.n4 : Int) := hz.2; have hzN : zn < o.n4 := (by omega); have c2 := HI2.out.cell hzN; rw [Int.toNat_natCast] at HDR; obtain ⟨y, hy⟩ : ∃ y, ct zn = y := ⟨_, rfl⟩; rw [hy] at c2 HDR; have HX : Sl _ := ⟨HDR⟩; clear hy hz HDR
            by_cases q1 : y = 0
            · have q1d : (y == 0) = true := (by rw [q1]; rfl); have HV : Sl (M2 = none) := ⟨by rw [HX.out, if_pos q1]⟩; clear q1; go_wp2_with fail
              (try simp only [Exit.inBlock, Exit.then])
              go_ret2; exact ⟨by rw [HE.out, HV.out]; rfl, HD.out.bl⟩
            · have q1d : (y == 0) = false := (by rw [beq_eq_false_iff_ne]; exact q1); have HV : Sl (ndA ct (rk.drop (j + 1)) (max p y) = M2) := ⟨by rw [HX.out, if_neg q1]⟩; clear q1; go_wp2_with fail; exact ⟨⟨j + 1, _, by omega, rfl, by go_num, HV⟩, by simp [RowKit.intOf]; omega⟩
          · obtain rfl : j = rm := (by omega); have HV : Sl (M2 = some p) := ⟨by rw [← HJ.out, ← HRL2.out.1, List.drop_length, ndA]⟩; go_wp2_with fail; go_ret2; exact ⟨by rw [HE.out, HV.out]; rfl, HD.out.bl⟩
  · rw [if_neg hb0] at HE; have q0 : (b != 0) = true := (by rw [bne_iff_ne]; exact hb0); clear hb0; go_wp2_with fail; go_ret2; exact ⟨by rw [HE.out]; rfl, HD.out.bl⟩
end Go.Proofs.YtabkpbbjodfolaaGreatDoor
namespace Go.Proofs.YtabkpbbjodfolaaGreatDoor
set_option linter.unusedSimpArgs false
open Go.RowKit
set_option linter.unusedVariables false
theorem wp_of_runc {P : Program} {op : Oper} {a : Act} {w : World} {K : Act → World → Prop} {Q : Exit → Act → World → Prop} (v : Value) (w' : World) (h : (execOp a.eval op).run P w = .ok (.value v) w') (hk : K (a.put op.dst v) w') : op.wp P a w K Q := by
  unfold Oper.wp; rw [h, Oper.upon_value]; exact hk
def sv (s : ByteArray) : Value := .string s
def SS (w : World) (A : Option Addr) (n : Nat) (l : List ByteArray) : Prop := l.length = n ∧ Reads w w.heap.size 1 A n (l.map sv)
theorem SS.below {w w' : World} {A : Option Addr} {n : Nat} {l : List ByteArray} (h : SS w A n l) (hb : Below w.heap.size w w') : SS w' A n l := ⟨h.1, (h.2.below hb).more hb.size⟩
theorem SS.cell {w : World} {A : Option Addr} {n : Nat} {l : List ByteArray} (h : SS w A n l) {j : Nat} (hj : j < n) : ∃ ad, A = some ad ∧ ad.block < w.heap.size ∧ w.cell? (ad.add j) = some (.string (l[j]?.getD ⟨#[]⟩)) := by
  obtain ⟨ad, e, hb, hc⟩ := h.2.2 (by omega); have hl := h.1; refine ⟨ad, e, hb, hc _ _ ?_⟩; rw [List.getElem?_map, List.getElem?_eq_getElem (by omega)]; rfl
def OS (w : World) (base : Nat) (A : Option Addr) (n c : Nat) (l : List ByteArray) : Prop := w.ownsRow base 9 1 (.slice A n c) n (l.map sv)
section
variable {w w' : World} {base : Nat} {A : Option Addr} {n c : Nat} {l : List ByteArray}
theorem OS.len (h : OS w base A n c l) : l.length = n := by
  have := h.1; simpa using this
theorem OS.ss (h : OS w base A n c l) : SS w A n l := ⟨h.len, Reads.of_own h⟩
theorem OS.nil (w : World) (base : Nat) : OS w base none 0 0 [] := World.ownsRow_nil _ _ _ _
theorem OS.lt (h : OS w base A n c l) : ∀ k, (Value.slice A n c).ownBlock = some k → base ≤ k ∧ k < w.heap.size := World.ownsRow.lt h
theorem OS.alloc (h : OS w base A n c l) (o : Obj) : OS (w.alloc o) base A n c l := World.ownsRow.alloc h o
theorem OS.below (h : OS w base A n c l) (hb : Below w.heap.size w w') : OS w' base A n c l :=
  own_mv h (Mv.of_below hb) (fun k hk => by have := (World.ownsRow.lt h k hk).2; omega)
theorem OS.mv {g : Nat} (h : OS w base A n c l) (hm : Mv g w w') (hne : ∀ k, (Value.slice A n c).ownBlock = some k → k ≠ g) : OS w' base A n c l := own_mv h hm hne
theorem OS.mono {base' : Nat} (h : OS w base A n c l) (hb : base' ≤ base) : OS w base' A n c l :=
  ⟨h.1, h.2.imp id fun ⟨g, cap, cur, h1, h2, h3⟩ => ⟨g, cap, cur, h1, Nat.le_trans hb h2, h3⟩⟩
theorem OS.grown {row : Option Nat} (h : OS w base A n c l) (hg : w.grownBy w' row) (hne : ∀ k, (Value.slice A n c).ownBlock = some k → row ≠ some k) : OS w' base A n c l := by
  refine World.ownsRow.kept h hg ?_
  cases hb : (Value.slice A n c).ownBlock with
  | none => exact .inl rfl
  | some k => exact .inr (fun e => hne k hb e.symm)
theorem OS.cap (h : OS w base A n c l) : n ≤ c ∧ c ≤ maxLen := by
  rcases h.2 with ⟨h0, _⟩ | ⟨b, cap, cur, e1, _, _, h1, h2, _⟩
  · injection h0 with a b c
    subst b c; exact ⟨Nat.le_refl _, by decide⟩
  · injection e1 with a b c
    subst c; exact ⟨h1, h2⟩
theorem OS.ne_blk {g : Nat} {t : TypeId} {cs : Array Value} (h : OS w base A n c l) (hB : Blk w g t cs) (ht : 9 ≠ t) : (Value.slice A n c).ownBlock ≠ some g := own_blk_ne h hB ht
end
theorem SS.made (w : World) (s : ByteArray) (t : TypeId) : SS (w.alloc (.cells #[.string s] t)) (some ⟨w.heap.size, 0, none⟩) 1 [s] := by
  refine ⟨rfl, rfl, fun _ => ⟨⟨w.heap.size, 0, none⟩, rfl, by simp, fun j u hu => ?_⟩⟩
  have hj : j = 0 := by
    have := (List.getElem?_eq_some_iff.1 hu).1; simp at this; exact this
  subst hj; have : u = .string s := (by simpa [sv] using hu.symm); rw [this]; exact (Blk.new w t #[.string s]).cell 0
theorem infoS : ∃ i, Tryz.prog.info? 9 = some i ∧ i.zero = some (.string ⟨#[]⟩) ∧ i.size = 1 ∧ i.bytes = 16 := by
  have h : (Tryz.prog.info? 9).map (fun i => (i.zero, i.size, i.bytes)) = some (some (.string ⟨#[]⟩), 1, 16) := (by kernel_rfl); obtain ⟨i, hi, he⟩ := Option.map_eq_some_iff.1 h; injection he with e1 e2
  injection e2 with e2 e3
  exact ⟨i, hi, e1, e2, e3⟩
theorem wp_append_os {o : Oper} {a : Act} {w : World} {K : Act → World → Prop} {Q : Exit → Act → World → Prop} (s x : Operand)
    (ho : o.op = .call { callee := .builtin .append, args := #[s, x], argTypes := #[130, 130] })
    (base : Nat) (A : Option Addr) (n c : Nat) (l : List ByteArray) (hs : a.eval s = .slice A n c) (hown : OS w base A n c l)
    (B : Option Addr) (m d : Nat) (k : List ByteArray) (hx : a.eval x = .slice B m d) (hr : SS w B m k) (hnm : n + m ≤ 1000000) (hbase : base ≤ w.heap.size)
    (h : ∀ A' c' w', OS w' base A' (n + m) c' (l ++ k) → w.grownBy w' (Value.slice A n c).ownBlock → ((Value.slice A' (n + m) c').ownBlock = (Value.slice A n c).ownBlock ∨ (Value.slice A' (n + m) c').ownBlock = some w.heap.size) → K (a.put o.dst (.slice A' (n + m) c')) w') :
    o.wp Tryz.prog a w K Q := by
  obtain ⟨i, h1, h2, h3, h4⟩ := infoS; refine wp_append_any w s x _ ho base 9 i _ 1 16 Tryz.underlying130 h1 h2 h3 h4 rfl (by decide) _ n _ hs hown w.heap.size B m d (k.map sv) hx hr.2 (fun u hu => ?_) (by unfold maxLen; omega) (by omega) hbase (fun v' w' h5 h6 h7 => ?_)
  · obtain ⟨z, _, rfl⟩ := List.mem_map.1 hu; rfl
  · rw [← List.map_append] at h5; rcases h5.2 with ⟨rfl, h0⟩ | ⟨g, cap, cur, rfl, _⟩
    · have hn0 : n + m = 0 := h0; have e : Value.slice none 0 0 = Value.slice none (n + m) 0 := (by rw [hn0]); rw [e] at h5 h7 ⊢; exact h _ _ _ h5 h6 h7
    · exact h _ _ _ h5 h6 h7
theorem wpList_append_os {ops : Array Oper} {rest : List Oper} {o : Oper} {a : Act} {w : World} {Q : Exit → Act → World → Prop} (hgd : o.guard = none) (s x : Operand)
    (ho : o.op = .call { callee := .builtin .append, args := #[s, x], argTypes := #[130, 130] })
    (base : Nat) (A : Option Addr) (n c : Nat) (l : List ByteArray) (hs : a.eval s = .slice A n c) (hown : OS w base A n c l)
    (B : Option Addr) (m d : Nat) (k : List ByteArray) (hx : a.eval x = .slice B m d) (hr : SS w B m k) (hnm : n + m ≤ 1000000) (hbase : base ≤ w.heap.size)
    (h : ∀ A' c' w', OS w' base A' (n + m) c' (l ++ k) → w.grownBy w' (Value.slice A n c).ownBlock → ((Value.slice A' (n + m) c').ownBlock = (Value.slice A n c).ownBlock ∨ (Value.slice A' (n + m) c').ownBlock = some w.heap.size) → wpList Tryz.prog ops Q rest (a.put o.dst (.slice A' (n + m) c')) w') :
    wpList Tryz.prog ops Q (o :: rest) a w :=
  wpList_plain hgd fun _ hK => wp_append_os s x ho base A n c l hs hown B m d k hx hr hnm hbase fun A' c' w' h2 h3 h4 => hK _ _ (h A' c' w' h2 h3 h4)
theorem grown_trans {a b c : World} {row : Option Nat} (h : a.grownBy b row) (g : b.grownBy c row) : a.grownBy c row := by
  obtain ⟨h1, h2, h3, h4, h5⟩ := h; obtain ⟨g1, g2, g3, g4, g5⟩ := g; exact ⟨g1.trans h1, g2.trans h2, g3.trans h3, Nat.le_trans h4 g4, fun k hk hne => (g5 k (by omega) hne).trans (h5 k hk hne)⟩
def nmSt (o : SpO) (x : SpV) : ByteArray := x.nm ++ ⟨#[64]⟩ ++ (o.ds[x.dv.toNat]?.getD dv0).nm
def snm (o : SpO) : List ByteArray := o.ss.map (nmSt o)
def cnm (o : SpO) : List ByteArray := o.cs.map fun x => ⟨#[43]⟩ ++ x.nm
theorem nmdE_nm {l : Keys} {k nm : ByteArray} (h : nmdE l k nm = 0) : nmB nm = true := by
  unfold nmdE at h
  split at h
  · rename_i h1; exact h1
  · cases h
theorem divE_nm {l : Keys} {x : DvV} (h : divE l x = 0) : nmB x.nm = true := by
  unfold divE at h
  split at h
  · rename_i h1; exact nmdE_nm h1
  · rename_i h1; exact absurd h h1
theorem stpE_nm {nd : Nat} {l : Keys} {x : SpV} (h : stpE nd l x = 0) : nmB x.nm = true := by
  unfold stpE at h
  split at h
  · cases h
  · rename_i h1; simpa using h1
theorem cplE_nm {nd : Nat} {l : Keys} {x : CpV} (h : cplE nd l x = 0) : nmB x.nm = true := by
  unfold cplE at h
  split at h
  · rename_i h1; exact nmdE_nm h1
  · rename_i h1; exact absurd h h1
theorem specE_nm {o : SpO} (h : specE o = 0) : (∀ d ∈ o.ds, nmB d.nm = true) ∧ (∀ x ∈ o.ss, nmB x.nm = true ∧ 0 ≤ x.dv ∧ x.dv < (o.n1 : Int)) ∧ (∀ c ∈ o.cs, nmB c.nm = true) := by
  unfold specE at h
  split at h
  · cases h
  · simp only [] at h
    split at h
    · rename_i h1
      split at h
      · rename_i h2
        split at h
        · rename_i h3; refine ⟨fun d hd => ?_, fun x hx => ?_, fun c hc => ?_⟩
          · obtain ⟨l', h'⟩ := runE_all h1 d hd; exact divE_nm h'
          · obtain ⟨l', h'⟩ := runE_all h3 x hx; unfold stpsE at h'
            split at h'
            · rename_i h4; have := stpE_bd h4; exact ⟨stpE_nm h4, this.1⟩
            · rename_i h4; exact absurd h' h4
          · obtain ⟨l', h'⟩ := runE_all h c hc; exact cplE_nm h'
        · rename_i h3; exact absurd h h3
      · rename_i h2; exact absurd h h2
    · rename_i h1; exact absurd h h1
theorem alloc_coup (w : World) : (Instr.alloc 93 true (.tuple #[])).run Tryz.prog w = .ok (.pointer (some ⟨w.heap.size, 0, none⟩)) (w.alloc (.cells #[.string ⟨#[]⟩, .int .i64 0, .int .i64 0, .int .i64 0, .int .i64 0, .bool false] 93)) := by kernel_rfl
set_option maxHeartbeats 6400000 in
set_option maxRecDepth 100000 in
theorem names_any (o : SpO) (w : World) (hM : SpM w o) (hF : SpF o) (hs : specE o = 0) : Calls Tryz.prog 83 #[.agg #[.slice o.A1 o.n1 o.c1, .slice o.A2 o.n2 o.c2, .slice o.A3 o.n3 o.c3, .slice o.A4 o.n4 o.c4]] w fun e w' =>
      (∃ A cA B cB, e = .returned (.tuple #[.slice A o.n3 cA, .slice B o.n4 cB]) ∧ OS w' w.heap.size A o.n3 cA (snm o) ∧ OS w' w.heap.size B o.n4 cB (cnm o)) ∧ Below w.heap.size w w' := by
  have HM : Sl _ := ⟨hM⟩; have HF : Sl _ := ⟨hF⟩; have HNM : Sl _ := ⟨specE_nm hs⟩; have HBD : Sl _ := ⟨specE_bd hs⟩; have HD : Sl (Lg w w []) := ⟨Lg.nil w⟩; clear hM hF hs; go_enter Tryz.func83, Tryz.ntmps83
  go_upto_region 1 with ((with_reducible show wpList _ _ _ _ _ _); first
    | (refine wpList_box_new 1 rfl rfl 33 (.tmp 0) rfl #[.slice o.A1 o.n1 o.c1, .slice o.A2 o.n2 o.c2, .slice o.A3 o.n3 o.c3, .slice o.A4 o.n4 o.c4] rfl (fun _ => by kernel_rfl) ?_; rintro ws gs zg zm zs zb; replace HD : Sl _ := ⟨HD.out.new zg zm zb⟩; clear zg zm zs zb))
  have c2 := (HD.out.at_ 0 rfl).cell 2; simp at c2; have hn3 : (o.n3 : Int) ≤ 80 := (by have := HBD.out; omega); have hn4 : (o.n4 : Int) ≤ 24 := (by have := HBD.out; omega); go_wp2_with fail; clear c2
  go_loopw [2, 11] (fun s2 s11 wv => ∃ (k : Nat) (A : Option Addr) (cA : Nat), k ≤ o.n3 ∧ s2 = .slice A k cA ∧ s11 = .int .i64 k ∧ Sl (Lg w wv [(gs, 33, #[.slice o.A1 o.n1 o.c1, .slice o.A2 o.n2 o.c2, .slice o.A3 o.n3 o.c3, .slice o.A4 o.n4 o.c4])] ∧ OS wv w.heap.size A k cA ((snm o).take k))) (fun _ s11 _ => o.n3 - (RowKit.intOf s11).toNat)
  case atStart => exact ⟨0, none, 0, Nat.zero_le _, rfl, rfl, ⟨HD.out, OS.nil _ _⟩⟩
  case round =>
    clear HD; obtain ⟨k, A, cA, hk, rfl, rfl, HK⟩ := hrel; have HD : Sl _ := ⟨HK.out.1⟩; have HO : Sl _ := ⟨HK.out.2⟩; clear HK
    by_cases hkn : k < o.n3
    · have hkI : decide ((k : Int) < (o.n3 : Int)) = true := decide_eq_true (by omega); have hkI2 : (k : Int) < (o.n3 : Int) := (by omega); obtain ⟨gb, oo, x, hA3, hgb, hx, hra⟩ := (HM.out.s.below HD.out.bl).at_ (by omega) hkn; obtain ⟨hnm, hd0, hd1⟩ := HNM.out.2.1 x (List.mem_of_getElem? hx); obtain ⟨d, hd⟩ := Int.eq_ofNat_of_zero_le hd0; obtain ⟨gb2, oo2, y, hA1, hgb2, hy, hra2⟩ := HM.out.d.at_ (by omega) (i := d) (by omega); have hynm := HNM.out.1 y (List.mem_of_getElem? hy); have hs1 := (nmB_size hnm).2; have hs2 := (nmB_size hynm).2
      have htk : (snm o).take (k + 1) = (snm o).take k ++ [x.nm ++ ⟨#[64]⟩ ++ y.nm] := by
        unfold snm; rw [List.take_add_one, List.getElem?_map, hx]; simp only [Option.map_some, Option.toList_some, nmSt]; rw [hd, Int.toNat_natCast, hy, Option.getD_some]
      have HTK : Sl _ := ⟨htk⟩; have x0 := hra 0 _ rfl; have x1 := hra 1 _ rfl; have x2 := hra 2 _ rfl; have x3 := hra 3 _ rfl; have x4 := hra 4 _ rfl; rw [Nat.add_zero] at x0; rw [hd] at x1; have y0 := hra2 0 _ rfl; rw [Nat.add_zero] at y0; have HY0 : Sl (w.cell? ⟨gb2, oo2 + d * 3, none⟩ = some (.string y.nm) ∧ gb2 < w.heap.size) := ⟨y0, hgb2⟩; have hdn : d < o.n1 := (by omega); have HDN : Sl (d < o.n1) := ⟨hdn⟩; obtain ⟨ynm, hyn⟩ : ∃ ynm, y.nm = ynm := ⟨_, rfl⟩; rw [hyn] at hs2 HTK HY0; obtain ⟨nm, dv, fn, fd, XA, xn, xc, ps⟩ := x; simp only [] at x0 x1 x2 x3 x4 hs1 HTK; have HSZ : Sl (nm.size ≤ 16 ∧ ynm.size ≤ 16) := ⟨hs1, hs2⟩; rw [hA3]; have HA3 : Sl _ := ⟨hA3⟩; have HA1 : Sl _ := ⟨hA1⟩; clear hra hra2 hx hy hnm hynm htk hA3 hA1 y0 hyn hd hd0 hd1 hgb2 hdn hs1 hs2
      go_upto_region 4 with ((with_reducible show wpList _ _ _ _ _ _); first
        | (refine wpList_alloc_new 5 rfl rfl 90 rfl #[.string ⟨#[]⟩, .int .i64 0, .int .i64 0, .int .i64 0, .slice none 0 0] alloc_stop ?_; rintro wa gx zg zm zs zb; replace HO : Sl (OS _ _ _ _ _ _) := ⟨HO.out.below (below_mv (Below.refl _ _) zm (Nat.le_refl _) (Nat.le_refl _))⟩; replace HD : Sl _ := ⟨HD.out.new zg zm zb⟩; clear zg zm zs zb)
        | (refine wpList_store_whole rfl 90 (.tmp 5) (.tmp 14) rfl gx #[.string nm, .int .i64 (d : Int), .int .i64 fn, .int .i64 fd, .slice XA xn xc] rfl rfl 90 _ (HD.out.at_ 0 rfl) rfl (by kernel_rfl) (by simp [Value.oneCell']) ?_; rintro wb zm zs zb; replace HO : Sl (OS _ _ _ _ _ _) := ⟨HO.out.mv zm (fun k hk e => HO.out.ne_blk (HD.out.at_ 0 rfl) (by decide) (by rw [hk, e]))⟩; replace HD : Sl _ := ⟨HD.out.upd zm zb⟩; clear zm zs zb))
      clear x0 x1 x2 x3 x4; have hS0 : wb.grownBy wb.drew (Value.slice A k cA).ownBlock := grown_of_below (below_drewN (Below.refl _ _) 1)
      have HFR : Sl (∀ w' : World, wb.grownBy w' (Value.slice A k cA).ownBlock → (w'.cell? ⟨gx, 0, none⟩ = some (.string nm) ∧ w'.cell? ⟨gx, 1, none⟩ = some (.int .i64 (d : Int))) ∧ w'.cell? ⟨gs, 0, none⟩ = some (.slice (some ⟨gb2, oo2, none⟩) o.n1 o.c1) ∧ w'.cell? ⟨gb2, oo2 + d * 3, none⟩ = some (.string ynm)) := ⟨fun w' h => by
        have b1 := blk_grown (HD.out.at_ 0 rfl) h (fun e => HO.out.ne_blk (HD.out.at_ 0 rfl) (by decide) e); have b2 := blk_grown (HD.out.at_ 1 rfl) h (fun e => HO.out.ne_blk (HD.out.at_ 1 rfl) (by decide) e); refine ⟨⟨b1.cell 0, b1.cell 1⟩, (b2.cell 0).trans (by rw [← HA1.out]; rfl), ?_⟩; have e1 := HD.out.bl.cell (p := ⟨gb2, oo2 + d * 3, none⟩) HY0.out.2; rw [← HY0.out.1, ← e1]
        exact World.cell?_of_block (h.block gb2 (Nat.lt_of_lt_of_le HY0.out.2 HD.out.bl.size) (fun e2 => by have := (HO.out.lt gb2 e2.symm).1; have := HY0.out.2; omega))⟩
      have hs1 := HSZ.out.1; have hs2 := HSZ.out.2; have h64 : (⟨#[64]⟩ : ByteArray).size = 1 := rfl; have hdI1 : (0 : Int) ≤ (d : Int) := (by omega); have hdI2 : (d : Int) < (o.n1 : Int) := (by have := HDN.out; omega); have hdN := HDN.out; have hm := hS0; clear hS0; refine wp_region_held_drew (S := fun w' => wb.grownBy w' (Value.slice A k cA).ownBlock) (by kernel_rfl) hm (fun hHeld => ?_); clear hm; refine wpAnyH_pure 0 (v := .slice A k cA) rfl (by kernel_rfl) (by kernel_rfl) (by kernel_rfl) (fun _ _ _ h => h) rfl (fun _ => rfl) (by assumption) ?_; simp only [Act.put, sS0, sS1, sS2]; refine wpAnyH_pure 1 (v := .pointer (some ⟨gx, 0, none⟩)) rfl (by kernel_rfl) (by kernel_rfl) (by kernel_rfl) (fun _ _ _ h => h) rfl (fun _ => by go_simp) (by assumption) ?_; simp only [Act.put, sS0, sS1, sS2]
      refine wpAnyH_cell 2 (v := .string nm) rfl rfl (fun w' h => by
        have hc := (HFR.out w' h).1.1
        go_simp) (by kernel_rfl) (by kernel_rfl) (by kernel_rfl) (fun _ _ _ h => h) (by assumption) ?_
      simp only [Act.put, sS0, sS1, sS2]; refine wpAnyH_pure 3 (v := .string (nm ++ ⟨#[64]⟩)) rfl (by kernel_rfl) (by kernel_rfl) (by kernel_rfl) (fun _ _ _ h => h) rfl (fun _ => by go_simp; omega) (by assumption) ?_; simp only [Act.put, sS0, sS1, sS2]; refine wpAnyH_pure 4 (v := .pointer (some ⟨gs, 0, none⟩)) rfl (by kernel_rfl) (by kernel_rfl) (by kernel_rfl) (fun _ _ _ h => h) rfl (fun _ => by go_simp) (by assumption) ?_; simp only [Act.put, sS0, sS1, sS2]
      refine wpAnyH_cell 5 (v := .slice (some ⟨gb2, oo2, none⟩) o.n1 o.c1) rfl rfl (fun w' h => by
        have hc := (HFR.out w' h).2.1
        go_simp) (by kernel_rfl) (by kernel_rfl) (by kernel_rfl) (fun _ _ _ h => h) (by assumption) ?_
      simp only [Act.put, sS0, sS1, sS2]; refine wpAnyH_pure 6 (v := .pointer (some ⟨gx, 1, none⟩)) rfl (by kernel_rfl) (by kernel_rfl) (by kernel_rfl) (fun _ _ _ h => h) rfl (fun _ => by go_simp) (by assumption) ?_; simp only [Act.put, sS0, sS1, sS2]
      refine wpAnyH_cell 7 (v := .int .i64 (d : Int)) rfl rfl (fun w' h => by
        have hc := (HFR.out w' h).1.2
        go_simp) (by kernel_rfl) (by kernel_rfl) (by kernel_rfl) (fun _ _ _ h => h) (by assumption) ?_
      simp only [Act.put, sS0, sS1, sS2]; refine wpAnyH_pure 8 (v := .pointer (some ⟨gb2, oo2 + d * 3, none⟩)) rfl (by kernel_rfl) (by kernel_rfl) (by kernel_rfl) (fun _ _ _ h => h) rfl (fun _ => by go_simp) (by assumption) ?_; simp only [Act.put, sS0, sS1, sS2]; refine wpAnyH_pure 9 (v := .pointer (some ⟨gb2, oo2 + d * 3, none⟩)) rfl (by kernel_rfl) (by kernel_rfl) (by kernel_rfl) (fun _ _ _ h => h) rfl (fun _ => by go_simp) (by assumption) ?_; simp only [Act.put, sS0, sS1, sS2]
      refine wpAnyH_cell 10 (v := .string ynm) rfl rfl (fun w' h => by
        have hc := (HFR.out w' h).2.2
        go_simp) (by kernel_rfl) (by kernel_rfl) (by kernel_rfl) (fun _ _ _ h => h) (by assumption) ?_
      simp only [Act.put, sS0, sS1, sS2]; refine wpAnyH_pure 11 (v := .string (nm ++ ⟨#[64]⟩ ++ ynm)) rfl (by kernel_rfl) (by kernel_rfl) (by kernel_rfl) (fun _ _ _ h => h) rfl (fun _ => by go_simp; omega) (by assumption) ?_; simp only [Act.put, sS0, sS1, sS2]; refine wpAnyH_one 12 rfl (by kernel_rfl) rfl (fun K hK => ?_); refine wp_of_runc (.slice (some ⟨wb.heap.size, 0, none⟩) 1 1) (wb.drew.alloc (.cells #[.string (nm ++ ⟨#[64]⟩ ++ ynm)] 9)) (by kernel_rfl) ?_; have HGA : Sl (wb.grownBy (wb.drew.alloc (.cells #[.string (nm ++ ⟨#[64]⟩ ++ ynm)] 9)) (Value.slice A k cA).ownBlock) := ⟨grown_of_below ((show Below wb.heap.size wb wb.drew from below_drewN (Below.refl _ _) 1).alloc (by exact Nat.le_refl _) _)⟩; refine hK.out _ _ HGA.out (fun hHeld => ?_); clear hK K; simp only [Act.put, sS0, sS1, sS2]; refine wpAnyH_one 13 rfl (by kernel_rfl) rfl (fun K hK => ?_); have hOA : OS (wb.drew.alloc (.cells #[.string (nm ++ ⟨#[64]⟩ ++ ynm)] 9)) w.heap.size A k cA ((snm o).take k) := (show OS wb.drew _ _ _ _ _ from HO.out).alloc _; refine wp_append_os (.tmp 15) (.tmp 27) rfl w.heap.size A k cA ((snm o).take k) rfl hOA (some ⟨wb.drew.heap.size, 0, none⟩) 1 1 [nm ++ ⟨#[64]⟩ ++ ynm] rfl (SS.made wb.drew _ _) (by omega) (Nat.le_trans HD.out.bl.size (by simp)) ?_; rintro A2 c2 w6 zo zg zt; have HG6 : Sl (wb.grownBy w6 (Value.slice A k cA).ownBlock) := ⟨grown_trans HGA.out zg⟩; have HO6 : Sl _ := ⟨zo⟩; refine hK.out _ _ HG6.out (fun hHeld => ?_); clear hK K zo zg zt hOA; simp only [Act.put, sS0, sS1, sS2]; refine wpAnyH_pure 14 (v := .slice A2 (k + 1) c2) rfl (by kernel_rfl) (by kernel_rfl) (by kernel_rfl) (fun _ _ _ h => h) rfl (fun _ => rfl) (by assumption) ?_; simp only [Act.put, sS0, sS1, sS2]; refine wpAnyH_done (by kernel_rfl) ?_ _; clear hHeld hs1 hs2 h64 hdI1 hdI2 hdN
      have hD6 := ((HD.out.grown HG6.out (fun q hq => (HO.out.lt q hq).1) (fun q hq e => by
        simp only [List.mem_cons, List.not_mem_nil, or_false] at hq; rcases hq with rfl | rfl
        · exact HO.out.ne_blk (HD.out.at_ 0 rfl) (by decide) e
        · exact HO.out.ne_blk (HD.out.at_ 1 rfl) (by decide) e))).drop
      have HD6 : Sl _ := ⟨hD6⟩; clear hD6 HGA HFR; go_wp2_with fail; exact ⟨⟨k + 1, A2, c2, by omega, rfl, by go_num, ⟨by rw [← HA3.out]; exact HD6.out, by rw [HTK.out]; exact HO6.out⟩⟩, by simp [RowKit.intOf]; omega⟩
    · obtain rfl : k = o.n3 := (by omega); have hsl : (snm o).take o.n3 = snm o := List.take_of_length_le (by unfold snm; rw [List.length_map, HM.out.s.len]; exact Nat.le_refl _); rw [hsl] at HO; clear hsl; have c3 := (HD.out.at_ 0 rfl).cell 3; simp at c3; go_wp2_with fail; clear c3; have HLE : Sl (w.heap.size ≤ wr.heap.size) := ⟨HD.out.bl.size⟩
      rename World => wv
      have H3 : Sl (OS wv w.heap.size A o.n3 cA (snm o)) := ⟨HO.out⟩; clear HO
      go_loopw [3, 33] (fun s3 s33 wx => ∃ (j : Nat) (B : Option Addr) (cB : Nat), j ≤ o.n4 ∧ s3 = .slice B j cB ∧ s33 = .int .i64 j ∧ Sl (Lg w wx [(gs, 33, #[.slice o.A1 o.n1 o.c1, .slice o.A2 o.n2 o.c2, .slice o.A3 o.n3 o.c3, .slice o.A4 o.n4 o.c4])] ∧ OS wx wv.heap.size B j cB ((cnm o).take j) ∧ Below wv.heap.size wv wx)) (fun _ s33 _ => o.n4 - (RowKit.intOf s33).toNat)
      case atStart => exact ⟨0, none, 0, Nat.zero_le _, rfl, rfl, ⟨HD.out, OS.nil _ _, Below.refl _ _⟩⟩
      case round =>
        clear HD; obtain ⟨j, B, cB, hj, rfl, rfl, HK⟩ := hrel; have HD : Sl _ := ⟨HK.out.1⟩; have HO : Sl _ := ⟨HK.out.2.1⟩; have HW : Sl _ := ⟨HK.out.2.2⟩; clear HK
        by_cases hjn : j < o.n4
        · have hjI : decide ((j : Int) < (o.n4 : Int)) = true := decide_eq_true (by omega); have hjI2 : (j : Int) < (o.n4 : Int) := (by omega); obtain ⟨gb, oo, x, hA4, hgb, hx, hra⟩ := (HM.out.c.below HD.out.bl).at_ (by omega) hjn; have hnm := HNM.out.2.2 x (List.mem_of_getElem? hx); have hs1 := (nmB_size hnm).2
          have htk : (cnm o).take (j + 1) = (cnm o).take j ++ [⟨#[43]⟩ ++ x.nm] := by
            unfold cnm; rw [List.take_add_one, List.getElem?_map, hx]; rfl
          have HTK : Sl _ := ⟨htk⟩; have x0 := hra 0 _ rfl; have x1 := hra 1 _ rfl; have x2 := hra 2 _ rfl; have x3 := hra 3 _ rfl; have x4 := hra 4 _ rfl; have x5 := hra 5 _ rfl; rw [Nat.add_zero] at x0; obtain ⟨nm, fr, tt, sh, on, th⟩ := x; simp only [] at x0 x1 x2 x3 x4 x5 hs1 HTK; rw [hA4]; have HA4 : Sl _ := ⟨hA4⟩; clear hra hx hnm htk hA4; have h43 : (⟨#[43]⟩ : ByteArray).size = 1 := rfl
          go_wp2_with ((with_reducible show wpList _ _ _ _ _ _); first
            | (refine wpList_alloc_new 7 rfl rfl 93 rfl #[.string ⟨#[]⟩, .int .i64 0, .int .i64 0, .int .i64 0, .int .i64 0, .bool false] alloc_coup ?_; rintro wa gx zg zm zs zb; have HGX : Sl (wv.heap.size ≤ gx) := ⟨by rw [zg]; exact HW.out.size⟩; replace HO : Sl (OS _ _ _ _ _ _) := ⟨HO.out.below (below_mv (Below.refl _ _) zm (Nat.le_refl _) (Nat.le_refl _))⟩; replace HW : Sl _ := ⟨below_mv HW.out zm HW.out.size HW.out.size⟩; replace HD : Sl _ := ⟨HD.out.new zg zm zb⟩; clear zg zm zs zb)
            | (refine wpList_store_whole rfl 93 (.tmp 7) (.tmp 36) rfl gx #[.string nm, .int .i64 fr, .int .i64 tt, .int .i64 sh, .int .i64 on, .bool th] rfl rfl 93 _ (HD.out.at_ 0 rfl) rfl (by kernel_rfl) (by simp [Value.oneCell']) ?_; rintro wb zm zs zb; replace HO : Sl (OS _ _ _ _ _ _) := ⟨HO.out.mv zm (fun k hk e => HO.out.ne_blk (HD.out.at_ 0 rfl) (by decide) (by rw [hk, e]))⟩; replace HW : Sl _ := ⟨below_mv HW.out zm HGX.out HW.out.size⟩; replace HD : Sl _ := ⟨HD.out.upd zm zb⟩; have cc0 := zb.cell 0; simp at cc0; clear zm zs zb)
            | (at_builtin; go_loud (refine wpList_append_os rfl (.tmp 37) (.tmp 41) rfl wv.heap.size B j cB ((cnm o).take j) rfl (HO.out.alloc _) (some ⟨wb.heap.size, 0, none⟩) 1 1 [⟨#[43]⟩ ++ nm] rfl (SS.made _ _ _) (by omega) (Nat.le_trans HW.out.size (by simp)) ?_); rintro B2 c2 w2 zo zg zt; have HZ : Sl _ := ⟨And.intro zo zg⟩; clear zo zg zt))
          have hD2 := ((HD.out.below ((Below.refl _ _).alloc (Nat.le_refl _) (.cells #[.string (⟨#[43]⟩ ++ nm)] 9))).grown HZ.out.2 (fun q hq => Nat.le_trans HLE.out (HO.out.lt q hq).1) (fun q hq e => by
            simp only [List.mem_cons, List.not_mem_nil, or_false] at hq; rcases hq with rfl | rfl
            · exact HO.out.ne_blk (HD.out.at_ 0 rfl) (by decide) e
            · exact HO.out.ne_blk (HD.out.at_ 1 rfl) (by decide) e)).drop
          have HB2 : Sl (Below wv.heap.size wv w2) := ⟨below_grown (HW.out.alloc HW.out.size _) HZ.out.2 (Nat.le_trans HW.out.size (by simp)) (fun q hq => (HO.out.lt q hq).1)⟩; exact ⟨⟨j + 1, B2, c2, by omega, rfl, by go_num, ⟨by rw [← HA4.out]; exact hD2, by rw [HTK.out]; exact HZ.out.1, HB2.out⟩⟩, by simp [RowKit.intOf]; omega⟩
        · obtain rfl : j = o.n4 := (by omega); have hsl : (cnm o).take o.n4 = cnm o := List.take_of_length_le (by unfold cnm; rw [List.length_map, HM.out.c.len]; exact Nat.le_refl _); rw [hsl] at HO; clear hsl; go_wp2_with fail; go_ret2; exact ⟨⟨A, cA, B, cB, rfl, H3.out.below HW.out, HO.out.mono HLE.out⟩, HD.out.bl⟩
end Go.Proofs.YtabkpbbjodfolaaGreatDoor
