/- The reference of chapter 11: Check. (Printed by a program.) -/
import Derived.Test.YtafadpaljanghaaGreatDoorMyU
namespace Go.Proofs.YtafadpaljanghaaGreatDoor
set_option linter.unusedSimpArgs false
open Go.RowKit
set_option linter.unusedVariables false

/-- is a break in order, the first one at the first key? -/
def Mx.ord1 (x : Mx) (i : Nat) : Bool := (decide (0 < (x.rk i).length) && !dn (x.rk i)) && decide (x.fr i ≤ x.b) && (decide (i = 0) && decide (x.fr i = x.a) || decide (0 < i) && decide (x.fr (i - 1) < x.fr i))
theorem Mx.ord1_ill (x : Mx) (i : Nat) : x.ord1 i = !(x.ill i || (decide (i = 0) && decide (x.fr 0 ≠ x.a))) := by
  unfold Mx.ord1 Mx.ill
  have e1 : decide (0 < (x.rk i).length) = !decide ((x.rk i).length = 0) := by rw [Bool.eq_iff_iff]; simp [Nat.pos_iff_ne_zero]
  have e2 : decide (x.fr i ≤ x.b) = !decide (x.b < x.fr i) := by rw [Bool.eq_iff_iff]; simp
  rw [e1, e2]
  rcases i with _ | i
  · have e3 : decide (x.fr 0 ≠ x.a) = !decide (x.fr 0 = x.a) := by rw [Bool.eq_iff_iff]; simp
    rw [e3, decide_eq_true (rfl : (0 : Nat) = 0), decide_eq_false (Nat.lt_irrefl 0)]
    cases decide ((x.rk 0).length = 0) <;> cases dn (x.rk 0) <;> cases decide (x.b < x.fr 0) <;> cases decide (x.fr 0 = x.a) <;> rfl
  · have e3 : decide (x.fr (i + 1 - 1) < x.fr (i + 1)) = !decide (x.fr (i + 1) ≤ x.fr (i + 1 - 1)) := by rw [Bool.eq_iff_iff]; simp
    rw [e3, decide_eq_false (Nat.succ_ne_zero i), decide_eq_true (Nat.succ_pos i)]
    cases decide ((x.rk (i + 1)).length = 0) <;> cases dn (x.rk (i + 1)) <;> cases decide (x.b < x.fr (i + 1)) <;> cases decide (x.fr (i + 1) ≤ x.fr (i + 1 - 1)) <;> rfl
theorem Mx.arg_ord (x : Mx) : x.arg = !(decide (0 < x.n) && !anyN x.n fun i => !x.ord1 i) := by
  unfold Mx.arg
  by_cases h0 : x.n = 0
  · rw [decide_eq_true h0, decide_eq_false (show ¬ 0 < x.n by omega)]; rfl
  · rw [decide_eq_false h0, decide_eq_true (show 0 < x.n by omega)]
    simp only [Bool.false_or, Bool.true_and, Bool.not_not]
    rw [Bool.eq_iff_iff, Bool.or_eq_true, anyN_iff, anyN_iff, decide_eq_true_iff]
    constructor
    · rintro (h | ⟨i, hi, h⟩)
      · refine ⟨0, by omega, ?_⟩
        rw [x.ord1_ill, decide_eq_true h, decide_eq_true (rfl : (0 : Nat) = 0)]
        simp
      · refine ⟨i, hi, ?_⟩
        rw [x.ord1_ill, h]; rfl
    · rintro ⟨i, hi, h⟩
      rw [x.ord1_ill, Bool.not_not, Bool.or_eq_true, Bool.and_eq_true, decide_eq_true_iff, decide_eq_true_iff] at h
      rcases h with h | ⟨_, h⟩
      · exact .inr ⟨i, hi, h⟩
      · exact .inl h
set_option maxHeartbeats 12800000 in
set_option maxRecDepth 100000 in
theorem rCheck_any (a b : Int) (A : Option Addr) (n c : Nat) (L : List Bk) (w : World) (hM : MXA w A n c L) (ha : i64 a) (hb : i64 b) :
    Calls Tryz.prog 15 #[.agg #[.int .i64 a, .int .i64 b, .slice A n c]] w fun e w' => e = .returned (.int .i64 (mxO a b L).chk) ∧ Below w.heap.size w w' := by
  have HU : Sl (Below w.heap.size w (w.alloc (.cells #[.int .i64 a, .int .i64 b, .slice A n c] 34))) := ⟨(Below.refl _ _).alloc (Nat.le_refl _) _⟩
  have HBK : Sl _ := ⟨Blk.new w 34 #[.int .i64 a, .int .i64 b, .slice A n c]⟩
  have HM : Sl _ := ⟨hM.below HU.out⟩
  have HL : Sl (L.length = n) := ⟨hM.mx.len⟩
  have hcap := hM.cap
  have hnm : n ≤ 9223372036854775807 := by unfold maxLen at hcap; omega
  have HNM : Sl _ := ⟨hnm⟩
  obtain ⟨cb, hcb⟩ : ∃ cb, (decide (0 ≤ a) && decide (b ≤ 127) && decide (a ≤ b) && decide (b - a < 61)) = cb := ⟨_, rfl⟩
  have HKC : Sl _ := ⟨rkeys_any a b (w.alloc (.cells #[.int .i64 a, .int .i64 b, .slice A n c] 34)) ha hb⟩
  rw [hcb] at HKC
  have HC : Sl ((mxO a b L).cmp = cb) := ⟨by unfold Mx.cmp; exact hcb⟩
  obtain ⟨r, hr⟩ : ∃ r, (mxO a b L).chk = r := ⟨_, rfl⟩
  rw [hr]
  have HR : Sl _ := ⟨hr⟩
  obtain ⟨p, hp⟩ : ∃ r, decide (0 < n) = r := ⟨_, rfl⟩
  obtain ⟨p12, hp12⟩ : ∃ r, decide (n ≤ 12) = r := ⟨_, rfl⟩
  have HP : Sl _ := ⟨And.intro hp hp12⟩
  have hpi : decide ((0 : Int) < (n : Int)) = p := by rw [← hp, Bool.eq_iff_iff, decide_eq_true_iff, decide_eq_true_iff]; omega
  have hpj : decide ((n : Int) ≤ 12) = p12 := by rw [← hp12, Bool.eq_iff_iff, decide_eq_true_iff, decide_eq_true_iff]; omega
  clear hM ha hb hcb hr hcap hnm
  go_enter Tryz.func15, Tryz.ntmps15
  go_wp2_with fail
  generalize w.alloc (.cells #[.int .i64 a, .int .i64 b, .slice A n c] 34) = w0 at *
  refine HKC.out.mono ?_; rintro e w1 ⟨rfl, rfl⟩
  clear HKC
  cases cb
  · have HV : Sl (r = 7) := ⟨by
      rw [← HR.out]; unfold Mx.chk
      rw [Mx.chk1_a HC.out]; rfl⟩
    go_wp2_with fail
    go_ret
    exact ⟨by rw [HV.out]; rfl, HU.out⟩
  · have c2 := HBK.out.cell 2
    simp at c2
    go_wp2_with fail
    go_quiet (fail)
    replace HU : Sl (Below w.heap.size w (w1.drewN nq)) := ⟨below_drewN HU.out nq⟩
    replace HBK : Sl (Blk (w1.drewN nq) w.heap.size _ _) := ⟨HBK.out.drewN nq⟩
    replace HM : Sl (MXA (w1.drewN nq) A n c L) := ⟨HM.out.below (below_drewN (Below.refl _ _) nq)⟩
    clear c2
    generalize w1.drewN nq = w2 at *
    go_wp2_with fail
    clear hp hp12 hpi hpj
    obtain ⟨x, hx⟩ : ∃ x, mxO a b L = x := ⟨_, rfl⟩
    have HX : Sl _ := ⟨hx⟩
    clear hx
    go_loopw [3, 4, 5, 6, 7, 8, 9, 10] (fun s3 s4 s5 s6 s7 s8 s9 s10 wr => ∃ (k : Nat) (s o m : Bool) (v7 v8 v9 v10 : Value), k ≤ n ∧ s6 = .int .i64 k ∧ s3 = .bool s ∧ s4 = .bool o ∧ s5 = .bool m ∧ s7 = v7 ∧ s8 = v8 ∧ s9 = v9 ∧ s10 = v10 ∧ Sl ((s = (p12 && !anyN k fun i => decide (8 < (x.rk i).length)) ∧ o = (p && !anyN k fun i => !x.ord1 i) ∧ m = !anyN k fun i => outL (x.rk i)) ∧ Below w2.heap.size w2 wr)) (fun _ _ _ s6 _ _ _ _ _ => n - (RowKit.intOf s6).toNat)
    case atStart => exact ⟨0, p12, p, true, _, _, _, _, Nat.zero_le _, rfl, by first | rfl | (rw [← HP.out.2]; rfl), by first | rfl | (rw [← HP.out.1]; rfl), rfl, rfl, rfl, rfl, rfl, ⟨⟨by show p12 = (p12 && true); rw [Bool.and_true], by show p = (p && true); rw [Bool.and_true], rfl⟩, Below.refl _ _⟩⟩
    case round =>
      obtain ⟨k, s, o, m, v7, v8, v9, v10, hk, rfl, rfl, rfl, rfl, rfl, rfl, rfl, rfl, HK⟩ := hrel
      by_cases hkn : k < n
      · obtain ⟨bk, hbk⟩ : ∃ bk, L[k]? = some bk := ⟨_, List.getElem?_eq_getElem (by rw [HL.out]; exact hkn)⟩
        have HMr : Sl (MXA wr A n c L) := ⟨HM.out.below HK.out.2⟩
        have HBr : Sl (Blk wr w.heap.size 34 #[.int .i64 a, .int .i64 b, .slice A n c]) := ⟨HBK.out.below HK.out.2 HBK.out.lt⟩
        obtain ⟨ad, rfl, hab, e1, e2⟩ := HMr.out.mx.cells2 hbk
        have HII : Sl (II wr bk.A bk.n bk.l) := ⟨HMr.out.mx.rk bk (List.mem_of_getElem? hbk)⟩
        have HRK : Sl (x.fr k = bk.fr ∧ x.rk k = bk.l ∧ x.b = b ∧ x.a = a) := ⟨by rw [← HX.out]; exact ⟨(mxO_at hbk).1, (mxO_at hbk).2, rfl, rfl⟩⟩
        have HCAP : Sl (bk.n ≤ 9223372036854775807) := ⟨by
          have := HMr.out.rc bk (List.mem_of_getElem? hbk)
          unfold maxLen at this; omega⟩
        clear hbk
        obtain ⟨fr, BA, bn, bc, bl⟩ := bk
        simp only [] at e1 e2 HII HRK HCAP
        have HBW : Sl (Below wr.heap.size wr (wr.alloc (.cells #[.int .i64 fr, .slice BA bn bc] 59))) := ⟨(Below.refl _ _).alloc (Nat.le_refl _) _⟩
        have XN : Sl (Blk (wr.alloc (.cells #[.int .i64 fr, .slice BA bn bc] 59)) wr.heap.size 59 #[.int .i64 fr, .slice BA bn bc]) := ⟨Blk.new _ _ _⟩
        have hlt : (k : Int) < (n : Int) := by omega
        have hnm := HNM.out
        have cc2 := HBr.out.cell 2
        simp at cc2
        go_wp2_with fail
        clear e1 e2 hab cc2
        generalize wr.alloc (.cells #[.int .i64 fr, .slice BA bn bc] 59) = wq at *
        have HIq : Sl (II wq BA bn bl) := ⟨HII.out.below HBW.out⟩
        have HRA : Sl _ := ⟨rranks_any BA bn bc bl wq HIq.out HCAP.out⟩
        obtain ⟨r8, hr8⟩ : ∃ r, decide (bn ≤ 8) = r := ⟨_, rfl⟩
        obtain ⟨ro, hro⟩ : ∃ r, (decide (0 < bn) && !dn bl) = r := ⟨_, rfl⟩
        obtain ⟨rn, hrn⟩ : ∃ r, (!outL bl) = r := ⟨_, rfl⟩
        rw [hr8, hro, hrn] at HRA
        have HRR : Sl _ := ⟨And.intro hr8 (And.intro hro hrn)⟩
        clear hr8 hro hrn
        refine HRA.out.mono ?_; rintro e w5 ⟨rfl, q5, rfl⟩
        clear HRA HIq
        have HBZ : Sl (Below wr.heap.size wr (wq.drewN q5)) := ⟨below_drewN HBW.out q5⟩
        have XZ : Sl (Blk (wq.drewN q5) wr.heap.size 59 #[.int .i64 fr, .slice BA bn bc]) := ⟨XN.out.drewN q5⟩
        clear HBW XN
        generalize wq.drewN q5 = w6 at *
        have HKU : Sl (Below w2.heap.size w2 w6) := ⟨HK.out.2.trans (HBZ.out.mono HK.out.2.size)⟩
        have x0 := XZ.out.cell 0
        have x1 := XZ.out.cell 1
        have c0 := (HBr.out.below HBZ.out HBr.out.lt).cell 0
        have c1 := (HBr.out.below HBZ.out HBr.out.lt).cell 1
        have c2 := (HBr.out.below HBZ.out HBr.out.lt).cell 2
        simp at x0 x1 c0 c1 c2
        have HS : Sl (∀ s', s' = (s && r8) → s' = (p12 && !anyN (k + 1) fun i => decide (8 < (x.rk i).length))) := ⟨fun s' h => by
          have e : decide (8 < (x.rk k).length) = !r8 := by rw [HRK.out.2.1, HII.out.1, ← HRR.out.1, Bool.eq_iff_iff]; simp
          rw [h, HK.out.1.1, anyN, e]
          cases p12 <;> cases (anyN k fun i => decide (8 < (x.rk i).length)) <;> cases r8 <;> rfl⟩
        have HN : Sl (∀ m', m' = (m && rn) → m' = !anyN (k + 1) fun i => outL (x.rk i)) := ⟨fun m' h => by
          rw [h, HK.out.1.2.2, anyN, HRK.out.2.1, ← HRR.out.2.2]
          cases (anyN k fun i => outL (x.rk i)) <;> cases outL bl <;> rfl⟩
        have HO : Sl (∀ o', o' = (o && x.ord1 k) → o' = (p && !anyN (k + 1) fun i => !x.ord1 i)) := ⟨fun o' h => by
          rw [h, HK.out.1.2.1, anyN]
          cases p <;> cases (anyN k fun i => !x.ord1 i) <;> cases x.ord1 k <;> rfl⟩
        have HOE : Sl (x.ord1 k = (ro && decide (fr ≤ b) && (decide (k = 0) && decide (fr = a) || decide (0 < k) && decide (x.fr (k - 1) < fr)))) := ⟨by
          unfold Mx.ord1
          rw [HRK.out.1, HRK.out.2.1, HRK.out.2.2.1, HRK.out.2.2.2, HII.out.1, HRR.out.2.1]⟩
        cases s
        · cases o
          · go_wp2_with fail
            go_quiet (fail)
            have HKZ : Sl (Below w2.heap.size w2 (w6.drewN nq)) := ⟨below_drewN HKU.out nq⟩
            clear x0 x1 c0 c1 c2
            generalize w6.drewN nq = w7 at *
            cases m
            · go_wp2_with fail
              exact ⟨⟨k + 1, _, _, _, _, _, _, _, hkn, by go_num, rfl, rfl, rfl, rfl, rfl, rfl, rfl, ⟨⟨HS.out _ (by first | rfl | (cases r8 <;> rfl)), HO.out _ (by first | rfl | (cases x.ord1 k <;> rfl)), HN.out _ (by first | rfl | (cases rn <;> rfl))⟩, HKZ.out⟩⟩, by simp [RowKit.intOf]; omega⟩
            · go_wp2_with fail
              exact ⟨⟨k + 1, _, _, _, _, _, _, _, hkn, by go_num, rfl, rfl, rfl, rfl, rfl, rfl, rfl, ⟨⟨HS.out _ (by first | rfl | (cases r8 <;> rfl)), HO.out _ (by first | rfl | (cases x.ord1 k <;> rfl)), HN.out _ (by first | rfl | (cases rn <;> rfl))⟩, HKZ.out⟩⟩, by simp [RowKit.intOf]; omega⟩
          · cases ro
            · go_wp2_with fail
              have HOV : Sl (x.ord1 k = false) := ⟨by rw [HOE.out]; rfl⟩
              go_quiet (fail)
              have HKZ : Sl (Below w2.heap.size w2 (w6.drewN nq)) := ⟨below_drewN HKU.out nq⟩
              clear x0 x1 c0 c1 c2
              generalize w6.drewN nq = w7 at *
              cases m
              · go_wp2_with fail
                exact ⟨⟨k + 1, _, _, _, _, _, _, _, hkn, by go_num, rfl, rfl, rfl, rfl, rfl, rfl, rfl, ⟨⟨HS.out _ (by first | rfl | (cases r8 <;> rfl)), HO.out _ (by rw [HOV.out]; rfl), HN.out _ (by first | rfl | (cases rn <;> rfl))⟩, HKZ.out⟩⟩, by simp [RowKit.intOf]; omega⟩
              · go_wp2_with fail
                exact ⟨⟨k + 1, _, _, _, _, _, _, _, hkn, by go_num, rfl, rfl, rfl, rfl, rfl, rfl, rfl, ⟨⟨HS.out _ (by first | rfl | (cases r8 <;> rfl)), HO.out _ (by rw [HOV.out]; rfl), HN.out _ (by first | rfl | (cases rn <;> rfl))⟩, HKZ.out⟩⟩, by simp [RowKit.intOf]; omega⟩
            · by_cases hfb : fr ≤ b
              · have hfd : decide (fr ≤ b) = true := decide_eq_true hfb
                by_cases hk0 : k = 0
                · have hk0i : ((k : Int) == 0) = true := by rw [hk0]; rfl
                  have hkz : (k == 0) = true := by rw [hk0]; rfl
                  have hkp : ¬ (0 : Int) < (k : Int) := by omega
                  have hkpd : decide ((0 : Int) < (k : Int)) = false := decide_eq_false hkp
                  have hkq : ¬ 0 < k := by omega
                  have hkqd : decide (0 < k) = false := decide_eq_false hkq
                  have HK0 : Sl (decide (k = 0) = true) := ⟨decide_eq_true hk0⟩
                  clear hk0
                  by_cases hfa : fr = a
                  · have hfa1 : (fr == a) = true := by rw [beq_iff_eq]; exact hfa
                    have HFA : Sl (decide (fr = a) = true) := ⟨decide_eq_true hfa⟩
                    clear hfa
                    go_wp2_with fail
                    have HOV : Sl (x.ord1 k = true) := ⟨by rw [HOE.out, hfd, HK0.out, HFA.out]; rfl⟩
                    go_quiet (fail)
                    have HKZ : Sl (Below w2.heap.size w2 (w6.drewN nq)) := ⟨below_drewN HKU.out nq⟩
                    clear x0 x1 c0 c1 c2
                    generalize w6.drewN nq = w7 at *
                    cases m
                    · go_wp2_with fail
                      exact ⟨⟨k + 1, _, _, _, _, _, _, _, hkn, by go_num, rfl, rfl, rfl, rfl, rfl, rfl, rfl, ⟨⟨HS.out _ (by first | rfl | (cases r8 <;> rfl)), HO.out _ (by rw [HOV.out]; rfl), HN.out _ (by first | rfl | (cases rn <;> rfl))⟩, HKZ.out⟩⟩, by simp [RowKit.intOf]; omega⟩
                    · go_wp2_with fail
                      exact ⟨⟨k + 1, _, _, _, _, _, _, _, hkn, by go_num, rfl, rfl, rfl, rfl, rfl, rfl, rfl, ⟨⟨HS.out _ (by first | rfl | (cases r8 <;> rfl)), HO.out _ (by rw [HOV.out]; rfl), HN.out _ (by first | rfl | (cases rn <;> rfl))⟩, HKZ.out⟩⟩, by simp [RowKit.intOf]; omega⟩
                  · have hfa1 : (fr == a) = false := by rw [beq_eq_false_iff_ne]; exact hfa
                    have HFA : Sl (decide (fr = a) = false) := ⟨decide_eq_false hfa⟩
                    go_wp2_with fail
                    have HOV : Sl (x.ord1 k = false) := ⟨by rw [HOE.out, hfd, HK0.out, HFA.out, hkqd]; rfl⟩
                    go_quiet (fail)
                    have HKZ : Sl (Below w2.heap.size w2 (w6.drewN nq)) := ⟨below_drewN HKU.out nq⟩
                    clear x0 x1 c0 c1 c2
                    generalize w6.drewN nq = w7 at *
                    cases m
                    · go_wp2_with fail
                      exact ⟨⟨k + 1, _, _, _, _, _, _, _, hkn, by go_num, rfl, rfl, rfl, rfl, rfl, rfl, rfl, ⟨⟨HS.out _ (by first | rfl | (cases r8 <;> rfl)), HO.out _ (by rw [HOV.out]; rfl), HN.out _ (by first | rfl | (cases rn <;> rfl))⟩, HKZ.out⟩⟩, by simp [RowKit.intOf]; omega⟩
                    · go_wp2_with fail
                      exact ⟨⟨k + 1, _, _, _, _, _, _, _, hkn, by go_num, rfl, rfl, rfl, rfl, rfl, rfl, rfl, ⟨⟨HS.out _ (by first | rfl | (cases r8 <;> rfl)), HO.out _ (by rw [HOV.out]; rfl), HN.out _ (by first | rfl | (cases rn <;> rfl))⟩, HKZ.out⟩⟩, by simp [RowKit.intOf]; omega⟩
                · obtain ⟨i, hi⟩ : ∃ i, k = i + 1 := ⟨k - 1, by omega⟩
                  have hki : (k : Int) - 1 = (i : Int) := by omega
                  have hin : (i : Int) < (n : Int) := by omega
                  have hin2 : i < n := by omega
                  have hwi : IntKind.i64.wrap (i : Int) = (i : Int) := by rw [IntKind.wrap_i64]; have := HNM.out; omega
                  have hk0i : ((k : Int) == 0) = false := by rw [beq_eq_false_iff_ne]; omega
                  have hkz : (k == 0) = false := by rw [beq_eq_false_iff_ne]; omega
                  have hkp : (0 : Int) < (k : Int) := by omega
                  have hkpd : decide ((0 : Int) < (k : Int)) = true := decide_eq_true hkp
                  have hkq : 0 < k := by omega
                  have hkqd : decide (0 < k) = true := decide_eq_true hkq
                  have HK0 : Sl (decide (k = 0) = false) := ⟨decide_eq_false hk0⟩
                  obtain ⟨pk, hpk⟩ : ∃ pk, L[i]? = some pk := ⟨_, List.getElem?_eq_getElem (by rw [HL.out]; omega)⟩
                  obtain ⟨ad', e, hab, e1, e2⟩ := (HMr.out.below HBZ.out).mx.cells2 hpk
                  injection e with e
                  subst e
                  have HPF : Sl (x.fr (k - 1) = pk.fr) := ⟨by rw [show k - 1 = i by omega, ← HX.out]; exact (mxO_at hpk).1⟩
                  clear e2 hpk hab
                  generalize pk.fr = pf at *
                  clear hi hk0
                  by_cases hfp : pf < fr
                  · have hpd : decide (pf < fr) = true := decide_eq_true hfp
                    go_wp2_with fail
                    have HOV : Sl (x.ord1 k = true) := ⟨by rw [HOE.out, hfd, HK0.out, hkqd, HPF.out, hpd]; rfl⟩
                    go_quiet (fail)
                    have HKZ : Sl (Below w2.heap.size w2 (w6.drewN nq)) := ⟨below_drewN HKU.out nq⟩
                    clear x0 x1 c0 c1 c2
                    generalize w6.drewN nq = w7 at *
                    cases m
                    · go_wp2_with fail
                      exact ⟨⟨k + 1, _, _, _, _, _, _, _, hkn, by go_num, rfl, rfl, rfl, rfl, rfl, rfl, rfl, ⟨⟨HS.out _ (by first | rfl | (cases r8 <;> rfl)), HO.out _ (by rw [HOV.out]; rfl), HN.out _ (by first | rfl | (cases rn <;> rfl))⟩, HKZ.out⟩⟩, by simp [RowKit.intOf]; omega⟩
                    · go_wp2_with fail
                      exact ⟨⟨k + 1, _, _, _, _, _, _, _, hkn, by go_num, rfl, rfl, rfl, rfl, rfl, rfl, rfl, ⟨⟨HS.out _ (by first | rfl | (cases r8 <;> rfl)), HO.out _ (by rw [HOV.out]; rfl), HN.out _ (by first | rfl | (cases rn <;> rfl))⟩, HKZ.out⟩⟩, by simp [RowKit.intOf]; omega⟩
                  · have hpd : decide (pf < fr) = false := decide_eq_false hfp
                    go_wp2_with fail
                    have HOV : Sl (x.ord1 k = false) := ⟨by rw [HOE.out, hfd, HK0.out, hkqd, HPF.out, hpd]; rfl⟩
                    go_quiet (fail)
                    have HKZ : Sl (Below w2.heap.size w2 (w6.drewN nq)) := ⟨below_drewN HKU.out nq⟩
                    clear x0 x1 c0 c1 c2
                    generalize w6.drewN nq = w7 at *
                    cases m
                    · go_wp2_with fail
                      exact ⟨⟨k + 1, _, _, _, _, _, _, _, hkn, by go_num, rfl, rfl, rfl, rfl, rfl, rfl, rfl, ⟨⟨HS.out _ (by first | rfl | (cases r8 <;> rfl)), HO.out _ (by rw [HOV.out]; rfl), HN.out _ (by first | rfl | (cases rn <;> rfl))⟩, HKZ.out⟩⟩, by simp [RowKit.intOf]; omega⟩
                    · go_wp2_with fail
                      exact ⟨⟨k + 1, _, _, _, _, _, _, _, hkn, by go_num, rfl, rfl, rfl, rfl, rfl, rfl, rfl, ⟨⟨HS.out _ (by first | rfl | (cases r8 <;> rfl)), HO.out _ (by rw [HOV.out]; rfl), HN.out _ (by first | rfl | (cases rn <;> rfl))⟩, HKZ.out⟩⟩, by simp [RowKit.intOf]; omega⟩
              · have hfd : decide (fr ≤ b) = false := decide_eq_false hfb
                go_wp2_with fail
                have HOV : Sl (x.ord1 k = false) := ⟨by rw [HOE.out, hfd, Bool.and_false]; rfl⟩
                go_quiet (fail)
                have HKZ : Sl (Below w2.heap.size w2 (w6.drewN nq)) := ⟨below_drewN HKU.out nq⟩
                clear x0 x1 c0 c1 c2
                generalize w6.drewN nq = w7 at *
                cases m
                · go_wp2_with fail
                  exact ⟨⟨k + 1, _, _, _, _, _, _, _, hkn, by go_num, rfl, rfl, rfl, rfl, rfl, rfl, rfl, ⟨⟨HS.out _ (by first | rfl | (cases r8 <;> rfl)), HO.out _ (by rw [HOV.out]; rfl), HN.out _ (by first | rfl | (cases rn <;> rfl))⟩, HKZ.out⟩⟩, by simp [RowKit.intOf]; omega⟩
                · go_wp2_with fail
                  exact ⟨⟨k + 1, _, _, _, _, _, _, _, hkn, by go_num, rfl, rfl, rfl, rfl, rfl, rfl, rfl, ⟨⟨HS.out _ (by first | rfl | (cases r8 <;> rfl)), HO.out _ (by rw [HOV.out]; rfl), HN.out _ (by first | rfl | (cases rn <;> rfl))⟩, HKZ.out⟩⟩, by simp [RowKit.intOf]; omega⟩
        · cases o
          · go_wp2_with fail
            go_quiet (fail)
            have HKZ : Sl (Below w2.heap.size w2 (w6.drewN nq)) := ⟨below_drewN HKU.out nq⟩
            clear x0 x1 c0 c1 c2
            generalize w6.drewN nq = w7 at *
            cases m
            · go_wp2_with fail
              exact ⟨⟨k + 1, _, _, _, _, _, _, _, hkn, by go_num, rfl, rfl, rfl, rfl, rfl, rfl, rfl, ⟨⟨HS.out _ (by first | rfl | (cases r8 <;> rfl)), HO.out _ (by first | rfl | (cases x.ord1 k <;> rfl)), HN.out _ (by first | rfl | (cases rn <;> rfl))⟩, HKZ.out⟩⟩, by simp [RowKit.intOf]; omega⟩
            · go_wp2_with fail
              exact ⟨⟨k + 1, _, _, _, _, _, _, _, hkn, by go_num, rfl, rfl, rfl, rfl, rfl, rfl, rfl, ⟨⟨HS.out _ (by first | rfl | (cases r8 <;> rfl)), HO.out _ (by first | rfl | (cases x.ord1 k <;> rfl)), HN.out _ (by first | rfl | (cases rn <;> rfl))⟩, HKZ.out⟩⟩, by simp [RowKit.intOf]; omega⟩
          · cases ro
            · go_wp2_with fail
              have HOV : Sl (x.ord1 k = false) := ⟨by rw [HOE.out]; rfl⟩
              go_quiet (fail)
              have HKZ : Sl (Below w2.heap.size w2 (w6.drewN nq)) := ⟨below_drewN HKU.out nq⟩
              clear x0 x1 c0 c1 c2
              generalize w6.drewN nq = w7 at *
              cases m
              · go_wp2_with fail
                exact ⟨⟨k + 1, _, _, _, _, _, _, _, hkn, by go_num, rfl, rfl, rfl, rfl, rfl, rfl, rfl, ⟨⟨HS.out _ (by first | rfl | (cases r8 <;> rfl)), HO.out _ (by rw [HOV.out]; rfl), HN.out _ (by first | rfl | (cases rn <;> rfl))⟩, HKZ.out⟩⟩, by simp [RowKit.intOf]; omega⟩
              · go_wp2_with fail
                exact ⟨⟨k + 1, _, _, _, _, _, _, _, hkn, by go_num, rfl, rfl, rfl, rfl, rfl, rfl, rfl, ⟨⟨HS.out _ (by first | rfl | (cases r8 <;> rfl)), HO.out _ (by rw [HOV.out]; rfl), HN.out _ (by first | rfl | (cases rn <;> rfl))⟩, HKZ.out⟩⟩, by simp [RowKit.intOf]; omega⟩
            · by_cases hfb : fr ≤ b
              · have hfd : decide (fr ≤ b) = true := decide_eq_true hfb
                by_cases hk0 : k = 0
                · have hk0i : ((k : Int) == 0) = true := by rw [hk0]; rfl
                  have hkz : (k == 0) = true := by rw [hk0]; rfl
                  have hkp : ¬ (0 : Int) < (k : Int) := by omega
                  have hkpd : decide ((0 : Int) < (k : Int)) = false := decide_eq_false hkp
                  have hkq : ¬ 0 < k := by omega
                  have hkqd : decide (0 < k) = false := decide_eq_false hkq
                  have HK0 : Sl (decide (k = 0) = true) := ⟨decide_eq_true hk0⟩
                  clear hk0
                  by_cases hfa : fr = a
                  · have hfa1 : (fr == a) = true := by rw [beq_iff_eq]; exact hfa
                    have HFA : Sl (decide (fr = a) = true) := ⟨decide_eq_true hfa⟩
                    clear hfa
                    go_wp2_with fail
                    have HOV : Sl (x.ord1 k = true) := ⟨by rw [HOE.out, hfd, HK0.out, HFA.out]; rfl⟩
                    go_quiet (fail)
                    have HKZ : Sl (Below w2.heap.size w2 (w6.drewN nq)) := ⟨below_drewN HKU.out nq⟩
                    clear x0 x1 c0 c1 c2
                    generalize w6.drewN nq = w7 at *
                    cases m
                    · go_wp2_with fail
                      exact ⟨⟨k + 1, _, _, _, _, _, _, _, hkn, by go_num, rfl, rfl, rfl, rfl, rfl, rfl, rfl, ⟨⟨HS.out _ (by first | rfl | (cases r8 <;> rfl)), HO.out _ (by rw [HOV.out]; rfl), HN.out _ (by first | rfl | (cases rn <;> rfl))⟩, HKZ.out⟩⟩, by simp [RowKit.intOf]; omega⟩
                    · go_wp2_with fail
                      exact ⟨⟨k + 1, _, _, _, _, _, _, _, hkn, by go_num, rfl, rfl, rfl, rfl, rfl, rfl, rfl, ⟨⟨HS.out _ (by first | rfl | (cases r8 <;> rfl)), HO.out _ (by rw [HOV.out]; rfl), HN.out _ (by first | rfl | (cases rn <;> rfl))⟩, HKZ.out⟩⟩, by simp [RowKit.intOf]; omega⟩
                  · have hfa1 : (fr == a) = false := by rw [beq_eq_false_iff_ne]; exact hfa
                    have HFA : Sl (decide (fr = a) = false) := ⟨decide_eq_false hfa⟩
                    go_wp2_with fail
                    have HOV : Sl (x.ord1 k = false) := ⟨by rw [HOE.out, hfd, HK0.out, HFA.out, hkqd]; rfl⟩
                    go_quiet (fail)
                    have HKZ : Sl (Below w2.heap.size w2 (w6.drewN nq)) := ⟨below_drewN HKU.out nq⟩
                    clear x0 x1 c0 c1 c2
                    generalize w6.drewN nq = w7 at *
                    cases m
                    · go_wp2_with fail
                      exact ⟨⟨k + 1, _, _, _, _, _, _, _, hkn, by go_num, rfl, rfl, rfl, rfl, rfl, rfl, rfl, ⟨⟨HS.out _ (by first | rfl | (cases r8 <;> rfl)), HO.out _ (by rw [HOV.out]; rfl), HN.out _ (by first | rfl | (cases rn <;> rfl))⟩, HKZ.out⟩⟩, by simp [RowKit.intOf]; omega⟩
                    · go_wp2_with fail
                      exact ⟨⟨k + 1, _, _, _, _, _, _, _, hkn, by go_num, rfl, rfl, rfl, rfl, rfl, rfl, rfl, ⟨⟨HS.out _ (by first | rfl | (cases r8 <;> rfl)), HO.out _ (by rw [HOV.out]; rfl), HN.out _ (by first | rfl | (cases rn <;> rfl))⟩, HKZ.out⟩⟩, by simp [RowKit.intOf]; omega⟩
                · obtain ⟨i, hi⟩ : ∃ i, k = i + 1 := ⟨k - 1, by omega⟩
                  have hki : (k : Int) - 1 = (i : Int) := by omega
                  have hin : (i : Int) < (n : Int) := by omega
                  have hin2 : i < n := by omega
                  have hwi : IntKind.i64.wrap (i : Int) = (i : Int) := by rw [IntKind.wrap_i64]; have := HNM.out; omega
                  have hk0i : ((k : Int) == 0) = false := by rw [beq_eq_false_iff_ne]; omega
                  have hkz : (k == 0) = false := by rw [beq_eq_false_iff_ne]; omega
                  have hkp : (0 : Int) < (k : Int) := by omega
                  have hkpd : decide ((0 : Int) < (k : Int)) = true := decide_eq_true hkp
                  have hkq : 0 < k := by omega
                  have hkqd : decide (0 < k) = true := decide_eq_true hkq
                  have HK0 : Sl (decide (k = 0) = false) := ⟨decide_eq_false hk0⟩
                  obtain ⟨pk, hpk⟩ : ∃ pk, L[i]? = some pk := ⟨_, List.getElem?_eq_getElem (by rw [HL.out]; omega)⟩
                  obtain ⟨ad', e, hab, e1, e2⟩ := (HMr.out.below HBZ.out).mx.cells2 hpk
                  injection e with e
                  subst e
                  have HPF : Sl (x.fr (k - 1) = pk.fr) := ⟨by rw [show k - 1 = i by omega, ← HX.out]; exact (mxO_at hpk).1⟩
                  clear e2 hpk hab
                  generalize pk.fr = pf at *
                  clear hi hk0
                  by_cases hfp : pf < fr
                  · have hpd : decide (pf < fr) = true := decide_eq_true hfp
                    go_wp2_with fail
                    have HOV : Sl (x.ord1 k = true) := ⟨by rw [HOE.out, hfd, HK0.out, hkqd, HPF.out, hpd]; rfl⟩
                    go_quiet (fail)
                    have HKZ : Sl (Below w2.heap.size w2 (w6.drewN nq)) := ⟨below_drewN HKU.out nq⟩
                    clear x0 x1 c0 c1 c2
                    generalize w6.drewN nq = w7 at *
                    cases m
                    · go_wp2_with fail
                      exact ⟨⟨k + 1, _, _, _, _, _, _, _, hkn, by go_num, rfl, rfl, rfl, rfl, rfl, rfl, rfl, ⟨⟨HS.out _ (by first | rfl | (cases r8 <;> rfl)), HO.out _ (by rw [HOV.out]; rfl), HN.out _ (by first | rfl | (cases rn <;> rfl))⟩, HKZ.out⟩⟩, by simp [RowKit.intOf]; omega⟩
                    · go_wp2_with fail
                      exact ⟨⟨k + 1, _, _, _, _, _, _, _, hkn, by go_num, rfl, rfl, rfl, rfl, rfl, rfl, rfl, ⟨⟨HS.out _ (by first | rfl | (cases r8 <;> rfl)), HO.out _ (by rw [HOV.out]; rfl), HN.out _ (by first | rfl | (cases rn <;> rfl))⟩, HKZ.out⟩⟩, by simp [RowKit.intOf]; omega⟩
                  · have hpd : decide (pf < fr) = false := decide_eq_false hfp
                    go_wp2_with fail
                    have HOV : Sl (x.ord1 k = false) := ⟨by rw [HOE.out, hfd, HK0.out, hkqd, HPF.out, hpd]; rfl⟩
                    go_quiet (fail)
                    have HKZ : Sl (Below w2.heap.size w2 (w6.drewN nq)) := ⟨below_drewN HKU.out nq⟩
                    clear x0 x1 c0 c1 c2
                    generalize w6.drewN nq = w7 at *
                    cases m
                    · go_wp2_with fail
                      exact ⟨⟨k + 1, _, _, _, _, _, _, _, hkn, by go_num, rfl, rfl, rfl, rfl, rfl, rfl, rfl, ⟨⟨HS.out _ (by first | rfl | (cases r8 <;> rfl)), HO.out _ (by rw [HOV.out]; rfl), HN.out _ (by first | rfl | (cases rn <;> rfl))⟩, HKZ.out⟩⟩, by simp [RowKit.intOf]; omega⟩
                    · go_wp2_with fail
                      exact ⟨⟨k + 1, _, _, _, _, _, _, _, hkn, by go_num, rfl, rfl, rfl, rfl, rfl, rfl, rfl, ⟨⟨HS.out _ (by first | rfl | (cases r8 <;> rfl)), HO.out _ (by rw [HOV.out]; rfl), HN.out _ (by first | rfl | (cases rn <;> rfl))⟩, HKZ.out⟩⟩, by simp [RowKit.intOf]; omega⟩
              · have hfd : decide (fr ≤ b) = false := decide_eq_false hfb
                go_wp2_with fail
                have HOV : Sl (x.ord1 k = false) := ⟨by rw [HOE.out, hfd, Bool.and_false]; rfl⟩
                go_quiet (fail)
                have HKZ : Sl (Below w2.heap.size w2 (w6.drewN nq)) := ⟨below_drewN HKU.out nq⟩
                clear x0 x1 c0 c1 c2
                generalize w6.drewN nq = w7 at *
                cases m
                · go_wp2_with fail
                  exact ⟨⟨k + 1, _, _, _, _, _, _, _, hkn, by go_num, rfl, rfl, rfl, rfl, rfl, rfl, rfl, ⟨⟨HS.out _ (by first | rfl | (cases r8 <;> rfl)), HO.out _ (by rw [HOV.out]; rfl), HN.out _ (by first | rfl | (cases rn <;> rfl))⟩, HKZ.out⟩⟩, by simp [RowKit.intOf]; omega⟩
                · go_wp2_with fail
                  exact ⟨⟨k + 1, _, _, _, _, _, _, _, hkn, by go_num, rfl, rfl, rfl, rfl, rfl, rfl, rfl, ⟨⟨HS.out _ (by first | rfl | (cases r8 <;> rfl)), HO.out _ (by rw [HOV.out]; rfl), HN.out _ (by first | rfl | (cases rn <;> rfl))⟩, HKZ.out⟩⟩, by simp [RowKit.intOf]; omega⟩
      · obtain rfl : k = n := by omega
        have HLG : Sl ((mxO a b L).long = !s) := ⟨by
          have hx := HX.out
          unfold Mx.long Mx.many
          rw [hx, HK.out.1.1, ← HP.out.2]
          have e : x.n = k := by rw [← hx, mxO_n, HL.out]
          rw [e]
          have e2 : decide (12 < k) = !decide (k ≤ 12) := by rw [Bool.eq_iff_iff]; simp
          rw [e2]
          cases decide (k ≤ 12) <;> cases (anyN k fun i => decide (8 < (x.rk i).length)) <;> rfl⟩
        have HAG : Sl ((mxO a b L).arg = !o) := ⟨by
          have hx := HX.out
          have e : x.n = k := by rw [← hx, mxO_n, HL.out]
          rw [hx, Mx.arg_ord, e, HK.out.1.2.1, HP.out.1]⟩
        have HRG : Sl ((mxO a b L).rng = !m) := ⟨by
          have hx := HX.out
          have e : x.n = k := by rw [← hx, mxO_n, HL.out]
          unfold Mx.rng
          rw [hx, e, HK.out.1.2.2, Bool.not_not]⟩
        have HUW : Sl (Below w.heap.size w wr) := ⟨HU.out.trans (HK.out.2.mono HU.out.size)⟩
        cases s
        · have HV : Sl (r = 3) := ⟨by rw [← HR.out]; unfold Mx.chk; rw [Mx.chk1_b HC.out HLG.out]; rfl⟩
          have cc2 := (HBK.out.below HK.out.2 HBK.out.lt).cell 2
          simp at cc2
          go_wp2_with fail
          go_ret
          exact ⟨by rw [HV.out]; rfl, HUW.out⟩
        · cases o
          · have HV : Sl (r = 2) := ⟨by rw [← HR.out]; unfold Mx.chk; rw [Mx.chk1_c HC.out HLG.out HAG.out]; rfl⟩
            have cc2 := (HBK.out.below HK.out.2 HBK.out.lt).cell 2
            simp at cc2
            go_wp2_with fail
            go_ret
            exact ⟨by rw [HV.out]; rfl, HUW.out⟩
          · cases m
            · have HV : Sl (r = 7) := ⟨by rw [← HR.out]; unfold Mx.chk; rw [Mx.chk1_d HC.out HLG.out HAG.out, HRG.out]; rfl⟩
              have cc2 := (HBK.out.below HK.out.2 HBK.out.lt).cell 2
              simp at cc2
              go_wp2_with fail
              go_ret
              exact ⟨by rw [HV.out]; rfl, HUW.out⟩
            · have HC1 : Sl ((mxO a b L).chk1 = 0) := ⟨by rw [Mx.chk1_d HC.out HLG.out HAG.out, HRG.out]; rfl⟩
              have HF : Sl (mxO a b L).Fine := ⟨Mx.fine HC1.out⟩
              have HV : Sl (r = if (anyN (mxO a b L).keys fun k => (mxO a b L).kbad ((mxO a b L).a + (k : Int))) then 7 else 0) := ⟨by rw [← HR.out, Mx.chk_b HC1.out, HF.out.snd_keys]; rfl⟩
              have HBr : Sl (Blk wr w.heap.size 34 #[.int .i64 a, .int .i64 b, .slice A k c]) := ⟨HBK.out.below HK.out.2 HBK.out.lt⟩
              have HMr : Sl (MXA wr A k c L) := ⟨HM.out.below HK.out.2⟩
              have HAB : Sl (0 ≤ a ∧ b ≤ 127 ∧ a ≤ b) := ⟨HF.out.a0, HF.out.b1, HF.out.ab⟩
              have HKY : Sl ((mxO a b L).keys = (b - a + 1).toNat) := ⟨rfl⟩
              have cc2 := HBr.out.cell 2
              have cc0 := HBr.out.cell 0
              simp at cc2 cc0
              generalize wr = w3 at *
              go_wp2_with fail
              clear cc2 cc0 HK HM HBK HR HC1 HRG HAG HLG HP HX
              go_loopw [11, 12] (fun s11 s12 wr => ∃ (t : Nat) (v12 : Value), t ≤ (mxO a b L).keys ∧ s11 = .int .i64 (a + (t : Int)) ∧ s12 = v12 ∧ Sl ((∀ j, j < t → (mxO a b L).kbad (a + (j : Int)) = false) ∧ Below w3.heap.size w3 wr)) (fun s11 _ _ => (b + 1 - RowKit.intOf s11).toNat)
              case atStart => exact ⟨0, _, Nat.zero_le _, by go_num, rfl, ⟨fun j hj => absurd hj (Nat.not_lt_zero _), Below.refl _ _⟩⟩
              case round =>
                obtain ⟨t, v12, ht, rfl, rfl, HQ⟩ := hrel
                have HBq : Sl (Blk wr w.heap.size 34 #[.int .i64 a, .int .i64 b, .slice A k c]) := ⟨HBr.out.below HQ.out.2 HBr.out.lt⟩
                have c0 := HBq.out.cell 0
                have c1 := HBq.out.cell 1
                have c2 := HBq.out.cell 2
                simp at c0 c1 c2
                have hab := HAB.out
                have hkey := HKY.out
                by_cases htk : t < (mxO a b L).keys
                · have hkb : a + (t : Int) ≤ b := by omega
                  have hkd : decide (a + (t : Int) ≤ b) = true := decide_eq_true hkb
                  obtain ⟨key, hk⟩ : ∃ key, a + (t : Int) = key := ⟨_, rfl⟩
                  have hka : a ≤ key := by omega
                  have HRO : Sl _ := ⟨rrow_any a b A k c L key wr (HMr.out.below HQ.out.2) HF.out hka (by rw [← hk]; exact hkb)⟩
                  have hat := (HF.out.ord.at_in (key := key) hka (by rw [← hk]; exact hkb)).1
                  obtain ⟨i, hi⟩ : ∃ i, (mxO a b L).at key (mxO a b L).n = i := ⟨_, rfl⟩
                  rw [hi] at hat
                  obtain ⟨l, hl⟩ : ∃ l, (mxO a b L).rk i = l := ⟨_, rfl⟩
                  have hlen : 0 < l.length ∧ l.length ≤ 8 := by
                    have h1 := HF.out.k1 i hat
                    have h2 := HF.out.k0 i hat
                    rw [hl] at h1 h2
                    exact ⟨h2, h1⟩
                  have hrw := mx_row_frL (x := mxO a b L) (key := key) (l := l) (by rw [hi, hl]) rfl
                  have hrl : ((mxO a b L).row key).length = l.length := by rw [Mx.row_len, hi, hl]
                  rw [hrw, hrl] at HRO
                  have HKB : Sl ((mxO a b L).kbad key = (decide (key + gt l 0 < 0) || decide (139 < key + gt l (l.length - 1)))) := ⟨by unfold Mx.kbad; rw [hi, hl]⟩
                  have hk2 : key ≤ b := by rw [← hk]; exact hkb
                  have HKE : Sl _ := ⟨hk⟩
                  clear hrw hrl hl hi hat htk hkb hkd
                  rw [hk]
                  clear hk
                  have hkd : decide (key ≤ b) = true := decide_eq_true hk2
                  go_wp2_with fail
                  refine HRO.out.mono ?_; rintro e w5 ⟨⟨v, rfl, hown⟩, hb⟩
                  obtain ⟨g, cap, rfl, hgb, hgl⟩ := hown.form hlen.1
                  have HW : Sl (Below w3.heap.size w3 w5) := ⟨HQ.out.2.trans (hb.mono HQ.out.2.size)⟩
                  obtain ⟨j, hj⟩ : ∃ j, l.length - 1 = j := ⟨_, rfl⟩
                  have y0 := hown.cellAt 0 (by omega)
                  have yj := hown.cellAt j (by omega)
                  rw [frL_at (by omega)] at y0 yj
                  unfold iv at y0 yj
                  rw [hj] at HKB
                  obtain ⟨z0, hz0⟩ : ∃ z, key + gt l 0 = z := ⟨_, rfl⟩
                  obtain ⟨zj, hzj⟩ : ∃ z, key + gt l j = z := ⟨_, rfl⟩
                  rw [hz0] at y0 HKB
                  rw [hzj] at yj HKB
                  obtain ⟨m, hm⟩ : ∃ m, l.length = m := ⟨_, rfl⟩
                  rw [hm] at hlen hj
                  have hmj : (m : Int) - 1 = (j : Int) := by omega
                  have hjm : (j : Int) < (m : Int) := by omega
                  have hm0 : (0 : Int) < (m : Int) := by omega
                  have hj8 : j ≤ 8 := by omega
                  rw [hm]
                  clear hown hb hm hj HRO c0 c1 c2 hz0 hzj hgb hgl
                  by_cases h1 : z0 < 0
                  · have h1d : decide (z0 < 0) = true := decide_eq_true h1
                    have HB : Sl ((anyN (mxO a b L).keys fun k => (mxO a b L).kbad ((mxO a b L).a + (k : Int))) = true) := ⟨anyN_hit (i := t) (by rw [HKY.out]; have := HKE.out; omega) (by show (mxO a b L).kbad (a + (t : Int)) = true; rw [HKE.out, HKB.out, h1d]; rfl)⟩
                    go_wp2_with fail
                    go_ret
                    exact ⟨by rw [HV.out, HB.out]; rfl, HUW.out.trans (HW.out.mono HUW.out.size)⟩
                  · have h1d : decide (z0 < 0) = false := decide_eq_false h1
                    by_cases h2 : 139 < zj
                    · have h2d : decide (139 < zj) = true := decide_eq_true h2
                      have HB : Sl ((anyN (mxO a b L).keys fun k => (mxO a b L).kbad ((mxO a b L).a + (k : Int))) = true) := ⟨anyN_hit (i := t) (by rw [HKY.out]; have := HKE.out; omega) (by show (mxO a b L).kbad (a + (t : Int)) = true; rw [HKE.out, HKB.out, h1d, h2d]; rfl)⟩
                      go_wp2_with fail
                      go_ret
                      exact ⟨by rw [HV.out, HB.out]; rfl, HUW.out.trans (HW.out.mono HUW.out.size)⟩
                    · have h2d : decide (139 < zj) = false := decide_eq_false h2
                      go_wp2_with fail
                      refine ⟨⟨t + 1, _, by have := HKE.out; omega, by have := HKE.out; congr 1; omega, rfl, ⟨fun q hq => ?_, HW.out⟩⟩, by have := HKE.out; simp [RowKit.intOf]; omega⟩
                      rcases Nat.lt_or_ge q t with h | h
                      · exact HQ.out.1 q h
                      · rw [show q = t by omega, HKE.out, HKB.out, h1d, h2d]; rfl
                · have hte : t = (mxO a b L).keys := by omega
                  have hkb : ¬ a + (t : Int) ≤ b := by omega
                  have hkd : decide (a + (t : Int) ≤ b) = false := decide_eq_false hkb
                  have HB : Sl ((anyN (mxO a b L).keys fun k => (mxO a b L).kbad ((mxO a b L).a + (k : Int))) = false) := ⟨anyN_no.2 fun j hj => HQ.out.1 j (by rw [hte]; exact hj)⟩
                  clear hte hkey htk ht
                  go_wp2_with fail
                  go_ret
                  exact ⟨by rw [HV.out, HB.out]; rfl, HUW.out.trans (HQ.out.2.mono HUW.out.size)⟩
end Go.Proofs.YtafadpaljanghaaGreatDoor
