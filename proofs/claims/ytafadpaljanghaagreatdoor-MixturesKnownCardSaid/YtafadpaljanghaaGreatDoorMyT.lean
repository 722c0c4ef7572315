/- The reference of chapter 11: ranks, at. (Printed by a program.) -/
import Derived.Test.YtafadpaljanghaaGreatDoorMyM
import Derived.Test.YtafadpaljanghaaGreatDoorMyS
namespace Go.Proofs.YtafadpaljanghaaGreatDoor
set_option linter.unusedSimpArgs false
open Go.RowKit
set_option linter.unusedVariables false

theorem dnN_succ (l : List Int) (k : Nat) : dnN l (k + 1) = (dnN l k || decide (gt l (k + 1) < gt l k)) := rfl
set_option maxHeartbeats 6400000 in
set_option maxRecDepth 100000 in
theorem rranks_any (A : Option Addr) (n c : Nat) (l : List Int) (w : World) (hl : II w A n l) (hn : n ≤ 9223372036854775807) :
    Calls Tryz.prog 41 #[.slice A n c] w fun e w' => e = .returned (.tuple #[.bool (decide (n ≤ 8)), .bool (decide (0 < n) && !dn l), .bool (!outL l)]) ∧ ∃ m, w' = w.drewN m := by
  have HL : Sl _ := ⟨hl⟩
  have HLN : Sl (l.length = n) := ⟨hl.1⟩
  clear hl
  obtain ⟨r0, hr0⟩ : ∃ r, decide (n ≤ 8) = r := ⟨_, rfl⟩
  obtain ⟨r1, hr1⟩ : ∃ r, (decide (0 < n) && !dn l) = r := ⟨_, rfl⟩
  obtain ⟨r2, hr2⟩ : ∃ r, (!outL l) = r := ⟨_, rfl⟩
  obtain ⟨p, hp⟩ : ∃ r, decide (0 < n) = r := ⟨_, rfl⟩
  rw [hr0, hr1, hr2]
  have HR : Sl _ := ⟨And.intro hr0 (And.intro hr1 (And.intro hr2 hp))⟩
  have hpi : decide ((0 : Int) < (n : Int)) = p := by rw [← hp, Bool.eq_iff_iff, decide_eq_true_iff, decide_eq_true_iff]; omega
  have hri : decide ((n : Int) ≤ 8) = r0 := by rw [← hr0, Bool.eq_iff_iff, decide_eq_true_iff, decide_eq_true_iff]; omega
  have HRI : Sl _ := ⟨And.intro hpi hri⟩
  clear hr0 hr1 hr2 hri
  go_enter Tryz.func41, Tryz.ntmps41
  go_wp2_with fail
  clear hp hpi
  go_loopw [5, 6, 7] (fun s5 s6 s7 wr => ∃ (k : Nat) (o m : Bool), k ≤ n ∧ s7 = .int .i64 k ∧ s5 = .bool o ∧ s6 = .bool m ∧ Sl (o = (p && !dnN l (k - 1)) ∧ m = (!anyN k fun j => outI (gt l j)) ∧ ∃ q, wr = w.drewN q)) (fun _ _ s7 _ => n - (RowKit.intOf s7).toNat)
  case atStart => exact ⟨0, p, true, Nat.zero_le _, rfl, by first | rfl | (rw [← HRI.out.1]; rfl) | (rw [← HR.out.2.2.2]; rfl), rfl, ⟨by show p = (p && true); rw [Bool.and_true], rfl, 0, rfl⟩⟩
  case round =>
    obtain ⟨k, o, m, hk, rfl, rfl, rfl, HK⟩ := hrel
    by_cases hkn : k < n
    · have HW : Sl (II wr A n l) := ⟨by obtain ⟨q, hq⟩ := HK.out.2.2; rw [hq]; exact ⟨HL.out.1, HL.out.2.drewN q⟩⟩
      obtain ⟨ad, rfl, hab, c1⟩ := HW.out.cell (j := k) hkn
      have hkI : (k : Int) < (n : Int) := by omega
      obtain ⟨x, hx⟩ : ∃ x, gt l k = x := ⟨_, rfl⟩
      rw [hx] at c1
      have HX : Sl _ := ⟨hx⟩
      clear hx
      have HNB : Sl (∀ m', m' = (m && !outI x) → m' = (!anyN (k + 1) fun j => outI (gt l j))) := ⟨fun m' h => by rw [h, anyN, HX.out, HK.out.2.1]; cases (anyN k fun j => outI (gt l j)) <;> cases outI x <;> rfl⟩
      by_cases hk0 : k = 0
      · have HO : Sl (o = (p && !dnN l (k + 1 - 1))) := ⟨by rw [show k + 1 - 1 = k - 1 by omega]; exact HK.out.1⟩
        have hk0i : ((k : Int) == 0) = true := by rw [hk0]; rfl
        have hkz : (k == 0) = true := by rw [hk0]; rfl
        clear hk0
        cases o
        · go_wp2_with fail
          go_quiet (fail)
          have HZ : Sl (∃ q, wr.drewN nq = w.drewN q) := ⟨by obtain ⟨q, hq⟩ := HK.out.2.2; exact ⟨q + nq, by rw [hq, drew2]⟩⟩
          have c1' : (wr.drewN nq).cell? (ad.add k) = some (.int .i64 x) := c1
          clear c1
          generalize wr.drewN nq = wz at *
          cases m
          · go_wp2_with fail
            refine ⟨⟨k + 1, _, _, hkn, by go_num, rfl, rfl, ⟨HO.out, HNB.out _ (by rfl), HZ.out⟩⟩, by simp [RowKit.intOf]; omega⟩
          · by_cases hlo : -24 ≤ x
            · have hlod : decide (-24 ≤ x) = true := decide_eq_true hlo
              by_cases hhi : x ≤ 72
              · have hhid : decide (x ≤ 72) = true := decide_eq_true hhi
                have HI : Sl (outI x = false) := ⟨by unfold outI; rw [decide_eq_false (show ¬ x < -24 by omega), decide_eq_false (show ¬ 72 < x by omega)]; rfl⟩
                go_wp2_with fail
                refine ⟨⟨k + 1, _, _, hkn, by go_num, rfl, rfl, ⟨HO.out, HNB.out _ (by rw [HI.out]; rfl), HZ.out⟩⟩, by simp [RowKit.intOf]; omega⟩
              · have hhid : decide (x ≤ 72) = false := decide_eq_false hhi
                have HI : Sl (outI x = true) := ⟨by unfold outI; rw [decide_eq_true (show 72 < x by omega), Bool.or_true]⟩
                go_wp2_with fail
                refine ⟨⟨k + 1, _, _, hkn, by go_num, rfl, rfl, ⟨HO.out, HNB.out _ (by rw [HI.out]; rfl), HZ.out⟩⟩, by simp [RowKit.intOf]; omega⟩
            · have hlod : decide (-24 ≤ x) = false := decide_eq_false hlo
              have HI : Sl (outI x = true) := ⟨by unfold outI; rw [decide_eq_true (show x < -24 by omega), Bool.true_or]⟩
              go_wp2_with fail
              refine ⟨⟨k + 1, _, _, hkn, by go_num, rfl, rfl, ⟨HO.out, HNB.out _ (by rw [HI.out]; rfl), HZ.out⟩⟩, by simp [RowKit.intOf]; omega⟩
        · go_wp2_with fail
          go_quiet (fail)
          have HZ : Sl (∃ q, wr.drewN nq = w.drewN q) := ⟨by obtain ⟨q, hq⟩ := HK.out.2.2; exact ⟨q + nq, by rw [hq, drew2]⟩⟩
          have c1' : (wr.drewN nq).cell? (ad.add k) = some (.int .i64 x) := c1
          clear c1
          generalize wr.drewN nq = wz at *
          cases m
          · go_wp2_with fail
            refine ⟨⟨k + 1, _, _, hkn, by go_num, rfl, rfl, ⟨HO.out, HNB.out _ (by rfl), HZ.out⟩⟩, by simp [RowKit.intOf]; omega⟩
          · by_cases hlo : -24 ≤ x
            · have hlod : decide (-24 ≤ x) = true := decide_eq_true hlo
              by_cases hhi : x ≤ 72
              · have hhid : decide (x ≤ 72) = true := decide_eq_true hhi
                have HI : Sl (outI x = false) := ⟨by unfold outI; rw [decide_eq_false (show ¬ x < -24 by omega), decide_eq_false (show ¬ 72 < x by omega)]; rfl⟩
                go_wp2_with fail
                refine ⟨⟨k + 1, _, _, hkn, by go_num, rfl, rfl, ⟨HO.out, HNB.out _ (by rw [HI.out]; rfl), HZ.out⟩⟩, by simp [RowKit.intOf]; omega⟩
              · have hhid : decide (x ≤ 72) = false := decide_eq_false hhi
                have HI : Sl (outI x = true) := ⟨by unfold outI; rw [decide_eq_true (show 72 < x by omega), Bool.or_true]⟩
                go_wp2_with fail
                refine ⟨⟨k + 1, _, _, hkn, by go_num, rfl, rfl, ⟨HO.out, HNB.out _ (by rw [HI.out]; rfl), HZ.out⟩⟩, by simp [RowKit.intOf]; omega⟩
            · have hlod : decide (-24 ≤ x) = false := decide_eq_false hlo
              have HI : Sl (outI x = true) := ⟨by unfold outI; rw [decide_eq_true (show x < -24 by omega), Bool.true_or]⟩
              go_wp2_with fail
              refine ⟨⟨k + 1, _, _, hkn, by go_num, rfl, rfl, ⟨HO.out, HNB.out _ (by rw [HI.out]; rfl), HZ.out⟩⟩, by simp [RowKit.intOf]; omega⟩
      · obtain ⟨i, hi⟩ : ∃ i, k = i + 1 := ⟨k - 1, by omega⟩
        have hki : (k : Int) - 1 = (i : Int) := by omega
        have hin : (i : Int) < (n : Int) := by omega
        have hin2 : i < n := by omega
        have hk0i : ((k : Int) == 0) = false := by rw [beq_eq_false_iff_ne]; omega
        have hkz : (k == 0) = false := by rw [beq_eq_false_iff_ne]; omega
        obtain ⟨ad', e, hab', c2⟩ := HW.out.cell (j := i) hin2
        injection e with e
        subst e
        obtain ⟨y, hy⟩ : ∃ y, gt l i = y := ⟨_, rfl⟩
        rw [hy] at c2
        have HOO : Sl (∀ o', o' = (o && !decide (x < y)) → o' = (p && !dnN l (k + 1 - 1))) := ⟨fun o' h => by
          rw [h, HK.out.1, hi]
          show _ = (p && !dnN l (i + 1))
          rw [dnN_succ, hy, ← hi, HX.out, show k - 1 = i by omega]
          cases p <;> cases dnN l i <;> cases decide (x < y) <;> rfl⟩
        clear hi hy hk0
        cases o
        · have HO : Sl (false = (p && !dnN l (k + 1 - 1))) := ⟨HOO.out _ rfl⟩
          go_wp2_with fail
          go_quiet (fail)
          have HZ : Sl (∃ q, wr.drewN nq = w.drewN q) := ⟨by obtain ⟨q, hq⟩ := HK.out.2.2; exact ⟨q + nq, by rw [hq, drew2]⟩⟩
          have c1' : (wr.drewN nq).cell? (ad.add k) = some (.int .i64 x) := c1
          clear c1
          generalize wr.drewN nq = wz at *
          cases m
          · go_wp2_with fail
            refine ⟨⟨k + 1, _, _, hkn, by go_num, rfl, rfl, ⟨HO.out, HNB.out _ (by rfl), HZ.out⟩⟩, by simp [RowKit.intOf]; omega⟩
          · by_cases hlo : -24 ≤ x
            · have hlod : decide (-24 ≤ x) = true := decide_eq_true hlo
              by_cases hhi : x ≤ 72
              · have hhid : decide (x ≤ 72) = true := decide_eq_true hhi
                have HI : Sl (outI x = false) := ⟨by unfold outI; rw [decide_eq_false (show ¬ x < -24 by omega), decide_eq_false (show ¬ 72 < x by omega)]; rfl⟩
                go_wp2_with fail
                refine ⟨⟨k + 1, _, _, hkn, by go_num, rfl, rfl, ⟨HO.out, HNB.out _ (by rw [HI.out]; rfl), HZ.out⟩⟩, by simp [RowKit.intOf]; omega⟩
              · have hhid : decide (x ≤ 72) = false := decide_eq_false hhi
                have HI : Sl (outI x = true) := ⟨by unfold outI; rw [decide_eq_true (show 72 < x by omega), Bool.or_true]⟩
                go_wp2_with fail
                refine ⟨⟨k + 1, _, _, hkn, by go_num, rfl, rfl, ⟨HO.out, HNB.out _ (by rw [HI.out]; rfl), HZ.out⟩⟩, by simp [RowKit.intOf]; omega⟩
            · have hlod : decide (-24 ≤ x) = false := decide_eq_false hlo
              have HI : Sl (outI x = true) := ⟨by unfold outI; rw [decide_eq_true (show x < -24 by omega), Bool.true_or]⟩
              go_wp2_with fail
              refine ⟨⟨k + 1, _, _, hkn, by go_num, rfl, rfl, ⟨HO.out, HNB.out _ (by rw [HI.out]; rfl), HZ.out⟩⟩, by simp [RowKit.intOf]; omega⟩
        · by_cases hxy : x < y
          · have HO : Sl (false = (p && !dnN l (k + 1 - 1))) := ⟨HOO.out _ (by rw [decide_eq_true hxy]; rfl)⟩
            have hd : decide (y ≤ x) = false := decide_eq_false (by omega)
            go_wp2_with fail
            go_quiet (fail)
            have HZ : Sl (∃ q, wr.drewN nq = w.drewN q) := ⟨by obtain ⟨q, hq⟩ := HK.out.2.2; exact ⟨q + nq, by rw [hq, drew2]⟩⟩
            have c1' : (wr.drewN nq).cell? (ad.add k) = some (.int .i64 x) := c1
            clear c1
            generalize wr.drewN nq = wz at *
            cases m
            · go_wp2_with fail
              refine ⟨⟨k + 1, _, _, hkn, by go_num, rfl, rfl, ⟨HO.out, HNB.out _ (by rfl), HZ.out⟩⟩, by simp [RowKit.intOf]; omega⟩
            · by_cases hlo : -24 ≤ x
              · have hlod : decide (-24 ≤ x) = true := decide_eq_true hlo
                by_cases hhi : x ≤ 72
                · have hhid : decide (x ≤ 72) = true := decide_eq_true hhi
                  have HI : Sl (outI x = false) := ⟨by unfold outI; rw [decide_eq_false (show ¬ x < -24 by omega), decide_eq_false (show ¬ 72 < x by omega)]; rfl⟩
                  go_wp2_with fail
                  refine ⟨⟨k + 1, _, _, hkn, by go_num, rfl, rfl, ⟨HO.out, HNB.out _ (by rw [HI.out]; rfl), HZ.out⟩⟩, by simp [RowKit.intOf]; omega⟩
                · have hhid : decide (x ≤ 72) = false := decide_eq_false hhi
                  have HI : Sl (outI x = true) := ⟨by unfold outI; rw [decide_eq_true (show 72 < x by omega), Bool.or_true]⟩
                  go_wp2_with fail
                  refine ⟨⟨k + 1, _, _, hkn, by go_num, rfl, rfl, ⟨HO.out, HNB.out _ (by rw [HI.out]; rfl), HZ.out⟩⟩, by simp [RowKit.intOf]; omega⟩
              · have hlod : decide (-24 ≤ x) = false := decide_eq_false hlo
                have HI : Sl (outI x = true) := ⟨by unfold outI; rw [decide_eq_true (show x < -24 by omega), Bool.true_or]⟩
                go_wp2_with fail
                refine ⟨⟨k + 1, _, _, hkn, by go_num, rfl, rfl, ⟨HO.out, HNB.out _ (by rw [HI.out]; rfl), HZ.out⟩⟩, by simp [RowKit.intOf]; omega⟩
          · have HO : Sl (true = (p && !dnN l (k + 1 - 1))) := ⟨HOO.out _ (by rw [decide_eq_false hxy]; rfl)⟩
            have hd : decide (y ≤ x) = true := decide_eq_true (by omega)
            have hyx : y ≤ x := by omega
            go_wp2_with fail
            go_quiet (fail)
            have HZ : Sl (∃ q, wr.drewN nq = w.drewN q) := ⟨by obtain ⟨q, hq⟩ := HK.out.2.2; exact ⟨q + nq, by rw [hq, drew2]⟩⟩
            have c1' : (wr.drewN nq).cell? (ad.add k) = some (.int .i64 x) := c1
            clear c1
            generalize wr.drewN nq = wz at *
            cases m
            · go_wp2_with fail
              refine ⟨⟨k + 1, _, _, hkn, by go_num, rfl, rfl, ⟨HO.out, HNB.out _ (by rfl), HZ.out⟩⟩, by simp [RowKit.intOf]; omega⟩
            · by_cases hlo : -24 ≤ x
              · have hlod : decide (-24 ≤ x) = true := decide_eq_true hlo
                by_cases hhi : x ≤ 72
                · have hhid : decide (x ≤ 72) = true := decide_eq_true hhi
                  have HI : Sl (outI x = false) := ⟨by unfold outI; rw [decide_eq_false (show ¬ x < -24 by omega), decide_eq_false (show ¬ 72 < x by omega)]; rfl⟩
                  go_wp2_with fail
                  refine ⟨⟨k + 1, _, _, hkn, by go_num, rfl, rfl, ⟨HO.out, HNB.out _ (by rw [HI.out]; rfl), HZ.out⟩⟩, by simp [RowKit.intOf]; omega⟩
                · have hhid : decide (x ≤ 72) = false := decide_eq_false hhi
                  have HI : Sl (outI x = true) := ⟨by unfold outI; rw [decide_eq_true (show 72 < x by omega), Bool.or_true]⟩
                  go_wp2_with fail
                  refine ⟨⟨k + 1, _, _, hkn, by go_num, rfl, rfl, ⟨HO.out, HNB.out _ (by rw [HI.out]; rfl), HZ.out⟩⟩, by simp [RowKit.intOf]; omega⟩
              · have hlod : decide (-24 ≤ x) = false := decide_eq_false hlo
                have HI : Sl (outI x = true) := ⟨by unfold outI; rw [decide_eq_true (show x < -24 by omega), Bool.true_or]⟩
                go_wp2_with fail
                refine ⟨⟨k + 1, _, _, hkn, by go_num, rfl, rfl, ⟨HO.out, HNB.out _ (by rw [HI.out]; rfl), HZ.out⟩⟩, by simp [RowKit.intOf]; omega⟩
    · obtain rfl : k = n := by omega
      have HE : Sl (o = r1 ∧ m = r2) := ⟨by
        refine ⟨?_, ?_⟩
        · rw [HK.out.1, ← HR.out.2.1, HR.out.2.2.2]
          unfold dn
          rw [HLN.out]
        · rw [HK.out.2.1, ← HR.out.2.2.1]
          unfold outL
          rw [HLN.out]⟩
      have hri := HRI.out.2
      go_wp2_with fail
      go_ret3
      exact ⟨by rw [← HE.out.1, ← HE.out.2]; first | rfl | (rw [← HRI.out.2]; rfl), HK.out.2.2⟩
set_option maxHeartbeats 3200000 in
set_option maxRecDepth 100000 in
theorem rat_any (a b : Int) (A : Option Addr) (n c : Nat) (L : List Bk) (key : Int) (w : World) (hM : MX w A n L) (hn : n ≤ 9223372036854775807) :
    Calls Tryz.prog 65 #[.agg #[.int .i64 a, .int .i64 b, .slice A n c], .int .i64 key] w fun e w' => e = .returned (.int .i64 ((mxO a b L).at key n)) ∧ Below w.heap.size w w' := by
  have HU : Sl (Below w.heap.size w (w.alloc (.cells #[.int .i64 a, .int .i64 b, .slice A n c] 34))) := ⟨(Below.refl _ _).alloc (Nat.le_refl _) _⟩
  have HBK : Sl _ := ⟨Blk.new w 34 #[.int .i64 a, .int .i64 b, .slice A n c]⟩
  have HM : Sl _ := ⟨hM.below HU.out⟩
  have HL : Sl (L.length = n) := ⟨hM.len⟩
  clear hM
  obtain ⟨x, hx⟩ : ∃ x, mxO a b L = x := ⟨_, rfl⟩
  rw [hx]
  have HX : Sl _ := ⟨hx⟩
  clear hx
  go_enter Tryz.func65, Tryz.ntmps65
  go_wp2_with fail
  generalize w.alloc (.cells #[.int .i64 a, .int .i64 b, .slice A n c] 34) = w0 at *
  have c2 := HBK.out.cell 2
  simp at c2
  go_loopw [5, 6] (fun s5 s6 wr => ∃ (k : Nat), k ≤ n ∧ s6 = .int .i64 k ∧ s5 = .int .i64 (x.at key k : Nat) ∧ Sl (w0 = wr)) (fun _ s6 _ => n - (RowKit.intOf s6).toNat)
  case atStart => exact ⟨0, Nat.zero_le _, rfl, rfl, ⟨rfl⟩⟩
  case round =>
    obtain ⟨k, hk, rfl, rfl, HK⟩ := hrel
    have hww := HK.out
    subst hww
    by_cases hkn : k < n
    · obtain ⟨bk, hbk⟩ : ∃ bk, L[k]? = some bk := ⟨_, List.getElem?_eq_getElem (by rw [HL.out]; exact hkn)⟩
      obtain ⟨ad, rfl, hab, e1, e2⟩ := HM.out.cells2 hbk
      have HF : Sl (x.fr k = bk.fr) := ⟨by rw [← HX.out]; exact (mxO_at hbk).1⟩
      generalize bk.fr = fr at *
      clear e2 hbk
      have hkI : (k : Int) < (n : Int) := by omega
      have HS : Sl (x.at key (k + 1) = if fr ≤ key then k else x.at key k) := ⟨by rw [← HF.out]; rfl⟩
      by_cases h : fr ≤ key
      · have hd : decide (fr ≤ key) = true := decide_eq_true h
        have HS2 : Sl (x.at key (k + 1) = k) := ⟨by rw [HS.out, if_pos h]⟩
        go_wp2_with fail
        refine ⟨⟨k + 1, hkn, by go_num, by rw [HS2.out], ⟨by first | rfl | trivial⟩⟩, by simp [RowKit.intOf]; omega⟩
      · have hd : decide (fr ≤ key) = false := decide_eq_false h
        have HS2 : Sl (x.at key (k + 1) = x.at key k) := ⟨by rw [HS.out, if_neg h]⟩
        go_wp2_with fail
        refine ⟨⟨k + 1, hkn, by go_num, by rw [HS2.out], ⟨by first | rfl | trivial⟩⟩, by simp [RowKit.intOf]; omega⟩
    · obtain rfl : k = n := by omega
      go_wp2_with fail
      go_ret
      exact ⟨rfl, HU.out⟩
end Go.Proofs.YtafadpaljanghaaGreatDoor
