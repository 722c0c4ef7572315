/- The reference's Check of a specification. (Printed by gensre.py.) -/
import Derived.Test.YtabkpbbjodfolaaGreatDoorZvX
namespace Go.Proofs.YtabkpbbjodfolaaGreatDoor
set_option linter.unusedSimpArgs false
open Go.RowKit
set_option linter.unusedVariables false
theorem fstE_succ (f : Nat → Int) {n k : Nat} (h : k < n) : fstE f (n - k) k = if f k = 0 then fstE f (n - (k + 1)) (k + 1) else f k := by
  rw [show n - k = (n - (k + 1)) + 1 by omega]; rfl
theorem rdv_bd {o : SpO} (h1 : o.ds.length = o.n1) (h : fstE (rdvE o) o.n1 0 = 0) : ∀ d ∈ o.ds, 0 ≤ d.lo ∧ d.hi ≤ 1000 := fun d hd => by
  obtain ⟨i, hi, e⟩ := List.getElem_of_mem hd; have := fstE_zero h i (Nat.zero_le _) (by omega); unfold rdvE at this; rw [List.getElem?_eq_getElem hi, e] at this; simp only [Option.getD_some] at this
  split at this
  · split at this
    · cases this
    · split at this
      · rename_i h3; unfold wiB at h3; simp at h3; omega
      · cases this
  · cases this
theorem rrk_bd {o : SpO} (h1 : o.rs.length = o.n2) (h : fstE (rrkE o) o.n2 0 = 0) : ∀ r ∈ o.rs, (0 ≤ r.lo ∧ r.lo ≤ 1000) ∧ 0 ≤ r.ct ∧ r.ct ≤ 1000 := fun d hd => by
  obtain ⟨i, hi, e⟩ := List.getElem_of_mem hd; have := fstE_zero h i (Nat.zero_le _) (by omega); unfold rrkE at this; rw [List.getElem?_eq_getElem hi, e] at this; simp only [Option.getD_some] at this
  split at this
  · split at this
    · cases this
    · split at this
      · split at this
        · rename_i h3; unfold wiB at h3; simp at h3; omega
        · cases this
      · cases this
  · cases this
theorem rst_dv {o : SpO} {i : Nat} {x : SpV} (hx : o.ss[i]? = some x) (h : rstE o i = 0) : 0 ≤ x.dv ∧ x.dv < (o.n1 : Int) := by
  unfold rstE at h; rw [hx] at h; simp only [Option.getD_some] at h
  split at h
  · cases h
  · split at h
    · cases h
    · rename_i h2; have : wiB x.dv 0 ((o.n1 : Int) - 1) = true := (by simpa using h2); have := wi_iff.1 this; omega
set_option maxHeartbeats 6400000 in
set_option maxRecDepth 100000 in
theorem rcheck_any (o : SpO) (w : World) (hM : SpM w o) (hF : SpF o) :
    Calls Tryz.prog 29 #[.agg #[.slice o.A1 o.n1 o.c1, .slice o.A2 o.n2 o.c2, .slice o.A3 o.n3 o.c3, .slice o.A4 o.n4 o.c4]] w fun e w' => SpecR o e ∧ Below w.heap.size w w' := by
  have hlen : o.ds.length = o.n1 ∧ o.rs.length = o.n2 ∧ o.ss.length = o.n3 ∧ o.cs.length = o.n4 := ⟨hM.d.len, hM.r.len, hM.s.len, hM.c.len⟩; have hRE := refE_specE o hlen.1 hlen.2.1 hlen.2.2.1 hlen.2.2.2; have HD : Sl (Lg w w []) := ⟨Lg.nil w⟩; unfold SpecR; obtain ⟨r, hr⟩ : ∃ r, specE o = r := ⟨_, rfl⟩; rw [hr] at hRE ⊢; have HLEN : Sl _ := ⟨hlen⟩; have HM : Sl _ := ⟨hM⟩; have HF : Sl _ := ⟨hF⟩
  have HE : Sl (r = if 6 < o.n1 ∨ 40 < o.n2 ∨ 80 < o.n3 ∨ 24 < o.n4 then 3
    else if fstE (rdvE o) o.n1 0 = 0 then (if fstE (rrkE o) o.n2 0 = 0 then (if fstE (rsaE o) o.n3 0 = 0 then fstE (rcpE o) o.n4 0 else fstE (rsaE o) o.n3 0) else fstE (rrkE o) o.n2 0) else fstE (rdvE o) o.n1 0) := ⟨hRE.symm⟩
  obtain ⟨X1, h1⟩ : ∃ X, fstE (rdvE o) o.n1 0 = X := ⟨_, rfl⟩; obtain ⟨X2, h2⟩ : ∃ X, fstE (rrkE o) o.n2 0 = X := ⟨_, rfl⟩; obtain ⟨X3, h3⟩ : ∃ X, fstE (rsaE o) o.n3 0 = X := ⟨_, rfl⟩; obtain ⟨X4, h4⟩ : ∃ X, fstE (rcpE o) o.n4 0 = X := ⟨_, rfl⟩; have H1 : Sl _ := ⟨h1⟩; have H2 : Sl _ := ⟨h2⟩; have H3 : Sl _ := ⟨h3⟩; have H4 : Sl _ := ⟨h4⟩; rw [h1, h2, h3, h4] at HE; clear hM hF hlen hRE hr h1 h2 h3 h4; go_enter Tryz.func29, Tryz.ntmps29
  go_upto_region 1 with ((with_reducible show wpList _ _ _ _ _ _); first
    | (refine wpList_box_new 1 rfl rfl 33 (.tmp 0) rfl #[.slice o.A1 o.n1 o.c1, .slice o.A2 o.n2 o.c2, .slice o.A3 o.n3 o.c3, .slice o.A4 o.n4 o.c4] rfl (fun _ => by kernel_rfl) ?_; rintro w1 g1 zg zm zs zb; replace HD : Sl _ := ⟨HD.out.new zg zm zb⟩; clear zg zm zs zb)
    | (refine wpList_alloc_new 2 rfl rfl 72 rfl #[.int .i64 0, .int .i64 0, .int .i64 0] (fun _ => by kernel_rfl) ?_; rintro w2 g2 zg zm zs zb; replace HD : Sl _ := ⟨HD.out.new zg zm zb⟩; clear zg zm zs zb))
  have c0 : w2.cell? ⟨g1, 0, none⟩ = some (.slice o.A1 o.n1 o.c1) := (HD.out.at_ 1 rfl).cell 0; have c1 : w2.cell? ⟨g1, 1, none⟩ = some (.slice o.A2 o.n2 o.c2) := (HD.out.at_ 1 rfl).cell 1; have c2 : w2.cell? ⟨g1, 2, none⟩ = some (.slice o.A3 o.n3 o.c3) := (HD.out.at_ 1 rfl).cell 2; have c3 : w2.cell? ⟨g1, 3, none⟩ = some (.slice o.A4 o.n4 o.c4) := (HD.out.at_ 1 rfl).cell 3
  by_cases b0 : 6 < o.n1
  · have p0 : (6 : Int) < (o.n1 : Int) := (by omega); have p0d : decide ((6 : Int) < (o.n1 : Int)) = true := decide_eq_true p0; have HV : Sl (r = 3) := ⟨by rw [HE.out, if_pos (.inl b0)]⟩; clear HE
    go_wp2_with ((with_reducible show wpList _ _ _ _ _ _); first
      | (refine wpList_store_whole rfl 72 (.tmp 2) (.tmp 36) rfl g2 #[.int .i64 0, .int .i64 0, .int .i64 0] rfl rfl 72 _ (HD.out.at_ 0 rfl) rfl (by kernel_rfl) (by simp [Value.oneCell']) ?_; rintro w9 zm zs zb; have HZ : Sl _ := ⟨HD.out.set 0 rfl zm zb⟩; clear zm zs zb))
    (try simp only [Exit.inBlock, Exit.then])
    refine bodyPost_ret (results_row2c rfl _ _ g2 _ _ _ rfl (HZ.out.at_ 0 rfl) Tryz.underlying72 rfl (by kernel_rfl)) rfl ?_; exact ⟨⟨_, _, _, by rw [HV.out]; rfl⟩, HZ.out.bl⟩
  have p0 : ¬ (6 : Int) < (o.n1 : Int) := (by omega); have p0d : decide ((6 : Int) < (o.n1 : Int)) = false := decide_eq_false p0
  by_cases b1 : 40 < o.n2
  · have p1 : (40 : Int) < (o.n2 : Int) := (by omega); have p1d : decide ((40 : Int) < (o.n2 : Int)) = true := decide_eq_true p1; have HV : Sl (r = 3) := ⟨by rw [HE.out, if_pos (.inr (.inl b1))]⟩; clear HE
    go_wp2_with ((with_reducible show wpList _ _ _ _ _ _); first
      | (refine wpList_store_whole rfl 72 (.tmp 2) (.tmp 36) rfl g2 #[.int .i64 0, .int .i64 0, .int .i64 0] rfl rfl 72 _ (HD.out.at_ 0 rfl) rfl (by kernel_rfl) (by simp [Value.oneCell']) ?_; rintro w9 zm zs zb; have HZ : Sl _ := ⟨HD.out.set 0 rfl zm zb⟩; clear zm zs zb))
    (try simp only [Exit.inBlock, Exit.then])
    refine bodyPost_ret (results_row2c rfl _ _ g2 _ _ _ rfl (HZ.out.at_ 0 rfl) Tryz.underlying72 rfl (by kernel_rfl)) rfl ?_; exact ⟨⟨_, _, _, by rw [HV.out]; rfl⟩, HZ.out.bl⟩
  have p1 : ¬ (40 : Int) < (o.n2 : Int) := (by omega); have p1d : decide ((40 : Int) < (o.n2 : Int)) = false := decide_eq_false p1
  by_cases b2 : 80 < o.n3
  · have p2 : (80 : Int) < (o.n3 : Int) := (by omega); have p2d : decide ((80 : Int) < (o.n3 : Int)) = true := decide_eq_true p2; have HV : Sl (r = 3) := ⟨by rw [HE.out, if_pos (.inr (.inr (.inl b2)))]⟩; clear HE
    go_wp2_with ((with_reducible show wpList _ _ _ _ _ _); first
      | (refine wpList_store_whole rfl 72 (.tmp 2) (.tmp 36) rfl g2 #[.int .i64 0, .int .i64 0, .int .i64 0] rfl rfl 72 _ (HD.out.at_ 0 rfl) rfl (by kernel_rfl) (by simp [Value.oneCell']) ?_; rintro w9 zm zs zb; have HZ : Sl _ := ⟨HD.out.set 0 rfl zm zb⟩; clear zm zs zb))
    (try simp only [Exit.inBlock, Exit.then])
    refine bodyPost_ret (results_row2c rfl _ _ g2 _ _ _ rfl (HZ.out.at_ 0 rfl) Tryz.underlying72 rfl (by kernel_rfl)) rfl ?_; exact ⟨⟨_, _, _, by rw [HV.out]; rfl⟩, HZ.out.bl⟩
  have p2 : ¬ (80 : Int) < (o.n3 : Int) := (by omega); have p2d : decide ((80 : Int) < (o.n3 : Int)) = false := decide_eq_false p2
  by_cases b3 : 24 < o.n4
  · have p3 : (24 : Int) < (o.n4 : Int) := (by omega); have p3d : decide ((24 : Int) < (o.n4 : Int)) = true := decide_eq_true p3; have HV : Sl (r = 3) := ⟨by rw [HE.out, if_pos (.inr (.inr (.inr b3)))]⟩; clear HE
    go_wp2_with ((with_reducible show wpList _ _ _ _ _ _); first
      | (refine wpList_store_whole rfl 72 (.tmp 2) (.tmp 36) rfl g2 #[.int .i64 0, .int .i64 0, .int .i64 0] rfl rfl 72 _ (HD.out.at_ 0 rfl) rfl (by kernel_rfl) (by simp [Value.oneCell']) ?_; rintro w9 zm zs zb; have HZ : Sl _ := ⟨HD.out.set 0 rfl zm zb⟩; clear zm zs zb))
    (try simp only [Exit.inBlock, Exit.then])
    refine bodyPost_ret (results_row2c rfl _ _ g2 _ _ _ rfl (HZ.out.at_ 0 rfl) Tryz.underlying72 rfl (by kernel_rfl)) rfl ?_; exact ⟨⟨_, _, _, by rw [HV.out]; rfl⟩, HZ.out.bl⟩
  have p3 : ¬ (24 : Int) < (o.n4 : Int) := (by omega); have p3d : decide ((24 : Int) < (o.n4 : Int)) = false := decide_eq_false p3; have HN : Sl (o.n1 ≤ 6 ∧ o.n2 ≤ 40 ∧ o.n3 ≤ 80 ∧ o.n4 ≤ 24) := ⟨by omega⟩; rw [if_neg (by omega)] at HE; go_wp2_with fail; clear c0 c1 c2 c3 p0 p1 p2 p3 p0d p1d p2d p3d b0 b1 b2 b3
  go_loopw [4] (fun s6 wv => ∃ k : Nat, k ≤ o.n1 ∧ s6 = .int .i64 (k : Int) ∧ Sl (Lg w wv [(g2, 72, #[.int .i64 0, .int .i64 0, .int .i64 0]), (g1, 33, #[.slice o.A1 o.n1 o.c1, .slice o.A2 o.n2 o.c2, .slice o.A3 o.n3 o.c3, .slice o.A4 o.n4 o.c4])]) ∧ Sl (fstE (rdvE o) (o.n1 - k) k = X1)) (fun s6 _ => o.n1 - (RowKit.intOf s6).toNat)
  case atStart => exact ⟨0, Nat.zero_le _, rfl, HD, ⟨H1.out⟩⟩
  case round =>
    clear HD; obtain ⟨k, hk, rfl, HD, HK⟩ := hrel; have c0 : wr.cell? ⟨g1, 0, none⟩ = some (.slice o.A1 o.n1 o.c1) := (HD.out.at_ 1 rfl).cell 0; have hn80 : (o.n1 : Int) ≤ 80 := (by have := HN.out; omega)
    by_cases hkn : k < o.n1
    · have hkI : decide ((k : Int) < (o.n1 : Int)) = true := decide_eq_true (by omega); have hkI2 : (k : Int) < (o.n1 : Int) := (by omega); have HKN : Sl (k < o.n1) := ⟨hkn⟩; have HSU := fstE_succ (rdvE o) hkn; rw [HK.out] at HSU; have HS2 : Sl _ := ⟨HSU⟩; clear HSU
      go_wp2_with ((with_reducible show wpList _ _ _ _ _ _); first
        | (refine wpList_load_whole rfl 33 (.tmp 1) rfl g1 rfl 33 _ _ (HD.out.at_ 1 rfl) Tryz.underlying33 rfl (by kernel_rfl) ?_))
      refine (rdivision_any o k wr (HM.out.below HD.out.bl) HF.out HKN.out (by have := HN.out; omega)).mono ?_; rintro e w5 ⟨rfl, hb5⟩; replace HD : Sl _ := ⟨HD.out.below hb5⟩; clear hb5 c0; obtain ⟨z, hz⟩ : ∃ z, rdvE o k = z := ⟨_, rfl⟩; rw [hz] at HS2 ⊢; clear hz
      by_cases hz0 : z = 0
      · subst hz0; rw [if_pos rfl] at HS2; have HS3 : Sl _ := ⟨HS2.out.symm⟩; have hzz : ((0 : Int) != 0) = false := (by decide); go_wp2_with fail; exact ⟨⟨k + 1, hkn, by go_num, HD, HS3⟩, by simp [RowKit.intOf]; omega⟩
      · rw [if_neg hz0] at HS2; have hzz : (z != 0) = true := (by simpa using hz0); have HV : Sl (r = z) := ⟨by rw [HE.out, HS2.out]; rw [if_neg hz0]⟩; clear HE hz0
        go_wp2_with ((with_reducible show wpList _ _ _ _ _ _); first
          | (refine wpList_store_whole rfl 72 (.tmp 2) (.tmp 50) rfl g2 #[.int .i64 1, .int .i64 (k : Int), .int .i64 0] rfl rfl 72 _ (HD.out.at_ 0 rfl) rfl (by kernel_rfl) (by simp [Value.oneCell']) ?_; rintro w9 zm zs zb; have HZ : Sl _ := ⟨HD.out.set 0 rfl zm zb⟩; clear zm zs zb))
        (try simp only [Exit.inBlock, Exit.then])
        refine bodyPost_ret (results_row2c rfl _ _ g2 _ _ _ rfl (HZ.out.at_ 0 rfl) Tryz.underlying72 rfl (by kernel_rfl)) rfl ?_; exact ⟨⟨_, _, _, by rw [HV.out]; rfl⟩, HZ.out.bl⟩
    · obtain rfl : o.n1 = k := (by omega); have hkI : decide ((o.n1 : Int) < (o.n1 : Int)) = false := (by simp); have hX1 : X1 = 0 := (by rw [← HK.out, Nat.sub_self]; rfl); subst hX1; rw [if_pos rfl] at HE; have HDB : Sl _ := ⟨rdv_bd HLEN.out.1 H1.out⟩; clear HK hkn hk; go_wp2_with fail; clear c0 hkI
      go_loopw [6] (fun s6 wv => ∃ k : Nat, k ≤ o.n2 ∧ s6 = .int .i64 (k : Int) ∧ Sl (Lg w wv [(g2, 72, #[.int .i64 0, .int .i64 0, .int .i64 0]), (g1, 33, #[.slice o.A1 o.n1 o.c1, .slice o.A2 o.n2 o.c2, .slice o.A3 o.n3 o.c3, .slice o.A4 o.n4 o.c4])]) ∧ Sl (fstE (rrkE o) (o.n2 - k) k = X2)) (fun s6 _ => o.n2 - (RowKit.intOf s6).toNat)
      case atStart => exact ⟨0, Nat.zero_le _, rfl, HD, ⟨H2.out⟩⟩
      case round =>
        clear HD; obtain ⟨k, hk, rfl, HD, HK⟩ := hrel; have c0 : wr.cell? ⟨g1, 1, none⟩ = some (.slice o.A2 o.n2 o.c2) := (HD.out.at_ 1 rfl).cell 1; have hn80 : (o.n2 : Int) ≤ 80 := (by have := HN.out; omega)
        by_cases hkn : k < o.n2
        · have hkI : decide ((k : Int) < (o.n2 : Int)) = true := decide_eq_true (by omega); have hkI2 : (k : Int) < (o.n2 : Int) := (by omega); have HKN : Sl (k < o.n2) := ⟨hkn⟩; have HSU := fstE_succ (rrkE o) hkn; rw [HK.out] at HSU; have HS2 : Sl _ := ⟨HSU⟩; clear HSU
          go_wp2_with ((with_reducible show wpList _ _ _ _ _ _); first
            | (refine wpList_load_whole rfl 33 (.tmp 1) rfl g1 rfl 33 _ _ (HD.out.at_ 1 rfl) Tryz.underlying33 rfl (by kernel_rfl) ?_))
          refine (rrank_any o k wr (HM.out.below HD.out.bl) HF.out HKN.out (by have := HN.out; omega)).mono ?_; rintro e w5 ⟨rfl, hb5⟩; replace HD : Sl _ := ⟨HD.out.below hb5⟩; clear hb5 c0; obtain ⟨z, hz⟩ : ∃ z, rrkE o k = z := ⟨_, rfl⟩; rw [hz] at HS2 ⊢; clear hz
          by_cases hz0 : z = 0
          · subst hz0; rw [if_pos rfl] at HS2; have HS3 : Sl _ := ⟨HS2.out.symm⟩; have hzz : ((0 : Int) != 0) = false := (by decide); go_wp2_with fail; exact ⟨⟨k + 1, hkn, by go_num, HD, HS3⟩, by simp [RowKit.intOf]; omega⟩
          · rw [if_neg hz0] at HS2; have hzz : (z != 0) = true := (by simpa using hz0); have HV : Sl (r = z) := ⟨by rw [HE.out, HS2.out]; rw [if_neg hz0]⟩; clear HE hz0
            go_wp2_with ((with_reducible show wpList _ _ _ _ _ _); first
              | (refine wpList_store_whole rfl 72 (.tmp 2) (.tmp 65) rfl g2 #[.int .i64 2, .int .i64 (k : Int), .int .i64 0] rfl rfl 72 _ (HD.out.at_ 0 rfl) rfl (by kernel_rfl) (by simp [Value.oneCell']) ?_; rintro w9 zm zs zb; have HZ : Sl _ := ⟨HD.out.set 0 rfl zm zb⟩; clear zm zs zb))
            (try simp only [Exit.inBlock, Exit.then])
            refine bodyPost_ret (results_row2c rfl _ _ g2 _ _ _ rfl (HZ.out.at_ 0 rfl) Tryz.underlying72 rfl (by kernel_rfl)) rfl ?_; exact ⟨⟨_, _, _, by rw [HV.out]; rfl⟩, HZ.out.bl⟩
        · obtain rfl : o.n2 = k := (by omega); have hkI : decide ((o.n2 : Int) < (o.n2 : Int)) = false := (by simp); have hX2 : X2 = 0 := (by rw [← HK.out, Nat.sub_self]; rfl); subst hX2; rw [if_pos rfl] at HE; have HRB : Sl _ := ⟨rrk_bd HLEN.out.2.1 H2.out⟩; clear HK hkn hk; go_wp2_with fail; clear c0 hkI
          go_loopw [8] (fun s6 wv => ∃ k : Nat, k ≤ o.n3 ∧ s6 = .int .i64 (k : Int) ∧ Sl (Lg w wv [(g2, 72, #[.int .i64 0, .int .i64 0, .int .i64 0]), (g1, 33, #[.slice o.A1 o.n1 o.c1, .slice o.A2 o.n2 o.c2, .slice o.A3 o.n3 o.c3, .slice o.A4 o.n4 o.c4])]) ∧ Sl (fstE (rsaE o) (o.n3 - k) k = X3)) (fun s6 _ => o.n3 - (RowKit.intOf s6).toNat)
          case atStart => exact ⟨0, Nat.zero_le _, rfl, HD, ⟨H3.out⟩⟩
          case round =>
            clear HD; obtain ⟨k, hk, rfl, HD, HK⟩ := hrel; have c0 : wr.cell? ⟨g1, 2, none⟩ = some (.slice o.A3 o.n3 o.c3) := (HD.out.at_ 1 rfl).cell 2; have hn80 : (o.n3 : Int) ≤ 80 := (by have := HN.out; omega)
            by_cases hkn : k < o.n3
            · have hkI : decide ((k : Int) < (o.n3 : Int)) = true := decide_eq_true (by omega); have hkI2 : (k : Int) < (o.n3 : Int) := (by omega); have HKN : Sl (k < o.n3) := ⟨hkn⟩; have HSU := fstE_succ (rsaE o) hkn; rw [HK.out] at HSU; have HS2 : Sl _ := ⟨HSU⟩; clear HSU
              go_wp2_with ((with_reducible show wpList _ _ _ _ _ _); first
                | (refine wpList_load_whole rfl 33 (.tmp 1) rfl g1 rfl 33 _ _ (HD.out.at_ 1 rfl) Tryz.underlying33 rfl (by kernel_rfl) ?_))
              refine (rstop_any o k wr (HM.out.below HD.out.bl) HF.out HKN.out (by have := HN.out; omega) (by have := HN.out; omega)).mono ?_; rintro e w5 ⟨rfl, hb5⟩; replace HD : Sl _ := ⟨HD.out.below hb5⟩; clear hb5 c0; have hx0 : ∃ x, o.ss[k]? = some x := ⟨_, List.getElem?_eq_getElem (by rw [HLEN.out.2.2.1]; exact hkn)⟩; obtain ⟨x, hx⟩ := hx0; have HX : Sl _ := ⟨hx⟩; have HRA : Sl (rsaE o k = if rstE o k = 0 then fstE (fun j => prtE o.rs (o.ds[x.dv.toNat]?.getD dv0) (x.ps[j]?.getD pr0)) x.ps.length 0 else rstE o k) := ⟨by unfold rsaE; rw [hx]; rfl⟩; have HDV : Sl (rstE o k = 0 → 0 ≤ x.dv ∧ x.dv < (o.n1 : Int)) := ⟨rst_dv hx⟩; obtain ⟨z, hz⟩ : ∃ z, rstE o k = z := ⟨_, rfl⟩; rw [hz] at HRA HDV ⊢; clear hz hx
              by_cases hz0 : z = 0
              · subst hz0; rw [if_pos rfl] at HRA; have hzz : ((0 : Int) != 0) = false := (by decide); have hdv := HDV.out rfl; obtain ⟨Y, hY⟩ : ∃ Y, rsaE o k = Y := ⟨_, rfl⟩; rw [hY] at HRA HS2; clear HDV hY; obtain ⟨nm, dv, fn, fd, PA, pn, pc, ps⟩ := x; simp only [] at HRA HX hdv; obtain ⟨dv, rfl⟩ := Int.eq_ofNat_of_zero_le hdv.1; rw [Int.toNat_natCast] at HRA; have HDV : Sl (dv < o.n1) := ⟨by omega⟩; have HPM : Sl _ := ⟨HM.out.p _ (List.mem_of_getElem? HX.out)⟩; have HPF : Sl _ := ⟨HF.out.s _ (List.mem_of_getElem? HX.out)⟩; have HPL : Sl (ps.length = pn) := ⟨HPM.out.len⟩; rw [HPL.out] at HRA; obtain ⟨gs, os, hAs, hgs, halls⟩ := HM.out.s.all_ (by decide) (show 0 < o.n3 by omega); have HAS : Sl _ := ⟨hAs⟩
                have HSR : Sl (∀ W, Below w.heap.size w W → W.rangeAt gs (os + k * 5) [.string nm, .int .i64 (dv : Int), .int .i64 fn, .int .i64 fd, .slice PA pn pc]) := ⟨fun W hW => by
                  obtain ⟨x2, hx2, h2⟩ := halls W hW k HKN.out; rw [HX.out] at hx2; injection hx2 with hx2
                  subst hx2
                  exact h2⟩
                have hk0 : (0 : Int) ≤ (k : Int) := (by omega); clear hdv hAs hgs halls; go_wp2_with fail
                go_loopw [10] (fun s10 wv => ∃ j : Nat, j ≤ pn ∧ s10 = .int .i64 (j : Int) ∧ Sl (Lg w wv [(g2, 72, #[.int .i64 0, .int .i64 0, .int .i64 0]), (g1, 33, #[.slice o.A1 o.n1 o.c1, .slice o.A2 o.n2 o.c2, .slice o.A3 o.n3 o.c3, .slice o.A4 o.n4 o.c4])]) ∧ Sl (fstE (fun j => prtE o.rs (o.ds[dv]?.getD dv0) (ps[j]?.getD pr0)) (pn - j) j = Y)) (fun s10 _ => pn - (RowKit.intOf s10).toNat)
                case atStart => exact ⟨0, Nat.zero_le _, rfl, HD, ⟨HRA.out.symm⟩⟩
                case round =>
                  clear HD; obtain ⟨j, hj, rfl, HD, HJ⟩ := hrel; have c0 : wr.cell? ⟨g1, 2, none⟩ = some (.slice (some ⟨gs, os, none⟩) o.n3 o.c3) := (by rw [← HAS.out]; exact (HD.out.at_ 1 rfl).cell 2); have c4 : wr.cell? ⟨gs, os + k * 5 + 4, none⟩ = some (.slice PA pn pc) := HSR.out _ HD.out.bl 4 _ rfl; have hpn : (pn : Int) ≤ 9223372036854775807 := (by have := HPF.out.2.2.2.2.1; unfold maxLen at this; omega)
                  by_cases hjn : j < pn
                  · have hjI : decide ((j : Int) < (pn : Int)) = true := decide_eq_true (by omega); have hjI2 : (j : Int) < (pn : Int) := (by omega); have hj0 : (0 : Int) ≤ (j : Int) := (by omega); have HJU := fstE_succ (fun j => prtE o.rs (o.ds[dv]?.getD dv0) (ps[j]?.getD pr0)) hjn; rw [HJ.out] at HJU; obtain ⟨gp, op, hAp, hgp, hallp⟩ := HPM.out.all_ (by decide) (show 0 < pn by omega); obtain ⟨p, hp, _⟩ := hallp w (Below.refl _ _) j hjn
                    have HPR : Sl (∀ W, Below w.heap.size w W → W.rangeAt gp (op + j * 4) [.int .i64 p.rk, .int .i64 p.sh, .int .i64 p.lo, .int .i64 p.hi]) := ⟨fun W hW => by
                      obtain ⟨x2, hx2, h2⟩ := hallp W hW j hjn; have hx3 : some p = some x2 := hp.symm.trans hx2; injection hx3 with hx3
                      subst hx3
                      exact h2⟩
                    (try simp only [] at hp hAp)
                    rw [hp, Option.getD_some] at HJU; have HJ2 : Sl _ := ⟨HJU⟩; have HAP : Sl (PA = some ⟨gp, op, none⟩) := ⟨hAp⟩; have HRK : Sl (i64 p.rk) := ⟨(HPF.out.2.2.2.2.2 p (List.mem_of_getElem? hp)).1⟩; have HJN : Sl (j < pn) := ⟨hjn⟩; obtain ⟨y, hy⟩ : ∃ y, prtE o.rs (o.ds[dv]?.getD dv0) p = y := ⟨_, rfl⟩; have HY : Sl _ := ⟨hy⟩; rw [hy] at HJ2; have hS0 : Below wr.heap.size wr wr.drew := below_drewN (Below.refl _ _) 1; have HS0 : Sl _ := ⟨hS0⟩; have HQ : Sl (∀ W, Below wr.heap.size wr W → Lg w W [(g2, 72, #[.int .i64 0, .int .i64 0, .int .i64 0]), (g1, 33, #[.slice o.A1 o.n1 o.c1, .slice o.A2 o.n2 o.c2, .slice o.A3 o.n3 o.c3, .slice o.A4 o.n4 o.c4])]) := ⟨fun W hW => HD.out.below hW⟩; clear hp hAp hallp HJU hgp hy; go_wp2_with fail; clear c0 c4; have hm := hS0; refine wp_region_held_drew (S := fun w' => Below wr.heap.size wr w') (by kernel_rfl) hm (fun hHeld => ?_); clear hm
                    refine wpAnyH_load 0 33 (.tmp 1) rfl rfl rfl g1 0 rfl #[.slice o.A1 o.n1 o.c1, .slice o.A2 o.n2 o.c2, .slice o.A3 o.n3 o.c3, .slice o.A4 o.n4 o.c4] _ (fun w' h => by
                      have := World.rangeAt_of_block ((HQ.out w' h).at_ 1 rfl) 0 4
                      exact this) Tryz.underlying33 rfl (by kernel_rfl) (by kernel_rfl) (by kernel_rfl) (by kernel_rfl) (fun _ _ _ h => h) (by assumption) ?_
                    simp only [Act.put, sS0, sS1, sS2]; refine wpAnyH_pure 1 (v := .pointer (some ⟨g1, 2, none⟩)) rfl (by kernel_rfl) (by kernel_rfl) (by kernel_rfl) (fun _ _ _ h => h) rfl (fun _ => by go_simp) (by assumption) ?_; simp only [Act.put, sS0, sS1, sS2]
                    refine wpAnyH_cell 2 (v := .slice (some ⟨gs, os, none⟩) o.n3 o.c3) rfl rfl (fun w' h => by
                      have hc := (((HQ.out w' h).at_ 1 rfl).cell 2).trans (show _ = some (.slice (some ⟨gs, os, none⟩) o.n3 o.c3) by rw [← HAS.out]; rfl)
                      go_simp) (by kernel_rfl) (by kernel_rfl) (by kernel_rfl) (fun _ _ _ h => h) (by assumption) ?_
                    simp only [Act.put, sS0, sS1, sS2]; refine wpAnyH_pure 3 (v := .int .i64 (k : Int)) rfl (by kernel_rfl) (by kernel_rfl) (by kernel_rfl) (fun _ _ _ h => h) rfl (fun _ => rfl) (by assumption) ?_; simp only [Act.put, sS0, sS1, sS2]; refine wpAnyH_pure 4 (v := .pointer (some ⟨gs, os + k * 5, none⟩)) rfl (by kernel_rfl) (by kernel_rfl) (by kernel_rfl) (fun _ _ _ h => h) rfl (fun _ => by go_simp) (by assumption) ?_; simp only [Act.put, sS0, sS1, sS2]; refine wpAnyH_load 5 90 (.tmp 97) rfl rfl rfl gs (os + k * 5) rfl #[.string nm, .int .i64 (dv : Int), .int .i64 fn, .int .i64 fd, .slice PA pn pc] _ (fun w' h => HSR.out w' (HQ.out w' h).bl) Tryz.underlying90 rfl (by kernel_rfl) (by kernel_rfl) (by kernel_rfl) (by kernel_rfl) (fun _ _ _ h => h) (by assumption) ?_; simp only [Act.put, sS0, sS1, sS2]; refine wpAnyH_pure 6 (v := .pointer (some ⟨g1, 2, none⟩)) rfl (by kernel_rfl) (by kernel_rfl) (by kernel_rfl) (fun _ _ _ h => h) rfl (fun _ => by go_simp) (by assumption) ?_; simp only [Act.put, sS0, sS1, sS2]
                    refine wpAnyH_cell 7 (v := .slice (some ⟨gs, os, none⟩) o.n3 o.c3) rfl rfl (fun w' h => by
                      have hc := (((HQ.out w' h).at_ 1 rfl).cell 2).trans (show _ = some (.slice (some ⟨gs, os, none⟩) o.n3 o.c3) by rw [← HAS.out]; rfl)
                      go_simp) (by kernel_rfl) (by kernel_rfl) (by kernel_rfl) (fun _ _ _ h => h) (by assumption) ?_
                    simp only [Act.put, sS0, sS1, sS2]; refine wpAnyH_pure 8 (v := .int .i64 (k : Int)) rfl (by kernel_rfl) (by kernel_rfl) (by kernel_rfl) (fun _ _ _ h => h) rfl (fun _ => rfl) (by assumption) ?_; simp only [Act.put, sS0, sS1, sS2]; refine wpAnyH_pure 9 (v := .pointer (some ⟨gs, os + k * 5, none⟩)) rfl (by kernel_rfl) (by kernel_rfl) (by kernel_rfl) (fun _ _ _ h => h) rfl (fun _ => by go_simp) (by assumption) ?_; simp only [Act.put, sS0, sS1, sS2]; refine wpAnyH_pure 10 (v := .pointer (some ⟨gs, os + k * 5 + 4, none⟩)) rfl (by kernel_rfl) (by kernel_rfl) (by kernel_rfl) (fun _ _ _ h => h) rfl (fun _ => by go_simp) (by assumption) ?_; simp only [Act.put, sS0, sS1, sS2]
                    refine wpAnyH_cell 11 (v := .slice (some ⟨gp, op, none⟩) pn pc) rfl rfl (fun w' h => by
                      have hc := (HSR.out w' (HQ.out w' h).bl 4 _ rfl).trans (show _ = some (.slice (some ⟨gp, op, none⟩) pn pc) by rw [← HAP.out])
                      go_simp) (by kernel_rfl) (by kernel_rfl) (by kernel_rfl) (fun _ _ _ h => h) (by assumption) ?_
                    simp only [Act.put, sS0, sS1, sS2]; refine wpAnyH_pure 12 (v := .int .i64 (j : Int)) rfl (by kernel_rfl) (by kernel_rfl) (by kernel_rfl) (fun _ _ _ h => h) rfl (fun _ => rfl) (by assumption) ?_; simp only [Act.put, sS0, sS1, sS2]; refine wpAnyH_pure 13 (v := .pointer (some ⟨gp, op + j * 4, none⟩)) rfl (by kernel_rfl) (by kernel_rfl) (by kernel_rfl) (fun _ _ _ h => h) rfl (fun _ => by go_simp) (by assumption) ?_; simp only [Act.put, sS0, sS1, sS2]; refine wpAnyH_load 14 102 (.tmp 106) rfl rfl rfl gp (op + j * 4) rfl #[.int .i64 p.rk, .int .i64 p.sh, .int .i64 p.lo, .int .i64 p.hi] _ (fun w' h => HPR.out w' (HQ.out w' h).bl) Tryz.underlying102 rfl (by kernel_rfl) (by kernel_rfl) (by kernel_rfl) (by kernel_rfl) (fun _ _ _ h => h) (by assumption) ?_; simp only [Act.put, sS0, sS1, sS2]; refine wpAnyH_one 15 rfl (by kernel_rfl) rfl (fun K hK => ?_); go_simp; go_at_call 70
                    (with_reducible refine (rpart_any o nm dv fn fd PA pn pc p _ (HM.out.below (HQ.out _ HS0.out).bl) HDV.out (by have := HN.out; omega) (by have := HN.out; omega) HRB.out HDB.out HRK.out).mono ?_)
                    rintro e4 w4 ⟨rfl, hb4⟩; have hb5 : Below wr.heap.size wr w4 := HS0.out.trans (hb4.mono HS0.out.size); have HB5 : Sl _ := ⟨hb5⟩; clear hb4 hb5; rw [HY.out]; refine hK.out _ _ HB5.out (fun hHeld => ?_); clear hK K
                    (try simp only [Act.put, sS0, sS1, sS2])
                    refine wpAnyH_pure 16 (v := .int .i64 y) rfl (by kernel_rfl) (by kernel_rfl) (by kernel_rfl) (fun _ _ _ h => h) rfl (fun _ => rfl) (by assumption) ?_; simp only [Act.put, sS0, sS1, sS2]; refine wpAnyH_done (by kernel_rfl) ?_ _; clear hHeld; replace HD : Sl _ := ⟨HQ.out _ HB5.out⟩; clear HQ HS0
                    by_cases hy0 : y = 0
                    · subst hy0; rw [if_pos rfl] at HJ2; have HJ3 : Sl _ := ⟨HJ2.out.symm⟩; have hyy : ((0 : Int) != 0) = false := (by decide); go_wp2_with fail; exact ⟨⟨j + 1, HJN.out, by go_num, HD, HJ3⟩, by have := HJN.out; simp [RowKit.intOf]; omega⟩
                    · rw [if_neg hy0] at HJ2; have hyy : (y != 0) = true := (by simpa using hy0); have HV : Sl (r = y) := ⟨by rw [HE.out, HS2.out, HJ2.out, if_neg hy0, if_neg hy0]⟩; have hjw : IntKind.i64.wrap ((j : Int) + 1) = (j : Int) + 1 := (by rw [IntKind.wrap_i64]; omega); clear HE hy0
                      go_wp2_with ((with_reducible show wpList _ _ _ _ _ _); first
                        | (refine wpList_store_whole rfl 72 (.tmp 2) (.tmp 114) rfl g2 #[.int .i64 3, .int .i64 (k : Int), .int .i64 ((j : Int) + 1)] rfl rfl 72 _ (HD.out.at_ 0 rfl) rfl (by kernel_rfl) (by simp [Value.oneCell']) ?_; rintro w9 zm zs zb; have HZ : Sl _ := ⟨HD.out.set 0 rfl zm zb⟩; clear zm zs zb))
                      (try simp only [Exit.inBlock, Exit.then])
                      refine bodyPost_ret (results_row2c rfl _ _ g2 _ _ _ rfl (HZ.out.at_ 0 rfl) Tryz.underlying72 rfl (by kernel_rfl)) rfl ?_; exact ⟨⟨_, _, _, by rw [HV.out]; rfl⟩, HZ.out.bl⟩
                  · obtain rfl : pn = j := (by omega); have hjI : decide ((pn : Int) < (pn : Int)) = false := (by simp); have hY0 : Y = 0 := (by rw [← HJ.out, Nat.sub_self]; rfl); subst hY0; rw [if_pos rfl] at HS2; have HS3 : Sl _ := ⟨HS2.out.symm⟩; clear HJ hjn hj; go_wp2_with fail; exact ⟨⟨k + 1, HKN.out, by go_num, HD, HS3⟩, by have := HKN.out; simp [RowKit.intOf]; omega⟩
              · have HRZ : Sl (rsaE o k = z) := ⟨by rw [HRA.out, if_neg hz0]⟩; rw [HRZ.out, if_neg hz0] at HS2; have hzz : (z != 0) = true := (by simpa using hz0); have HV : Sl (r = z) := ⟨by rw [HE.out, HS2.out, if_neg hz0]⟩; clear HE hz0 HRA HRZ
                go_wp2_with ((with_reducible show wpList _ _ _ _ _ _); first
                  | (refine wpList_store_whole rfl 72 (.tmp 2) (.tmp 80) rfl g2 #[.int .i64 3, .int .i64 (k : Int), .int .i64 0] rfl rfl 72 _ (HD.out.at_ 0 rfl) rfl (by kernel_rfl) (by simp [Value.oneCell']) ?_; rintro w9 zm zs zb; have HZ : Sl _ := ⟨HD.out.set 0 rfl zm zb⟩; clear zm zs zb))
                (try simp only [Exit.inBlock, Exit.then])
                refine bodyPost_ret (results_row2c rfl _ _ g2 _ _ _ rfl (HZ.out.at_ 0 rfl) Tryz.underlying72 rfl (by kernel_rfl)) rfl ?_; exact ⟨⟨_, _, _, by rw [HV.out]; rfl⟩, HZ.out.bl⟩
            · obtain rfl : o.n3 = k := (by omega); have hkI : decide ((o.n3 : Int) < (o.n3 : Int)) = false := (by simp); have hX3 : X3 = 0 := (by rw [← HK.out, Nat.sub_self]; rfl); subst hX3; rw [if_pos rfl] at HE; clear HK hkn hk; go_wp2_with fail; clear c0 hkI
              go_loopw [12] (fun s6 wv => ∃ k : Nat, k ≤ o.n4 ∧ s6 = .int .i64 (k : Int) ∧ Sl (Lg w wv [(g2, 72, #[.int .i64 0, .int .i64 0, .int .i64 0]), (g1, 33, #[.slice o.A1 o.n1 o.c1, .slice o.A2 o.n2 o.c2, .slice o.A3 o.n3 o.c3, .slice o.A4 o.n4 o.c4])]) ∧ Sl (fstE (rcpE o) (o.n4 - k) k = X4)) (fun s6 _ => o.n4 - (RowKit.intOf s6).toNat)
              case atStart => exact ⟨0, Nat.zero_le _, rfl, HD, ⟨H4.out⟩⟩
              case round =>
                clear HD; obtain ⟨k, hk, rfl, HD, HK⟩ := hrel; have c0 : wr.cell? ⟨g1, 3, none⟩ = some (.slice o.A4 o.n4 o.c4) := (HD.out.at_ 1 rfl).cell 3; have hn80 : (o.n4 : Int) ≤ 80 := (by have := HN.out; omega)
                by_cases hkn : k < o.n4
                · have hkI : decide ((k : Int) < (o.n4 : Int)) = true := decide_eq_true (by omega); have hkI2 : (k : Int) < (o.n4 : Int) := (by omega); have HKN : Sl (k < o.n4) := ⟨hkn⟩; have HSU := fstE_succ (rcpE o) hkn; rw [HK.out] at HSU; have HS2 : Sl _ := ⟨HSU⟩; clear HSU
                  go_wp2_with ((with_reducible show wpList _ _ _ _ _ _); first
                    | (refine wpList_load_whole rfl 33 (.tmp 1) rfl g1 rfl 33 _ _ (HD.out.at_ 1 rfl) Tryz.underlying33 rfl (by kernel_rfl) ?_))
                  refine (rcoupler_any o k wr (HM.out.below HD.out.bl) HF.out HKN.out (by have := HN.out; omega)).mono ?_; rintro e w5 ⟨rfl, hb5⟩; replace HD : Sl _ := ⟨HD.out.below hb5⟩; clear hb5 c0; obtain ⟨z, hz⟩ : ∃ z, rcpE o k = z := ⟨_, rfl⟩; rw [hz] at HS2 ⊢; clear hz
                  by_cases hz0 : z = 0
                  · subst hz0; rw [if_pos rfl] at HS2; have HS3 : Sl _ := ⟨HS2.out.symm⟩; have hzz : ((0 : Int) != 0) = false := (by decide); go_wp2_with fail; exact ⟨⟨k + 1, hkn, by go_num, HD, HS3⟩, by simp [RowKit.intOf]; omega⟩
                  · rw [if_neg hz0] at HS2; have hzz : (z != 0) = true := (by simpa using hz0); have HV : Sl (r = z) := ⟨by rw [HE.out, HS2.out]; (try rw [if_neg hz0])⟩; clear HE hz0
                    go_wp2_with ((with_reducible show wpList _ _ _ _ _ _); first
                      | (refine wpList_store_whole rfl 72 (.tmp 2) (.tmp 129) rfl g2 #[.int .i64 4, .int .i64 (k : Int), .int .i64 0] rfl rfl 72 _ (HD.out.at_ 0 rfl) rfl (by kernel_rfl) (by simp [Value.oneCell']) ?_; rintro w9 zm zs zb; have HZ : Sl _ := ⟨HD.out.set 0 rfl zm zb⟩; clear zm zs zb))
                    (try simp only [Exit.inBlock, Exit.then])
                    refine bodyPost_ret (results_row2c rfl _ _ g2 _ _ _ rfl (HZ.out.at_ 0 rfl) Tryz.underlying72 rfl (by kernel_rfl)) rfl ?_; exact ⟨⟨_, _, _, by rw [HV.out]; rfl⟩, HZ.out.bl⟩
                · obtain rfl : o.n4 = k := (by omega); have hkI : decide ((o.n4 : Int) < (o.n4 : Int)) = false := (by simp); have HV : Sl (r = 0) := ⟨by rw [HE.out, ← HK.out, Nat.sub_self]; rfl⟩; clear HK hkn hk HE
                  go_wp2_with ((with_reducible show wpList _ _ _ _ _ _); first
                    | (refine wpList_store_whole rfl 72 (.tmp 2) (.tmp 131) rfl g2 #[.int .i64 0, .int .i64 0, .int .i64 0] rfl rfl 72 _ (HD.out.at_ 0 rfl) rfl (by kernel_rfl) (by simp [Value.oneCell']) ?_; rintro w9 zm zs zb; have HZ : Sl _ := ⟨HD.out.set 0 rfl zm zb⟩; clear zm zs zb))
                  (try simp only [Exit.inBlock, Exit.then])
                  refine bodyPost_ret (results_row2c rfl _ _ g2 _ _ _ rfl (HZ.out.at_ 0 rfl) Tryz.underlying72 rfl (by kernel_rfl)) rfl ?_; exact ⟨⟨_, _, _, by rw [HV.out]; rfl⟩, HZ.out.bl⟩
end Go.Proofs.YtabkpbbjodfolaaGreatDoor
