/- Package spec: (*checker).coupler on the example's coupler (an octave within a division). -/
import Derived.Test.YtabkpbbjodfolaaGreatDoorZvE
import Derived.Test.YtabkpbbjodfolaaGreatDoorShelB
namespace Go.Proofs.YtabkpbbjodfolaaGreatDoor
set_option linter.unusedSimpArgs false
open Go.RowKit
set_option linter.unusedVariables false
end Go.Proofs.YtabkpbbjodfolaaGreatDoor
namespace Go.Proofs.YtabkpbbjodfolaaGreatDoor
set_option linter.unusedSimpArgs false
open Go.RowKit
set_option linter.unusedVariables false
theorem wdigits_small (i : Nat) (hi : i < 100) (w : World) : Calls Tryz.prog 141 #[.int .i64 (i : Int)] w fun e w' => e = .returned (.string ⟨(Lib.decDigits i).toArray⟩) ∧ w' = w := by
  have HF : Sl _ := ⟨Tryz.strconv_FormatInt_10_small i hi w⟩; clear hi; go_enter Tryz.func141, Tryz.ntmps141; go_wp2_with fail; refine HF.out.mono ?_; rintro e w1 ⟨rfl, rfl⟩; go_wp2_with fail; go_ret; exact ⟨rfl, rfl⟩
end Go.Proofs.YtabkpbbjodfolaaGreatDoor
namespace Go.Proofs.YtabkpbbjodfolaaGreatDoor
set_option linter.unusedSimpArgs false
open Go.RowKit
set_option linter.unusedVariables false
theorem kSt_size {d : Int} (h0 : 0 ≤ d) (h1 : d < 100) : (kSt d).size ≤ 100 := by
  have := tx_size (u := d.toNat) (by omega); unfold kSt; rw [ByteArray.size_append]; have h5 : (⟨#[115, 116, 111, 112, 32]⟩ : ByteArray).size = 5 := rfl; unfold tx at this; omega
set_option maxHeartbeats 3200000 in
set_option maxRecDepth 100000 in
theorem stop_any {w : World} {g b : Nat} {o : SpO} {l : Keys} (h : CK w g b o l) (x : SpV) (hn : l.length ≤ 1000000) (hnm : x.nm.size ≤ maxLen) (hnd : o.n1 ≤ 100) (hxn : x.n ≤ maxLen) :
    Calls Tryz.prog 100 #[.pointer (some ⟨g, 0, none⟩), .agg #[.string x.nm, .int .i64 x.dv, .int .i64 x.fn, .int .i64 x.fd, .slice x.A x.n x.c]] w fun e w' =>
      e = .returned (.int .i64 (stpE o.n1 l x)) ∧ CK w' g b o (stpL o.n1 l x) ∧ Mv b w w' := by
  have HE : Sl (stpE o.n1 l x = if nmB x.nm = false then 6 else if wiB x.dv 0 ((o.n1 : Int) - 1) = false then 4 else if nmdE l (kSt x.dv) x.nm = 0 then (if decide (vF x.fn x.fd) = false ∨ x.n = 0 then 2 else if 12 < x.n then 3 else 0) else nmdE l (kSt x.dv) x.nm) := ⟨rfl⟩; have HL : Sl (stpL o.n1 l x = if nmB x.nm = false then l else if wiB x.dv 0 ((o.n1 : Int) - 1) = false then l else nmdL l (kSt x.dv) x.nm) := ⟨rfl⟩; obtain ⟨r, hr⟩ : ∃ r, stpE o.n1 l x = r := ⟨_, rfl⟩; obtain ⟨L, hL⟩ : ∃ L, stpL o.n1 l x = L := ⟨_, rfl⟩; rw [hr] at HE ⊢; rw [hL] at HL ⊢; obtain ⟨nm, dv, fn, fd, A, n, c, ps⟩ := x; simp only [] at HE HL hnm hxn ⊢; have X0 := Blk.new w 90 #[.string nm, .int .i64 dv, .int .i64 fn, .int .i64 fd, .slice A n c]; have hbl := (Below.refl w.heap.size w).alloc (Nat.le_refl _) (.cells #[.string nm, .int .i64 dv, .int .i64 fn, .int .i64 fd, .slice A n c] 90); have hC := h.alloc (.cells #[.string nm, .int .i64 dv, .int .i64 fn, .int .i64 fd, .slice A n c] 90); have X1 : (w.alloc (.cells #[.string nm, .int .i64 dv, .int .i64 fn, .int .i64 fd, .slice A n c] 90)).cell? ⟨w.heap.size, 1, none⟩ = some (.int .i64 dv) := X0.cell 1; have HC0 : Sl _ := ⟨hC⟩; have HX : Sl _ := ⟨X0⟩; have HBL : Sl _ := ⟨hbl⟩; have HLT : Sl _ := ⟨h.nm.lt⟩; have HG : Sl _ := ⟨h.blk.lt⟩; have cg : (w.alloc (.cells #[.string nm, .int .i64 dv, .int .i64 fn, .int .i64 fd, .slice A n c] 90)).cell? ⟨g, 0, none⟩ = some (.slice o.A1 o.n1 o.c1) := hC.blk.cell 0; have HNM : Sl _ := ⟨fun W : World => name_any nm hnm W⟩; have HN : Sl _ := ⟨fun (W : World) (hW : CK W g b o l) (h0 : 0 ≤ dv) (h1 : dv < 100) => named_all hW (kSt dv) nm (kSt_size h0 h1) hn hnm⟩; have HF : Sl _ := ⟨fun W : World => footage_any fn fd W⟩; have HND : Sl _ := ⟨hnd⟩; clear X0 hbl hC h hnm hr hL hn hnd; obtain ⟨b0, hb0⟩ : ∃ b0, nmB nm = b0 := ⟨_, rfl⟩; rw [hb0] at HE HL HNM; clear hb0; go_enter Tryz.func100, Tryz.ntmps100; go_wp2_with fail; refine (HNM.out _).mono ?_; rintro e w1 ⟨rfl, rfl⟩
  cases b0 with
  | false =>
    go_wp2_with fail; go_ret; exact ⟨by rw [HE.out]; rfl, by rw [HL.out]; exact HC0.out, Mv.below HBL.out⟩
  | true =>
    obtain ⟨b1, hb1⟩ : ∃ b1, wiB dv 0 ((o.n1 : Int) - 1) = b1 := ⟨_, rfl⟩; rw [hb1] at HE HL; have HDV : Sl (b1 = true → 0 ≤ dv ∧ dv < (o.n1 : Int)) := ⟨fun h => by rw [← hb1] at h; unfold wiB at h; simp at h; omega⟩; generalize w.alloc (.cells #[.string nm, .int .i64 dv, .int .i64 fn, .int .i64 fd, .slice A n c] 90) = wa at *
    have VA : Sl (∀ z, Calls Tryz.prog 138 #[.int .i64 dv, .int .i64 0, .int .i64 ((o.n1 : Int) - 1)] (wa.drewN z) fun e w'' => e = .returned (.bool b1) ∧ ∃ k, w'' = wa.drewN k) := ⟨fun z => (wi_any dv 0 ((o.n1 : Int) - 1) (wa.drewN z)).mono fun e w'' h => ⟨by rw [h.1, hb1], z, h.2⟩⟩; have hw1 : IntKind.i64.wrap ((o.n1 : Int) - 1) = (o.n1 : Int) - 1 := (by have := HND.out; rw [IntKind.wrap_i64]; omega); clear hb1; go_wp2_with fail
    go_quiet ((go_at_call 138; (with_reducible exact VA.out _)))
    clear VA hw1
    cases b1 with
    | false =>
      go_wp2_with fail; go_ret; exact ⟨by rw [HE.out]; rfl, by rw [HL.out]; exact HC0.out.below (below_drewN (Below.refl _ _) nq), Mv.below (below_drewN HBL.out nq)⟩
    | true =>
      obtain ⟨h1, h2⟩ := HDV.out rfl; have hd100 : dv < 100 := (by have := HND.out; omega); have hq : Below wa.heap.size wa (wa.drewN nq) := below_drewN (Below.refl _ _) nq; replace HC0 : Sl _ := ⟨HC0.out.below hq⟩; replace HX : Sl _ := ⟨HX.out.below hq HX.out.lt⟩; replace HBL : Sl _ := ⟨below_drewN HBL.out nq⟩; clear X1 cg hq; generalize wa.drewN nq = wb at *
      obtain ⟨d, rfl⟩ := Int.eq_ofNat_of_zero_le h1; have HD : Sl _ := ⟨fun W : World => wdigits_small d (by omega) W⟩; have HN2 : Sl _ := ⟨fun (W : World) (hW : Below wb.heap.size wb W) => HN.out W (HC0.out.below hW) h1 hd100⟩; have hks : kSt (d : Int) = ⟨#[115, 116, 111, 112, 32]⟩ ++ ⟨(Lib.decDigits d).toArray⟩ := rfl; obtain ⟨z, hz⟩ : ∃ z, nmdE l (kSt (d : Int)) nm = z := ⟨_, rfl⟩; obtain ⟨L2, hL2⟩ : ∃ L2, nmdL l (kSt (d : Int)) nm = L2 := ⟨_, rfl⟩; rw [hz] at HE HN2; rw [hL2] at HL HN2; have hsz := tx_size (u := d) (by omega); unfold tx at hsz; rw [hks] at HN2; generalize (⟨(Lib.decDigits d).toArray⟩ : ByteArray) = td at *
      have h5 : (⟨#[115, 116, 111, 112, 32]⟩ : ByteArray).size = 5 := rfl; have HGB : Sl (w.heap.size ≠ b ∧ w.heap.size < wb.heap.size) := ⟨by have := HLT.out; omega, HX.out.lt⟩; clear hz hL2 hks HN HC0; go_wp2_with fail; have hbd : Below wb.heap.size wb wb.drew := below_drewN (Below.refl _ _) 1; have HBD : Sl _ := ⟨hbd⟩; have hmd : Mv b wb wb.drew := Mv.drewN (Mv.refl b wb) 1; have HMD : Sl _ := ⟨hmd⟩; clear hbd hmd; have hm := HMD.out; refine wp_region_held_drew (S := fun w' => Mv b wb w') (by kernel_rfl) hm (fun hHeld => ?_); clear hm; refine wpAnyH_pure 0 (v := .pointer (some ⟨g, 0, none⟩)) rfl (by kernel_rfl) (by kernel_rfl) (by kernel_rfl) (fun _ _ _ h => h) rfl (fun _ => rfl) (by assumption) ?_; simp only [Act.put, sS0, sS1, sS2]; refine wpAnyH_pure 1 (v := .pointer (some ⟨w.heap.size, 1, none⟩)) rfl (by kernel_rfl) (by kernel_rfl) (by kernel_rfl) (fun _ _ _ h => h) rfl (fun _ => by go_simp) (by assumption) ?_; simp only [Act.put, sS0, sS1, sS2]
      refine wpAnyH_cell 2 (v := .int .i64 (d : Int)) rfl rfl (fun w' h => by
        have hc := (HX.out.mv h HGB.out.1).cell 1
        go_simp) (by kernel_rfl) (by kernel_rfl) (by kernel_rfl) (fun _ _ _ h => h) (by assumption) ?_
      simp only [Act.put, sS0, sS1, sS2]; refine wpAnyH_pure 5 (v := .pointer (some ⟨w.heap.size, 0, none⟩)) rfl (by kernel_rfl) (by kernel_rfl) (by kernel_rfl) (fun _ _ _ h => h) rfl (fun _ => by go_simp) (by assumption) ?_; simp only [Act.put, sS0, sS1, sS2]
      refine wpAnyH_cell 6 (v := .string nm) rfl rfl (fun w' h => by
        have hc := (HX.out.mv h HGB.out.1).cell 0
        go_simp) (by kernel_rfl) (by kernel_rfl) (by kernel_rfl) (fun _ _ _ h => h) (by assumption) ?_
      simp only [Act.put, sS0, sS1, sS2]; refine wpAnyH_one 3 rfl (by kernel_rfl) rfl (fun K hK => ?_); go_simp; go_at_call 141
      (with_reducible refine (HD.out _).mono ?_)
      rintro e3 w3 ⟨rfl, rfl⟩; refine hK.out _ _ HMD.out (fun hHeld => ?_); clear hK K
      (try simp only [Act.put, sS0, sS1, sS2])
      refine wpAnyH_pure 4 (v := .string (⟨#[115, 116, 111, 112, 32]⟩ ++ td)) rfl (by kernel_rfl) (by kernel_rfl) (by kernel_rfl) (fun _ _ _ h => h) rfl (fun _ => by go_simp; omega) (by assumption) ?_; simp only [Act.put, sS0, sS1, sS2]; refine wpAnyH_one 7 rfl (by kernel_rfl) rfl (fun K hK => ?_); go_simp; go_at_call 137
      (with_reducible refine (HN2.out wb.drew HBD.out).mono ?_)
      rintro e4 w4 ⟨rfl, hC4, hm4⟩; have hm5 : Mv b wb w4 := Mv.trans HMD.out hm4; have HC4 : Sl _ := ⟨hC4⟩; have HM4 : Sl _ := ⟨hm5⟩; clear hC4 hm4 hm5; refine hK.out _ _ HM4.out (fun hHeld => ?_); clear hK K
      (try simp only [Act.put, sS0, sS1, sS2])
      refine wpAnyH_pure 8 (v := .int .i64 z) rfl (by kernel_rfl) (by kernel_rfl) (by kernel_rfl) (fun _ _ _ h => h) rfl (fun _ => rfl) (by assumption) ?_; simp only [Act.put, sS0, sS1, sS2]; refine wpAnyH_done (by kernel_rfl) ?_ _; clear hHeld hsz h5
      by_cases hz0 : z = 0
      · subst hz0; rw [if_pos rfl] at HE; replace HX : Sl (Blk w4 w.heap.size 90 #[.string nm, .int .i64 (d : Int), .int .i64 fn, .int .i64 fd, .slice A n c]) := ⟨HX.out.mv HM4.out HGB.out.1⟩; have x2 := HX.out.cell 2; have x3 := HX.out.cell 3; have x4 := HX.out.cell 4; simp at x2 x3 x4; obtain ⟨f, hf⟩ : ∃ f, decide (vF fn fd) = f := ⟨_, rfl⟩; rw [hf] at HE HF; clear hf; go_wp2_with fail; refine (HF.out _).mono ?_; rintro e w5 ⟨rfl, hb5⟩; have HB5 : Sl _ := ⟨hb5⟩; have hx5 := HX.out.below hb5 HX.out.lt; clear x2 x3 x4 hb5; have x4 := hx5.cell 4; simp at x4; clear hx5
        cases f with
        | false =>
          go_wp2_with fail; go_ret; exact ⟨by rw [HE.out]; simp, by rw [HL.out]; exact HC4.out.below HB5.out, Mv.trans (Mv.trans (Mv.below HBL.out) HM4.out) (Mv.below HB5.out)⟩
        | true =>
          have HMM : Sl _ := ⟨Mv.trans (Mv.trans (Mv.below HBL.out) HM4.out) (Mv.below HB5.out)⟩
          by_cases hn0 : n = 0
          · have q0 : ((n : Int) == 0) = true := (by rw [hn0]; rfl); have HR : Sl (r = 2) := ⟨by rw [HE.out]; simp [hn0]⟩; clear hn0; go_wp2_with fail; go_ret; exact ⟨by rw [HR.out]; rfl, by rw [HL.out]; exact HC4.out.below HB5.out, HMM.out⟩
          · have q0 : ((n : Int) == 0) = false := (by rw [beq_eq_false_iff_ne]; omega)
            by_cases hn12 : 12 < n
            · have q1 : decide ((12 : Int) < (n : Int)) = true := decide_eq_true (by omega); have q2 : (12 : Int) < (n : Int) := (by omega); have HR : Sl (r = 3) := ⟨by rw [HE.out]; simp [hn0, hn12]⟩; clear hn0 hn12; go_wp2_with fail; go_ret; exact ⟨by rw [HR.out]; rfl, by rw [HL.out]; exact HC4.out.below HB5.out, HMM.out⟩
            · have q1 : decide ((12 : Int) < (n : Int)) = false := decide_eq_false (by omega); have q2 : ¬ (12 : Int) < (n : Int) := (by omega); have HR : Sl (r = 0) := ⟨by rw [HE.out]; simp [hn0, hn12]⟩; clear hn0 hn12; go_wp2_with fail; go_ret; exact ⟨by rw [HR.out]; rfl, by rw [HL.out]; exact HC4.out.below HB5.out, HMM.out⟩
      · rw [if_neg hz0] at HE; have q0 : (z != 0) = true := (by rw [bne_iff_ne]; exact hz0); clear hz0; go_wp2_with fail; go_ret; exact ⟨by rw [HE.out]; rfl, by rw [HL.out]; exact HC4.out, Mv.trans (Mv.below HBL.out) HM4.out⟩
end Go.Proofs.YtabkpbbjodfolaaGreatDoor
