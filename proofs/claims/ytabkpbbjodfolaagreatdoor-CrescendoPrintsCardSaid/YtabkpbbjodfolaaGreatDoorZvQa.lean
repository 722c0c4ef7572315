/- crescendo.Parse. -/
import Derived.Test.YtabkpbbjodfolaaGreatDoorZvPa
import Derived.Test.YtabkpbbjodfolaaGreatDoorZvT
import Derived.Test.YtabkpbbjodfolaaGreatDoorZvU
import Derived.Test.YtabkpbbjodfolaaGreatDoorZvR
import Derived.Test.YtabkpbbjodfolaaGreatDoorZvBa
namespace Go.Proofs.YtabkpbbjodfolaaGreatDoor
set_option linter.unusedSimpArgs false
open Go.RowKit
set_option linter.unusedVariables false
def parO (o : SpO) (t : ByteArray) : Int × Int × List Rv := if specE o = 0 then parX (SNb o) (CNb o) t.data.toList else (specE o, 0, [])
def PrR (R : Int × Int × List Rv) (e : Ending) (w' : World) : Prop := ∃ A n c L, e = .returned (.tuple #[.slice A n c, .int .i64 R.2.1, .int .i64 R.1]) ∧ TbM w' A n c L ∧ L.map RgV.v = R.2.2
theorem PrR.mt {R : Int × Int × List Rv} {w' : World} {z m : Int} (h : R = (z, m, [])) : PrR R (.returned (.tuple #[.slice none 0 0, .int .i64 m, .int .i64 z])) w' := by
  subst h; exact ⟨Option.none, 0, 0, [], rfl, ⟨RowG.nil _ _ _ _ (fun _ => rfl), ⟨Nat.le_refl _, Nat.zero_le _⟩, by simp⟩, rfl⟩
theorem line_le {ls : List By} {x : By} (h : x ∈ ls) : x.length ≤ (lnK ls).length := by
  induction ls with
  | nil => cases h
  | cons y ls ih =>
    have e : lnK (y :: ls) = y ++ 10 :: lnK ls := (by simp [lnK]); rw [e, List.length_append, List.length_cons]; rcases List.mem_cons.1 h with rfl | h
    · omega
    · have := ih h; omega
theorem lnK_ge : ∀ ls : List By, ls.length ≤ (lnK ls).length
  | [] => by simp
  | y :: ls => by
    have e : lnK (y :: ls) = y ++ 10 :: lnK ls := (by simp [lnK]); have := lnK_ge ls; rw [e, List.length_append, List.length_cons, List.length_cons]; omega
theorem splX_len {ln : By} {fl : List Fl} (h : splX ln = (0, fl)) : fl.length ≤ 64 := by
  unfold splX at h
  split at h
  · simp at h
  · split at h
    · injection h with _ h
      subst h; simp
    · split at h
      · simp at h
      · split at h
        · simp at h
        · rename_i h64; injection h with _ h
          subst h; omega
theorem lnsX_step (SN CN : List By) {s : PsT} {ls : List By} {k : Nat} {ln : By} (h : ls[k]? = some ln) : lnsX SN CN s k (ls.drop k) = if (splX ln).1 = 0 then (if (lnX SN CN s (splX ln).2).1 = 0 then lnsX SN CN (lnX SN CN s (splX ln).2).2 (k + 1) (ls.drop (k + 1)) else ((lnX SN CN s (splX ln).2).1, (k : Int) + 1, [])) else ((splX ln).1, (k : Int) + 1, []) := by
  obtain ⟨hk, rfl⟩ := List.getElem?_eq_some_iff.1 h; rw [List.drop_eq_getElem_cons hk, lnsX]
set_option maxHeartbeats 12800000 in
set_option maxRecDepth 100000 in
theorem crParse_any (o : SpO) (t : ByteArray) (w : World) (hM : SpM w o) (hF : SpF o) (hX : MXp w 0) (ht : t.size ≤ 100000000) :
    Calls Tryz.prog 36 #[.agg #[.slice o.A1 o.n1 o.c1, .slice o.A2 o.n2 o.c2, .slice o.A3 o.n3 o.c3, .slice o.A4 o.n4 o.c4], .string t] w fun e w' => PrR (parO o t) e w' ∧ Below w.heap.size w w' := by
  have HM : Sl _ := ⟨hM⟩; have HF : Sl _ := ⟨hF⟩; have HD : Sl (Lg w w []) := ⟨Lg.nil w⟩; have HSC : Sl _ := ⟨fun (W : World) (hW : Below w.heap.size w W) => speccheck_any o W (hM.below hW) hF⟩; obtain ⟨R, hR⟩ : ∃ R, parO o t = R := ⟨_, rfl⟩; have HRR : Sl _ := ⟨hR⟩; rw [hR]; obtain ⟨s, hs⟩ : ∃ s, specE o = s := ⟨_, rfl⟩; have HS0 : Sl _ := ⟨hs⟩; have HXX : Sl _ := ⟨hX⟩; have HTT : Sl _ := ⟨ht⟩; unfold SpecR at HSC; rw [hs] at HSC; have HLN : Sl _ := ⟨fun (W : World) (hW : Below w.heap.size w W) => wlines_any sfxC cntC splC0 t (by omega) W (hX.below hW)⟩; clear hM hF hR hs hX ht; go_enter Tryz.func36, Tryz.ntmps36
  go_upto_region 1 with ((with_reducible show wpList _ _ _ _ _ _); first
    | (refine wpList_box_new 2 rfl rfl 33 (.tmp 0) rfl #[.slice o.A1 o.n1 o.c1, .slice o.A2 o.n2 o.c2, .slice o.A3 o.n3 o.c3, .slice o.A4 o.n4 o.c4] rfl (fun _ => by kernel_rfl) ?_; rintro ws gs zg zm zs zb; replace HD : Sl _ := ⟨HD.out.new zg zm zb⟩; clear zg zm zs zb))
  have s0 := (HD.out.at_ 0 rfl).cell 0; have s1 := (HD.out.at_ 0 rfl).cell 1; have s2 := (HD.out.at_ 0 rfl).cell 2; have s3 := (HD.out.at_ 0 rfl).cell 3; simp at s0 s1 s2 s3; go_wp2_with fail
  (with_reducible refine (HSC.out _ HD.out.bl).mono ?_); rintro e w1 ⟨⟨a1, a2, a3, rfl⟩, hb⟩
  replace HD : Sl _ := ⟨HD.out.below hb⟩; clear HSC hb s0 s1 s2 s3
  go_upto_region 2 with ((with_reducible show wpList _ _ _ _ _ _); first
    | (refine wpList_alloc_new 7 rfl rfl 72 rfl #[.int .i64 0, .int .i64 0, .int .i64 0] alloc_fault ?_; rintro w2 gf zg zm zs zb; replace HD : Sl _ := ⟨HD.out.new zg zm zb⟩; clear zg zm zs zb)
    | (refine wpList_store_whole rfl 72 (.tmp 7) (.tmp 19) rfl gf #[.int .i64 a1, .int .i64 a2, .int .i64 a3] rfl rfl 72 _ (HD.out.at_ 0 rfl) rfl (by kernel_rfl) (by simp [Value.oneCell']) ?_; rintro w3 zm zs zb; replace HD : Sl _ := ⟨HD.out.upd zm zb⟩; clear zm zs zb))
  replace HD : Sl _ := ⟨HD.out.drop⟩
  by_cases hs0 : s = 0
  · subst hs0; have HPX : Sl (parX (SNb o) (CNb o) t.data.toList = R) := ⟨by have := HRR.out; unfold parO at this; rw [if_pos HS0.out] at this; exact this⟩; have hk0 : ((0 : Int) != 0) = false := rfl; go_wp2_with fail
    (with_reducible refine (HLN.out _ HD.out.bl).mono ?_); rintro e w4 ⟨⟨LA, ln, lc, LL, rfl, hL1, hL2⟩, hb⟩
    have HLL : Sl (LL.map (·.data.toList) = (linX t.data.toList).2 ∧ StR w4 LA ln LL) := ⟨⟨hL1, hL2⟩⟩; replace HD : Sl _ := ⟨HD.out.below hb⟩; clear HLN hb hL1 hL2; obtain ⟨z, hz⟩ : ∃ z, (linX t.data.toList).1 = z := ⟨_, rfl⟩; have HZ : Sl _ := ⟨hz⟩; rw [hz]; clear hz
    by_cases hz0 : z = 0
    · subst hz0; have HPX2 : Sl (lnsX (SNb o) (CNb o) ⟨[], 0⟩ 0 (linX t.data.toList).2 = R) := ⟨by rw [← HPX.out]; unfold parX; rw [if_pos HZ.out]⟩; have hsp : SpM w4 o := HM.out.below HD.out.bl; have HNM : Sl _ := ⟨fun (W : World) (hW : Below w.heap.size w W) => names_any o W (HM.out.below hW) HF.out HS0.out⟩; have HB4 : Sl (Below w.heap.size w w4) := ⟨HD.out.bl⟩; clear HPX; have s0 := (HD.out.at_ 0 rfl).cell 0; have s1 := (HD.out.at_ 0 rfl).cell 1; have s2 := (HD.out.at_ 0 rfl).cell 2; have s3 := (HD.out.at_ 0 rfl).cell 3; simp at s0 s1 s2 s3; obtain ⟨b1, hb1⟩ : ∃ b1, w4.heap.size = b1 := ⟨_, rfl⟩; have HB1 : Sl _ := ⟨hb1⟩; clear hb1
      go_upto_region 8 with ((with_reducible show wpList _ _ _ _ _ _); first
        | (refine wpList_box_new 33 rfl rfl 147 (.tmp 32) rfl #[.slice none 0 0, .slice none 0 0, .slice none 0 0, .int .i64 0] rfl (fun _ => by kernel_rfl) ?_; rintro w5 rb zg zm zs zb; have HRB : Sl (rb = w4.heap.size ∧ Blk w5 rb 147 #[.slice none 0 0, .slice none 0 0, .slice none 0 0, .int .i64 0]) := ⟨⟨zg, zb⟩⟩; have HB5 : Sl (w5.heap.size = w4.heap.size + 1 ∧ Below w4.heap.size w4 w5) := ⟨⟨by omega, below_mv (Below.refl _ _) zm (Nat.le_refl _) (Nat.le_refl _)⟩⟩; replace HD : Sl _ := ⟨HD.out.new zg zm zb⟩; clear zg zm zs zb))
      have s0 := (HD.out.at_ 1 rfl).cell 0; have s1 := (HD.out.at_ 1 rfl).cell 1; have s2 := (HD.out.at_ 1 rfl).cell 2; have s3 := (HD.out.at_ 1 rfl).cell 3; simp at s0 s1 s2 s3; go_wp2_with fail
      (with_reducible refine (HNM.out _ HD.out.bl).mono ?_); rintro e w6 ⟨⟨SA, sc, CA, cc, rfl, hsa, hca⟩, hb⟩
      have HW5 : Sl (Below w5.heap.size w5 w6 ∧ w5.heap.size = w4.heap.size + 1 ∧ Below w4.heap.size w4 w5) := ⟨hb, HB5.out.1, HB5.out.2⟩; have HOS : Sl (OS w6 b1 SA o.n3 sc (snm o) ∧ OS w6 b1 CA o.n4 cc (cnm o)) := ⟨by have h1 := HB1.out; have h2 := HW5.out.2.1; exact ⟨hsa.mono (by omega), hca.mono (by omega)⟩⟩; have HRC : Sl _ := ⟨HRB.out.2.below hb HRB.out.2.lt⟩; replace HD : Sl _ := ⟨HD.out.below hb⟩; clear HNM hb hsa hca s0 s1 s2 s3
      go_upto_region 9 with ((with_reducible show wpList _ _ _ _ _ _); first
        | (refine wpList_store_cell rfl 130 (.tmp 42) (.tmp 39) rfl rb 0 (.slice SA o.n3 sc) rfl rfl 147 #[.slice none 0 0, .slice none 0 0, .slice none 0 0, .int .i64 0] #[.slice SA o.n3 sc, .slice none 0 0, .slice none 0 0, .int .i64 0] HRC.out (by decide) rfl (by kernel_rfl) rfl rfl ?_; rintro w7 zm zs zb zq; have HRC7 : Sl _ := ⟨And.intro zm zb⟩; clear zm zs zb zq)
        | (refine wpList_store_cell rfl 130 (.tmp 44) (.tmp 40) rfl rb 1 (.slice CA o.n4 cc) rfl rfl 147 #[.slice SA o.n3 sc, .slice none 0 0, .slice none 0 0, .int .i64 0] #[.slice SA o.n3 sc, .slice CA o.n4 cc, .slice none 0 0, .int .i64 0] HRC7.out.2 (by simp) rfl (by kernel_rfl) rfl rfl ?_; rintro w8 zm zs zb zq; have HRC8 : Sl _ := ⟨And.intro zm zb⟩; clear zm zs zb zq))
      have HRD : Sl (RdM w8 rb b1 SA o.n3 sc (snm o) CA o.n4 cc (cnm o) none 0 0 [] 0 ∧ Below b1 w4 w8) := ⟨by
        have h1 := HB1.out; have h2 := HRB.out.1; have h3 := HW5.out; have hm : Mv rb w6 w8 := HRC7.out.1.trans HRC8.out.1; have hz : b1 ≤ w6.heap.size := (by have := h3.1.size; omega); refine ⟨⟨HRC8.out.2, HOS.out.1.mv hm (fun k hk => own_ne HOS.out.1 hk HRC.out (by decide)), HOS.out.2.mv hm (fun k hk => own_ne HOS.out.2 hk HRC.out (by decide)), FrD.nil w8 b1 (Nat.le_trans hz hm.size), by omega⟩, ?_⟩; have h4 : Below b1 w4 w5 := (by rw [← h1]; exact h3.2.2); have h5 : Below b1 w4 w6 := h4.trans (h3.1.mono (by omega))
        exact (MvP.of_mv hm).below h5 hz (fun k e => by rw [e]; omega)⟩
      clear HRC HRC7 HRC8 HOS HW5 HRB HB5; obtain ⟨lsb, hlsb⟩ : ∃ lsb, (linX t.data.toList).2 = lsb := ⟨_, rfl⟩; rw [hlsb] at HLL HPX2; have HBK : Sl (lnK lsb = t.data.toList) := ⟨(linX_back (t := t.data.toList) (ls := lsb) (by rw [← hlsb, ← HZ.out])).1⟩
      have HNK : Sl ((SNb o).length + (CNb o).length ≤ 104) := ⟨by
        obtain ⟨_, n1, n2, n3⟩ := nmOk_of HM.out.d.len HM.out.r.len HM.out.s.len HM.out.c.len HS0.out
        omega⟩
      have HN34 : Sl (o.n3 ≤ 200 ∧ o.n4 ≤ 200) := ⟨by
        obtain ⟨_, n1, n2, n3⟩ := nmOk_of HM.out.d.len HM.out.r.len HM.out.s.len HM.out.c.len HS0.out
        omega⟩
      have hlen : LL.length = ln := HLL.out.2.1; have hlb : lsb.length = ln := (by rw [← HLL.out.1, List.length_map]; exact hlen); have HLEN : Sl (LL.length = ln ∧ lsb.length = ln) := ⟨⟨hlen, hlb⟩⟩; clear hlsb hlen hlb s0 s1 s2 s3; go_wp2_with fail
      go_loopw [12, 13, 14, 15, 47] (fun _ _ _ _ s47 wr => ∃ (k : Nat) (A : Option Addr) (n c : Nat) (L : List RgV) (last : Nat), k ≤ ln ∧ s47 = .int .i64 k ∧ Sl (RdM wr rb b1 SA o.n3 sc (snm o) CA o.n4 cc (cnm o) A n c L last ∧ Below b1 w4 wr) ∧
        Sl (PInv (SNb o) (CNb o) ⟨L.map RgV.v, last⟩ (lsb.take k) ∧ lnsX (SNb o) (CNb o) ⟨L.map RgV.v, last⟩ k (lsb.drop k) = R)) (fun _ _ _ _ s47 _ => ln - (RowKit.intOf s47).toNat)
      case atStart => exact ⟨0, none, 0, 0, [], 0, Nat.zero_le _, rfl, HRD, ⟨⟨rfl, by simp, by simp, by simp, fun _ => rfl, by simp⟩, HPX2.out⟩⟩
      case round =>
        obtain ⟨k, A, n, c, L, last, hk, rfl, HRM, HPI⟩ := hrel; have HBW : Sl (Below w.heap.size w wr) := ⟨HB4.out.trans (HRM.out.2.mono (by have := HB1.out; have := HB4.out.size; omega))⟩
        by_cases hkn : k < ln
        · have hkI : decide ((k : Int) < (ln : Int)) = true := decide_eq_true (by omega); have hkI2 : (k : Int) < (ln : Int) := (by omega); obtain ⟨x, hx⟩ : ∃ x, LL[k]? = some x := ⟨_, List.getElem?_eq_getElem (by have := HLEN.out; omega)⟩; obtain ⟨gl, ol, hLA, hgl, hcl⟩ := HLL.out.2.flat (by omega); have hxl : lsb[k]? = some x.data.toList := (by rw [← HLL.out.1, List.getElem?_map, hx]; rfl)
          have x0 : wr.cell? ⟨gl, ol + k, none⟩ = some (.string x) := by
            obtain ⟨hk2, rfl⟩ := List.getElem?_eq_some_iff.1 hx; exact (HRM.out.2.cell (p := ⟨gl, ol + k, none⟩) (by have := HB1.out; show gl < b1; omega)).trans (hcl k hk2)
          have hxs : x.size ≤ 100000000 := by
            have h1 := line_le (List.mem_of_getElem? hxl); rw [HBK.out] at h1; have h2 : x.data.toList.length = x.size := rfl; have h3 : t.data.toList.length = t.size := rfl; have h4 := HTT.out; omega
          have HSP : Sl _ := ⟨wsplit_any x hxs wr (HXX.out.below HBW.out)⟩; have HST : Sl _ := ⟨lnsX_step (SNb o) (CNb o) (s := ⟨L.map RgV.v, last⟩) hxl⟩; have HXL : Sl _ := ⟨hxl⟩; subst hLA; clear hx hxl hxs hcl hgl; go_wp2_with fail
          (with_reducible refine HSP.out.mono ?_); rintro e w9 ⟨⟨FA, fn, fc, fl, rfl, hf1, hf2⟩, hb⟩
          have HB9 : Sl _ := ⟨hb⟩; have HFL : Sl _ := ⟨And.intro hf1 (own_base hf2 (base' := b1) (by have := HB1.out; have := HRM.out.2.size; have := HRM.out.1.blk.lt; have := HRM.out.1.hb; omega))⟩; clear HSP hb hf1 hf2 x0; obtain ⟨e0, he0⟩ : ∃ e0, (splX x.data.toList).1 = e0 := ⟨_, rfl⟩; have HE0 : Sl _ := ⟨he0⟩; rw [he0]; clear he0
          by_cases he : e0 = 0
          · subst he; have hsp : splX x.data.toList = (0, fl.map fdB) := (by rw [HFL.out.1, ← HE0.out]); have HSP : Sl _ := ⟨hsp⟩
            have hfn : fn ≤ 64 := by
              have h1 := (fdRow HFL.out.2).1.len; have h2 := splX_len hsp; rw [List.length_map] at h2; omega
            have hnl : n ≤ 500 := by
              have h1 := HRM.out.1.fr.len; have h2 := HPI.out.1.len; rw [List.length_map] at h2; omega
            have HLC := line_any ⟨rb, b1, SA, o.n3, sc, snm o, CA, o.n4, cc, cnm o, FA, fn, fc, fl, A, n, c, L⟩ last w9 (HRM.out.1.below HB9.out) HFL.out.2 hfn (fun e => HPI.out.1.emp (by rw [show L = [] from e]; rfl)) HPI.out.1.c20 hnl HN34.out (fun r hr => HPI.out.1.ok r.v (List.mem_map_of_mem hr)); dsimp only at HLC; have HLC : Sl _ := ⟨HLC⟩; clear hsp hfn hnl; have k00 : ((0 : Int) == 0) = true := rfl; go_wp2_with fail
            (with_reducible refine HLC.out.mono ?_); rintro e w10 ⟨hbl, z2, rfl, hz2, hgo⟩
            have HG : Sl _ := ⟨And.intro hbl (And.intro hz2 hgo)⟩; clear HLC hbl hz2 hgo
            by_cases hz20 : z2 = 0
            · subst hz20; have k01 : ((0 : Int) != 0) = false := rfl; obtain ⟨A', n', c', L', last', h1, h2⟩ := HG.out.2.2 rfl; have HNX : Sl (RdM w10 rb b1 SA o.n3 sc (snm o) CA o.n4 cc (cnm o) A' n' c' L' last' ∧ Below b1 w4 w10) := ⟨h1, (HRM.out.2.trans (HB9.out.mono (by have := HRM.out.1.hb; have := HRM.out.1.blk.lt; omega))).trans HG.out.1⟩
              have HNP : Sl (PInv (SNb o) (CNb o) ⟨L'.map RgV.v, last'⟩ (lsb.take (k + 1)) ∧ lnsX (SNb o) (CNb o) ⟨L'.map RgV.v, last'⟩ (k + 1) (lsb.drop (k + 1)) = R) := ⟨by
                have h3 : lnX (SNb o) (CNb o) ⟨L.map RgV.v, last⟩ (fl.map fdB) = (0, ⟨L'.map RgV.v, last'⟩) := h2; refine ⟨?_, ?_⟩
                · rw [List.take_add_one, HXL.out]; exact HPI.out.1.line HNK.out HSP.out h3
                · rw [← HPI.out.2, HST.out, HSP.out]; simp only [if_true]; rw [h3]
                  simp only [if_true]⟩
              clear h1 h2
              have hk2 : (k : Int) ≤ 100000000 := by
                have h1 := HLEN.out.2; have h2 := lnK_ge lsb; rw [HBK.out] at h2; have h3 : t.data.toList.length = t.size := rfl; have h4 := HTT.out; omega
              go_wp2_with fail; exact ⟨⟨k + 1, A', n', c', L', last', hkn, by go_num, HNX, HNP⟩, by simp [RowKit.intOf]; omega⟩
            · have ke : (z2 != 0) = true := (by simpa using hz20)
              have HV : Sl (R = (z2, (k : Int) + 1, [])) := ⟨by
                have h3 : z2 = (lnX (SNb o) (CNb o) ⟨L.map RgV.v, last⟩ (fl.map fdB)).1 := HG.out.2.1; rw [← HPI.out.2, HST.out, HSP.out]; simp only [if_true]
                rw [← h3, if_neg hz20]⟩
              have hk2 : (k : Int) ≤ 100000000 := by
                have h1 := HLEN.out.2; have h2 := lnK_ge lsb; rw [HBK.out] at h2; have h3 : t.data.toList.length = t.size := rfl; have h4 := HTT.out; omega
              go_wp2_with fail; refine bodyPost_ret (v := _) (by simp [results, Tryz.results36, go_sem]; rfl) rfl ?_; exact ⟨PrR.mt HV.out, (HBW.out.trans (HB9.out.mono HBW.out.size)).trans (HG.out.1.mono (by have := HB1.out; have := HB4.out.size; omega))⟩
          · have ke : (e0 != 0) = true := (by simpa using he); have ke2 : (e0 == 0) = false := (by simpa using he); have HV : Sl (R = (e0, (k : Int) + 1, [])) := ⟨by rw [← HPI.out.2, HST.out, HE0.out, if_neg he]⟩
            have hk2 : (k : Int) ≤ 100000000 := by
              have h1 := HLEN.out.2; have h2 := lnK_ge lsb; rw [HBK.out] at h2; have h3 : t.data.toList.length = t.size := rfl; have h4 := HTT.out; omega
            go_wp2_with fail; refine bodyPost_ret (v := _) (by simp [results, Tryz.results36, go_sem]; rfl) rfl ?_; exact ⟨PrR.mt HV.out, HBW.out.trans (HB9.out.mono HBW.out.size)⟩
        · obtain rfl : k = ln := (by omega); have hkI : decide ((k : Int) < (k : Int)) = false := (by simp); have y2 : wr.cell? ⟨rb, 2, none⟩ = some (.slice A n c) := HRM.out.1.blk.cell 2; have HV : Sl (R = (0, 0, L.map RgV.v)) := ⟨by rw [← HPI.out.2, List.drop_eq_nil_of_le (by have := HLEN.out; omega)]; rfl⟩; go_wp2_with fail; refine bodyPost_ret (v := _) (by simp [results, Tryz.results36, go_sem]; rfl) rfl ?_; exact ⟨⟨A, n, c, L, by rw [HV.out], HRM.out.1.fr.tb, by rw [HV.out]⟩, HBW.out⟩
    · have kz : (z != 0) = true := (by simpa using hz0); have HV : Sl (R = (z, 0, [])) := ⟨by rw [← HPX.out]; unfold parX; rw [HZ.out, if_neg hz0]⟩; go_wp2_with fail; refine bodyPost_ret (v := _) (by simp [results, Tryz.results36, go_sem]; rfl) rfl ?_; exact ⟨PrR.mt HV.out, HD.out.bl⟩
  · have kz : (s != 0) = true := (by simpa using hs0); have HV : Sl (R = (s, 0, [])) := ⟨by have := HRR.out; unfold parO at this; rw [HS0.out, if_neg hs0] at this; exact this.symm⟩; go_wp2_with fail; refine bodyPost_ret (v := _) (by simp [results, Tryz.results36, go_sem]; rfl) rfl ?_; exact ⟨PrR.mt HV.out, HD.out.bl⟩
end Go.Proofs.YtabkpbbjodfolaaGreatDoor
namespace Go.Proofs.YtabkpbbjodfolaaGreatDoor
set_option linter.unusedSimpArgs false
set_option linter.unusedVariables false
structure StI (L : List (List Int)) (n : Nat) (pre : List Int) (s : StS) : Prop where
  pos : ∀ x : Int, 0 ≤ x → (0 < s.1 x.toNat ↔ (∃ l ∈ L.take n, x ∈ l) ∨ x ∈ pre)
  nn : ∀ y, 0 ≤ s.1 y
  tw0 : 0 ≤ s.2
  tw : 0 < s.2 ↔ (∃ k i a b, k < i ∧ i < n ∧ L[k]? = some a ∧ L[i]? = some b ∧ ∃ x, x ∈ a ∧ x ∈ b) ∨ ∃ x ∈ pre, ∃ l ∈ L.take n, x ∈ l
  val : s.2 = 0 → (∀ i a, i < n → L[i]? = some a → ∀ x ∈ a, s.1 x.toNat = (i : Int) + 1) ∧ ∀ x ∈ pre, s.1 x.toNat = (n : Int) + 1
theorem StI.one {L : List (List Int)} {n : Nat} {pre : List Int} {s : StS} {x : Int} (h : StI L n pre s) (hL : ∀ l ∈ L, ∀ x ∈ l, 0 ≤ x) (hp : ∀ y ∈ pre, 0 ≤ y) (hx : 0 ≤ x) (hnp : x ∉ pre) : StI L n (pre ++ [x]) (stU n s x) := by
  have hseen : 0 < s.1 x.toNat ↔ ∃ l ∈ L.take n, x ∈ l := by
    rw [h.pos x hx]; exact ⟨fun hh => hh.resolve_right hnp, .inl⟩
  have hz : ∀ y, 0 ≤ y → ((stU n s x).1 y.toNat = if y = x then (n : Int) + 1 else s.1 y.toNat) := fun y hy => by
    unfold stU; simp only []
    by_cases e : y = x
    · subst e; rw [if_pos rfl, if_pos rfl]
    · rw [if_neg (by omega), if_neg e]
  have ht : (stU n s x).2 = if 0 < s.1 x.toNat ∧ s.2 = 0 then (n : Int) + 1 else s.2 := rfl
  refine ⟨fun y hy => ?_, fun y => ?_, ?_, ?_, fun h0 => ?_⟩
  · rw [hz y hy]
    by_cases e : y = x
    · rw [if_pos e]; exact ⟨fun _ => .inr (by simp [e]), fun _ => by omega⟩
    · rw [if_neg e, h.pos y hy]; constructor
      · rintro (h1 | h1)
        · exact .inl h1
        · exact .inr (List.mem_append_left _ h1)
      · rintro (h1 | h1)
        · exact .inl h1
        · rcases List.mem_append.1 h1 with h1 | h1
          · exact .inr h1
          · exact absurd (by simpa using h1) e
  · unfold stU; simp only []
    split
    · omega
    · exact h.nn y
  · rw [ht]; have := h.tw0
    split <;> omega
  · have h1 : 0 < (stU n s x).2 ↔ 0 < s.2 ∨ 0 < s.1 x.toNat := by
      rw [ht]; have := h.tw0
      by_cases hc : 0 < s.1 x.toNat ∧ s.2 = 0
      · rw [if_pos hc]; exact ⟨fun _ => .inr hc.1, fun _ => by omega⟩
      · rw [if_neg hc]; exact ⟨.inl, fun hh => hh.elim id fun h2 => by have : ¬ s.2 = 0 := fun e => hc ⟨h2, e⟩; omega⟩
    rw [h1, hseen, h.tw]; constructor
    · rintro ((hh | ⟨y, hy, l, hl, hyl⟩) | ⟨l, hl, hxl⟩)
      · exact .inl hh
      · exact .inr ⟨y, List.mem_append_left _ hy, l, hl, hyl⟩
      · exact .inr ⟨x, by simp, l, hl, hxl⟩
    · rintro (hh | ⟨y, hy, l, hl, hyl⟩)
      · exact .inl (.inl hh)
      · rcases List.mem_append.1 hy with hy | hy
        · exact .inl (.inr ⟨y, hy, l, hl, hyl⟩)
        · have : y = x := (by simpa using hy); exact .inr ⟨l, hl, by rw [← this]; exact hyl⟩
  · rw [ht] at h0
    have hns : ¬ 0 < s.1 x.toNat := fun hc => by
      by_cases e : s.2 = 0
      · rw [if_pos ⟨hc, e⟩] at h0; omega
      · rw [if_neg (fun hh => e hh.2)] at h0; exact e h0
    have h00 : s.2 = 0 := (by rw [if_neg (fun hh => hns hh.1)] at h0; exact h0); obtain ⟨v1, v2⟩ := h.val h00; have hnl : ¬ ∃ l ∈ L.take n, x ∈ l := fun hh => hns (hseen.2 hh)
    refine ⟨fun i a hi ha y hy => ?_, fun y hy => ?_⟩
    · have hm : a ∈ L.take n := by
        refine List.mem_of_getElem? (i := i) ?_; rw [List.getElem?_take_of_lt hi]; exact ha
      rw [hz y (hL a (List.mem_of_getElem? ha) y hy), if_neg (fun e => hnl ⟨a, hm, by rw [← e]; exact hy⟩)]; exact v1 i a hi ha y hy
    · rcases List.mem_append.1 hy with hy | hy
      · rw [hz y (hp y hy), if_neg (fun e => hnp (by rw [← e]; exact hy))]; exact v2 y hy
      · have : y = x := (by simpa using hy); subst this; rw [hz y hx, if_pos rfl]
theorem StI.list {L : List (List Int)} {n : Nat} (hL : ∀ l ∈ L, ∀ x ∈ l, 0 ≤ x) : ∀ (l pre : List Int) (s : StS), StI L n pre s → (∀ y ∈ pre ++ l, 0 ≤ y) → (pre ++ l).Pairwise (· < ·) → StI L n (pre ++ l) (l.foldl (stU n) s)
  | [], pre, s, h, _, _ => by rw [List.append_nil]; exact h
  | x :: l, pre, s, h, h1, h2 => by
    rw [List.foldl_cons, show pre ++ x :: l = (pre ++ [x]) ++ l by simp]
    have hnp : x ∉ pre := fun hm => by
      have := (List.pairwise_append.1 h2).2.2 x hm x List.mem_cons_self; omega
    exact StI.list hL l (pre ++ [x]) _ (h.one hL (fun y hy => h1 y (List.mem_append_left _ hy)) (h1 x (by simp)) hnp) (by simpa using h1) (by simpa using h2)
theorem StI.next {L : List (List Int)} {n : Nat} {l : List Int} {s : StS} (h : StI L n l s) (hl : L[n]? = some l) : StI L (n + 1) [] s := by
  have hm : ∀ x : Int, (∃ a ∈ L.take (n + 1), x ∈ a) ↔ (∃ a ∈ L.take n, x ∈ a) ∨ x ∈ l := fun x => by
    rw [List.take_add_one, hl]; constructor
    · rintro ⟨a, ha, hx⟩; rcases List.mem_append.1 ha with ha | ha
      · exact .inl ⟨a, ha, hx⟩
      · have : a = l := (by simpa using ha); exact .inr (by rw [← this]; exact hx)
    · rintro (⟨a, ha, hx⟩ | hx)
      · exact ⟨a, List.mem_append_left _ ha, hx⟩
      · exact ⟨l, by simp, hx⟩
  refine ⟨fun x hx => ?_, h.nn, h.tw0, h.tw.trans ?_, fun h0 => ⟨fun i a hi ha x hx => ?_, fun x hx => by cases hx⟩⟩
  · rw [h.pos x hx, hm x]; exact ⟨.inl, fun hh => hh.elim id (fun e => by cases e)⟩
  · constructor
    · rintro (⟨k, i, a, b, h1, h2, h3, h4, h5⟩ | ⟨x, hx, a, ha, hxa⟩)
      · exact .inl ⟨k, i, a, b, h1, by omega, h3, h4, h5⟩
      · obtain ⟨k, hk, e⟩ := List.getElem_of_mem ha; have hkn : k < n := (by rw [List.length_take] at hk; omega); refine .inl ⟨k, n, a, l, hkn, by omega, ?_, hl, x, hxa, hx⟩; rw [← List.getElem?_take_of_lt hkn, List.getElem?_eq_getElem hk, e]
    · rintro (⟨k, i, a, b, h1, h2, h3, h4, x, hxa, hxb⟩ | ⟨x, hx, _⟩)
      · rcases Nat.lt_or_ge i n with h6 | h6
        · exact .inl ⟨k, i, a, b, h1, h6, h3, h4, x, hxa, hxb⟩
        · obtain rfl : i = n := (by omega); rw [hl] at h4; injection h4 with h4
          subst h4; refine .inr ⟨x, hxb, a, ?_, hxa⟩; refine List.mem_of_getElem? (i := k) ?_; rw [List.getElem?_take_of_lt h1]; exact h3
      · cases hx
  · obtain ⟨v1, v2⟩ := h.val h0; rcases Nat.lt_or_ge i n with h6 | h6
    · exact v1 i a h6 ha x hx
    · obtain rfl : i = n := (by omega); rw [hl] at ha; injection ha with ha
      subst ha; exact v2 x hx
theorem StI.all {L : List (List Int)} (hL : ∀ l ∈ L, l.Pairwise (· < ·) ∧ ∀ x ∈ l, 0 ≤ x) : ∀ (m n : Nat) (s : StS), L.length = n + m → StI L n [] s → StI L L.length [] (stV n (L.drop n) s)
  | 0, n, s, hn, h => by
    rw [List.drop_eq_nil_of_le (by omega), stV, show L.length = n by omega]; exact h
  | m+1, n, s, hn, h => by
    have hi : n < L.length := (by omega); have hx := List.getElem?_eq_getElem hi; generalize L[n] = l at hx; rw [stV_drop s hx]; have hl := hL l (List.mem_of_getElem? hx); have h1 := StI.list (fun l hl => (hL l hl).2) l [] s h (by simpa using hl.2) (by simpa using hl.1); rw [List.nil_append] at h1; exact StI.all hL m (n + 1) _ (by omega) (h1.next hx)
theorem stV_I {L : List (List Int)} (hL : ∀ l ∈ L, l.Pairwise (· < ·) ∧ ∀ x ∈ l, 0 ≤ x) : StI L L.length [] (stV 0 L (fun _ => 0, 0)) := by
  have h0 : StI L 0 [] ((fun _ => 0, 0) : StS) := by
    refine ⟨fun x _ => ⟨fun h => absurd h (by simp), fun h => ?_⟩, fun _ => Int.le_refl _, Int.le_refl _, ⟨fun h => absurd h (by simp), fun h => ?_⟩, fun _ => ⟨fun i _ h => absurd h (Nat.not_lt_zero _), fun x hx => by cases hx⟩⟩
    · rcases h with ⟨l, hl, _⟩ | h
      · rw [List.take_zero] at hl; cases hl
      · cases h
    · rcases h with ⟨_, i, _, _, _, h, _⟩ | ⟨x, hx, _⟩
      · exact absurd h (Nat.not_lt_zero _)
      · cases hx
  have := StI.all hL L.length 0 _ (by omega) h0
  rwa [List.drop_zero] at this
end Go.Proofs.YtabkpbbjodfolaaGreatDoor
namespace Go.Proofs.YtabkpbbjodfolaaGreatDoor
set_option linter.unusedSimpArgs false
set_option linter.unusedVariables false
structure TOK (many : Int) (M : List (List Int)) : Prop where
  asc : ∀ l ∈ M, l.Pairwise (· < ·) ∧ ∀ x ∈ l, 0 ≤ x ∧ x < many
  tw : (stV 0 M (fun _ => 0, 0)).2 = 0
theorem TOK.i {many : Int} {M : List (List Int)} (h : TOK many M) : StI M M.length [] (stV 0 M (fun _ => 0, 0)) := stV_I fun l hl => ⟨(h.asc l hl).1, fun x hx => ((h.asc l hl).2 x hx).1⟩
def AllIn (L : List RgV) (r : RgV) (p : Nat) : Prop := (∀ x ∈ r.l, ∃ l ∈ (L.map RgV.l).take p, x ∈ l) ∧ ∀ x ∈ r.k, ∃ l ∈ (L.map RgV.k).take p, x ∈ l
theorem AllIn.mono {L : List RgV} {r : RgV} {p q : Nat} (h : AllIn L r p) (hpq : p ≤ q) : AllIn L r q := by
  have hh : ∀ M : List (List Int), ∀ l ∈ M.take p, l ∈ M.take q := fun M l hl => by
    have : M.take p = (M.take q).take p := (by rw [List.take_take, Nat.min_eq_left hpq]); rw [this] at hl; exact List.mem_of_mem_take hl
  exact ⟨fun x hx => by obtain ⟨l, hl, e⟩ := h.1 x hx; exact ⟨l, hh _ l hl, e⟩, fun x hx => by obtain ⟨l, hl, e⟩ := h.2 x hx; exact ⟨l, hh _ l hl, e⟩⟩
end Go.Proofs.YtabkpbbjodfolaaGreatDoor
