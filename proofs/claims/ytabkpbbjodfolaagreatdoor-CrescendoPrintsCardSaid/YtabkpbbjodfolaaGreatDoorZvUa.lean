/- The law CrescendoPrints. -/
import Derived.Test.YtabkpbbjodfolaaGreatDoorZvEa
import Derived.Test.YtabkpbbjodfolaaGreatDoorZvQa
import Derived.Test.YtabkpbbjodfolaaGreatDoorZvRa
import Derived.Test.YtabkpbbjodfolaaGreatDoorZvSa
import Derived.Test.YtabkpbbjodfolaaGreatDoorZvTa
namespace Go.Proofs.YtabkpbbjodfolaaGreatDoor
set_option linter.unusedSimpArgs false
open Go.RowKit
set_option linter.unusedVariables false
theorem printE_ok {o : SpO} {L : List RgV} (h : printE o L = 0) : specE o = 0 ∧ L.length ≤ 500 ∧ ∀ r ∈ L, regE o r = 0 := by
  unfold printE at h
  split at h
  · rename_i h1
    split at h
    · cases h
    · rename_i h2; refine ⟨h1, by omega, fun r hr => ?_⟩; obtain ⟨i, hi, rfl⟩ := List.getElem_of_mem hr; have := fstE_zero h i (Nat.zero_le _) (by omega); unfold frmK at this; rw [List.getElem?_eq_getElem hi] at this; exact this
  · rename_i h1; exact absurd h h1
set_option maxHeartbeats 6400000 in
set_option maxRecDepth 100000 in
theorem crescendoPrints_any (o : SpO) (T : Option Addr) (n c : Nat) (L : List RgV) (w : World) (hM : SpM w o) (hF : SpF o) (hT : TbM w T n c L) (hX : MXp w 0) :
    Calls Tryz.prog 7 #[.agg #[.slice o.A1 o.n1 o.c1, .slice o.A2 o.n2 o.c2, .slice o.A3 o.n3 o.c3, .slice o.A4 o.n4 o.c4], .slice T n c] w fun e w' => e = .returned (.bool true) ∧ Below w.heap.size w w' := by
  have HD : Sl (Lg w w []) := ⟨Lg.nil w⟩; have HM : Sl _ := ⟨hM⟩; have HF : Sl _ := ⟨hF⟩; have HT : Sl _ := ⟨hT⟩; have HX : Sl _ := ⟨hX⟩; clear hM hF hT hX; go_enter Tryz.func7, Tryz.ntmps7
  go_upto_region 1 with ((with_reducible show wpList _ _ _ _ _ _); first
    | (refine wpList_box_new 2 rfl rfl 33 (.tmp 0) rfl #[.slice o.A1 o.n1 o.c1, .slice o.A2 o.n2 o.c2, .slice o.A3 o.n3 o.c3, .slice o.A4 o.n4 o.c4] rfl (fun _ => by kernel_rfl) ?_; rintro w1 g3 zg zm zs zb; replace HD : Sl _ := ⟨HD.out.new zg zm zb⟩; clear zg zm zs zb))
  have c30 : w1.cell? ⟨g3, 0, none⟩ = some (.slice o.A1 o.n1 o.c1) := (HD.out.at_ 0 rfl).cell 0; have c31 : w1.cell? ⟨g3, 1, none⟩ = some (.slice o.A2 o.n2 o.c2) := (HD.out.at_ 0 rfl).cell 1; have c32 : w1.cell? ⟨g3, 2, none⟩ = some (.slice o.A3 o.n3 o.c3) := (HD.out.at_ 0 rfl).cell 2; have c33 : w1.cell? ⟨g3, 3, none⟩ = some (.slice o.A4 o.n4 o.c4) := (HD.out.at_ 0 rfl).cell 3; go_wp2_with fail
  (with_reducible refine (lFar_any o _ (HM.out.below HD.out.bl)).mono ?_); rintro e w4 ⟨⟨b1, rfl⟩, hb⟩
  replace HD : Sl _ := ⟨HD.out.below hb⟩; clear hb c30 c31 c32 c33
  cases b1 with
  | true =>
    go_wp2_with fail
    (with_reducible refine (shownS_any _).mono ?_); rintro e w9 ⟨rfl, hb⟩
    have HB9 : Sl _ := ⟨HD.out.bl.trans (hb.mono HD.out.bl.size)⟩; clear hb; go_wp2_with fail; go_ret; exact ⟨rfl, HB9.out⟩
  | false =>
    go_wp2_with fail
    (with_reducible refine (lfarB_any T n c L 520 _ (HT.out.below HD.out.bl) (by decide)).mono ?_); rintro e w5 ⟨⟨b2, rfl, hfar⟩, hb⟩
    replace HD : Sl _ := ⟨HD.out.below hb⟩; have HFA : Sl _ := ⟨hfar⟩; clear hb hfar
    cases b2 with
    | true =>
      go_wp2_with fail
      (with_reducible refine (shownS_any _).mono ?_); rintro e w9 ⟨rfl, hb⟩
      have HB9 : Sl _ := ⟨HD.out.bl.trans (hb.mono HD.out.bl.size)⟩; clear hb; go_wp2_with fail; go_ret; exact ⟨rfl, HB9.out⟩
    | false =>
      have HFB : Sl _ := ⟨HFA.out rfl⟩; clear HFA; have c30 : w5.cell? ⟨g3, 0, none⟩ = some (.slice o.A1 o.n1 o.c1) := (HD.out.at_ 0 rfl).cell 0; have c31 : w5.cell? ⟨g3, 1, none⟩ = some (.slice o.A2 o.n2 o.c2) := (HD.out.at_ 0 rfl).cell 1; have c32 : w5.cell? ⟨g3, 2, none⟩ = some (.slice o.A3 o.n3 o.c3) := (HD.out.at_ 0 rfl).cell 2; have c33 : w5.cell? ⟨g3, 3, none⟩ = some (.slice o.A4 o.n4 o.c4) := (HD.out.at_ 0 rfl).cell 3; go_wp2_with fail
      (with_reducible refine (crPrint_any o T n c L _ (HM.out.below HD.out.bl) HF.out (HT.out.below HD.out.bl)).mono ?_); rintro e w6 ⟨rfl, hb⟩
      replace HD : Sl _ := ⟨HD.out.below hb⟩; clear hb c30 c31 c32 c33; obtain ⟨PX, hPX⟩ : ∃ PX, printX o L = PX := ⟨_, rfl⟩; obtain ⟨PE, hPE⟩ : ∃ PE, printE o L = PE := ⟨_, rfl⟩; have HP : Sl _ := ⟨And.intro hPX hPE⟩; rw [hPX, hPE]; clear hPX hPE; have c30 : w6.cell? ⟨g3, 0, none⟩ = some (.slice o.A1 o.n1 o.c1) := (HD.out.at_ 0 rfl).cell 0; have c31 : w6.cell? ⟨g3, 1, none⟩ = some (.slice o.A2 o.n2 o.c2) := (HD.out.at_ 0 rfl).cell 1; have c32 : w6.cell? ⟨g3, 2, none⟩ = some (.slice o.A3 o.n3 o.c3) := (HD.out.at_ 0 rfl).cell 2; have c33 : w6.cell? ⟨g3, 3, none⟩ = some (.slice o.A4 o.n4 o.c4) := (HD.out.at_ 0 rfl).cell 3; have HRP : Sl _ := ⟨rPrint_any o T n c L _ (HM.out.below HD.out.bl) HF.out (HT.out.below HD.out.bl)⟩; rw [HP.out.1, HP.out.2] at HRP; go_wp2_with fail
      (with_reducible refine HRP.out.mono ?_); rintro e w7 ⟨rfl, hb⟩
      replace HD : Sl _ := ⟨HD.out.below hb⟩; clear hb c30 c31 c32 c33 HRP; have kxx : (PX.toList == PX.toList) = true := (by simp)
      by_cases hE : PE = 0
      · subst hE; have k0 : ((0 : Int) == 0) = true := rfl; have k1 : ((0 : Int) != 0) = false := rfl; have HPO : Sl _ := ⟨printE_ok HP.out.2⟩; have HLN : Sl (L.length = n) := ⟨HT.out.row.len⟩; obtain ⟨HNM, hnl1, hnl2, hnl3⟩ := nmOk_of HM.out.d.len HM.out.r.len HM.out.s.len HM.out.c.len HPO.out.1; have HNO : Sl _ := ⟨And.intro HNM (And.intro hnl1 (And.intro hnl2 hnl3))⟩; clear HNM hnl1 hnl2 hnl3; have HRV : Sl (∀ r ∈ L, rvOk (SNb o) (CNb o) r.v) := ⟨fun r hr => (regE_rv HNO.out.2.1 HNO.out.2.2.1).1 (HPO.out.2.2 r hr)⟩
        have HSUM : Sl (((L.map RgV.v).map fun r => r.1.length + r.2.length).sum ≤ 2000) := ⟨by
          have h := HFB.out.2.2; unfold totL at h
          have e : ((L.map RgV.v).map fun r => r.1.length + r.2.length) = L.map fun r => r.n + r.m := by
            rw [List.map_map]; refine List.map_congr_left fun r hr => ?_
            have h1 := (HT.out.all r hr).s.1; have h2 := (HT.out.all r hr).c.1; show r.l.length + r.k.length = _; omega
          rw [e]
          exact h⟩
        have HPB : Sl (PX.data.toList = lnK (prL (SNb o) (CNb o) (L.map RgV.v))) := ⟨by
          rw [← prtX_by, ← HP.out.1]; unfold printX
          rw [if_pos HP.out.2]⟩
        have HPP : Sl (parO o PX = (0, 0, L.map RgV.v)) := ⟨by
          unfold parO; rw [if_pos HPO.out.1, HPB.out]
          exact par_forth HNO.out.1 (by have := HNO.out; omega) (fun r hr => by obtain ⟨y, hy, rfl⟩ := List.mem_map.1 hr; exact HRV.out y hy) (by rw [List.length_map]; exact HPO.out.2.1) HSUM.out⟩
        have HSZ : Sl (PX.size ≤ 100000000) := ⟨by
          have h1 := (prL_size HNO.out.1 (L.map RgV.v) (fun r hr => by obtain ⟨y, hy, rfl⟩ := List.mem_map.1 hr; exact HRV.out y hy)).1; rw [← HPB.out] at h1; have h2 := Nat.le_trans h1 (Nat.add_le_add_right (Nat.mul_le_mul_left 34 HSUM.out) (36 * (L.map RgV.v).length)); have h3 := HPO.out.2.1; rw [List.length_map] at h2; have h4 : PX.data.toList.length = PX.size := rfl
          omega⟩
        have c30 : w7.cell? ⟨g3, 0, none⟩ = some (.slice o.A1 o.n1 o.c1) := (HD.out.at_ 0 rfl).cell 0; have c31 : w7.cell? ⟨g3, 1, none⟩ = some (.slice o.A2 o.n2 o.c2) := (HD.out.at_ 0 rfl).cell 1; have c32 : w7.cell? ⟨g3, 2, none⟩ = some (.slice o.A3 o.n3 o.c3) := (HD.out.at_ 0 rfl).cell 2; have c33 : w7.cell? ⟨g3, 3, none⟩ = some (.slice o.A4 o.n4 o.c4) := (HD.out.at_ 0 rfl).cell 3; have HPA : Sl _ := ⟨crParse_any o PX _ (HM.out.below HD.out.bl) HF.out (HX.out.below HD.out.bl) HSZ.out⟩; go_wp2_with fail
        (with_reducible refine HPA.out.mono ?_); rintro e w8 ⟨⟨A, m, d, K, rfl, hk1, hk2⟩, hb⟩
        replace HD : Sl _ := ⟨HD.out.below hb⟩; rw [HPP.out] at hk2 ⊢; have hk2 : K.map RgV.v = L.map RgV.v := hk2; have HK : Sl (TbM w8 A m d K ∧ K.map RgV.v = L.map RgV.v) := ⟨And.intro hk1 hk2⟩
        have hmn : m = n := by
          have h1 := congrArg List.length hk2; rw [List.length_map, List.length_map] at h1; have h2 := hk1.row.len; have h3 := HLN.out; omega
        subst hmn; clear hb hk1 hk2 c30 c31 c32 c33 HPA
        have HSF : Sl _ := ⟨sameF_any A T m d c K L _ HK.out.1 (HT.out.below HD.out.bl) HK.out.2.symm (by have := HPO.out.2.1; have := HLN.out; omega) (fun r hr => by
          have hv : r.v ∈ L.map RgV.v := (by rw [← HK.out.2]; exact List.mem_map_of_mem hr); obtain ⟨y, hy, e⟩ := List.mem_map.1 hv; have h1 := HFB.out.2.1 y hy; have h2 := (HT.out.all y hy).s.1; have h3 := (HT.out.all y hy).c.1; have h4 := (HK.out.1.all r hr).s.1; have h5 := (HK.out.1.all r hr).c.1; have e1 : y.l = r.l := congrArg Prod.fst e; have e2 : y.k = r.k := congrArg Prod.snd e; rw [e1] at h2; rw [e2] at h3
          omega)⟩
        go_wp2_with fail
        (with_reducible refine HSF.out.mono ?_); rintro e w9 ⟨rfl, hb⟩
        replace HD : Sl _ := ⟨HD.out.below hb⟩; clear hb HSF; go_wp2_with fail
        (with_reducible refine (shownS_any _).mono ?_); rintro e w10 ⟨rfl, hb⟩
        have HB9 : Sl _ := ⟨HD.out.bl.trans (hb.mono HD.out.bl.size)⟩; clear hb; go_wp2_with fail; go_ret; exact ⟨rfl, HB9.out⟩
      · have k0 : (PE == 0) = false := (by simpa using hE); have k1 : (PE != PE) = false := (by simp); go_wp2_with fail
        (with_reducible refine (shownS_any _).mono ?_); rintro e w9 ⟨rfl, hb⟩
        have HB9 : Sl _ := ⟨HD.out.bl.trans (hb.mono HD.out.bl.size)⟩; clear hb; go_wp2_with fail; go_ret; exact ⟨rfl, HB9.out⟩
end Go.Proofs.YtabkpbbjodfolaaGreatDoor
