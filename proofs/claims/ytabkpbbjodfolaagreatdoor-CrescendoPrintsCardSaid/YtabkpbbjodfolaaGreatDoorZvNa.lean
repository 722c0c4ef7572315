/- crescendo: has a line the form that it needs? -/
import Derived.Test.YtabkpbbjodfolaaGreatDoorZvMa
import Derived.Test.YtabkpbbjodfolaaGreatDoorZvT
namespace Go.Proofs.YtabkpbbjodfolaaGreatDoor
set_option linter.unusedSimpArgs false
open Go.RowKit
set_option linter.unusedVariables false
def fdS (fl : List FdV) : List By := fl.map fun f => f.2.data.toList
theorem fdS_map (fl : List FdV) : (fl.map fdB).map (·.2) = fdS fl := by rw [List.map_map]; rfl
structure RdM (W : World) (rb base : Nat) (SA : Option Addr) (sn sc : Nat) (SL : List ByteArray) (CA : Option Addr) (cn cc : Nat) (CL : List ByteArray) (A : Option Addr) (n c : Nat) (L : List RgV) (last : Nat) : Prop where
  blk : Blk W rb 147 #[.slice SA sn sc, .slice CA cn cc, .slice A n c, .int .i64 (last : Int)]
  ss : OS W base SA sn sc SL
  cs : OS W base CA cn cc CL
  fr : FrD W base A n c L
  hb : base ≤ rb
theorem StR.below {w w' : World} {A : Option Addr} {n : Nat} {l : List ByteArray} (h : StR w A n l) (hb : Below w.heap.size w w') : StR w' A n l := ⟨h.1, (h.2.below hb).more hb.size⟩
theorem RdM.below {W W' : World} {rb base sn sc cn cc n c last : Nat} {SA CA A : Option Addr} {SL CL : List ByteArray} {L : List RgV} (h : RdM W rb base SA sn sc SL CA cn cc CL A n c L last) (hb : Below W.heap.size W W') : RdM W' rb base SA sn sc SL CA cn cc CL A n c L last :=
  ⟨h.blk.below hb h.blk.lt, h.ss.below hb, h.cs.below hb, h.fr.below hb, h.hb⟩
theorem lateK_step {late : Bool} {fl : List FdV} {k : Nat} {f : FdV} (h : fl[k]? = some f) : lateK late (fdS (fl.drop k)) = if f.2.data.toList.head? = some 43 then lateK true (fdS (fl.drop (k + 1))) else if late = true ∨ (64 : UInt8) ∉ f.2.data.toList then false else lateK late (fdS (fl.drop (k + 1))) := by
  obtain ⟨hk, rfl⟩ := List.getElem?_eq_some_iff.1 h; rw [List.drop_eq_getElem_cons hk]; rfl
theorem alloc_fd (w : World) : (Instr.alloc 201 true (.tuple #[])).run Tryz.prog w = .ok (.pointer (some ⟨w.heap.size, 0, none⟩)) (w.alloc (.cells #[.bool false, .string ⟨#[]⟩] 201)) := by kernel_rfl
set_option maxHeartbeats 6400000 in
set_option maxRecDepth 100000 in
theorem formed_any (rb base : Nat) (SA : Option Addr) (sn sc : Nat) (SL : List ByteArray) (CA : Option Addr) (cn cc : Nat) (CL : List ByteArray) (A : Option Addr) (n c : Nat) (L : List RgV) (last : Nat) (FA : Option Addr) (fn fc : Nat) (fl : List FdV) (w : World)
    (hR : RdM w rb base SA sn sc SL CA cn cc CL A n c L last) (hF : RowG w FA fn 2 fdC fl) (hfc : fn ≤ fc ∧ fc ≤ maxLen) (hfn : fn ≤ 64) (hL0 : L = [] → last = 0) (hll : last ≤ 1000) (hn : n ≤ 1000) :
    Calls Tryz.prog 131 #[.pointer (some ⟨rb, 0, none⟩), .slice FA fn fc] w fun e w' => e = .returned (.bool (psOk ⟨L.map RgV.v, last⟩ (fl.map fdB))) ∧ Below w.heap.size w w' := by
  have HR : Sl _ := ⟨hR⟩; have HF : Sl _ := ⟨hF⟩; have hfl := hF.len; obtain ⟨PB, hPB⟩ : ∃ PB, psOk ⟨L.map RgV.v, last⟩ (fl.map fdB) = PB := ⟨_, rfl⟩; have HPB : Sl _ := ⟨hPB⟩; rw [hPB]; have HAQ : Sl _ := ⟨anyq_any FA fn fc fl w hF hfc (by omega)⟩; clear hPB hR hF
  by_cases h0 : fn = 0
  · have HV : Sl (PB = false) := ⟨by
      have : fl = [] := List.eq_nil_of_length_eq_zero (by omega); rw [← HPB.out, this]
      rfl⟩
    rw [HV.out]; subst h0; go_enter Tryz.func131, Tryz.ntmps131; go_wp2_with fail; go_ret; exact ⟨rfl, Below.refl _ _⟩
  · have k0 : ((fn : Int) == 0) = false := (by simp; omega); have k0b : ¬ (fn : Int) = 0 := (by omega)
    obtain ⟨f0, tl, hfe⟩ : ∃ f0 tl, fl = f0 :: tl := by
      cases hfl' : fl with
      | nil => rw [hfl'] at hfl; simp at hfl; omega
      | cons a b => exact ⟨a, b, rfl⟩
    have htl : tl.length + 1 = fn := (by rw [hfe] at hfl; simpa using hfl)
    have HPS : Sl (PB = (decide (tl.length ≤ 20) && !(fl.any (·.1)) && (if f0.2.data.toList = kF then lateK false (fdS tl) else if f0.2.data.toList = kM then decide (1 ≤ tl.length) && decide (last = 20) && lateK (decide ((lastR (L.map RgV.v)).2 ≠ [])) (fdS tl) else false))) := ⟨by
      have hall : ∀ l : List FdV, (l.map fdB).all (fun f => !f.1) = !(l.any (·.1)) := fun l => by
        induction l with
        | nil => rfl
        | cons a l ih => rw [List.map_cons, List.all_cons, ih, List.any_cons, Bool.not_or]; rfl
      rw [← HPB.out, hfe, List.map_cons]; show (decide ((tl.map fdB).length ≤ 20) && (fdB f0 :: tl.map fdB).all (fun f => !f.1) && _) = _; have h1 : (fdB f0 :: tl.map fdB).all (fun f => !f.1) = !((f0 :: tl).any (·.1)) := hall (f0 :: tl); rw [h1, fdS_map]; simp only [List.length_map]
      rfl⟩
    clear HPB
    by_cases h21 : fn ≤ 21
    · have k1 : decide ((21 : Int) < (fn : Int)) = false := decide_eq_false (by omega); have k1b : ¬ (21 : Int) < (fn : Int) := (by omega); rw [decide_eq_true (show tl.length ≤ 20 by omega), Bool.true_and] at HPS; obtain ⟨QB, hQB⟩ : ∃ QB, fl.any (·.1) = QB := ⟨_, rfl⟩; rw [hQB] at HPS HAQ
      cases QB with
      | true =>
        rw [Bool.not_true, Bool.false_and] at HPS; rw [HPS.out]; clear hQB hfl hfe htl; go_enter Tryz.func131, Tryz.ntmps131; go_wp2_with fail; refine HAQ.out.mono ?_; rintro e w2 ⟨rfl, hb⟩; have HB : Sl _ := ⟨hb⟩; clear hb HAQ; go_wp2_with fail; go_ret; exact ⟨rfl, HB.out⟩
      | false =>
        rw [Bool.not_false, Bool.true_and] at HPS; clear hQB; go_enter Tryz.func131, Tryz.ntmps131; go_wp2_with fail; refine HAQ.out.mono ?_; rintro e w2 ⟨rfl, hb⟩; have HB : Sl _ := ⟨hb⟩; clear hb HAQ; obtain ⟨gb, o, x, hA, hgb, hx, hcc⟩ := (HF.out.below HB.out).at_ (i := 0) (by decide) (by omega); rw [hfe] at hx; injection hx with hx
        subst hx; have x1 : w2.cell? ⟨gb, o + 1, none⟩ = some (.string f0.2) := hcc 1 _ rfl; clear hcc
        have HCE : Sl (∀ W, Below w.heap.size w W → ∀ (k : Nat) (x : FdV), tl[k]? = some x → W.cell? ⟨gb, o + 2 + k * 2, none⟩ = some (.bool x.1) ∧ W.cell? ⟨gb, o + 2 + k * 2 + 1, none⟩ = some (.string x.2)) := ⟨fun W hW k x hk => by
          have hkl := (List.getElem?_eq_some_iff.1 hk).1; obtain ⟨gb', o', x', hA', _, hx', hcc'⟩ := (HF.out.below hW).at_ (i := k + 1) (by decide) (by omega); rw [hA] at hA'; injection hA' with hA'
          injection hA' with e1 e2
          subst e1 e2; rw [hfe, List.getElem?_cons_succ, hk] at hx'; injection hx' with hx'
          subst hx'; have e : o + 2 + k * 2 = o + (k + 1) * 2 := (by omega); rw [e]
          exact ⟨hcc' 0 _ rfl, hcc' 1 _ rfl⟩⟩
        have HBW : Sl _ := ⟨HB.out⟩; have HTL : Sl (fl = f0 :: tl) := ⟨hfe⟩; have htle : f0.2.toList = f0.2.data.toList := ByteArray.toList_eq _; have hlt : tl.length = fn - 1 := (by omega); subst hA; clear hfe hfl
        by_cases hF : f0.2.data.toList = kF
        · have e1 : (f0.2.toList == [102, 114, 97, 109, 101]) = true := (by rw [htle, hF]; rfl); rw [if_pos hF] at HPS; clear hF htle
          by_cases h1 : fn = 1
          · have HT0 : Sl (tl = []) := ⟨List.eq_nil_of_length_eq_zero (by omega)⟩; rw [HT0.out] at HPS; subst h1; go_wp2_with fail
            all_goals (
              go_loopw [4, 5, 7, 56] (fun s4 s5 _ s56 wr => s56 = .int .i64 0 ∧ s5 = .bool false ∧ s4 = .bool false ∧ Sl (Below w.heap.size w wr)) (fun _ _ _ _ _ => 0)
              case atStart => exact ⟨rfl, rfl, rfl, HBW⟩
              case round =>
                obtain ⟨rfl, rfl, rfl, HM⟩ := hrel; go_wp2_with fail; go_ret
                exact ⟨by rw [HPS.out]; rfl, HM.out⟩)
          · have hc1 : ¬ (fc = 1) := (by omega); go_wp2_with fail
            go_loopw [4, 5, 7, 56] (fun s4 s5 s7 s56 wr => ∃ (k : Nat) (late : Bool), k ≤ tl.length ∧ s56 = .int .i64 k ∧ s5 = .bool late ∧ s4 = .bool false ∧ Sl (Below w.heap.size w wr ∧ lateK false (fdS tl) = lateK late (fdS (tl.drop k)))) (fun _ _ _ s56 _ => tl.length - (RowKit.intOf s56).toNat)
            case atStart => exact ⟨0, false, Nat.zero_le _, rfl, rfl, rfl, ⟨HBW.out, rfl⟩⟩
            case round =>
              obtain ⟨k, late, hk, rfl, rfl, rfl, HM⟩ := hrel
              by_cases hkn : k < tl.length
              · have hkI : decide ((k : Int) < (fn : Int) - 1) = true := decide_eq_true (by omega); have hkI2 : (k : Int) < (fn : Int) - 1 := (by omega); have hkI3 : k < fn - 1 := (by omega); obtain ⟨x, hx⟩ : ∃ x, tl[k]? = some x := ⟨_, List.getElem?_eq_getElem hkn⟩; obtain ⟨q, s⟩ := x; have hcc := HCE.out wr HM.out.1 k (q, s) hx; have x0 : wr.cell? ⟨gb, o + 2 + k * 2, none⟩ = some (.bool q) := hcc.1; have x1 : wr.cell? ⟨gb, o + 2 + k * 2 + 1, none⟩ = some (.string s) := hcc.2; have HST : Sl _ := ⟨lateK_step (late := late) hx⟩; have hps := lateK_step (late := late) hx; clear hcc hx
                go_upto_region 14 with ((with_reducible show wpList _ _ _ _ _ _); first
                  | (refine wpList_alloc_new 7 rfl rfl 201 rfl #[.bool false, .string ⟨#[]⟩] alloc_fd ?_; rintro wa g7 zg zm zs zb; have HXA : Sl _ := ⟨And.intro zg (And.intro zm (And.intro zs zb))⟩; clear zg zm zs zb)
                  | (refine wpList_store_whole rfl 201 (.tmp 7) (.tmp 59) rfl g7 #[.bool q, .string s] rfl rfl 201 _ HXA.out.2.2.2 rfl (by kernel_rfl) (by simp [Value.oneCell']) ?_; rintro wb zm zs zb; have HXS : Sl _ := ⟨And.intro zm (And.intro zs zb)⟩; clear zm zs zb))
                have HBB : Sl (Below w.heap.size w wb) := ⟨HM.out.1.trans ((below_mv (below_mv (Below.refl _ _) HXA.out.2.1 (Nat.le_refl _) (Nat.le_refl _)) HXS.out.1 (by have := HXA.out.1; omega) (by have := HXA.out.1; have := HXA.out.2.2.1; omega)).mono HM.out.1.size)⟩; have y1 : wb.cell? ⟨g7, 1, none⟩ = some (.string s) := HXS.out.2.2.cell 1; have HPC : Sl _ := ⟨pfxC 43 s wb⟩; clear x0 x1 hps HXA HXS
                by_cases h43 : s.data.toList.head? = some 43
                · rw [decide_eq_true h43] at HPC; have HNX : Sl (lateK false (fdS tl) = lateK true (fdS (tl.drop (k + 1)))) := ⟨by rw [HM.out.2, HST.out, if_pos h43]⟩; clear h43; go_wp2_with fail; refine HPC.out.mono ?_; rintro e w3 ⟨rfl, rfl⟩; clear HPC; have HV : Sl _ := ⟨And.intro HBB.out HNX.out⟩; go_wp2_with fail; exact ⟨⟨k + 1, true, hkn, by go_num, rfl, rfl, HV⟩, by simp [RowKit.intOf]; omega⟩
                · rw [decide_eq_false h43] at HPC; have HST2 : Sl (lateK false (fdS tl) = if late = true ∨ (64 : UInt8) ∉ s.data.toList then false else lateK late (fdS (tl.drop (k + 1)))) := ⟨by rw [HM.out.2, HST.out, if_neg h43]⟩; clear h43
                  cases late with
                  | true =>
                    have HF0 : Sl (lateK false (fdS tl) = false) := ⟨by rw [HST2.out, if_pos (.inl rfl)]⟩; go_wp2_with fail; refine HPC.out.mono ?_; rintro e w3 ⟨rfl, rfl⟩; clear HPC; go_wp2_with fail; go_ret; exact ⟨by rw [HPS.out, HF0.out]; rfl, HBB.out⟩
                  | false =>
                    have HCN : Sl _ := ⟨conC 64 s wb⟩
                    by_cases h64 : (64 : UInt8) ∈ s.data.toList
                    · rw [decide_eq_true h64] at HCN; have HNX : Sl (lateK false (fdS tl) = lateK false (fdS (tl.drop (k + 1)))) := ⟨by rw [HST2.out, if_neg (by simp [h64])]⟩; clear h64; go_wp2_with fail; refine HPC.out.mono ?_; rintro e w3 ⟨rfl, rfl⟩; clear HPC; go_wp2_with fail; refine HCN.out.mono ?_; rintro e w4 ⟨rfl, rfl⟩; clear HCN; have HV : Sl _ := ⟨And.intro HBB.out HNX.out⟩; go_wp2_with fail; exact ⟨⟨k + 1, false, hkn, by go_num, rfl, rfl, HV⟩, by simp [RowKit.intOf]; omega⟩
                    · rw [decide_eq_false h64] at HCN; have HF0 : Sl (lateK false (fdS tl) = false) := ⟨by rw [HST2.out, if_pos (.inr h64)]⟩; clear h64; go_wp2_with fail; refine HPC.out.mono ?_; rintro e w3 ⟨rfl, rfl⟩; clear HPC; go_wp2_with fail; refine HCN.out.mono ?_; rintro e w4 ⟨rfl, rfl⟩; clear HCN; go_wp2_with fail; go_ret; exact ⟨by rw [HPS.out, HF0.out]; rfl, HBB.out⟩
              · obtain rfl : k = tl.length := (by omega); have hkI : decide (((tl.length : Nat) : Int) < (fn : Int) - 1) = false := decide_eq_false (by omega); have hkI3 : ¬ (tl.length < fn - 1) := (by omega); have HF1 : Sl (lateK false (fdS tl) = true) := ⟨by rw [HM.out.2, List.drop_length]; rfl⟩; go_wp2_with fail; go_ret; exact ⟨by rw [HPS.out, HF1.out]; rfl, HM.out.1⟩
        · have e1 : (f0.2.toList == [102, 114, 97, 109, 101]) = false := by
            rw [htle, beq_eq_false_iff_ne]; exact hF
          rw [if_neg hF] at HPS; clear hF
          by_cases hM : f0.2.data.toList = kM
          · have e2 : (f0.2.toList == [109, 111, 114, 101]) = true := (by rw [htle, hM]; rfl); rw [if_pos hM] at HPS; clear hM htle
            by_cases h1 : fn = 1
            · rw [decide_eq_false (show ¬ 1 ≤ tl.length by omega), Bool.false_and, Bool.false_and] at HPS; subst h1; go_wp2_with fail; go_ret; exact ⟨by rw [HPS.out]; rfl, HB.out⟩
            · have k2 : decide ((fn : Int) < 2) = false := decide_eq_false (by omega); have k2b : ¬ (fn : Int) < 2 := (by omega); have hc1 : ¬ (fc = 1) := (by omega); rw [decide_eq_true (show 1 ≤ tl.length by omega), Bool.true_and] at HPS; have y3 : w2.cell? ⟨rb, 3, none⟩ = some (.int .i64 (last : Int)) := (HR.out.below HB.out).blk.cell 3
              by_cases h20 : last = 20
              · rw [decide_eq_true h20, Bool.true_and] at HPS; have hLne : L ≠ [] := fun e => by have := hL0 e; omega
                have hLl := HR.out.fr.len
                have hn1 : 0 < n := by
                  rw [← hLl]; exact List.length_pos_iff.2 hLne
                obtain ⟨gf, of, rl, hAf, hgf, hLx, u0, u1⟩ := ((HR.out.below HB.out).fr.tb).at_ (i := n - 1) (by omega); have y2 : w2.cell? ⟨rb, 2, none⟩ = some (.slice A n c) := (HR.out.below HB.out).blk.cell 2
                have hrk : (lastR (L.map RgV.v)).2 = rl.k := by
                  unfold lastR; rw [List.getLast?_eq_getElem?, List.length_map, hLl, List.getElem?_map, hLx]; rfl
                have hkm : rl.k.length = rl.m := ((HR.out.fr.tb).all rl (List.mem_of_getElem? hLx)).c.1; obtain ⟨LB, hLB⟩ : ∃ LB, decide ((lastR (L.map RgV.v)).2 ≠ []) = LB := ⟨_, rfl⟩
                have hLB2 : decide ((0 : Int) < (rl.m : Int)) = LB := by
                  rw [← hLB, hrk]; rw [decide_eq_decide]; constructor
                  · intro h e; rw [e] at hkm; simp at hkm; omega
                  · intro h; have := List.length_pos_iff.2 h; omega
                rw [hLB] at HPS; have hnI : (n : Int) - 1 = ((n - 1 : Nat) : Int) := (by omega); have hnlt : n - 1 < n := (by omega); have h20I : (last : Int) = 20 := (by omega); have h20b : ((last : Int) != 20) = false := (by rw [h20I]; rfl); subst hAf; clear hLB hkm hrk hLne hLl hLx hgf hL0; go_wp2_with fail
                go_quiet (fail)
                go_wp2_with fail
                go_loopw [4, 5, 7, 56] (fun s4 s5 s7 s56 wr => ∃ (k : Nat) (late : Bool), k ≤ tl.length ∧ s56 = .int .i64 k ∧ s5 = .bool late ∧ s4 = .bool false ∧ Sl (Below w.heap.size w wr ∧ lateK LB (fdS tl) = lateK late (fdS (tl.drop k)))) (fun _ _ _ s56 _ => tl.length - (RowKit.intOf s56).toNat)
                case atStart => exact ⟨0, LB, Nat.zero_le _, rfl, (by rw [← hLB2]; simp), rfl, ⟨(by first | exact HBW.out | exact below_drewN HBW.out _), rfl⟩⟩
                case round =>
                  obtain ⟨k, late, hk, rfl, rfl, rfl, HM⟩ := hrel
                  by_cases hkn : k < tl.length
                  · have hkI : decide ((k : Int) < (fn : Int) - 1) = true := decide_eq_true (by omega); have hkI2 : (k : Int) < (fn : Int) - 1 := (by omega); have hkI3 : k < fn - 1 := (by omega); obtain ⟨x, hx⟩ : ∃ x, tl[k]? = some x := ⟨_, List.getElem?_eq_getElem hkn⟩; obtain ⟨q, s⟩ := x; have hcc := HCE.out wr HM.out.1 k (q, s) hx; have x0 : wr.cell? ⟨gb, o + 2 + k * 2, none⟩ = some (.bool q) := hcc.1; have x1 : wr.cell? ⟨gb, o + 2 + k * 2 + 1, none⟩ = some (.string s) := hcc.2; have HST : Sl _ := ⟨lateK_step (late := late) hx⟩; have hps := lateK_step (late := late) hx; clear hcc hx
                    go_upto_region 14 with ((with_reducible show wpList _ _ _ _ _ _); first
                      | (refine wpList_alloc_new 7 rfl rfl 201 rfl #[.bool false, .string ⟨#[]⟩] alloc_fd ?_; rintro wa g7 zg zm zs zb; have HXA : Sl _ := ⟨And.intro zg (And.intro zm (And.intro zs zb))⟩; clear zg zm zs zb)
                      | (refine wpList_store_whole rfl 201 (.tmp 7) (.tmp 59) rfl g7 #[.bool q, .string s] rfl rfl 201 _ HXA.out.2.2.2 rfl (by kernel_rfl) (by simp [Value.oneCell']) ?_; rintro wb zm zs zb; have HXS : Sl _ := ⟨And.intro zm (And.intro zs zb)⟩; clear zm zs zb))
                    have HBB : Sl (Below w.heap.size w wb) := ⟨HM.out.1.trans ((below_mv (below_mv (Below.refl _ _) HXA.out.2.1 (Nat.le_refl _) (Nat.le_refl _)) HXS.out.1 (by have := HXA.out.1; omega) (by have := HXA.out.1; have := HXA.out.2.2.1; omega)).mono HM.out.1.size)⟩; have y1 : wb.cell? ⟨g7, 1, none⟩ = some (.string s) := HXS.out.2.2.cell 1; have HPC : Sl _ := ⟨pfxC 43 s wb⟩; clear x0 x1 hps HXA HXS
                    by_cases h43 : s.data.toList.head? = some 43
                    · rw [decide_eq_true h43] at HPC; have HNX : Sl (lateK LB (fdS tl) = lateK true (fdS (tl.drop (k + 1)))) := ⟨by rw [HM.out.2, HST.out, if_pos h43]⟩; clear h43; go_wp2_with fail; refine HPC.out.mono ?_; rintro e w3 ⟨rfl, rfl⟩; clear HPC; have HV : Sl _ := ⟨And.intro HBB.out HNX.out⟩; go_wp2_with fail; exact ⟨⟨k + 1, true, hkn, by go_num, rfl, rfl, HV⟩, by simp [RowKit.intOf]; omega⟩
                    · rw [decide_eq_false h43] at HPC; have HST2 : Sl (lateK LB (fdS tl) = if late = true ∨ (64 : UInt8) ∉ s.data.toList then false else lateK late (fdS (tl.drop (k + 1)))) := ⟨by rw [HM.out.2, HST.out, if_neg h43]⟩; clear h43
                      cases late with
                      | true =>
                        have HF0 : Sl (lateK LB (fdS tl) = false) := ⟨by rw [HST2.out, if_pos (.inl rfl)]⟩; go_wp2_with fail; refine HPC.out.mono ?_; rintro e w3 ⟨rfl, rfl⟩; clear HPC; go_wp2_with fail; go_ret; exact ⟨by rw [HPS.out, HF0.out]; rfl, HBB.out⟩
                      | false =>
                        have HCN : Sl _ := ⟨conC 64 s wb⟩
                        by_cases h64 : (64 : UInt8) ∈ s.data.toList
                        · rw [decide_eq_true h64] at HCN; have HNX : Sl (lateK LB (fdS tl) = lateK false (fdS (tl.drop (k + 1)))) := ⟨by rw [HST2.out, if_neg (by simp [h64])]⟩; clear h64; go_wp2_with fail; refine HPC.out.mono ?_; rintro e w3 ⟨rfl, rfl⟩; clear HPC; go_wp2_with fail; refine HCN.out.mono ?_; rintro e w4 ⟨rfl, rfl⟩; clear HCN; have HV : Sl _ := ⟨And.intro HBB.out HNX.out⟩; go_wp2_with fail; exact ⟨⟨k + 1, false, hkn, by go_num, rfl, rfl, HV⟩, by simp [RowKit.intOf]; omega⟩
                        · rw [decide_eq_false h64] at HCN; have HF0 : Sl (lateK LB (fdS tl) = false) := ⟨by rw [HST2.out, if_pos (.inr h64)]⟩; clear h64; go_wp2_with fail; refine HPC.out.mono ?_; rintro e w3 ⟨rfl, rfl⟩; clear HPC; go_wp2_with fail; refine HCN.out.mono ?_; rintro e w4 ⟨rfl, rfl⟩; clear HCN; go_wp2_with fail; go_ret; exact ⟨by rw [HPS.out, HF0.out]; rfl, HBB.out⟩
                  · obtain rfl : k = tl.length := (by omega); have hkI : decide (((tl.length : Nat) : Int) < (fn : Int) - 1) = false := decide_eq_false (by omega); have hkI3 : ¬ (tl.length < fn - 1) := (by omega); have HF1 : Sl (lateK LB (fdS tl) = true) := ⟨by rw [HM.out.2, List.drop_length]; rfl⟩; go_wp2_with fail; go_ret; exact ⟨by rw [HPS.out, HF1.out]; rfl, HM.out.1⟩
              · rw [decide_eq_false h20, Bool.false_and] at HPS; have k3 : ((last : Int) != 20) = true := (by simp; omega); have k3b : ¬ ((last : Int) = 20) := (by omega); go_wp2_with fail; go_ret; exact ⟨by rw [HPS.out]; rfl, HB.out⟩
          · have e2 : (f0.2.toList == [109, 111, 114, 101]) = false := by
              rw [htle, beq_eq_false_iff_ne]; exact hM
            rw [if_neg hM] at HPS; clear hM htle; go_wp2_with fail; go_ret; exact ⟨by rw [HPS.out]; rfl, HB.out⟩
    · have k1 : decide ((21 : Int) < (fn : Int)) = true := decide_eq_true (by omega); have k1b : (21 : Int) < (fn : Int) := (by omega); rw [decide_eq_false (show ¬ tl.length ≤ 20 by omega), Bool.false_and, Bool.false_and] at HPS; rw [HPS.out]; clear hfl hfe htl; go_enter Tryz.func131, Tryz.ntmps131; go_wp2_with fail; go_ret; exact ⟨rfl, Below.refl _ _⟩
end Go.Proofs.YtabkpbbjodfolaaGreatDoor
