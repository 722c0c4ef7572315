/- Package crescendo: At. (Printed by gencxf.py.) -/
import Derived.Test.YtabkpbbjodfolaaGreatDoorZvP
namespace Go.Proofs.YtabkpbbjodfolaaGreatDoor
set_option linter.unusedSimpArgs false
open Go.RowKit
set_option linter.unusedVariables false
theorem ne_int_reg : 3 ≠ 45 := by decide
theorem Lg.app {b w w' : World} {A : Option Addr} {n c : Nat} {X : List Int} {l : List (Nat × TypeId × Array Value)} (h : Lg b w l) (ho : OI w b.heap.size A n c X) (hg : w.grownBy w' (Value.slice A n c).ownBlock) (ht : ∀ p ∈ l, 3 ≠ p.2.1) : Lg b w' l :=
  h.grown hg (fun k hk => (ho.lt k hk).1) (fun p hp => ho.ne_blk (h.ld.all p hp) (ht p hp))
theorem RgO.app1 {w w' : World} {b : Nat} {r : RgV} {A : Option Addr} {n c : Nat} {X : List Int} (h : RgO w b r) (ho : OI w' b A n c X) (hg : w.grownBy w' (Value.slice r.A r.n r.c).ownBlock) (hat : (Value.slice A n c).ownBlock = (Value.slice r.A r.n r.c).ownBlock ∨ (Value.slice A n c).ownBlock = some w.heap.size) : RgO w' b ⟨A, n, c, X, r.B, r.m, r.d, r.k⟩ := by
  refine ⟨ho, h.c.grown hg (fun k hk e => h.ne k e hk), fun g h1 h2 => ?_⟩; rcases hat with e | e
  · exact h.ne g (by rw [← e]; exact h1) h2
  · rw [e] at h1; injection h1 with h1
    have := (h.c.lt g h2).2; omega
theorem RgO.app2 {w w' : World} {b : Nat} {r : RgV} {A : Option Addr} {n c : Nat} {X : List Int} (h : RgO w b r) (ho : OI w' b A n c X) (hg : w.grownBy w' (Value.slice r.B r.m r.d).ownBlock) (hat : (Value.slice A n c).ownBlock = (Value.slice r.B r.m r.d).ownBlock ∨ (Value.slice A n c).ownBlock = some w.heap.size) : RgO w' b ⟨r.A, r.n, r.c, r.l, A, n, c, X⟩ := by
  refine ⟨h.s.grown hg (fun k hk e => h.ne k hk e), ho, fun g h1 h2 => ?_⟩; rcases hat with e | e
  · exact h.ne g h1 (by rw [← e]; exact h2)
  · rw [e] at h2; injection h2 with h2
    have := (h.s.lt g h1).2; omega
theorem RgO.mv {w w' : World} {b g : Nat} {r : RgV} {t : TypeId} {cs : Array Value} (h : RgO w b r) (hB : Blk w g t cs) (ht : 3 ≠ t) (hm : Mv g w w') : RgO w' b r :=
  ⟨h.s.mv hm (fun k hk e => h.s.ne_blk hB ht (by rw [hk, e])), h.c.mv hm (fun k hk e => h.c.ne_blk hB ht (by rw [hk, e])), h.ne⟩
def uniI (l : List Int) : List Int := Lib.compact (srtI l)
theorem II.at_block {w w' : World} {A : Option Addr} {n : Nat} {l : List Int} (h : II w A n l) (hs : w.heap.size ≤ w'.heap.size) (hb : ∀ ad, A = some ad → w'.heap[ad.block]? = w.heap[ad.block]?) : II w' A n l := by
  refine ⟨h.1, h.2.1, fun hn => ?_⟩; obtain ⟨ad, e, h1, h2⟩ := h.2.2 hn; refine ⟨ad, e, Nat.lt_of_lt_of_le h1 hs, fun j u hu => ?_⟩; rw [← h2 j u hu]; exact World.cell?_of_block (by rw [block_of_add]; exact hb ad e)
theorem OI.addr {w : World} {base : Nat} {A : Option Addr} {n c : Nat} {l : List Int} (h : OI w base A n c l) {ad : Addr} (e : A = some ad) : (Value.slice A n c).ownBlock = some ad.block ∧ ad.block < w.heap.size := by
  subst e; rcases h.2 with ⟨h0, _⟩ | ⟨b, cap, cur, e1, _, hh, _⟩
  · cases h0
  · injection e1 with a b c
    injection a with a
    subst a; exact ⟨rfl, Blk.lt hh⟩
def atE (o : SpO) (L : List RgV) (r : RgV) (pos : Int) : Int := if botE o L r = 0 then (if pos < 0 ∨ (L.length : Int) < pos then 7 else 0) else botE o L r
def atL (o : SpO) (L : List RgV) (r : RgV) (pos : Int) (f : RgV → List Int) : List Int := if atE o L r pos = 0 then uniI (f r ++ ((L.take pos.toNat).map f).flatten) else []
def AtR (o : SpO) (L : List RgV) (r : RgV) (pos : Int) (e : Ending) (w' : World) : Prop :=
  ∃ A n c B m d, e = .returned (.tuple #[.agg #[.slice A n c, .slice B m d], .int .i64 (atE o L r pos)]) ∧ RgM w' ⟨A, n, c, atL o L r pos RgV.l, B, m, d, atL o L r pos RgV.k⟩
theorem AtR.no {o : SpO} {L : List RgV} {r : RgV} {pos : Int} {w' : World} {v : Int} (h : atE o L r pos = v) (hv : v ≠ 0) : AtR o L r pos (.returned (.tuple #[.agg #[.slice none 0 0, .slice none 0 0], .int .i64 v])) w' := by
  refine ⟨none, 0, 0, none, 0, 0, by rw [h], ?_⟩; unfold atL; rw [if_neg (by rw [h]; exact hv), if_neg (by rw [h]; exact hv)]; exact ⟨II.nil _ _, II.nil _ _, ⟨Nat.le_refl _, Nat.zero_le _⟩, ⟨Nat.le_refl _, Nat.zero_le _⟩⟩
theorem flat_take {L : List RgV} {k : Nat} {x : RgV} (f : RgV → List Int) (h : L[k]? = some x) : ((L.take (k + 1)).map f).flatten = ((L.take k).map f).flatten ++ f x := by
  rw [List.take_add_one, h]; simp
set_option maxHeartbeats 6400000 in
set_option maxRecDepth 100000 in
theorem At_any (o : SpO) (T : Option Addr) (n c : Nat) (L : List RgV) (pos : Int) (r : RgV) (w : World) (hM : SpM w o) (hF : SpF o) (hT : TbM w T n c L) (hr : RgM w r) (hp : i64 pos) :
    Calls Tryz.prog 17 #[.agg #[.slice o.A1 o.n1 o.c1, .slice o.A2 o.n2 o.c2, .slice o.A3 o.n3 o.c3, .slice o.A4 o.n4 o.c4], .agg #[.slice T n c], .int .i64 pos, .agg #[.slice r.A r.n r.c, .slice r.B r.m r.d]] w fun e w' => AtR o L r pos e w' ∧ Below w.heap.size w w' := by
  have HM : Sl _ := ⟨hM⟩; have HF : Sl _ := ⟨hF⟩; have HT : Sl _ := ⟨hT⟩; have HR : Sl _ := ⟨hr⟩; have HD : Sl (Lg w w []) := ⟨Lg.nil w⟩; have HBT : Sl _ := ⟨fun (W : World) (hW : Below w.heap.size w W) => both_any o T n c L r W (hM.below hW) hF (hT.below hW) (hr.below hW)⟩; obtain ⟨b, hb⟩ : ∃ b, botE o L r = b := ⟨_, rfl⟩; have HBB : Sl _ := ⟨hb⟩; rw [hb] at HBT; have HE : Sl (atE o L r pos = if b = 0 then (if pos < 0 ∨ (n : Int) < pos then 7 else 0) else b) := ⟨by unfold atE; rw [hb, hT.row.len]⟩; clear hM hF hT hr hb; go_enter Tryz.func17, Tryz.ntmps17
  go_upto_region 1 with ((with_reducible show wpList _ _ _ _ _ _); first
    | (refine wpList_box_new 4 rfl rfl 33 (.tmp 0) rfl #[.slice o.A1 o.n1 o.c1, .slice o.A2 o.n2 o.c2, .slice o.A3 o.n3 o.c3, .slice o.A4 o.n4 o.c4] rfl (fun _ => by kernel_rfl) ?_; rintro wa gs zg zm zs zb; replace HD : Sl _ := ⟨HD.out.new zg zm zb⟩; clear zg zm zs zb)
    | (refine wpList_box_new 5 rfl rfl 53 (.tmp 1) rfl #[.slice T n c] rfl (fun _ => by kernel_rfl) ?_; rintro wb gtb zg zm zs zb; replace HD : Sl _ := ⟨HD.out.new zg zm zb⟩; clear zg zm zs zb)
    | (refine wpList_box_new 7 rfl rfl 45 (.tmp 3) rfl #[.slice r.A r.n r.c, .slice r.B r.m r.d] rfl (fun _ => by kernel_rfl) ?_; rintro wc grg zg zm zs zb; replace HD : Sl _ := ⟨HD.out.new zg zm zb⟩; clear zg zm zs zb)
    | (refine wpList_alloc_new 8 rfl rfl 45 rfl #[.slice none 0 0, .slice none 0 0] alloc_reg ?_; rintro wd gr8 zg zm zs zb; replace HD : Sl _ := ⟨HD.out.new zg zm zb⟩; clear zg zm zs zb))
  have s0 := (HD.out.at_ 3 rfl).cell 0; have s1 := (HD.out.at_ 3 rfl).cell 1; have s2 := (HD.out.at_ 3 rfl).cell 2; have s3 := (HD.out.at_ 3 rfl).cell 3; simp at s0 s1 s2 s3; have t0 := (HD.out.at_ 2 rfl).cell 0; simp at t0; have r0 := (HD.out.at_ 1 rfl).cell 0; have r1 := (HD.out.at_ 1 rfl).cell 1; simp at r0 r1; go_wp2_with fail; refine (HBT.out _ HD.out.bl).mono ?_; rintro e w1 ⟨rfl, hb⟩; replace HD : Sl _ := ⟨HD.out.below hb⟩; clear HBT hb s0 s1 s2 s3 t0 r0 r1
  by_cases hb0 : b = 0
  · subst hb0; rw [if_pos rfl] at HE; have t0 := (HD.out.at_ 2 rfl).cell 0; simp at t0; have hnn : (0 : Int) ≤ (n : Int) := (by omega)
    by_cases p1 : pos < 0
    · have p1d : decide (pos < 0) = true := decide_eq_true p1; have HV : Sl (atE o L r pos = 7) := ⟨by rw [HE.out]; exact if_pos (.inl p1)⟩
      go_wp2_with ((with_reducible show wpList _ _ _ _ _ _); first
        | (refine wpList_store_whole rfl 45 (.tmp 8) (.tmp 31) rfl gr8 #[.slice none 0 0, .slice none 0 0] rfl rfl 45 _ (HD.out.at_ 0 rfl) rfl (by kernel_rfl) (by simp [Value.oneCell']) ?_; rintro w2 zm zs zb; replace HD : Sl _ := ⟨HD.out.upd zm zb⟩; clear zm zs zb))
      refine bodyPost_ret (results_row2c rfl _ _ gr8 _ _ _ rfl (HD.out.at_ 0 rfl) Tryz.underlying45 rfl (by kernel_rfl)) rfl ?_; exact ⟨AtR.no HV.out (by decide), HD.out.bl⟩
    · have p1d : decide (pos < 0) = false := decide_eq_false p1
      by_cases p2 : (n : Int) < pos
      · have p2d : decide ((n : Int) < pos) = true := decide_eq_true p2; have HV : Sl (atE o L r pos = 7) := ⟨by rw [HE.out]; exact if_pos (.inr p2)⟩
        go_wp2_with ((with_reducible show wpList _ _ _ _ _ _); first
          | (refine wpList_store_whole rfl 45 (.tmp 8) (.tmp 31) rfl gr8 #[.slice none 0 0, .slice none 0 0] rfl rfl 45 _ (HD.out.at_ 0 rfl) rfl (by kernel_rfl) (by simp [Value.oneCell']) ?_; rintro w2 zm zs zb; replace HD : Sl _ := ⟨HD.out.upd zm zb⟩; clear zm zs zb))
        refine bodyPost_ret (results_row2c rfl _ _ gr8 _ _ _ rfl (HD.out.at_ 0 rfl) Tryz.underlying45 rfl (by kernel_rfl)) rfl ?_; exact ⟨AtR.no HV.out (by decide), HD.out.bl⟩
      · have p2d : decide ((n : Int) < pos) = false := decide_eq_false p2; have HV : Sl (atE o L r pos = 0) := ⟨by rw [HE.out, if_neg (by omega)]⟩; obtain ⟨p, rfl⟩ := Int.eq_ofNat_of_zero_le (show 0 ≤ pos by omega); have hpn : p ≤ n := (by omega); have hpN : (p : Int) ≤ (n : Int) := (by omega); have hpc : (p : Int) ≤ (c : Int) := (by have := HT.out.cap.1; omega); have hpc2 : p ≤ c := (by omega); have HPN : Sl (p ≤ n) := ⟨hpn⟩
        have HOK : Sl ((tabE o L = 0 ∧ regE o r = 0)) := ⟨by
          have h := HBB.out; unfold botE at h
          by_cases h1 : tabE o L = 0
          · rw [if_pos h1] at h; exact ⟨h1, h⟩
          · rw [if_neg h1] at h; exact absurd h h1⟩
        have HSP : Sl (specE o = 0 ∧ n ≤ 60 ∧ ∀ j, j < n → regE o (L[j]?.getD rg0) = 0) := ⟨by
          have h := HOK.out.1; unfold tabE at h
          by_cases h1 : specE o = 0
          · rw [if_pos h1, HT.out.row.len] at h
            by_cases h2 : 60 < n
            · rw [if_pos h2] at h; cases h
            · rw [if_neg h2] at h; refine ⟨h1, by omega, fun j hj => ?_⟩; have h3 := fstE_zero h j (Nat.zero_le _) (by omega); unfold tabK at h3
              by_cases h4 : regE o (L[j]?.getD rg0) = 0
              · exact h4
              · rw [if_neg h4] at h3; exact absurd h3 h4
          · rw [if_neg h1] at h; exact absurd h h1⟩
        have HLR : Sl (∀ j x, j < n → L[j]? = some x → x.n ≤ 80 ∧ x.m ≤ 80) := ⟨fun j x hj hx => by
          have h := HSP.out.2.2 j hj; rw [hx, Option.getD_some] at h; obtain ⟨h1, h2⟩ := regE_ok h; have h3 := drwE_len h1; have h4 := drwE_len h2; have h5 := specE_bd HSP.out.1; have h6 := (HT.out.all x (List.mem_of_getElem? hx)).s.1; have h7 := (HT.out.all x (List.mem_of_getElem? hx)).c.1
          omega⟩
        have HRL : Sl (r.n ≤ 80 ∧ r.m ≤ 80) := ⟨by
          obtain ⟨h1, h2⟩ := regE_ok HOK.out.2; have h3 := drwE_len h1; have h4 := drwE_len h2; have h5 := specE_bd HSP.out.1; have h6 := HR.out.s.1; have h7 := HR.out.c.1
          omega⟩
        have r0 := (HD.out.at_ 1 rfl).cell 0; have r1 := (HD.out.at_ 1 rfl).cell 1; simp at r0 r1; go_wp2_with fail; refine (copied_any r w1 (HR.out.below HD.out.bl) (by have := HRL.out; omega) (by have := HRL.out; omega)).mono ?_; rintro e w2 ⟨⟨A0, c0, B0, d0, rfl, ho⟩, hb⟩; have HRO : Sl (RgO w2 w.heap.size ⟨A0, r.n, c0, r.l, B0, r.m, d0, r.k⟩) := ⟨⟨ho.s.mono HD.out.bl.size, ho.c.mono HD.out.bl.size, ho.ne⟩⟩; replace HD : Sl _ := ⟨HD.out.below hb⟩; clear ho hb r0 r1 t0
        go_upto_region 7 with ((with_reducible show wpList _ _ _ _ _ _); first
          | (refine wpList_alloc_new 11 rfl rfl 45 rfl #[.slice none 0 0, .slice none 0 0] alloc_reg ?_; rintro w3 go zg zm zs zb; replace HRO : Sl (RgO _ _ _) := ⟨HRO.out.below (below_mv (Below.refl _ _) zm (Nat.le_refl _) (Nat.le_refl _))⟩; replace HD : Sl _ := ⟨HD.out.new zg zm zb⟩; clear zg zm zs zb)
          | (refine wpList_store_whole rfl 45 (.tmp 11) (.tmp 33) rfl go #[.slice A0 r.n c0, .slice B0 r.m d0] rfl rfl 45 _ (HD.out.at_ 0 rfl) rfl (by kernel_rfl) (by simp [Value.oneCell']) ?_; rintro w4 zm zs zb; replace HRO : Sl (RgO _ _ _) := ⟨HRO.out.mv (HD.out.at_ 0 rfl) (by decide) zm⟩; replace HD : Sl _ := ⟨HD.out.upd zm zb⟩; clear zm zs zb))
        have t0 := (HD.out.at_ 3 rfl).cell 0; simp at t0; go_wp2_with fail; clear t0
        replace HD : Sl (Lg w w4 [(go, 45, #[.slice A0 r.n c0, .slice B0 r.m d0]), (gr8, 45, #[.slice none 0 0, .slice none 0 0])]) := ⟨⟨⟨HD.out.bl, fun q hq => HD.out.ld.all q (by simp at hq ⊢; rcases hq with h | h <;> simp [h]), fun q hq => HD.out.ld.ge q (by simp at hq ⊢; rcases hq with h | h <;> simp [h])⟩, by
          have := HD.out.nd; simp at this ⊢
          exact this.1.1⟩⟩
        go_loopw [39] (fun s39 wv => ∃ (k : Nat) (A : Option Addr) (na ca : Nat) (B : Option Addr) (mb db : Nat), k ≤ p ∧ s39 = .int .i64 k ∧ (na ≤ 80 * (k + 1) ∧ mb ≤ 80 * (k + 1)) ∧ Sl (Lg w wv [(go, 45, #[.slice A na ca, .slice B mb db]), (gr8, 45, #[.slice none 0 0, .slice none 0 0])] ∧ RgO wv w.heap.size ⟨A, na, ca, r.l ++ ((L.take k).map RgV.l).flatten, B, mb, db, r.k ++ ((L.take k).map RgV.k).flatten⟩)) (fun s39 _ => p - (RowKit.intOf s39).toNat)
        case atStart => exact ⟨0, A0, r.n, c0, B0, r.m, d0, Nat.zero_le _, rfl, by have := HRL.out; omega, ⟨HD.out, by simpa using HRO.out⟩⟩
        case round =>
          clear HD HRO; obtain ⟨k, A, na, ca, B, mb, db, hk, rfl, hnm, HK⟩ := hrel; have HD : Sl _ := ⟨HK.out.1⟩; have HRO : Sl _ := ⟨HK.out.2⟩; have HNM : Sl _ := ⟨hnm⟩; clear HK hnm; have hp60 : (p : Int) ≤ 60 := (by have := HSP.out.2.1; omega)
          by_cases hkp : k < p
          · have hkI : decide ((k : Int) < (p : Int)) = true := decide_eq_true (by omega); have hkI2 : (k : Int) < (p : Int) := (by omega); obtain ⟨gb, oo, x, hA, hgb, hx, x0, x1⟩ := (HT.out.below HD.out.bl).at_ (show k < n by omega); have HXM : Sl _ := ⟨HT.out.all x (List.mem_of_getElem? hx)⟩; have HX8 : Sl _ := ⟨HLR.out k x (by omega) hx⟩; have HFL : Sl (((L.take (k + 1)).map RgV.l).flatten = ((L.take k).map RgV.l).flatten ++ x.l ∧ ((L.take (k + 1)).map RgV.k).flatten = ((L.take k).map RgV.k).flatten ++ x.k) := ⟨flat_take _ hx, flat_take _ hx⟩; have HNA : Sl (na + x.n ≤ 1000000 ∧ mb + x.m ≤ 1000000 ∧ na + x.n ≤ 80 * (k + 1 + 1) ∧ mb + x.m ≤ 80 * (k + 1 + 1)) := ⟨by have := HX8.out; have := HNM.out; have := HSP.out.2.1; omega⟩; rw [hA]; have HA : Sl _ := ⟨hA⟩; obtain ⟨X, hX⟩ : ∃ X, r.l ++ ((L.take k).map RgV.l).flatten = X := ⟨_, rfl⟩; obtain ⟨Y, hY⟩ : ∃ Y, r.k ++ ((L.take k).map RgV.k).flatten = Y := ⟨_, rfl⟩; rw [hX, hY] at HRO; have HXY : Sl (r.l ++ ((L.take (k + 1)).map RgV.l).flatten = X ++ x.l ∧ r.k ++ ((L.take (k + 1)).map RgV.k).flatten = Y ++ x.k) := ⟨by rw [HFL.out.1, HFL.out.2, ← hX, ← hY, List.append_assoc, List.append_assoc]; exact ⟨rfl, rfl⟩⟩; clear hA hx hX hY HFL
            go_upto_region 10 with ((with_reducible show wpList _ _ _ _ _ _); first
              | (refine wpList_alloc_new 13 rfl rfl 45 rfl #[.slice none 0 0, .slice none 0 0] alloc_reg ?_; rintro w5 gx zg zm zs zb; replace HRO : Sl (RgO _ _ _) := ⟨HRO.out.below (below_mv (Below.refl _ _) zm (Nat.le_refl _) (Nat.le_refl _))⟩; replace HD : Sl _ := ⟨HD.out.new zg zm zb⟩; clear zg zm zs zb)
              | (refine wpList_store_whole rfl 45 (.tmp 13) (.tmp 42) rfl gx #[.slice x.A x.n x.c, .slice x.B x.m x.d] rfl rfl 45 _ (HD.out.at_ 0 rfl) rfl (by kernel_rfl) (by simp [Value.oneCell']) ?_; rintro w6 zm zs zb; replace HRO : Sl (RgO _ _ _) := ⟨HRO.out.mv (HD.out.at_ 0 rfl) (by decide) zm⟩; replace HD : Sl _ := ⟨HD.out.upd zm zb⟩; clear zm zs zb))
            have g0 := (HD.out.at_ 1 rfl).cell 0; have y0 := (HD.out.at_ 0 rfl).cell 0; simp at g0 y0; clear x0 x1
            go_upto_region 11 with ((with_reducible show wpList _ _ _ _ _ _); first
              | (at_builtin; go_loud (refine wpList_append_oi rfl (.tmp 44) (.tmp 46) rfl w.heap.size A na ca X rfl HRO.out.s x.A x.n x.c x.l rfl (HXM.out.s.below HD.out.bl) HNA.out.1 HD.out.bl.size ?_); rintro A2 c2 w7 zo zg zt; replace HD : Sl _ := ⟨HD.out.app HRO.out.s zg (by intro q hq; simp only [List.mem_cons, List.not_mem_nil, or_false] at hq; rcases hq with rfl | rfl | rfl <;> exact ne_int_reg)⟩; replace HRO : Sl _ := ⟨HRO.out.app1 zo zg zt⟩; clear zo zg zt)
              | (refine wpList_store_cell rfl 43 (.tmp 48) (.tmp 47) rfl go 0 (.slice A2 (na + x.n) c2) rfl rfl 45 _ _ (HD.out.at_ 1 rfl) (by simp) rfl (by kernel_rfl) rfl rfl ?_; rintro w8 zm zs zb zw; replace HRO : Sl _ := ⟨HRO.out.mv (HD.out.at_ 1 rfl) (by decide) zm⟩; replace HD : Sl (Lg w w8 [(gx, 45, #[.slice x.A x.n x.c, .slice x.B x.m x.d]), (go, 45, #[.slice A2 (na + x.n) c2, .slice B mb db]), (gr8, 45, #[.slice none 0 0, .slice none 0 0])]) := ⟨HD.out.set 1 rfl zm zb⟩; clear zm zs zb zw))
            have g1 := (HD.out.at_ 1 rfl).cell 1; have y1 := (HD.out.at_ 0 rfl).cell 1; simp at g1 y1; clear g0 y0
            go_upto_region 12 with ((with_reducible show wpList _ _ _ _ _ _); first
              | (at_builtin; go_loud (refine wpList_append_oi rfl (.tmp 50) (.tmp 52) rfl w.heap.size B mb db Y rfl HRO.out.c x.B x.m x.d x.k rfl (HXM.out.c.below HD.out.bl) HNA.out.2.1 HD.out.bl.size ?_); rintro A3 c3 w9 zo zg zt; replace HD : Sl _ := ⟨HD.out.app HRO.out.c zg (by intro q hq; simp only [List.mem_cons, List.not_mem_nil, or_false] at hq; rcases hq with rfl | rfl | rfl <;> exact ne_int_reg)⟩; replace HRO : Sl _ := ⟨HRO.out.app2 zo zg zt⟩; clear zo zg zt)
              | (refine wpList_store_cell rfl 43 (.tmp 54) (.tmp 53) rfl go 1 (.slice A3 (mb + x.m) c3) rfl rfl 45 _ _ (HD.out.at_ 1 rfl) (by simp) rfl (by kernel_rfl) rfl rfl ?_; rintro wA zm zs zb zw; replace HRO : Sl _ := ⟨HRO.out.mv (HD.out.at_ 1 rfl) (by decide) zm⟩; replace HD : Sl (Lg w wA [(gx, 45, #[.slice x.A x.n x.c, .slice x.B x.m x.d]), (go, 45, #[.slice A2 (na + x.n) c2, .slice A3 (mb + x.m) c3]), (gr8, 45, #[.slice none 0 0, .slice none 0 0])]) := ⟨HD.out.set 1 rfl zm zb⟩; clear zm zs zb zw))
            clear g1 y1; go_wp2_with fail; exact ⟨⟨k + 1, A2, na + x.n, c2, A3, mb + x.m, c3, by omega, by go_num, ⟨HNA.out.2.2.1, HNA.out.2.2.2⟩, ⟨HD.out.drop, by rw [HXY.out.1, HXY.out.2]; exact HRO.out⟩⟩, by simp [RowKit.intOf]; omega⟩
          · obtain rfl : k = p := (by omega); obtain ⟨X, hX⟩ : ∃ X, r.l ++ ((L.take k).map RgV.l).flatten = X := ⟨_, rfl⟩; obtain ⟨Y, hY⟩ : ∃ Y, r.k ++ ((L.take k).map RgV.k).flatten = Y := ⟨_, rfl⟩; rw [hX, hY] at HRO
            have HLL : Sl (atL o L r (k : Int) RgV.l = uniI X ∧ atL o L r (k : Int) RgV.k = uniI Y) := ⟨by
              unfold atL; rw [if_pos HV.out, if_pos HV.out, show ((k : Int)).toNat = k from rfl, hX, hY]
              exact ⟨rfl, rfl⟩⟩
            have HN1 : Sl (na ≤ 1000000 ∧ mb ≤ 1000000) := ⟨by have := HNM.out; have := HSP.out.2.1; omega⟩; clear hX hY; have g0 := (HD.out.at_ 0 rfl).cell 0; simp at g0; go_wp2_with fail; refine (sortOI HRO.out.s HN1.out.1).mono ?_; rintro e w5 ⟨rfl, zo, zg⟩; replace HD : Sl _ := ⟨HD.out.app HRO.out.s zg (by intro q hq; simp only [List.mem_cons, List.not_mem_nil, or_false] at hq; rcases hq with rfl | rfl <;> exact ne_int_reg)⟩; replace HRO : Sl (RgO w5 w.heap.size ⟨A, na, ca, srtI X, B, mb, db, Y⟩) := ⟨HRO.out.app1 zo zg (.inl rfl)⟩; clear zo zg g0; have g1 := (HD.out.at_ 0 rfl).cell 1; simp at g1; go_wp2_with fail; refine (sortOI HRO.out.c HN1.out.2).mono ?_; rintro e w6 ⟨rfl, zo, zg⟩; replace HD : Sl _ := ⟨HD.out.app HRO.out.c zg (by intro q hq; simp only [List.mem_cons, List.not_mem_nil, or_false] at hq; rcases hq with rfl | rfl <;> exact ne_int_reg)⟩; replace HRO : Sl (RgO w6 w.heap.size ⟨A, na, ca, srtI X, B, mb, db, srtI Y⟩) := ⟨HRO.out.app2 zo zg (.inl rfl)⟩; clear zo zg g1; go_wp2_with fail; have hbd : Below w6.heap.size w6 w6.drew := below_drewN (Below.refl _ _) 1; replace HD : Sl (Lg w w6.drew [(go, 45, #[.slice A na ca, .slice B mb db]), (gr8, 45, #[.slice none 0 0, .slice none 0 0])]) := ⟨HD.out.below hbd⟩; replace HRO : Sl (RgO w6.drew w.heap.size ⟨A, na, ca, srtI X, B, mb, db, srtI Y⟩) := ⟨HRO.out.below hbd⟩; have HC1 : Sl _ := ⟨compactOI HRO.out.s HN1.out.1⟩; have HGO : Sl (go ≠ gr8) := ⟨by have := HD.out.nd; simp at this; exact this⟩; clear hbd; have hm := HD.out.at_ 0 rfl; refine wp_region_held_drew (S := fun w' => Blk w' go 45 #[.slice A na ca, .slice B mb db]) (by kernel_rfl) hm (fun hHeld => ?_); clear hm; refine wpAnyH_pure 0 (v := .pointer (some ⟨go, 0, none⟩)) rfl (by kernel_rfl) (by kernel_rfl) (by kernel_rfl) (fun _ _ _ h => h) rfl (fun _ => by go_simp) (by assumption) ?_; simp only [Act.put, sS0, sS1, sS2]
            refine wpAnyH_cell 1 (v := .slice A na ca) rfl rfl (fun w' h => by
              have hc := h.cell 0
              go_simp) (by kernel_rfl) (by kernel_rfl) (by kernel_rfl) (fun _ _ _ h => h) (by assumption) ?_
            simp only [Act.put, sS0, sS1, sS2]; refine wpAnyH_pure 3 (v := .pointer (some ⟨go, 1, none⟩)) rfl (by kernel_rfl) (by kernel_rfl) (by kernel_rfl) (fun _ _ _ h => h) rfl (fun _ => by go_simp) (by assumption) ?_; simp only [Act.put, sS0, sS1, sS2]
            refine wpAnyH_cell 4 (v := .slice B mb db) rfl rfl (fun w' h => by
              have hc := h.cell 1
              go_simp) (by kernel_rfl) (by kernel_rfl) (by kernel_rfl) (fun _ _ _ h => h) (by assumption) ?_
            simp only [Act.put, sS0, sS1, sS2]; refine wpAnyH_one 2 rfl (by kernel_rfl) rfl (fun K hK => ?_); go_simp; go_at_call 54
            (with_reducible refine (HC1.out).mono ?_)
            rintro e3 w7 ⟨rfl, zi, zl, zg⟩; have HD7 : Sl _ := ⟨HD.out.app HRO.out.s zg (by intro q hq; simp only [List.mem_cons, List.not_mem_nil, or_false] at hq; rcases hq with rfl | rfl <;> exact ne_int_reg)⟩; have HOC : Sl (OI w7 w.heap.size B mb db (srtI Y)) := ⟨HRO.out.c.grown zg (fun g hg e => HRO.out.ne g e hg)⟩; have HI7 : Sl _ := ⟨And.intro zi zl⟩; have HZ7 : Sl (w6.drew.heap.size ≤ w7.heap.size) := ⟨zg.size⟩; have HC2 : Sl _ := ⟨compactOI HOC.out HN1.out.2⟩; clear zi zl zg; refine hK.out _ _ (HD7.out.at_ 0 rfl) (fun hHeld => ?_); clear hK K
            (try simp only [Act.put, sS0, sS1, sS2])
            refine wpAnyH_one 5 rfl (by kernel_rfl) rfl (fun K hK => ?_); go_simp; go_at_call 54
            (with_reducible refine (HC2.out).mono ?_)
            rintro e4 w8 ⟨rfl, zi, zl, zg⟩; have HD8 : Sl _ := ⟨HD7.out.app HOC.out zg (by intro q hq; simp only [List.mem_cons, List.not_mem_nil, or_false] at hq; rcases hq with rfl | rfl <;> exact ne_int_reg)⟩; have HI8 : Sl _ := ⟨And.intro zi zl⟩; have HZ8 : Sl (w7.heap.size ≤ w8.heap.size) := ⟨zg.size⟩
            have HJ8 : Sl (II w8 A (uniI X).length (uniI X)) := ⟨HI7.out.1.at_block zg.size (fun ad e => by
              have ha := HRO.out.s.addr e
              exact zg.block ad.block (by have := HI7.out; have hz := HD7.out.bl.size; have := ha.2; have := HZ7.out; omega) (fun e2 => HRO.out.ne ad.block ha.1 e2.symm))⟩
            clear zi zl zg; refine hK.out _ _ (HD8.out.at_ 0 rfl) (fun hHeld => ?_); clear hK K
            (try simp only [Act.put, sS0, sS1, sS2])
            refine wpAnyH_pure 6 (v := .agg #[.slice A (Lib.compact (srtI X)).length ca, .slice B (Lib.compact (srtI Y)).length db]) rfl (by kernel_rfl) (by kernel_rfl) (by kernel_rfl) (fun _ _ _ h => h) rfl (fun _ => by go_simp) (by assumption) ?_; simp only [Act.put, sS0, sS1, sS2]; refine wpAnyH_one 7 rfl (by kernel_rfl) rfl (fun K hK => ?_); refine wp_store_partm 45 (.tmp 8) (.tmp 68) rfl gr8 0 #[.slice A (Lib.compact (srtI X)).length ca, .slice B (Lib.compact (srtI Y)).length db] rfl rfl 45 _ #[.slice A (Lib.compact (srtI X)).length ca, .slice B (Lib.compact (srtI Y)).length db] (HD8.out.at_ 1 rfl) (by simp) (putA_all _ _ rfl) (by kernel_rfl) (by simp [Value.oneCell']) ?_; rintro w9 zm zs zb; have HZ : Sl _ := ⟨And.intro zm zb⟩; refine hK.out _ _ ((HD8.out.at_ 0 rfl).mv zm HGO.out) (fun hHeld => ?_); clear hK K zm zs zb; simp only [Act.put, sS0, sS1, sS2]; refine wpAnyH_pure 8 (v := .int .i64 0) rfl (by kernel_rfl) (by kernel_rfl) (by kernel_rfl) (fun _ _ _ h => h) rfl (fun _ => rfl) (by assumption) ?_; simp only [Act.put, sS0, sS1, sS2]; refine wpAnyH_done (by kernel_rfl) ?_ _; clear hHeld
            (try go_wp2_with fail)
            refine bodyPost_ret (results_row2c rfl _ _ gr8 _ _ _ rfl HZ.out.2 Tryz.underlying45 rfl (by kernel_rfl)) rfl ?_; have hge := HD.out.ld.ge _ (List.mem_cons_of_mem _ List.mem_cons_self); have hbl := HD8.out.at_ 1 rfl; refine ⟨⟨A, _, ca, B, _, db, by rw [HV.out]; rfl, ?_⟩, below_mv HD8.out.bl HZ.out.1 hge HD8.out.bl.size⟩; rw [HLL.out.1, HLL.out.2]; have hcs := HRO.out.s.cap; have hcc := HRO.out.c.cap; refine ⟨HJ8.out.at_block HZ.out.1.size (fun ad e => HZ.out.1.block ad.block ?_ ?_), HI8.out.1.at_block HZ.out.1.size (fun ad e => HZ.out.1.block ad.block ?_ ?_), ⟨Nat.le_trans HI7.out.2 hcs.1, hcs.2⟩, ⟨Nat.le_trans HI8.out.2 hcc.1, hcc.2⟩⟩
            · have := (HRO.out.s.addr e).2; have := HZ7.out; have := HZ8.out; omega
            · exact fun e2 => HRO.out.s.ne_blk (HD.out.at_ 1 rfl) (by decide) (by rw [(HRO.out.s.addr e).1, e2])
            · have := (HOC.out.addr e).2; have := HZ8.out; omega
            · exact fun e2 => HOC.out.ne_blk (HD7.out.at_ 1 rfl) (by decide) (by rw [(HOC.out.addr e).1, e2])
  · rw [if_neg hb0] at HE; have q0 : (b != 0) = true := (by rw [bne_iff_ne]; exact hb0); have HB0 : Sl (b ≠ 0) := ⟨hb0⟩; clear hb0
    go_wp2_with ((with_reducible show wpList _ _ _ _ _ _); first
      | (refine wpList_store_whole rfl 45 (.tmp 8) (.tmp 20) rfl gr8 #[.slice none 0 0, .slice none 0 0] rfl rfl 45 _ (HD.out.at_ 0 rfl) rfl (by kernel_rfl) (by simp [Value.oneCell']) ?_; rintro w2 zm zs zb; replace HD : Sl _ := ⟨HD.out.upd zm zb⟩; clear zm zs zb))
    refine bodyPost_ret (results_row2c rfl _ _ gr8 _ _ _ rfl (HD.out.at_ 0 rfl) Tryz.underlying45 rfl (by kernel_rfl)) rfl ?_; exact ⟨AtR.no HE.out HB0.out, HD.out.bl⟩
end Go.Proofs.YtabkpbbjodfolaaGreatDoor
