/- Package crescendo: Check, both. (Printed by gencxd.py.) -/
import Derived.Test.YtabkpbbjodfolaaGreatDoorZvL
import Derived.Test.YtabkpbbjodfolaaGreatDoorZvK
import Derived.Test.YtabkpbbjodfolaaGreatDoorZvA
import Derived.Test.YtabkpbbjodfolaaGreatDoorZvB
namespace Go.Proofs.YtabkpbbjodfolaaGreatDoor
set_option linter.unusedSimpArgs false
open Go.RowKit
set_option linter.unusedVariables false
structure Lg (w W : World) (l : List (Nat × TypeId × Array Value)) : Prop where
  ld : Led w W l
  nd : (l.map Prod.fst).Nodup
theorem Lg.nil (w : World) : Lg w w [] := ⟨Led.nil w, List.Pairwise.nil⟩
theorem Lg.bl {w W : World} {l : List (Nat × TypeId × Array Value)} (h : Lg w W l) : Below w.heap.size w W := h.ld.bl
theorem Lg.at_ {w W : World} {l : List (Nat × TypeId × Array Value)} (h : Lg w W l) (k : Nat) {g : Nat} {t : TypeId} {cs : Array Value} (hk : l[k]? = some (g, t, cs)) : Blk W g t cs := h.ld.at_ k hk
theorem Lg.below {w W W' : World} {l : List (Nat × TypeId × Array Value)} (h : Lg w W l) (hb : Below W.heap.size W W') : Lg w W' l := ⟨h.ld.below hb, h.nd⟩
theorem Lg.new {w W W' : World} {g : Nat} {t : TypeId} {cs : Array Value} {l : List (Nat × TypeId × Array Value)} (h : Lg w W l) (zg : g = W.heap.size) (zm : Mv W.heap.size W W') (zb : Blk W' g t cs) : Lg w W' ((g, t, cs) :: l) := by
  refine ⟨h.ld.new zg zm zb, ?_⟩; rw [List.map_cons, List.nodup_cons]; refine ⟨fun hm => ?_, h.nd⟩; obtain ⟨p, hp, e⟩ := List.mem_map.1 hm; have := (h.ld.all p hp).lt; simp only [] at e; omega
theorem Lg.drop {w W : World} {p : Nat × TypeId × Array Value} {l : List (Nat × TypeId × Array Value)} (h : Lg w W (p :: l)) : Lg w W l := ⟨h.ld.drop, (List.nodup_cons.1 h.nd).2⟩
theorem Lg.upd {w W W' : World} {g : Nat} {t t' : TypeId} {cs cs' : Array Value} {l : List (Nat × TypeId × Array Value)} (h : Lg w W ((g, t, cs) :: l)) (hm : Mv g W W') (zb : Blk W' g t' cs') : Lg w W' ((g, t', cs') :: l) := by
  have hn := List.nodup_cons.1 h.nd; refine ⟨h.ld.upd hm zb (fun p hp e => hn.1 ?_), h.nd⟩; rw [← e]; exact List.mem_map.2 ⟨p, hp, rfl⟩
theorem Lg.mv {w W W' : World} {g : Nat} {l : List (Nat × TypeId × Array Value)} (h : Lg w W l) (hm : Mv g W W') (hg : w.heap.size ≤ g) (hne : ∀ p ∈ l, p.1 ≠ g) : Lg w W' l := ⟨h.ld.mv hm hg hne, h.nd⟩
theorem flG_take {α : Type} (f : α → List Value) (L : List α) (k j : Nat) (u : Value) (h : ((L.take k).flatMap f)[j]? = some u) : (L.flatMap f)[j]? = some u := by
  have hj : j < ((L.take k).flatMap f).length := (List.getElem?_eq_some_iff.1 h).1; have e : L.flatMap f = (L.take k).flatMap f ++ (L.drop k).flatMap f := (by rw [← List.flatMap_append, List.take_append_drop]); rw [e, List.getElem?_append_left hj]; exact h
theorem TbM.take {w : World} {A : Option Addr} {n c : Nat} {L : List RgV} (h : TbM w A n c L) {k : Nat} (hk : k ≤ n) : TbM w A k c (L.take k) := by
  have hl := h.row.len; refine ⟨⟨by rw [List.length_take]; omega, ⟨by rw [flG_len RgV.cells 2 h.row.fix, List.length_take]; congr 1; omega, fun h0 => ?_⟩, h.row.fix⟩, ⟨by have := h.cap; omega, h.cap.2⟩, fun r hr => h.all r (List.mem_of_mem_take hr)⟩; obtain ⟨ad, e, hb, hc⟩ := h.row.rd.2 (by omega); exact ⟨ad, e, hb, fun j u hu => hc j u (flG_take _ _ _ _ _ hu)⟩
theorem alloc_cre (w : World) : (Instr.alloc 53 true (.tuple #[])).run Tryz.prog w = .ok (.pointer (some ⟨w.heap.size, 0, none⟩)) (w.alloc (.cells #[.slice none 0 0] 53)) := by kernel_rfl
def rg0 : RgV := ⟨none, 0, 0, [], none, 0, 0, []⟩
def tabK (o : SpO) (L : List RgV) (i : Nat) : Int :=
  if regE o (L[i]?.getD rg0) = 0 then (if 0 < (stV 0 ((L.take (i + 1)).map RgV.l) (fun _ => 0, 0)).2 ∨ 0 < (stV 0 ((L.take (i + 1)).map RgV.k) (fun _ => 0, 0)).2 then 8 else 0) else regE o (L[i]?.getD rg0)
def tabE (o : SpO) (L : List RgV) : Int := if specE o = 0 then (if 60 < L.length then 3 else fstE (tabK o L) L.length 0) else specE o
theorem regE_ok {o : SpO} {r : RgV} (h : regE o r = 0) : drwE r.l (o.n3 : Int) = 0 ∧ drwE r.k (o.n4 : Int) = 0 := by
  unfold regE at h
  by_cases h1 : drwE r.l (o.n3 : Int) = 0
  · rw [if_pos h1] at h; exact ⟨h1, h⟩
  · rw [if_neg h1] at h; exact absurd h h1
theorem drwE_len {l : List Int} {many : Nat} (h : drwE l (many : Int) = 0) : l.length ≤ many := by
  rcases Nat.eq_zero_or_pos l.length with h0 | h0
  · omega
  · have key : ∀ k, k < l.length → (k : Int) ≤ gt l k := fun k => by
      induction k with
      | zero => intro hk; have := (drwE_ok h hk).1.1; omega
      | succ k ih =>
        intro hk; have h1 := ih (by omega); have h2 := (drwE_ok h hk).2 k (by omega); omega
    have h1 := key (l.length - 1) (by omega); have h2 := (drwE_ok h (show l.length - 1 < l.length by omega)).1.2; omega
theorem specE_bd {o : SpO} (h : specE o = 0) : o.n1 ≤ 6 ∧ o.n2 ≤ 40 ∧ o.n3 ≤ 80 ∧ o.n4 ≤ 24 := by
  unfold specE at h
  split at h
  · cases h
  · omega
set_option maxHeartbeats 6400000 in
set_option maxRecDepth 100000 in
theorem crCheck_any (o : SpO) (T : Option Addr) (n c : Nat) (L : List RgV) (w : World) (hM : SpM w o) (hF : SpF o) (hT : TbM w T n c L) :
    Calls Tryz.prog 111 #[.agg #[.slice o.A1 o.n1 o.c1, .slice o.A2 o.n2 o.c2, .slice o.A3 o.n3 o.c3, .slice o.A4 o.n4 o.c4], .agg #[.slice T n c]] w fun e w' => e = .returned (.int .i64 (tabE o L)) ∧ Below w.heap.size w w' := by
  have HE : Sl (tabE o L = if specE o = 0 then (if 60 < n then 3 else fstE (tabK o L) n 0) else specE o) := ⟨by rw [← hT.row.len]; rfl⟩; obtain ⟨r, hr⟩ : ∃ r, tabE o L = r := ⟨_, rfl⟩; rw [hr] at HE ⊢; have HM : Sl _ := ⟨hM⟩; have HF : Sl _ := ⟨hF⟩; have HT : Sl _ := ⟨hT⟩; have HD : Sl (Lg w w []) := ⟨Lg.nil w⟩; have HSC : Sl _ := ⟨fun (W : World) (hW : Below w.heap.size w W) => speccheck_any o W (hM.below hW) hF⟩; obtain ⟨s, hs⟩ : ∃ s, specE o = s := ⟨_, rfl⟩; have HBD : Sl (s = 0 → o.n1 ≤ 6 ∧ o.n2 ≤ 40 ∧ o.n3 ≤ 80 ∧ o.n4 ≤ 24) := ⟨fun h => specE_bd (by rw [hs, h])⟩; unfold SpecR at HSC; rw [hs] at HE HSC; have hcap := hT.cap; unfold maxLen at hcap; have HCAP : Sl _ := ⟨hcap⟩; clear hM hF hT hr hs hcap; go_enter Tryz.func111, Tryz.ntmps111
  go_upto_region 1 with ((with_reducible show wpList _ _ _ _ _ _); first
    | (refine wpList_box_new 2 rfl rfl 33 (.tmp 0) rfl #[.slice o.A1 o.n1 o.c1, .slice o.A2 o.n2 o.c2, .slice o.A3 o.n3 o.c3, .slice o.A4 o.n4 o.c4] rfl (fun _ => by kernel_rfl) ?_; rintro ws gs zg zm zs zb; replace HD : Sl _ := ⟨HD.out.new zg zm zb⟩; clear zg zm zs zb)
    | (refine wpList_box_new 3 rfl rfl 53 (.tmp 1) rfl #[.slice T n c] rfl (fun _ => by kernel_rfl) ?_; rintro wt gtb zg zm zs zb; replace HD : Sl _ := ⟨HD.out.new zg zm zb⟩; clear zg zm zs zb))
  have s0 := (HD.out.at_ 1 rfl).cell 0; have s1 := (HD.out.at_ 1 rfl).cell 1; have s2 := (HD.out.at_ 1 rfl).cell 2; have s3 := (HD.out.at_ 1 rfl).cell 3; simp at s0 s1 s2 s3; go_wp2_with fail; refine (HSC.out _ HD.out.bl).mono ?_; rintro e w1 ⟨⟨a1, a2, a3, rfl⟩, hb⟩; replace HD : Sl _ := ⟨HD.out.below hb⟩; clear HSC hb s0 s1 s2 s3
  go_upto_region 2 with ((with_reducible show wpList _ _ _ _ _ _); first
    | (refine wpList_alloc_new 5 rfl rfl 72 rfl #[.int .i64 0, .int .i64 0, .int .i64 0] alloc_fault ?_; rintro w2 gf zg zm zs zb; replace HD : Sl _ := ⟨HD.out.new zg zm zb⟩; clear zg zm zs zb)
    | (refine wpList_store_whole rfl 72 (.tmp 5) (.tmp 18) rfl gf #[.int .i64 a1, .int .i64 a2, .int .i64 a3] rfl rfl 72 _ (HD.out.at_ 0 rfl) rfl (by kernel_rfl) (by simp [Value.oneCell']) ?_; rintro w3 zm zs zb; replace HD : Sl _ := ⟨HD.out.upd zm zb⟩; clear zm zs zb))
  replace HD : Sl _ := ⟨HD.out.drop⟩
  by_cases hs0 : s = 0
  · subst hs0; rw [if_pos rfl] at HE; have HN := HBD.out rfl; have HNB : Sl _ := ⟨HN⟩; clear HN; have t0 := (HD.out.at_ 0 rfl).cell 0; simp at t0
    by_cases h60 : 60 < n
    · have q1 : decide ((60 : Int) < (n : Int)) = true := decide_eq_true (by omega); have q2 : (60 : Int) < (n : Int) := (by omega); have HR : Sl (r = 3) := ⟨by rw [HE.out, if_pos h60]⟩; clear h60; go_wp2_with fail; go_ret; exact ⟨by rw [HR.out]; rfl, HD.out.bl⟩
    · have q1 : decide ((60 : Int) < (n : Int)) = false := decide_eq_false (by omega); have q2 : ¬ (60 : Int) < (n : Int) := (by omega); rw [if_neg h60] at HE; have HN60 : Sl (n ≤ 60) := ⟨by omega⟩; clear h60; go_wp2_with fail; clear q1 q2 t0
      go_loopw [30] (fun s30 wr => ∃ (k : Nat), k ≤ n ∧ s30 = .int .i64 k ∧ Sl (Lg w wr [(gtb, 53, #[.slice T n c]), (gs, 33, #[.slice o.A1 o.n1 o.c1, .slice o.A2 o.n2 o.c2, .slice o.A3 o.n3 o.c3, .slice o.A4 o.n4 o.c4])]) ∧ Sl (∀ j, j < k → regE o (L[j]?.getD rg0) = 0) ∧ Sl (fstE (tabK o L) (n - k) k = r)) (fun s30 _ => n - (RowKit.intOf s30).toNat)
      case atStart => exact ⟨0, Nat.zero_le _, rfl, HD, ⟨fun j hj => absurd hj (Nat.not_lt_zero _)⟩, ⟨HE.out.symm⟩⟩
      case round =>
        clear HD HE; obtain ⟨k, hk, rfl, HD, HJ, HK⟩ := hrel
        by_cases hkn : k < n
        · have hkI : decide ((k : Int) < (n : Int)) = true := decide_eq_true (by omega); have hkI2 : (k : Int) < (n : Int) := (by omega); have hk60 : (k : Int) ≤ 60 := (by have := HN60.out; omega); have hn60 : (n : Int) ≤ 60 := (by have := HN60.out; omega); have HST : Sl (r = if tabK o L k = 0 then fstE (tabK o L) (n - (k + 1)) (k + 1) else tabK o L k) := ⟨by rw [← HK.out, show n - k = (n - (k + 1)) + 1 by omega]; rfl⟩; obtain ⟨gb, oo, x, hA, hgb, hx, x0, x1⟩ := (HT.out.below HD.out.bl).at_ hkn; have HTK : Sl (tabK o L k = if regE o x = 0 then (if 0 < (stV 0 ((L.take (k + 1)).map RgV.l) (fun _ => 0, 0)).2 ∨ 0 < (stV 0 ((L.take (k + 1)).map RgV.k) (fun _ => 0, 0)).2 then 8 else 0) else regE o x) := ⟨by unfold tabK; rw [hx]; rfl⟩; have HXR : Sl (L[k]?.getD rg0 = x) := ⟨by rw [hx]; rfl⟩; have HRG : Sl _ := ⟨fun (W : World) (hW : Below w.heap.size w W) => registration_any o x W ((HT.out.all x (List.mem_of_getElem? hx)).below hW) HF.out⟩; obtain ⟨e1, he1⟩ : ∃ e1, regE o x = e1 := ⟨_, rfl⟩; rw [he1] at HTK HRG; have HE1 : Sl _ := ⟨he1⟩; have HKN : Sl (k < n ∧ k + 1 ≤ c) := ⟨hkn, by have := HT.out.cap.1; omega⟩; have hkc : (k : Int) + 1 ≤ (c : Int) := (by have := HT.out.cap.1; omega); rw [hA]; have HA : Sl _ := ⟨hA⟩; clear hA hx he1 HK
          go_upto_region 9 with ((with_reducible show wpList _ _ _ _ _ _); first
            | (refine wpList_alloc_new 8 rfl rfl 45 rfl #[.slice none 0 0, .slice none 0 0] alloc_reg ?_; rintro w4 gx zg zm zs zb; replace HD : Sl _ := ⟨HD.out.new zg zm zb⟩; clear zg zm zs zb)
            | (refine wpList_store_whole rfl 45 (.tmp 8) (.tmp 34) rfl gx #[.slice x.A x.n x.c, .slice x.B x.m x.d] rfl rfl 45 _ (HD.out.at_ 0 rfl) rfl (by kernel_rfl) (by simp [Value.oneCell']) ?_; rintro w5 zm zs zb; replace HD : Sl _ := ⟨HD.out.upd zm zb⟩; clear zm zs zb))
          have s0 := (HD.out.at_ 2 rfl).cell 0; have s1 := (HD.out.at_ 2 rfl).cell 1; have s2 := (HD.out.at_ 2 rfl).cell 2; have s3 := (HD.out.at_ 2 rfl).cell 3; have y0 := (HD.out.at_ 0 rfl).cell 0; have y1 := (HD.out.at_ 0 rfl).cell 1; simp at s0 s1 s2 s3 y0 y1; clear x0 x1; go_wp2_with fail; refine (HRG.out _ HD.out.bl).mono ?_; rintro e w6 ⟨rfl, hb⟩; replace HD : Sl _ := ⟨(HD.out.below hb).drop⟩; clear HRG hb s0 s1 s2 s3 y0 y1
          by_cases he0 : e1 = 0
          · subst he0; rw [if_pos rfl] at HTK
            have HJ2 : Sl (∀ j, j < k + 1 → regE o (L[j]?.getD rg0) = 0) := ⟨fun j hj => by
              rcases Nat.lt_or_ge j k with h1 | h1
              · exact HJ.out j h1
              · obtain rfl : j = k := (by omega)
                rw [HXR.out]; exact HE1.out⟩
            have HIX : Sl (∀ y ∈ L.take (k + 1), (y.n ≤ 100000 ∧ ∀ j, j < y.n → 0 ≤ gt y.l j ∧ gt y.l j < (o.n3 : Int)) ∧ (y.m ≤ 100000 ∧ ∀ j, j < y.m → 0 ≤ gt y.k j ∧ gt y.k j < (o.n4 : Int))) := ⟨fun y hy => by
              obtain ⟨j, hj⟩ := List.mem_iff_getElem?.1 hy
              have hjk : j < k + 1 := by
                have := (List.getElem?_eq_some_iff.1 hj).1; rw [List.length_take] at this; omega
              rw [List.getElem?_take_of_lt hjk] at hj; have hr0 := HJ2.out j hjk; rw [hj, Option.getD_some] at hr0; obtain ⟨r1, r2⟩ := regE_ok hr0; have hrg := HT.out.all y (List.mem_of_getElem? hj); have l1 := drwE_len r1; have l2 := drwE_len r2; have hs1 := hrg.s.1; have hs2 := hrg.c.1; have hbd := HNB.out
              exact ⟨⟨by omega, fun i hi => (drwE_ok r1 (k := i) (by omega)).1⟩, ⟨by omega, fun i hi => (drwE_ok r2 (k := i) (by omega)).1⟩⟩⟩
            have t0 := (HD.out.at_ 0 rfl).cell 0; simp at t0; rw [HA.out] at t0; clear HE1 HJ
            go_upto_region 13 with ((with_reducible show wpList _ _ _ _ _ _); first
              | (refine wpList_alloc_new 10 rfl rfl 53 rfl #[.slice none 0 0] alloc_cre ?_; rintro w7 gu zg zm zs zb; replace HD : Sl _ := ⟨HD.out.new zg zm zb⟩; clear zg zm zs zb)
              | (refine wpList_store_whole rfl 53 (.tmp 10) (.tmp 46) rfl gu #[.slice (some ⟨gb, oo, none⟩) (k + 1) c] rfl rfl 53 _ (HD.out.at_ 0 rfl) rfl (by kernel_rfl) (by simp [Value.oneCell']) ?_; rintro w8 zm zs zb; replace HD : Sl _ := ⟨HD.out.upd zm zb⟩; clear zm zs zb))
            have u0 := (HD.out.at_ 0 rfl).cell 0; have c2 := (HD.out.at_ 2 rfl).cell 2; simp at u0 c2; have H1 : Sl _ := ⟨steps_stops (some ⟨gb, oo, none⟩) (k + 1) c (L.take (k + 1)) o.n3 w8 (by have := (HT.out.take HKN.out.1); rw [HA.out] at this; exact this.below HD.out.bl) (by have := HN60.out; have := HKN.out; omega) (by have := HNB.out; omega) (fun y hy => (HIX.out y hy).1)⟩; obtain ⟨t1, ht1⟩ : ∃ t1, (stV 0 ((L.take (k + 1)).map RgV.l) (fun _ => 0, 0)).2 = t1 := ⟨_, rfl⟩; obtain ⟨t2, ht2⟩ : ∃ t2, (stV 0 ((L.take (k + 1)).map RgV.k) (fun _ => 0, 0)).2 = t2 := ⟨_, rfl⟩; rw [ht1, ht2] at HTK; rw [ht1] at H1; have HT2 : Sl _ := ⟨ht2⟩; clear ht1 ht2 t0; go_wp2_with fail; refine H1.out.mono ?_; rintro e w9 ⟨⟨g1, rfl, _, _⟩, hb⟩; replace HD : Sl _ := ⟨HD.out.below hb⟩; clear H1 hb u0 c2; have u0 := (HD.out.at_ 0 rfl).cell 0; have c2 := (HD.out.at_ 2 rfl).cell 3; simp at u0 c2; have H1 : Sl _ := ⟨steps_couplers (some ⟨gb, oo, none⟩) (k + 1) c (L.take (k + 1)) o.n4 w9 (by have := (HT.out.take HKN.out.1); rw [HA.out] at this; exact this.below HD.out.bl) (by have := HN60.out; have := HKN.out; omega) (by have := HNB.out; omega) (fun y hy => (HIX.out y hy).2)⟩; rw [HT2.out] at H1; go_wp2_with fail; refine H1.out.mono ?_; rintro e wA ⟨⟨g2, rfl, _, _⟩, hb⟩; replace HD : Sl _ := ⟨(HD.out.below hb).drop⟩; clear H1 hb u0 c2 HT2 HIX
            by_cases p1 : 0 < t1
            · have p1d : decide (0 < t1) = true := decide_eq_true p1; have HD8 : tabK o L k = 8 := (by rw [HTK.out]; exact if_pos (.inl p1)); have HR : Sl (r = 8) := ⟨by rw [HST.out, HD8]; rfl⟩; clear HD8; go_wp2_with fail
              (try simp only [Exit.inBlock, Exit.then])
              go_ret; exact ⟨by rw [HR.out]; rfl, HD.out.bl⟩
            · have p1d : decide (0 < t1) = false := decide_eq_false p1
              by_cases p2 : 0 < t2
              · have p2d : decide (0 < t2) = true := decide_eq_true p2; have HD8 : tabK o L k = 8 := (by rw [HTK.out]; exact if_pos (.inr p2)); have HR : Sl (r = 8) := ⟨by rw [HST.out, HD8]; rfl⟩; clear HD8; go_wp2_with fail
                (try simp only [Exit.inBlock, Exit.then])
                go_ret; exact ⟨by rw [HR.out]; rfl, HD.out.bl⟩
              · have p2d : decide (0 < t2) = false := decide_eq_false p2; have HR : Sl (fstE (tabK o L) (n - (k + 1)) (k + 1) = r) := ⟨by rw [HST.out, if_pos]; rw [HTK.out, if_neg (by omega)]⟩; go_wp2_with fail; exact ⟨⟨k + 1, by omega, by go_num, by rw [← HA.out]; exact HD, HJ2, HR⟩, by simp [RowKit.intOf]; omega⟩
          · rw [if_neg he0] at HTK; have q0 : (e1 != 0) = true := (by rw [bne_iff_ne]; exact he0); have HR : Sl (r = e1) := ⟨by rw [HST.out, HTK.out, if_neg he0]⟩; clear he0; go_wp2_with fail
            (try simp only [Exit.inBlock, Exit.then])
            go_ret; exact ⟨by rw [HR.out]; rfl, HD.out.bl⟩
        · obtain rfl : k = n := (by omega); have HR : Sl (r = 0) := ⟨by rw [← HK.out, Nat.sub_self]; rfl⟩; go_wp2_with fail; go_ret; exact ⟨by rw [HR.out]; rfl, HD.out.bl⟩
  · rw [if_neg hs0] at HE; have q0 : (s != 0) = true := (by rw [bne_iff_ne]; exact hs0); clear hs0; go_wp2_with fail; go_ret; exact ⟨by rw [HE.out]; rfl, HD.out.bl⟩
end Go.Proofs.YtabkpbbjodfolaaGreatDoor
namespace Go.Proofs.YtabkpbbjodfolaaGreatDoor
open Go.ChangeShapes Go.WideShapes Go.ChangeAt Go.RowKit Go.Deep
set_option linter.unusedVariables false
set_option linter.unusedSimpArgs false
set_option maxRecDepth 100000 in
theorem rows_trod {α : Type} {t e : TypeId} {sz : Nat} {cells : α → List Value} {fit : α → Prop} {H : Type} {enc : TypeId × Value → H} {W : World} (z0 : α) (hsz : ∀ x, (cells x).length = sz) (hpos : 0 < sz) (ht : Tryz.prog.underlying t = some (.slice e)) (hce : Tryz.prog.cellsOf e = sz)
    (hel : ∀ {fuel : Nat} {cs : List Value} {x : DataW H × List MemPlace}, DataW.trod enc Tryz.prog W 0 (fun _ => true) true fuel e cs = some x → (∀ p ∈ x.2, p.block < W.heap.size) → ∃ r : α, cs = cells r ∧ fit r)
    {fuel : Nat} {v : Value} {x : DataW H × List MemPlace} (h : DataW.trod enc Tryz.prog W 0 (fun _ => true) true fuel t [v] = some x) (hb : ∀ p ∈ x.2, p.block < W.heap.size) :
    ∃ A n c R, v = .slice A n c ∧ RowG W A n sz cells R ∧ (n ≤ c ∧ c ≤ maxLen) ∧ ∀ r ∈ R, fit r := by
  rcases open_slice ht h with ⟨hv, _⟩ | ⟨a, len, cap, m, n, D, Pl, hv, _, hlc, hcm, hm, hx, hi⟩
  · simp at hv; exact ⟨none, 0, 0, [], hv, RowG.nil _ _ _ _ hsz, ⟨Nat.le_refl _, Nat.zero_le _⟩, fun r hr => by cases hr⟩
  · simp at hv; subst hv; simp only [if_true] at hm; subst hm; rw [hx, hce] at hb
    have hel2 : ∀ i, ∃ r : α, i < m → (∀ t u, (cells r)[t]? = some u → W.cell? (a.add (i * sz + t)) = some u) ∧ fit r := fun i => by
      by_cases him : i < m
      · obtain ⟨cs', hc, htt⟩ := hi i him
        obtain ⟨r, rfl, g1⟩ := hel htt (fun p hp => hb p (by
          rw [List.mem_append]
          exact .inr (List.mem_flatMap.2 ⟨i, List.mem_range.2 him, hp⟩)))
        rw [hce] at hc; obtain ⟨_, hcl, hat⟩ := World.cells?_some hc; refine ⟨r, fun _ => ⟨fun t u hu => ?_, g1⟩⟩
        have ht6 : t < sz := by
          have := (List.getElem?_eq_some_iff.1 hu).1
          rwa [hsz] at this
        have := hat t (by exact ht6); rw [add_of_add] at this; rw [this, ← hu]
        try (rw [List.getElem?_eq_getElem (by rw [hsz]; exact ht6)])
      · exact ⟨z0, fun h => absurd h him⟩
    obtain ⟨B, hs⟩ := Classical.axiomOfChoice hel2; refine ⟨some a, len, m, (List.range len).map B, rfl, ⟨by simp, ⟨by rw [flG_len cells sz hsz]; simp, fun h0 => ⟨a, rfl, ?_, fun j u hu => ?_⟩⟩, hsz⟩, ⟨hlc, hcm⟩, fun r hr => ?_⟩
    · exact hb _ (List.mem_append_left _ (MemPlace.mem_row.2 ⟨0, Nat.mul_pos (by omega) hpos, rfl⟩))
    · have hjl : j < len * sz := by
        have := (List.getElem?_eq_some_iff.1 hu).1; rw [flG_len cells sz hsz] at this; simpa using this
      have hd : j / sz < len := Nat.div_lt_of_lt_mul (by rw [Nat.mul_comm]; exact hjl)
      have hq : ((List.range len).map B)[j / sz]? = some (B (j / sz)) := by
        rw [List.getElem?_map, List.getElem?_range hd]; rfl
      have hmod : j % sz < sz := Nat.mod_lt _ hpos; have hg := flG_get cells sz hsz _ _ _ (j % sz) hq hmod; have hjj : j / sz * sz + j % sz = j := (by rw [Nat.mul_comm]; exact Nat.div_add_mod j sz); rw [hjj] at hg; rw [hg] at hu; have := (hs (j / sz) (by omega)).1 (j % sz) u hu
      rwa [hjj] at this
    · obtain ⟨i, hi2⟩ := List.mem_iff_getElem?.1 hr; rw [List.getElem?_map] at hi2; rcases Nat.lt_or_ge i len with hil | hil
      · rw [List.getElem?_range hil] at hi2; injection hi2 with hi2
        rw [← hi2]; exact (hs i (by omega)).2
      · rw [List.getElem?_eq_none (by simpa using hil)] at hi2; cases hi2
theorem rows_div {H : Type} {enc : TypeId × Value → H} {W : World} {fuel : Nat} {v : Value} {x : DataW H × List MemPlace} (h : DataW.trod enc Tryz.prog W 0 (fun _ => true) true fuel 36 [v] = some x) (hb : ∀ p ∈ x.2, p.block < W.heap.size) :
    ∃ A n c R, v = .slice A n c ∧ RowG W A n 2 RgV.cells R ∧ (n ≤ c ∧ c ≤ maxLen) ∧ ∀ r ∈ R, RgM W r := 
  rows_trod (sz := 2) (cells := RgV.cells) (fit := fun r => RgM W r) rg0 (fun _ => rfl) (by decide) Tryz.underlying36 (by kernel_rfl) (fun ht hp => by
    obtain ⟨r, e, g, _⟩ := reg_trod ht hp
    exact ⟨r, e, g⟩) h hb
theorem trod_structA6 {H : Type} {enc : TypeId × Value → H} {P : Program} {w : World} {base : Nat} {spare : Nat → Bool} {held : Bool} {t : TypeId} {f0 f1 f2 f3 f4 f5 : Field} {fuel : Nat} {cs : List Value} {x : DataW H × List MemPlace} (ht : P.underlying t = some (.struct #[f0, f1, f2, f3, f4, f5])) (h : DataW.trod enc P w base spare held fuel t cs = some x) :
    ∃ y0 y1 y2 y3 y4 y5 n, x = (.agg [y0.1, y1.1, y2.1, y3.1, y4.1, y5.1], y0.2 ++ (y1.2 ++ (y2.2 ++ (y3.2 ++ (y4.2 ++ y5.2))))) ∧ cs.length = P.cellsOf t ∧ DataW.trod enc P w base spare held n f0.type ((cs.drop f0.offset).take (P.cellsOf f0.type)) = some y0 ∧
      DataW.trod enc P w base spare held n f1.type ((cs.drop f1.offset).take (P.cellsOf f1.type)) = some y1 ∧ DataW.trod enc P w base spare held n f2.type ((cs.drop f2.offset).take (P.cellsOf f2.type)) = some y2 ∧
      DataW.trod enc P w base spare held n f3.type ((cs.drop f3.offset).take (P.cellsOf f3.type)) = some y3 ∧ DataW.trod enc P w base spare held n f4.type ((cs.drop f4.offset).take (P.cellsOf f4.type)) = some y4 ∧ DataW.trod enc P w base spare held n f5.type ((cs.drop f5.offset).take (P.cellsOf f5.type)) = some y5 := by
  obtain ⟨xs, n, _, rfl, hl, hlen, hf⟩ := DataW.trod_struct ht h
  match xs, hlen with
  | [y0, y1, y2, y3, y4, y5], _ => exact ⟨y0, y1, y2, y3, y4, y5, n, by simp, hl, by simpa using hf 0 f0 rfl, by simpa using hf 1 f1 rfl, by simpa using hf 2 f2 rfl, by simpa using hf 3 f3 rfl, by simpa using hf 4 f4 rfl, by simpa using hf 5 f5 rfl⟩
theorem trod_structA5 {H : Type} {enc : TypeId × Value → H} {P : Program} {w : World} {base : Nat} {spare : Nat → Bool} {held : Bool} {t : TypeId} {f0 f1 f2 f3 f4 : Field} {fuel : Nat} {cs : List Value} {x : DataW H × List MemPlace} (ht : P.underlying t = some (.struct #[f0, f1, f2, f3, f4])) (h : DataW.trod enc P w base spare held fuel t cs = some x) :
    ∃ y0 y1 y2 y3 y4 n, x = (.agg [y0.1, y1.1, y2.1, y3.1, y4.1], y0.2 ++ (y1.2 ++ (y2.2 ++ (y3.2 ++ y4.2)))) ∧ cs.length = P.cellsOf t ∧ DataW.trod enc P w base spare held n f0.type ((cs.drop f0.offset).take (P.cellsOf f0.type)) = some y0 ∧
      DataW.trod enc P w base spare held n f1.type ((cs.drop f1.offset).take (P.cellsOf f1.type)) = some y1 ∧ DataW.trod enc P w base spare held n f2.type ((cs.drop f2.offset).take (P.cellsOf f2.type)) = some y2 ∧
      DataW.trod enc P w base spare held n f3.type ((cs.drop f3.offset).take (P.cellsOf f3.type)) = some y3 ∧ DataW.trod enc P w base spare held n f4.type ((cs.drop f4.offset).take (P.cellsOf f4.type)) = some y4 := by
  obtain ⟨xs, n, _, rfl, hl, hlen, hf⟩ := DataW.trod_struct ht h
  match xs, hlen with
  | [y0, y1, y2, y3, y4], _ => exact ⟨y0, y1, y2, y3, y4, n, by simp, hl, by simpa using hf 0 f0 rfl, by simpa using hf 1 f1 rfl, by simpa using hf 2 f2 rfl, by simpa using hf 3 f3 rfl, by simpa using hf 4 f4 rfl⟩
theorem trod_structA4 {H : Type} {enc : TypeId × Value → H} {P : Program} {w : World} {base : Nat} {spare : Nat → Bool} {held : Bool} {t : TypeId} {f0 f1 f2 f3 : Field} {fuel : Nat} {cs : List Value} {x : DataW H × List MemPlace} (ht : P.underlying t = some (.struct #[f0, f1, f2, f3])) (h : DataW.trod enc P w base spare held fuel t cs = some x) :
    ∃ y0 y1 y2 y3 n, x = (.agg [y0.1, y1.1, y2.1, y3.1], y0.2 ++ (y1.2 ++ (y2.2 ++ y3.2))) ∧ cs.length = P.cellsOf t ∧ DataW.trod enc P w base spare held n f0.type ((cs.drop f0.offset).take (P.cellsOf f0.type)) = some y0 ∧
      DataW.trod enc P w base spare held n f1.type ((cs.drop f1.offset).take (P.cellsOf f1.type)) = some y1 ∧ DataW.trod enc P w base spare held n f2.type ((cs.drop f2.offset).take (P.cellsOf f2.type)) = some y2 ∧
      DataW.trod enc P w base spare held n f3.type ((cs.drop f3.offset).take (P.cellsOf f3.type)) = some y3 := by
  obtain ⟨xs, n, _, rfl, hl, hlen, hf⟩ := DataW.trod_struct ht h
  match xs, hlen with
  | [y0, y1, y2, y3], _ => exact ⟨y0, y1, y2, y3, n, by simp, hl, by simpa using hf 0 f0 rfl, by simpa using hf 1 f1 rfl, by simpa using hf 2 f2 rfl, by simpa using hf 3 f3 rfl⟩
section
variable {H : Type} {enc : TypeId × Value → H} {W : World} {fuel : Nat} {cs : List Value} {x : DataW H × List MemPlace}
set_option maxRecDepth 100000 in
theorem sfeet_trod (h : DataW.trod enc Tryz.prog W 0 (fun _ => true) true fuel 87 cs = some x) : ∃ num den : Int, cs = [.int .i64 num, .int .i64 den] ∧ i64 num ∧ i64 den := by
  obtain ⟨y0, y1, n, hx, hl, h0, h1⟩ := trod_structA2 Tryz.underlying87 h; have c1 : Tryz.prog.cellsOf 3 = 1 := (by kernel_rfl); have c7 : Tryz.prog.cellsOf 87 = 2 := (by kernel_rfl); rw [c7] at hl
  match cs, hl with
  | [u0, u1], _ =>
    simp only [c1, List.drop_zero, List.drop_succ_cons, List.take_succ_cons, List.take_zero] at h0 h1; obtain ⟨a, e0, _, ha⟩ := DataW.trod_int Tryz.underlying3 h0; obtain ⟨b, e1, _, hb⟩ := DataW.trod_int Tryz.underlying3 h1; simp at e0 e1; subst e0 e1; exact ⟨a, b, rfl, wf_i64 ha, wf_i64 hb⟩
set_option maxRecDepth 100000 in
theorem sdiv_trod (h : DataW.trod enc Tryz.prog W 0 (fun _ => true) true fuel 98 cs = some x) : ∃ r : DvV, cs = r.cells ∧ r.nm.size ≤ maxLen ∧ i64 r.lo ∧ i64 r.hi := by
  obtain ⟨y0, y1, y2, n, hx, hl, h0, h1, h2⟩ := trod_structA3 Tryz.underlying98 h; have c1 : Tryz.prog.cellsOf 3 = 1 := (by kernel_rfl); have c2 : Tryz.prog.cellsOf 9 = 1 := (by kernel_rfl); have c7 : Tryz.prog.cellsOf 98 = 3 := (by kernel_rfl); rw [c7] at hl
  match cs, hl with
  | [u0, u1, u2], _ =>
    simp only [c1, c2, List.drop_zero, List.drop_succ_cons, List.take_succ_cons, List.take_zero] at h0 h1 h2; obtain ⟨s, e0, _, hs⟩ := DataW.trod_string Tryz.underlying9 h0; obtain ⟨a, e1, _, ha⟩ := DataW.trod_int Tryz.underlying3 h1; obtain ⟨b, e2, _, hb⟩ := DataW.trod_int Tryz.underlying3 h2; simp at e0 e1 e2; subst e0 e1 e2; exact ⟨⟨s, a, b⟩, rfl, hs, wf_i64 ha, wf_i64 hb⟩
set_option maxRecDepth 100000 in
theorem srank_trod (h : DataW.trod enc Tryz.prog W 0 (fun _ => true) true fuel 100 cs = some x) : ∃ r : RnV, cs = r.cells ∧ r.nm.size ≤ maxLen ∧ i64 r.kd ∧ i64 r.fn ∧ i64 r.fd ∧ i64 r.lo ∧ i64 r.ct := by
  obtain ⟨y0, y1, y2, y3, y4, n, hx, hl, h0, h1, h2, h3, h4⟩ := trod_structA5 Tryz.underlying100 h; have c1 : Tryz.prog.cellsOf 3 = 1 := (by kernel_rfl); have c2 : Tryz.prog.cellsOf 9 = 1 := (by kernel_rfl); have c3 : Tryz.prog.cellsOf 87 = 2 := (by kernel_rfl); have c7 : Tryz.prog.cellsOf 100 = 6 := (by kernel_rfl); rw [c7] at hl
  match cs, hl with
  | [u0, u1, u2, u3, u4, u5], _ =>
    simp only [c1, c2, c3, List.drop_zero, List.drop_succ_cons, List.take_succ_cons, List.take_zero] at h0 h1 h2 h3 h4; obtain ⟨s, e0, _, hs⟩ := DataW.trod_string Tryz.underlying9 h0; obtain ⟨k, e1, _, hk⟩ := DataW.trod_int Tryz.underlying3 h1; obtain ⟨a, b, e2, ha, hb⟩ := sfeet_trod h2; obtain ⟨lo, e3, _, hlo⟩ := DataW.trod_int Tryz.underlying3 h3; obtain ⟨ct, e4, _, hct⟩ := DataW.trod_int Tryz.underlying3 h4; simp at e0 e1 e2 e3 e4; obtain ⟨e2, e2'⟩ := e2; subst e0 e1 e2 e2' e3 e4; exact ⟨⟨s, k, a, b, lo, ct⟩, rfl, hs, wf_i64 hk, ha, hb, wf_i64 hlo, wf_i64 hct⟩
set_option maxRecDepth 100000 in
theorem spart_trod (h : DataW.trod enc Tryz.prog W 0 (fun _ => true) true fuel 102 cs = some x) : ∃ r : PrV, cs = r.cells ∧ i64 r.rk ∧ i64 r.sh ∧ i64 r.lo ∧ i64 r.hi := by
  obtain ⟨y0, y1, y2, y3, n, hx, hl, h0, h1, h2, h3⟩ := trod_structA4 Tryz.underlying102 h; have c1 : Tryz.prog.cellsOf 3 = 1 := (by kernel_rfl); have c7 : Tryz.prog.cellsOf 102 = 4 := (by kernel_rfl); rw [c7] at hl
  match cs, hl with
  | [u0, u1, u2, u3], _ =>
    simp only [c1, List.drop_zero, List.drop_succ_cons, List.take_succ_cons, List.take_zero] at h0 h1 h2 h3; obtain ⟨a, e0, _, ha⟩ := DataW.trod_int Tryz.underlying3 h0; obtain ⟨b, e1, _, hb⟩ := DataW.trod_int Tryz.underlying3 h1; obtain ⟨c, e2, _, hc⟩ := DataW.trod_int Tryz.underlying3 h2; obtain ⟨d, e3, _, hd⟩ := DataW.trod_int Tryz.underlying3 h3; simp at e0 e1 e2 e3; subst e0 e1 e2 e3; exact ⟨⟨a, b, c, d⟩, rfl, wf_i64 ha, wf_i64 hb, wf_i64 hc, wf_i64 hd⟩
set_option maxRecDepth 100000 in
theorem scoup_trod (h : DataW.trod enc Tryz.prog W 0 (fun _ => true) true fuel 93 cs = some x) : ∃ r : CpV, cs = r.cells ∧ r.nm.size ≤ maxLen ∧ i64 r.fr ∧ i64 r.tt ∧ i64 r.sh ∧ i64 r.on := by
  obtain ⟨y0, y1, y2, y3, y4, y5, n, hx, hl, h0, h1, h2, h3, h4, h5⟩ := trod_structA6 Tryz.underlying93 h; have c1 : Tryz.prog.cellsOf 3 = 1 := (by kernel_rfl); have c2 : Tryz.prog.cellsOf 9 = 1 := (by kernel_rfl); have c3 : Tryz.prog.cellsOf 4 = 1 := (by kernel_rfl); have c7 : Tryz.prog.cellsOf 93 = 6 := (by kernel_rfl); rw [c7] at hl
  match cs, hl with
  | [u0, u1, u2, u3, u4, u5], _ =>
    simp only [c1, c2, c3, List.drop_zero, List.drop_succ_cons, List.take_succ_cons, List.take_zero] at h0 h1 h2 h3 h4 h5; obtain ⟨s, e0, _, hs⟩ := DataW.trod_string Tryz.underlying9 h0; obtain ⟨a, e1, _, ha⟩ := DataW.trod_int Tryz.underlying3 h1; obtain ⟨b, e2, _, hb⟩ := DataW.trod_int Tryz.underlying3 h2; obtain ⟨c, e3, _, hc⟩ := DataW.trod_int Tryz.underlying3 h3; obtain ⟨d, e4, _, hd⟩ := DataW.trod_int Tryz.underlying3 h4; obtain ⟨f, e5, _⟩ := DataW.trod_bool Tryz.underlying4 h5; simp at e0 e1 e2 e3 e4 e5; subst e0 e1 e2 e3 e4 e5; exact ⟨⟨s, a, b, c, d, f⟩, rfl, hs, wf_i64 ha, wf_i64 hb, wf_i64 hc, wf_i64 hd⟩
set_option maxRecDepth 100000 in
theorem sstop_trod (h : DataW.trod enc Tryz.prog W 0 (fun _ => true) true fuel 90 cs = some x) (hb : ∀ p ∈ x.2, p.block < W.heap.size) :
    ∃ r : SpV, cs = r.cells ∧ RowG W r.A r.n 4 PrV.cells r.ps ∧ r.nm.size ≤ maxLen ∧ i64 r.dv ∧ i64 r.fn ∧ i64 r.fd ∧ (r.n ≤ r.c ∧ r.c ≤ maxLen) ∧ ∀ p ∈ r.ps, i64 p.rk ∧ i64 p.sh ∧ i64 p.lo ∧ i64 p.hi := by
  obtain ⟨y0, y1, y2, y3, n, hx, hl, h0, h1, h2, h3⟩ := trod_structA4 Tryz.underlying90 h; have c1 : Tryz.prog.cellsOf 3 = 1 := (by kernel_rfl); have c2 : Tryz.prog.cellsOf 9 = 1 := (by kernel_rfl); have c3 : Tryz.prog.cellsOf 87 = 2 := (by kernel_rfl); have c4 : Tryz.prog.cellsOf 88 = 1 := (by kernel_rfl); have c7 : Tryz.prog.cellsOf 90 = 5 := (by kernel_rfl); rw [c7] at hl
  match cs, hl with
  | [u0, u1, u2, u3, u4], _ =>
    simp only [c1, c2, c3, c4, List.drop_zero, List.drop_succ_cons, List.take_succ_cons, List.take_zero] at h0 h1 h2 h3; obtain ⟨s, e0, _, hs⟩ := DataW.trod_string Tryz.underlying9 h0; obtain ⟨k, e1, _, hk⟩ := DataW.trod_int Tryz.underlying3 h1; obtain ⟨a, b, e2, ha, hb2⟩ := sfeet_trod h2; obtain ⟨A, n1, c, R, e3, g1, g2, g3⟩ := rows_trod (sz := 4) (fit := fun p : PrV => i64 p.rk ∧ i64 p.sh ∧ i64 p.lo ∧ i64 p.hi) (cells := PrV.cells) ⟨0, 0, 0, 0⟩ (fun _ => rfl) (by decide) Tryz.underlying88 (by kernel_rfl) (fun ht _ => spart_trod ht) h3 (fun p hp => hb p (by rw [hx]; simp [hp])); simp at e0 e1 e2; obtain ⟨e2, e2'⟩ := e2; subst e0 e1 e2 e2' e3; exact ⟨⟨s, k, a, b, A, n1, c, R⟩, rfl, g1, hs, wf_i64 hk, ha, hb2, g2, g3⟩
end
set_option maxRecDepth 100000 in
theorem spec_arg {H : Type} {enc : TypeId × Value → H} {W : World} {base : Nat} {v : Value} {d : DataW H} {ps : List MemPlace} (hval : Value.okWide Tryz.prog W .any base 33 v) (h : DataW.Trod enc Tryz.prog W 0 (fun _ => true) true 33 v d ps) (hb : ∀ p ∈ ps, p.block < W.heap.size) :
    ∃ o : SpO, v = .agg #[.slice o.A1 o.n1 o.c1, .slice o.A2 o.n2 o.c2, .slice o.A3 o.n3 o.c3, .slice o.A4 o.n4 o.c4] ∧ SpM W o ∧ SpF o := by
  obtain ⟨cs, rfl, hsz⟩ := okWide_struct Tryz.underlying33 hval; have c7 : Tryz.prog.cellsOf 33 = 4 := (by kernel_rfl); rw [c7] at hsz; obtain ⟨l⟩ := cs
  match l, hsz with
  | [v0, v1, v2, v3], _ =>
    obtain ⟨fuel, hf⟩ := h; obtain ⟨y0, y1, y2, y3, n, hx, _, h0, h1, h2, h3⟩ := trod_structA4 Tryz.underlying33 hf; have c1 : Tryz.prog.cellsOf 28 = 1 := (by kernel_rfl); have c2 : Tryz.prog.cellsOf 29 = 1 := (by kernel_rfl); have c3 : Tryz.prog.cellsOf 30 = 1 := (by kernel_rfl); have c4 : Tryz.prog.cellsOf 31 = 1 := (by kernel_rfl); simp only [Value.cells, c1, c2, c3, c4, List.drop_zero, List.drop_succ_cons, List.take_succ_cons, List.take_zero] at h0 h1 h2 h3; simp only [Prod.mk.injEq] at hx; obtain ⟨_, rfl⟩ := hx; obtain ⟨A1, n1, c1, R1, e1, a1, b1, f1⟩ := rows_trod (sz := 3) (fit := fun r : DvV => r.nm.size ≤ maxLen ∧ i64 r.lo ∧ i64 r.hi) (cells := DvV.cells) dv0 (fun _ => rfl) (by decide) Tryz.underlying28 (by kernel_rfl) (fun ht _ => sdiv_trod ht) h0 (fun p hp => hb p (by simp [hp])); obtain ⟨A2, n2, c2, R2, e2, a2, b2, f2⟩ := rows_trod (sz := 6) (fit := fun r : RnV => r.nm.size ≤ maxLen ∧ i64 r.kd ∧ i64 r.fn ∧ i64 r.fd ∧ i64 r.lo ∧ i64 r.ct) (cells := RnV.cells) rn0 (fun _ => rfl) (by decide) Tryz.underlying29 (by kernel_rfl) (fun ht _ => srank_trod ht) h1 (fun p hp => hb p (by simp [hp])); obtain ⟨A3, n3, c3, R3, e3, a3, b3, f3⟩ := rows_trod (sz := 5) (fit := fun r : SpV => RowG W r.A r.n 4 PrV.cells r.ps ∧ r.nm.size ≤ maxLen ∧ i64 r.dv ∧ i64 r.fn ∧ i64 r.fd ∧ (r.n ≤ r.c ∧ r.c ≤ maxLen) ∧ ∀ p ∈ r.ps, i64 p.rk ∧ i64 p.sh ∧ i64 p.lo ∧ i64 p.hi) (cells := SpV.cells) ⟨⟨#[]⟩, 0, 0, 0, none, 0, 0, []⟩ (fun _ => rfl) (by decide) Tryz.underlying30 (by kernel_rfl) (fun ht hp => sstop_trod ht hp) h2 (fun p hp => hb p (by simp [hp])); obtain ⟨A4, n4, c4, R4, e4, a4, b4, f4⟩ := rows_trod (sz := 6) (fit := fun r : CpV => r.nm.size ≤ maxLen ∧ i64 r.fr ∧ i64 r.tt ∧ i64 r.sh ∧ i64 r.on) (cells := CpV.cells) ⟨⟨#[]⟩, 0, 0, 0, 0, false⟩ (fun _ => rfl) (by decide) Tryz.underlying31 (by kernel_rfl) (fun ht _ => scoup_trod ht) h3 (fun p hp => hb p (by simp [hp])); subst e1 e2 e3 e4; exact ⟨⟨A1, n1, c1, R1, A2, n2, c2, R2, A3, n3, c3, R3, A4, n4, c4, R4⟩, rfl, ⟨a1, a2, a3, a4, fun x hx => (f3 x hx).1⟩, ⟨⟨b1, b2, b3, b4⟩, f1, f2, fun x hx => (f3 x hx).2, f4⟩⟩
end Go.Proofs.YtabkpbbjodfolaaGreatDoor
namespace Go.Proofs.YtabkpbbjodfolaaGreatDoor
set_option linter.unusedSimpArgs false
set_option linter.unusedVariables false
abbrev By := List UInt8
def dbl : By → By
  | [] => []
  | c :: l => if c = 34 then 34 :: 34 :: dbl l else c :: dbl l
def quo (t : By) : By := 34 :: (dbl t ++ [34])
def prt (b : Nat) (t : By) : Bool := t.all fun c => decide (b ≤ c.toNat ∧ c.toNat ≤ 126)
def txt (t : By) : Bool := decide (t.length ≤ 200) && prt 32 t
def rgt (t : By) : Bool := decide (t ≠ []) && decide (t.length ≤ 200) && prt 33 t && decide (34 ∉ t)
def scan : By → Option (By × By)
  | [] => none
  | c :: l => if c = 34 then (match l with
      | [] => some ([], [])
      | d :: l' => if d = 34 then (scan l').map (fun x => (34 :: x.1, x.2)) else some ([], d :: l'))
    else (scan l).map fun x => (c :: x.1, x.2)
theorem scan_of : ∀ (t r : By), r.head? ≠ some 34 → scan (dbl t ++ 34 :: r) = some (t, r)
  | [], r, h => by
    cases r with
    | nil => simp [dbl, scan]
    | cons d r =>
      have hd : d ≠ 34 := fun e => h (by rw [e]; rfl)
      simp [dbl, scan, hd]
  | c :: t, r, h => by
    by_cases hc : c = 34
    · subst hc; simp only [dbl, if_true, List.cons_append]; rw [scan.eq_def]; simp only [if_true, scan_of t r h, Option.map_some]
    · simp only [dbl, if_neg hc, List.cons_append]; rw [scan.eq_def]; simp only [if_neg hc, scan_of t r h, Option.map_some]
theorem of_scan : ∀ (n : Nat) (l t r : By), l.length ≤ n → scan l = some (t, r) → l = dbl t ++ 34 :: r ∧ r.head? ≠ some 34
  | _, [], t, r, _, h => by simp [scan] at h
  | 0, c :: l, t, r, hn, h => by simp at hn
  | n + 1, c :: l, t, r, hn, h => by
    rw [scan.eq_def] at h; simp only [] at h
    by_cases hc : c = 34
    · subst hc; rw [if_pos rfl] at h
      cases l with
      | nil =>
        simp only [Option.some.injEq, Prod.mk.injEq] at h; obtain ⟨rfl, rfl⟩ := h; exact ⟨rfl, by simp⟩
      | cons d l' =>
        simp only [] at h
        by_cases hd : d = 34
        · subst hd; rw [if_pos rfl] at h; obtain ⟨⟨t', r'⟩, h1, h2⟩ := Option.map_eq_some_iff.1 h; simp only [Prod.mk.injEq] at h2; obtain ⟨rfl, rfl⟩ := h2; obtain ⟨e, k⟩ := of_scan n l' t' r' (by simp at hn; omega) h1; exact ⟨by rw [e]; simp [dbl], k⟩
        · rw [if_neg hd] at h; simp only [Option.some.injEq, Prod.mk.injEq] at h; obtain ⟨rfl, rfl⟩ := h; exact ⟨rfl, by simpa using hd⟩
    · rw [if_neg hc] at h; obtain ⟨⟨t', r'⟩, h1, h2⟩ := Option.map_eq_some_iff.1 h; simp only [Prod.mk.injEq] at h2; obtain ⟨rfl, rfl⟩ := h2; obtain ⟨e, k⟩ := of_scan n l t' r' (by simp at hn; omega) h1; exact ⟨by rw [e]; simp [dbl, hc], k⟩
def consU (u : By) : List By → List By
  | [] => [u]
  | h :: tl => (u ++ h) :: tl
def pcs : Bool → By → List By
  | _, [] => [[]]
  | st, c :: l => if c = 34 then consU [c] (pcs (!st) l) else if c = 32 ∧ st = false then [] :: pcs st l else consU [c] (pcs st l)
theorem pcs_ne (st : Bool) : ∀ l, pcs st l ≠ [] := by
  intro l
  cases l with
  | nil => simp [pcs]
  | cons c l =>
    unfold pcs
    split
    · cases pcs (!st) l <;> simp [consU]
    · split
      · simp
      · cases pcs st l <;> simp [consU]
theorem consU_app (u v : By) (l : List By) : consU u (consU v l) = consU (u ++ v) l := by
  cases l with
  | nil => rfl
  | cons h t => simp [consU]
theorem pcs_plain : ∀ (p r : By), 34 ∉ p → 32 ∉ p → pcs false (p ++ r) = consU p (pcs false r)
  | [], r, _, _ => by
    cases h : pcs false r with
    | nil => exact absurd h (pcs_ne _ _)
    | cons a b => simp [consU, h]
  | c :: p, r, h1, h2 => by
    simp only [List.mem_cons, not_or] at h1 h2; rw [List.cons_append, pcs, if_neg (fun e => h1.1 e.symm), if_neg (fun e => h2.1 e.1.symm), pcs_plain p r h1.2 h2.2, consU_app]; rfl
theorem pcs_head : ∀ (st : Bool) (l h : By) (tl : List By), pcs st l = h :: tl → (l = h ∧ tl = []) ∨ ∃ r, l = h ++ 32 :: r ∧ tl = pcs false r
  | st, [], h, tl, e => by
    simp [pcs] at e; obtain ⟨rfl, rfl⟩ := e; exact .inl ⟨rfl, rfl⟩
  | st, c :: l, h, tl, e => by
    rw [pcs] at e
    split at e
    · cases hp : pcs (!st) l with
      | nil => exact absurd hp (pcs_ne _ _)
      | cons a b =>
        rw [hp] at e; simp only [consU, List.cons.injEq] at e; obtain ⟨rfl, rfl⟩ := e; rcases pcs_head _ l a b hp with ⟨rfl, rfl⟩ | ⟨r, rfl, rfl⟩
        · exact .inl ⟨rfl, rfl⟩
        · exact .inr ⟨r, rfl, rfl⟩
    · split at e
      · rename_i h1; obtain ⟨rfl, rfl⟩ := h1; simp only [List.cons.injEq] at e; obtain ⟨rfl, rfl⟩ := e; exact .inr ⟨l, rfl, rfl⟩
      · cases hp : pcs st l with
        | nil => exact absurd hp (pcs_ne _ _)
        | cons a b =>
          rw [hp] at e; simp only [consU, List.cons.injEq] at e; obtain ⟨rfl, rfl⟩ := e; rcases pcs_head _ l a b hp with ⟨rfl, rfl⟩ | ⟨r, rfl, rfl⟩
          · exact .inl ⟨rfl, rfl⟩
          · exact .inr ⟨r, rfl, rfl⟩
end Go.Proofs.YtabkpbbjodfolaaGreatDoor
namespace Go.Proofs.YtabkpbbjodfolaaGreatDoor
set_option linter.unusedSimpArgs false
set_option linter.unusedVariables false
abbrev Fl := Bool × By
def unq (s : By) : Option By := match s with
  | [] => none
  | c :: l => if c = 34 then (match scan l with
      | some (t, []) => if txt t = true then some t else none
      | _ => none) else none
theorem unq_iff {s t : By} : unq s = some t ↔ s = quo t ∧ txt t = true := by
  constructor
  · intro h
    cases s with
    | nil => simp [unq] at h
    | cons c l =>
      unfold unq at h; simp only [] at h
      split at h
      · rename_i hc; subst hc
        split at h
        · rename_i t' hs
          split at h
          · rename_i ht; injection h with h
            subst h; obtain ⟨e, _⟩ := of_scan _ l t' [] (Nat.le_refl _) hs; exact ⟨by rw [e]; rfl, ht⟩
          · cases h
        · cases h
      · cases h
  · rintro ⟨rfl, ht⟩; have hs : scan (dbl t ++ [34]) = some (t, []) := scan_of t [] (by simp); unfold unq quo; simp only [if_true, hs, if_pos ht]
def fldP (p : By) : Option Fl := if p.head? = some 34 then (unq p).map (fun t => (true, t)) else if rgt p = true then some (false, p) else none
def mapO (f : By → Option Fl) : List By → Option (List Fl)
  | [] => some []
  | a :: l => match f a with
    | none => none
    | some x => (mapO f l).map (x :: ·)
end Go.Proofs.YtabkpbbjodfolaaGreatDoor
namespace Go.Proofs.YtabkpbbjodfolaaGreatDoor
set_option linter.unusedSimpArgs false
open Go.RowKit
set_option linter.unusedVariables false
theorem prt_all {b : Nat} {s : ByteArray} (h : ∀ j (hj : j < s.size), b ≤ s[j].toNat ∧ s[j].toNat ≤ 126) : prt b s.data.toList = true := by
  unfold prt; rw [List.all_eq_true]; intro c hc; obtain ⟨j, hj, e⟩ := List.mem_iff_getElem.1 hc; have hj2 : j < s.size := (by simpa using hj); have := h j hj2; have e2 : s[j] = c := (by rw [← e]; simp [ByteArray.getElem_eq_getElem_data]); rw [e2] at this; exact decide_eq_true this
theorem prt_bad {b : Nat} {s : ByteArray} {k : Nat} (hk : k < s.size) (h : ¬ (b ≤ s[k].toNat ∧ s[k].toNat ≤ 126)) : prt b s.data.toList = false := by
  unfold prt; rw [List.all_eq_false]; refine ⟨s[k], ?_, by simpa using h⟩; have e2 : s[k] = s.data.toList[k]'(by simpa using hk) := (by simp [ByteArray.getElem_eq_getElem_data]); rw [e2]; exact List.getElem_mem _
set_option maxHeartbeats 1600000 in
theorem printed_any (s : ByteArray) (hs : s.size ≤ maxLen) (b : Nat) (hb : b < 256) (w : World) : Calls Tryz.prog 175 #[.string s, .int .u8 (b : Int)] w fun e w' => e = .returned (.bool (prt b s.data.toList)) ∧ w' = w := by
  unfold maxLen at hs; obtain ⟨PB, hPB⟩ : ∃ PB, prt b s.data.toList = PB := ⟨_, rfl⟩; have HPB : Sl (prt b s.data.toList = PB) := ⟨hPB⟩; rw [hPB]; clear hPB; go_enter Tryz.func175, Tryz.ntmps175
  go_upto_region 2 with fail
  go_loopw [8] (fun s8 wr => ∃ k : Nat, k ≤ s.size ∧ s8 = .int .i64 k ∧ Sl (∀ j (hj : j < s.size), j < k → b ≤ s[j].toNat ∧ s[j].toNat ≤ 126) ∧ wr = w) (fun s8 _ => s.size - (RowKit.intOf s8).toNat)
  case atStart => exact ⟨0, Nat.zero_le _, rfl, ⟨fun j _ h => absurd h (Nat.not_lt_zero _)⟩, rfl⟩
  case round =>
    obtain ⟨k, hk, rfl, HG, rfl⟩ := hrel
    by_cases hlt : k < s.size
    · have hkI : decide ((k : Int) < (s.size : Int)) = true := decide_eq_true (by omega); have hkI2 : (k : Int) < (s.size : Int) := (by omega); obtain ⟨z, hz⟩ : ∃ z : Int, ((s[k].toNat : Nat) : Int) = z := ⟨_, rfl⟩
      by_cases hbad : z < (b : Int)
      · have HP : Sl (PB = false) := ⟨HPB.out.symm.trans (prt_bad hlt (by omega))⟩; have hbad2 : decide (z < (b : Int)) = true := decide_eq_true hbad; go_wp2_with fail; go_ret; exact ⟨by rw [HP.out]; rfl, rfl⟩
      · have hbad2 : decide (z < (b : Int)) = false := decide_eq_false hbad
        by_cases hbig : (126 : Int) < z
        · have HP : Sl (PB = false) := ⟨HPB.out.symm.trans (prt_bad hlt (by omega))⟩; have hbig2 : decide ((126 : Int) < z) = true := decide_eq_true hbig; go_wp2_with fail; go_ret; exact ⟨by rw [HP.out]; rfl, rfl⟩
        · have hbig2 : decide ((126 : Int) < z) = false := decide_eq_false hbig
          have HNX : Sl (∀ j (hj : j < s.size), j < k + 1 → b ≤ s[j].toNat ∧ s[j].toNat ≤ 126) := ⟨fun j hj hjk => by
            rcases Nat.lt_or_ge j k with h1 | h1
            · exact HG.out j hj h1
            · obtain rfl : j = k := (by omega)
              omega⟩
          go_wp2_with fail; exact ⟨⟨k + 1, hlt, by go_num, HNX, by trivial⟩, by simp [RowKit.intOf]; omega⟩
    · obtain rfl : k = s.size := (by omega); have hkI : decide ((s.size : Int) < (s.size : Int)) = false := (by simp); have HP : Sl (PB = true) := ⟨HPB.out.symm.trans (prt_all (fun j hj => HG.out j hj hj))⟩; go_wp2_with fail; go_ret; exact ⟨by rw [HP.out]; rfl, rfl⟩
theorem wtext_any (s : ByteArray) (hs : s.size ≤ maxLen) (w : World) : Calls Tryz.prog 174 #[.string s] w fun e w' => e = .returned (.bool (txt s.data.toList)) ∧ w' = w := by
  have HC : Sl _ := ⟨printed_any s hs 32 (by decide) w⟩; unfold maxLen at hs; have htx : txt s.data.toList = (decide (s.size ≤ 200) && prt 32 s.data.toList) := (by unfold txt; simp); obtain ⟨PB, hPB⟩ : ∃ PB, prt 32 s.data.toList = PB := ⟨_, rfl⟩; rw [htx, hPB]; rw [hPB] at HC; clear htx hPB
  by_cases hl : s.size ≤ 200
  · have h1 : decide ((s.size : Int) ≤ 200) = true := decide_eq_true (by omega); have h2 : (s.size : Int) ≤ 200 := (by omega); have HL : Sl (decide (s.size ≤ 200) = true) := ⟨decide_eq_true hl⟩; rw [HL.out]; clear hl; go_enter Tryz.func174, Tryz.ntmps174; go_wp2_with fail; refine HC.out.mono ?_; rintro e w1 ⟨rfl, rfl⟩; clear HC; go_wp2_with fail; go_ret; exact ⟨by simp, rfl⟩
  · have h1 : decide ((s.size : Int) ≤ 200) = false := decide_eq_false (by omega); have h2 : ¬ (s.size : Int) ≤ 200 := (by omega); have HL : Sl (decide (s.size ≤ 200) = false) := ⟨decide_eq_false hl⟩; rw [HL.out]; clear hl HC; go_enter Tryz.func174, Tryz.ntmps174; go_wp2_with fail; go_ret; exact ⟨by simp, rfl⟩
end Go.Proofs.YtabkpbbjodfolaaGreatDoor
