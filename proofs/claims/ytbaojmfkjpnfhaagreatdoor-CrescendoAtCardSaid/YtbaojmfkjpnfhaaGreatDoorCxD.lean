/- Package crescendo: Check, both. (Printed by gencxd.py.) -/
import Derived.Test.YtbaojmfkjpnfhaaGreatDoorCxC
namespace Go.Proofs.YtbaojmfkjpnfhaaGreatDoor
set_option linter.unusedSimpArgs false
open Go.RowKit
set_option linter.unusedVariables false

/-- a ledger without a block twice -/
structure Lg (w W : World) (l : List (Nat × TypeId × Array Value)) : Prop where
  ld : Led w W l
  nd : (l.map Prod.fst).Nodup
theorem Lg.nil (w : World) : Lg w w [] := ⟨Led.nil w, List.Pairwise.nil⟩
theorem Lg.bl {w W : World} {l : List (Nat × TypeId × Array Value)} (h : Lg w W l) : Below w.heap.size w W := h.ld.bl
theorem Lg.at_ {w W : World} {l : List (Nat × TypeId × Array Value)} (h : Lg w W l) (k : Nat) {g : Nat} {t : TypeId} {cs : Array Value} (hk : l[k]? = some (g, t, cs)) : Blk W g t cs := h.ld.at_ k hk
theorem Lg.below {w W W' : World} {l : List (Nat × TypeId × Array Value)} (h : Lg w W l) (hb : Below W.heap.size W W') : Lg w W' l := ⟨h.ld.below hb, h.nd⟩
theorem Lg.new {w W W' : World} {g : Nat} {t : TypeId} {cs : Array Value} {l : List (Nat × TypeId × Array Value)} (h : Lg w W l) (zg : g = W.heap.size) (zm : Mv W.heap.size W W') (zb : Blk W' g t cs) : Lg w W' ((g, t, cs) :: l) := by
  refine ⟨h.ld.new zg zm zb, ?_⟩
  rw [List.map_cons, List.nodup_cons]
  refine ⟨fun hm => ?_, h.nd⟩
  obtain ⟨p, hp, e⟩ := List.mem_map.1 hm
  have := (h.ld.all p hp).lt
  simp only [] at e
  omega
theorem Lg.drop {w W : World} {p : Nat × TypeId × Array Value} {l : List (Nat × TypeId × Array Value)} (h : Lg w W (p :: l)) : Lg w W l := ⟨h.ld.drop, (List.nodup_cons.1 h.nd).2⟩
theorem Lg.upd {w W W' : World} {g : Nat} {t t' : TypeId} {cs cs' : Array Value} {l : List (Nat × TypeId × Array Value)} (h : Lg w W ((g, t, cs) :: l)) (hm : Mv g W W') (zb : Blk W' g t' cs') : Lg w W' ((g, t', cs') :: l) := by
  have hn := List.nodup_cons.1 h.nd
  refine ⟨h.ld.upd hm zb (fun p hp e => hn.1 ?_), h.nd⟩
  rw [← e]
  exact List.mem_map.2 ⟨p, hp, rfl⟩
theorem Lg.mv {w W W' : World} {g : Nat} {l : List (Nat × TypeId × Array Value)} (h : Lg w W l) (hm : Mv g W W') (hg : w.heap.size ≤ g) (hne : ∀ p ∈ l, p.1 ≠ g) : Lg w W' l := ⟨h.ld.mv hm hg hne, h.nd⟩
theorem flG_take {α : Type} (f : α → List Value) (L : List α) (k j : Nat) (u : Value) (h : ((L.take k).flatMap f)[j]? = some u) : (L.flatMap f)[j]? = some u := by
  have hj : j < ((L.take k).flatMap f).length := (List.getElem?_eq_some_iff.1 h).1
  have e : L.flatMap f = (L.take k).flatMap f ++ (L.drop k).flatMap f := by rw [← List.flatMap_append, List.take_append_drop]
  rw [e, List.getElem?_append_left hj]
  exact h
theorem TbM.take {w : World} {A : Option Addr} {n c : Nat} {L : List RgV} (h : TbM w A n c L) {k : Nat} (hk : k ≤ n) : TbM w A k c (L.take k) := by
  have hl := h.row.len
  refine ⟨⟨by rw [List.length_take]; omega, ⟨by rw [flG_len RgV.cells 2 h.row.fix, List.length_take]; congr 1; omega, fun h0 => ?_⟩, h.row.fix⟩, ⟨by have := h.cap; omega, h.cap.2⟩, fun r hr => h.all r (List.mem_of_mem_take hr)⟩
  obtain ⟨ad, e, hb, hc⟩ := h.row.rd.2 (by omega)
  exact ⟨ad, e, hb, fun j u hu => hc j u (flG_take _ _ _ _ _ hu)⟩
theorem alloc_cre (w : World) : (Instr.alloc 30 true (.tuple #[])).run Tryz.prog w = .ok (.pointer (some ⟨w.heap.size, 0, none⟩)) (w.alloc (.cells #[.slice none 0 0] 30)) := by kernel_rfl
def rg0 : RgV := ⟨none, 0, 0, [], none, 0, 0, []⟩
def sz0 : StS := (fun _ => 0, 0)
/-- what is wrong with step i of a table -/
def tabK (o : SpO) (L : List RgV) (i : Nat) : Int :=
  if regE o (L[i]?.getD rg0) = 0 then (if 0 < (stV 0 ((L.take (i + 1)).map RgV.l) (fun _ => 0, 0)).2 ∨ 0 < (stV 0 ((L.take (i + 1)).map RgV.k) (fun _ => 0, 0)).2 then 8 else 0) else regE o (L[i]?.getD rg0)
/-- the error of a table -/
def tabE (o : SpO) (L : List RgV) : Int := if specE o = 0 then (if 60 < L.length then 3 else fstE (tabK o L) L.length 0) else specE o
theorem regE_ok {o : SpO} {r : RgV} (h : regE o r = 0) : drwE r.l (o.n3 : Int) = 0 ∧ drwE r.k (o.n4 : Int) = 0 := by
  unfold regE at h
  by_cases h1 : drwE r.l (o.n3 : Int) = 0
  · rw [if_pos h1] at h; exact ⟨h1, h⟩
  · rw [if_neg h1] at h; exact absurd h h1
theorem drwE_len {l : List Int} {many : Nat} (h : drwE l (many : Int) = 0) : l.length ≤ many := by
  rcases Nat.eq_zero_or_pos l.length with h0 | h0
  · omega
  · have key : ∀ k, k < l.length → (k : Int) ≤ gt l k := fun k => by
      induction k with
      | zero => intro hk; have := (drwE_ok h hk).1.1; omega
      | succ k ih =>
        intro hk
        have h1 := ih (by omega)
        have h2 := (drwE_ok h hk).2 k (by omega)
        omega
    have h1 := key (l.length - 1) (by omega)
    have h2 := (drwE_ok h (show l.length - 1 < l.length by omega)).1.2
    omega
theorem specE_bd {o : SpO} (h : specE o = 0) : o.n1 ≤ 6 ∧ o.n2 ≤ 40 ∧ o.n3 ≤ 80 ∧ o.n4 ≤ 24 := by
  unfold specE at h
  split at h
  · cases h
  · omega
set_option maxHeartbeats 6400000 in
set_option maxRecDepth 100000 in
theorem crCheck_any (o : SpO) (T : Option Addr) (n c : Nat) (L : List RgV) (w : World) (hM : SpM w o) (hF : SpF o) (hT : TbM w T n c L) :
    Calls Tryz.prog 19 #[.agg #[.slice o.A1 o.n1 o.c1, .slice o.A2 o.n2 o.c2, .slice o.A3 o.n3 o.c3, .slice o.A4 o.n4 o.c4], .agg #[.slice T n c]] w fun e w' => e = .returned (.int .i64 (tabE o L)) ∧ Below w.heap.size w w' := by
  have HE : Sl (tabE o L = if specE o = 0 then (if 60 < n then 3 else fstE (tabK o L) n 0) else specE o) := ⟨by rw [← hT.row.len]; rfl⟩
  obtain ⟨r, hr⟩ : ∃ r, tabE o L = r := ⟨_, rfl⟩
  rw [hr] at HE ⊢
  have HM : Sl _ := ⟨hM⟩
  have HF : Sl _ := ⟨hF⟩
  have HT : Sl _ := ⟨hT⟩
  have HD : Sl (Lg w w []) := ⟨Lg.nil w⟩
  have HSC : Sl _ := ⟨fun (W : World) (hW : Below w.heap.size w W) => speccheck_any o W (hM.below hW) hF⟩
  obtain ⟨s, hs⟩ : ∃ s, specE o = s := ⟨_, rfl⟩
  have HBD : Sl (s = 0 → o.n1 ≤ 6 ∧ o.n2 ≤ 40 ∧ o.n3 ≤ 80 ∧ o.n4 ≤ 24) := ⟨fun h => specE_bd (by rw [hs, h])⟩
  unfold SpecR at HSC
  rw [hs] at HE HSC
  have hcap := hT.cap
  unfold maxLen at hcap
  have HCAP : Sl _ := ⟨hcap⟩
  clear hM hF hT hr hs hcap
  go_enter Tryz.func19, Tryz.ntmps19
  go_upto_region 1 with ((with_reducible show wpList _ _ _ _ _ _); first
    | (refine wpList_box_new 2 rfl rfl 27 (.tmp 0) rfl #[.slice o.A1 o.n1 o.c1, .slice o.A2 o.n2 o.c2, .slice o.A3 o.n3 o.c3, .slice o.A4 o.n4 o.c4] rfl (fun _ => by kernel_rfl) ?_; rintro ws gs zg zm zs zb; replace HD : Sl _ := ⟨HD.out.new zg zm zb⟩; clear zg zm zs zb)
    | (refine wpList_box_new 3 rfl rfl 30 (.tmp 1) rfl #[.slice T n c] rfl (fun _ => by kernel_rfl) ?_; rintro wt gtb zg zm zs zb; replace HD : Sl _ := ⟨HD.out.new zg zm zb⟩; clear zg zm zs zb))
  have s0 := (HD.out.at_ 1 rfl).cell 0
  have s1 := (HD.out.at_ 1 rfl).cell 1
  have s2 := (HD.out.at_ 1 rfl).cell 2
  have s3 := (HD.out.at_ 1 rfl).cell 3
  simp at s0 s1 s2 s3
  go_wp2_with fail
  refine (HSC.out _ HD.out.bl).mono ?_; rintro e w1 ⟨⟨a1, a2, a3, rfl⟩, hb⟩
  replace HD : Sl _ := ⟨HD.out.below hb⟩
  clear HSC hb s0 s1 s2 s3
  go_upto_region 2 with ((with_reducible show wpList _ _ _ _ _ _); first
    | (refine wpList_alloc_new 5 rfl rfl 80 rfl #[.int .i64 0, .int .i64 0, .int .i64 0] alloc_fault ?_; rintro w2 gf zg zm zs zb; replace HD : Sl _ := ⟨HD.out.new zg zm zb⟩; clear zg zm zs zb)
    | (refine wpList_store_whole rfl 80 (.tmp 5) (.tmp 18) rfl gf #[.int .i64 a1, .int .i64 a2, .int .i64 a3] rfl rfl 80 _ (HD.out.at_ 0 rfl) rfl (by kernel_rfl) (by simp [Value.oneCell']) ?_; rintro w3 zm zs zb; replace HD : Sl _ := ⟨HD.out.upd zm zb⟩; clear zm zs zb))
  replace HD : Sl _ := ⟨HD.out.drop⟩
  by_cases hs0 : s = 0
  · subst hs0
    rw [if_pos rfl] at HE
    have HN := HBD.out rfl
    have HNB : Sl _ := ⟨HN⟩
    clear HN
    have t0 := (HD.out.at_ 0 rfl).cell 0
    simp at t0
    by_cases h60 : 60 < n
    · have q1 : decide ((60 : Int) < (n : Int)) = true := decide_eq_true (by omega)
      have q2 : (60 : Int) < (n : Int) := by omega
      have HR : Sl (r = 3) := ⟨by rw [HE.out, if_pos h60]⟩
      clear h60
      go_wp2_with fail
      go_ret
      exact ⟨by rw [HR.out]; rfl, HD.out.bl⟩
    · have q1 : decide ((60 : Int) < (n : Int)) = false := decide_eq_false (by omega)
      have q2 : ¬ (60 : Int) < (n : Int) := by omega
      rw [if_neg h60] at HE
      have HN60 : Sl (n ≤ 60) := ⟨by omega⟩
      clear h60
      go_wp2_with fail
      clear q1 q2 t0
      go_loopw [30] (fun s30 wr => ∃ (k : Nat), k ≤ n ∧ s30 = .int .i64 k ∧ Sl (Lg w wr [(gtb, 30, #[.slice T n c]), (gs, 27, #[.slice o.A1 o.n1 o.c1, .slice o.A2 o.n2 o.c2, .slice o.A3 o.n3 o.c3, .slice o.A4 o.n4 o.c4])]) ∧ Sl (∀ j, j < k → regE o (L[j]?.getD rg0) = 0) ∧ Sl (fstE (tabK o L) (n - k) k = r)) (fun s30 _ => n - (RowKit.intOf s30).toNat)
      case atStart => exact ⟨0, Nat.zero_le _, rfl, HD, ⟨fun j hj => absurd hj (Nat.not_lt_zero _)⟩, ⟨HE.out.symm⟩⟩
      case round =>
        clear HD HE
        obtain ⟨k, hk, rfl, HD, HJ, HK⟩ := hrel
        by_cases hkn : k < n
        · have hkI : decide ((k : Int) < (n : Int)) = true := decide_eq_true (by omega)
          have hkI2 : (k : Int) < (n : Int) := by omega
          have hk60 : (k : Int) ≤ 60 := by have := HN60.out; omega
          have hn60 : (n : Int) ≤ 60 := by have := HN60.out; omega
          have HST : Sl (r = if tabK o L k = 0 then fstE (tabK o L) (n - (k + 1)) (k + 1) else tabK o L k) := ⟨by rw [← HK.out, show n - k = (n - (k + 1)) + 1 by omega]; rfl⟩
          obtain ⟨gb, oo, x, hA, hgb, hx, x0, x1⟩ := (HT.out.below HD.out.bl).at_ hkn
          have HTK : Sl (tabK o L k = if regE o x = 0 then (if 0 < (stV 0 ((L.take (k + 1)).map RgV.l) (fun _ => 0, 0)).2 ∨ 0 < (stV 0 ((L.take (k + 1)).map RgV.k) (fun _ => 0, 0)).2 then 8 else 0) else regE o x) := ⟨by unfold tabK; rw [hx]; rfl⟩
          have HXR : Sl (L[k]?.getD rg0 = x) := ⟨by rw [hx]; rfl⟩
          have HRG : Sl _ := ⟨fun (W : World) (hW : Below w.heap.size w W) => registration_any o x W ((HT.out.all x (List.mem_of_getElem? hx)).below hW) HF.out⟩
          obtain ⟨e1, he1⟩ : ∃ e1, regE o x = e1 := ⟨_, rfl⟩
          rw [he1] at HTK HRG
          have HE1 : Sl _ := ⟨he1⟩
          have HKN : Sl (k < n ∧ k + 1 ≤ c) := ⟨hkn, by have := HT.out.cap.1; omega⟩
          have hkc : (k : Int) + 1 ≤ (c : Int) := by have := HT.out.cap.1; omega
          rw [hA]
          have HA : Sl _ := ⟨hA⟩
          clear hA hx he1 HK
          go_upto_region 9 with ((with_reducible show wpList _ _ _ _ _ _); first
            | (refine wpList_alloc_new 8 rfl rfl 33 rfl #[.slice none 0 0, .slice none 0 0] alloc_reg ?_; rintro w4 gx zg zm zs zb; replace HD : Sl _ := ⟨HD.out.new zg zm zb⟩; clear zg zm zs zb)
            | (refine wpList_store_whole rfl 33 (.tmp 8) (.tmp 34) rfl gx #[.slice x.A x.n x.c, .slice x.B x.m x.d] rfl rfl 33 _ (HD.out.at_ 0 rfl) rfl (by kernel_rfl) (by simp [Value.oneCell']) ?_; rintro w5 zm zs zb; replace HD : Sl _ := ⟨HD.out.upd zm zb⟩; clear zm zs zb))
          have s0 := (HD.out.at_ 2 rfl).cell 0
          have s1 := (HD.out.at_ 2 rfl).cell 1
          have s2 := (HD.out.at_ 2 rfl).cell 2
          have s3 := (HD.out.at_ 2 rfl).cell 3
          have y0 := (HD.out.at_ 0 rfl).cell 0
          have y1 := (HD.out.at_ 0 rfl).cell 1
          simp at s0 s1 s2 s3 y0 y1
          clear x0 x1
          go_wp2_with fail
          refine (HRG.out _ HD.out.bl).mono ?_; rintro e w6 ⟨rfl, hb⟩
          replace HD : Sl _ := ⟨(HD.out.below hb).drop⟩
          clear HRG hb s0 s1 s2 s3 y0 y1
          by_cases he0 : e1 = 0
          · subst he0
            rw [if_pos rfl] at HTK
            have HJ2 : Sl (∀ j, j < k + 1 → regE o (L[j]?.getD rg0) = 0) := ⟨fun j hj => by
              rcases Nat.lt_or_ge j k with h1 | h1
              · exact HJ.out j h1
              · obtain rfl : j = k := by omega
                rw [HXR.out]; exact HE1.out⟩
            have HIX : Sl (∀ y ∈ L.take (k + 1), (y.n ≤ 100000 ∧ ∀ j, j < y.n → 0 ≤ gt y.l j ∧ gt y.l j < (o.n3 : Int)) ∧ (y.m ≤ 100000 ∧ ∀ j, j < y.m → 0 ≤ gt y.k j ∧ gt y.k j < (o.n4 : Int))) := ⟨fun y hy => by
              obtain ⟨j, hj⟩ := List.mem_iff_getElem?.1 hy
              have hjk : j < k + 1 := by
                have := (List.getElem?_eq_some_iff.1 hj).1
                rw [List.length_take] at this
                omega
              rw [List.getElem?_take_of_lt hjk] at hj
              have hr0 := HJ2.out j hjk
              rw [hj, Option.getD_some] at hr0
              obtain ⟨r1, r2⟩ := regE_ok hr0
              have hrg := HT.out.all y (List.mem_of_getElem? hj)
              have l1 := drwE_len r1
              have l2 := drwE_len r2
              have hs1 := hrg.s.1
              have hs2 := hrg.c.1
              have hbd := HNB.out
              exact ⟨⟨by omega, fun i hi => (drwE_ok r1 (k := i) (by omega)).1⟩, ⟨by omega, fun i hi => (drwE_ok r2 (k := i) (by omega)).1⟩⟩⟩
            have t0 := (HD.out.at_ 0 rfl).cell 0
            simp at t0
            rw [HA.out] at t0
            clear HE1 HJ
            go_upto_region 13 with ((with_reducible show wpList _ _ _ _ _ _); first
              | (refine wpList_alloc_new 10 rfl rfl 30 rfl #[.slice none 0 0] alloc_cre ?_; rintro w7 gu zg zm zs zb; replace HD : Sl _ := ⟨HD.out.new zg zm zb⟩; clear zg zm zs zb)
              | (refine wpList_store_whole rfl 30 (.tmp 10) (.tmp 46) rfl gu #[.slice (some ⟨gb, oo, none⟩) (k + 1) c] rfl rfl 30 _ (HD.out.at_ 0 rfl) rfl (by kernel_rfl) (by simp [Value.oneCell']) ?_; rintro w8 zm zs zb; replace HD : Sl _ := ⟨HD.out.upd zm zb⟩; clear zm zs zb))
            have u0 := (HD.out.at_ 0 rfl).cell 0
            have c2 := (HD.out.at_ 2 rfl).cell 2
            simp at u0 c2
            have H1 : Sl _ := ⟨steps_stops (some ⟨gb, oo, none⟩) (k + 1) c (L.take (k + 1)) o.n3 w8 (by have := (HT.out.take HKN.out.1); rw [HA.out] at this; exact this.below HD.out.bl) (by have := HN60.out; have := HKN.out; omega) (by have := HNB.out; omega) (fun y hy => (HIX.out y hy).1)⟩
            obtain ⟨t1, ht1⟩ : ∃ t1, (stV 0 ((L.take (k + 1)).map RgV.l) (fun _ => 0, 0)).2 = t1 := ⟨_, rfl⟩
            obtain ⟨t2, ht2⟩ : ∃ t2, (stV 0 ((L.take (k + 1)).map RgV.k) (fun _ => 0, 0)).2 = t2 := ⟨_, rfl⟩
            rw [ht1, ht2] at HTK
            rw [ht1] at H1
            have HT2 : Sl _ := ⟨ht2⟩
            clear ht1 ht2 t0
            go_wp2_with fail
            refine H1.out.mono ?_; rintro e w9 ⟨⟨g1, rfl, _, _⟩, hb⟩
            replace HD : Sl _ := ⟨HD.out.below hb⟩
            clear H1 hb u0 c2
            have u0 := (HD.out.at_ 0 rfl).cell 0
            have c2 := (HD.out.at_ 2 rfl).cell 3
            simp at u0 c2
            have H1 : Sl _ := ⟨steps_couplers (some ⟨gb, oo, none⟩) (k + 1) c (L.take (k + 1)) o.n4 w9 (by have := (HT.out.take HKN.out.1); rw [HA.out] at this; exact this.below HD.out.bl) (by have := HN60.out; have := HKN.out; omega) (by have := HNB.out; omega) (fun y hy => (HIX.out y hy).2)⟩
            rw [HT2.out] at H1
            go_wp2_with fail
            refine H1.out.mono ?_; rintro e wA ⟨⟨g2, rfl, _, _⟩, hb⟩
            replace HD : Sl _ := ⟨(HD.out.below hb).drop⟩
            clear H1 hb u0 c2 HT2 HIX
            by_cases p1 : 0 < t1
            · have p1d : decide (0 < t1) = true := decide_eq_true p1
              have HD8 : tabK o L k = 8 := by rw [HTK.out]; exact if_pos (.inl p1)
              have HR : Sl (r = 8) := ⟨by rw [HST.out, HD8]; rfl⟩
              clear HD8
              go_wp2_with fail
              (try simp only [Exit.inBlock, Exit.then])
              go_ret
              exact ⟨by rw [HR.out]; rfl, HD.out.bl⟩
            · have p1d : decide (0 < t1) = false := decide_eq_false p1
              by_cases p2 : 0 < t2
              · have p2d : decide (0 < t2) = true := decide_eq_true p2
                have HD8 : tabK o L k = 8 := by rw [HTK.out]; exact if_pos (.inr p2)
                have HR : Sl (r = 8) := ⟨by rw [HST.out, HD8]; rfl⟩
                clear HD8
                go_wp2_with fail
                (try simp only [Exit.inBlock, Exit.then])
                go_ret
                exact ⟨by rw [HR.out]; rfl, HD.out.bl⟩
              · have p2d : decide (0 < t2) = false := decide_eq_false p2
                have HR : Sl (fstE (tabK o L) (n - (k + 1)) (k + 1) = r) := ⟨by rw [HST.out, if_pos]; rw [HTK.out, if_neg (by omega)]⟩
                go_wp2_with fail
                exact ⟨⟨k + 1, by omega, by go_num, by rw [← HA.out]; exact HD, HJ2, HR⟩, by simp [RowKit.intOf]; omega⟩
          · rw [if_neg he0] at HTK
            have q0 : (e1 != 0) = true := by rw [bne_iff_ne]; exact he0
            have HR : Sl (r = e1) := ⟨by rw [HST.out, HTK.out, if_neg he0]⟩
            clear he0
            go_wp2_with fail
            (try simp only [Exit.inBlock, Exit.then])
            go_ret
            exact ⟨by rw [HR.out]; rfl, HD.out.bl⟩
        · obtain rfl : k = n := by omega
          have HR : Sl (r = 0) := ⟨by rw [← HK.out, Nat.sub_self]; rfl⟩
          go_wp2_with fail
          go_ret
          exact ⟨by rw [HR.out]; rfl, HD.out.bl⟩
  · rw [if_neg hs0] at HE
    have q0 : (s != 0) = true := by rw [bne_iff_ne]; exact hs0
    clear hs0
    go_wp2_with fail
    go_ret
    exact ⟨by rw [HE.out]; rfl, HD.out.bl⟩
end Go.Proofs.YtbaojmfkjpnfhaaGreatDoor
