/- Package spec: Check of any specification. (Printed by genckg.py.) -/
import Derived.Test.YtabkpbbjodfolaaGreatDoorZvI
namespace Go.Proofs.YtabkpbbjodfolaaGreatDoor
set_option linter.unusedSimpArgs false
open Go.RowKit
set_option linter.unusedVariables false
theorem Led.upd {w W W' : World} {g : Nat} {t t' : TypeId} {cs cs' : Array Value} {l : List (Nat × TypeId × Array Value)} (h : Led w W ((g, t, cs) :: l)) (hm : Mv g W W') (zb : Blk W' g t' cs') (hne : ∀ p ∈ l, p.1 ≠ g) : Led w W' ((g, t', cs') :: l) := by
  have hg := h.ge _ List.mem_cons_self; have h1 := h.drop.mv hm hg hne; refine ⟨h1.bl, fun p hp => ?_, fun p hp => ?_⟩
  · rcases List.mem_cons.1 hp with rfl | hp
    · exact zb
    · exact h1.all p hp
  · rcases List.mem_cons.1 hp with rfl | hp
    · exact hg
    · exact h1.ge p hp
theorem Led.sub {w W : World} {l l' : List (Nat × TypeId × Array Value)} (h : Led w W l) (hs : ∀ p ∈ l', p ∈ l) : Led w W l' := ⟨h.bl, fun p hp => h.all p (hs p hp), fun p hp => h.ge p (hs p hp)⟩
def SpecR (o : SpO) (e : Ending) : Prop := ∃ a b c : Int, e = .returned (.tuple #[.agg #[.int .i64 a, .int .i64 b, .int .i64 c], .int .i64 (specE o)])
theorem runE_all {α : Type} {f : Keys → α → Int} {g : Keys → α → Keys} : ∀ {L : List α} {l : Keys}, (runE f g L l).1 = 0 → ∀ x ∈ L, ∃ l', f l' x = 0
  | [], l, _, x, hx => by cases hx
  | y :: L, l, h, x, hx => by
    rw [runE] at h
    by_cases hf : f l y = 0
    · rw [if_pos hf] at h; rcases List.mem_cons.1 hx with rfl | hx
      · exact ⟨l, hf⟩
      · exact runE_all h x hx
    · rw [if_neg hf] at h; exact absurd h hf
theorem divE_bd {l : Keys} {x : DvV} (h : divE l x = 0) : 0 ≤ x.lo ∧ x.hi ≤ 1000 := by
  unfold divE at h
  split at h
  · split at h
    · rename_i h1; unfold wiB at h1; simp at h1; omega
    · cases h
  · rename_i h1; exact absurd h h1
theorem rnkE_bd {l : Keys} {x : RnV} (h : rnkE l x = 0) : (0 ≤ x.lo ∧ x.lo ≤ 1000) ∧ (0 ≤ x.ct ∧ x.ct ≤ 1000) := by
  unfold rnkE at h
  split at h
  · split at h
    · split at h
      · rename_i h1; unfold wiB at h1; simp at h1; omega
      · cases h
    · cases h
  · rename_i h1; exact absurd h h1
theorem stpE_bd {nd : Nat} {l : Keys} {x : SpV} (h : stpE nd l x = 0) : (0 ≤ x.dv ∧ x.dv < (nd : Int)) ∧ x.n ≤ 12 := by
  unfold stpE at h
  split at h
  · cases h
  · split at h
    · cases h
    · rename_i h1; unfold wiB at h1; simp at h1
      split at h
      · split at h
        · cases h
        · split at h
          · cases h
          · omega
      · rename_i h2; exact absurd h h2
theorem alloc_fault (w : World) : (Instr.alloc 72 true (.tuple #[])).run Tryz.prog w = .ok (.pointer (some ⟨w.heap.size, 0, none⟩)) (w.alloc (.cells #[.int .i64 0, .int .i64 0, .int .i64 0] 72)) := by kernel_rfl
theorem alloc_ckp (w : World) : (Instr.alloc 161 true (.tuple #[])).run Tryz.prog w = .ok (.pointer (some ⟨w.heap.size, 0, none⟩)) (w.alloc (.cells #[.pointer none] 161)) := by kernel_rfl
theorem alloc_stop (w : World) : (Instr.alloc 90 true (.tuple #[])).run Tryz.prog w = .ok (.pointer (some ⟨w.heap.size, 0, none⟩)) (w.alloc (.cells #[.string ⟨#[]⟩, .int .i64 0, .int .i64 0, .int .i64 0, .slice none 0 0] 90)) := by kernel_rfl
set_option maxHeartbeats 6400000 in
set_option maxRecDepth 100000 in
theorem speccheck_any (o : SpO) (w : World) (hM : SpM w o) (hF : SpF o) : Calls Tryz.prog 38 #[.agg #[.slice o.A1 o.n1 o.c1, .slice o.A2 o.n2 o.c2, .slice o.A3 o.n3 o.c3, .slice o.A4 o.n4 o.c4]] w fun e w' => SpecR o e ∧ Below w.heap.size w w' := by
  unfold SpecR
  have HE : Sl (specE o = if 6 < o.n1 ∨ 40 < o.n2 ∨ 80 < o.n3 ∨ 24 < o.n4 then 3
    else if (runE divE divL o.ds []).1 = 0 then
      (if (runE rnkE rnkL o.rs (runE divE divL o.ds []).2).1 = 0 then
        (if (runE (stpsE o) (stpL o.n1) o.ss (runE rnkE rnkL o.rs (runE divE divL o.ds []).2).2).1 = 0 then (runE (cplE o.n1) cplL o.cs (runE (stpsE o) (stpL o.n1) o.ss (runE rnkE rnkL o.rs (runE divE divL o.ds []).2).2).2).1 else (runE (stpsE o) (stpL o.n1) o.ss (runE rnkE rnkL o.rs (runE divE divL o.ds []).2).2).1)
      else (runE rnkE rnkL o.rs (runE divE divL o.ds []).2).1)
    else (runE divE divL o.ds []).1) := ⟨rfl⟩
  obtain ⟨r, hr⟩ : ∃ r, specE o = r := ⟨_, rfl⟩; rw [hr] at HE ⊢; have HM : Sl _ := ⟨hM⟩; have HF : Sl _ := ⟨hF⟩; have hcap := hF.cap; unfold maxLen at hcap; have HCAP : Sl _ := ⟨hcap⟩; have HD : Sl (Led w w []) := ⟨Led.nil w⟩; have hmf : ∀ (fn : Fn) (first cap : Array Value) (w : World), (Instr.makeFunc fn first cap).run Tryz.prog w = .ok (.func fn first cap) w := fun _ _ _ _ => rfl
  have hmm := @run_makeMap Tryz.prog; clear hM hF hr hcap; go_enter Tryz.func38, Tryz.ntmps38
  go_upto_region 1 with ((with_reducible show wpList _ _ _ _ _ _); first
    | (refine wpList_box_new 1 rfl rfl 33 (.tmp 0) rfl #[.slice o.A1 o.n1 o.c1, .slice o.A2 o.n2 o.c2, .slice o.A3 o.n3 o.c3, .slice o.A4 o.n4 o.c4] rfl (fun _ => by kernel_rfl) ?_; rintro ws gs zg zm zs zb; replace HD : Sl _ := ⟨HD.out.new zg zm zb⟩; have HGS : Sl _ := ⟨And.intro zg zs⟩; clear zg zm zs zb)
    | (refine wpList_alloc_new 2 rfl rfl 72 rfl #[.int .i64 0, .int .i64 0, .int .i64 0] alloc_fault ?_; rintro wr gr zg zm zs zb; replace HD : Sl (Led w wr [(gr, 72, #[.int .i64 0, .int .i64 0, .int .i64 0]), (gs, 33, #[.slice o.A1 o.n1 o.c1, .slice o.A2 o.n2 o.c2, .slice o.A3 o.n3 o.c3, .slice o.A4 o.n4 o.c4])]) := ⟨HD.out.new zg zm zb⟩; have HGR : Sl _ := ⟨And.intro zg zs⟩; clear zg zm zs zb))
  have HGE : Sl (w.heap.size ≤ gr) := ⟨HD.out.ge _ List.mem_cons_self⟩; have s0 := (HD.out.at_ 1 rfl).cell 0; have s1 := (HD.out.at_ 1 rfl).cell 1; have s2 := (HD.out.at_ 1 rfl).cell 2; have s3 := (HD.out.at_ 1 rfl).cell 3; simp at s0 s1 s2 s3
  by_cases h1 : 6 < o.n1
  · have q1 : (6 : Int) < (o.n1 : Int) := (by omega); have q1d : decide ((6 : Int) < (o.n1 : Int)) = true := decide_eq_true q1; have HR : Sl (r = 3) := ⟨by rw [HE.out, if_pos (.inl h1)]⟩; clear HCAP HE
    go_wp2_with ((with_reducible show wpList _ _ _ _ _ _); first
      | (refine wpList_store_whole rfl 72 (.tmp 2) (.tmp 39) rfl gr #[.int .i64 0, .int .i64 0, .int .i64 0] rfl rfl 72 _ (HD.out.at_ 0 rfl) rfl (by kernel_rfl) (by simp [Value.oneCell']) ?_; rintro wz zm zs zb; have HZ : Sl _ := ⟨And.intro zm zb⟩; clear zm zs zb))
    (try simp only [Exit.inBlock, Exit.then])
    refine bodyPost_ret (results_row2c rfl _ _ gr _ _ _ rfl HZ.out.2 Tryz.underlying72 rfl (by kernel_rfl)) rfl ?_; exact ⟨⟨_, _, _, by rw [HR.out]; rfl⟩, below_mv HD.out.bl HZ.out.1 HGE.out HD.out.bl.size⟩
  have q1 : ¬ (6 : Int) < (o.n1 : Int) := (by omega); have q1d : decide ((6 : Int) < (o.n1 : Int)) = false := decide_eq_false q1
  by_cases h2 : 40 < o.n2
  · have q2 : (40 : Int) < (o.n2 : Int) := (by omega); have q2d : decide ((40 : Int) < (o.n2 : Int)) = true := decide_eq_true q2; have HR : Sl (r = 3) := ⟨by rw [HE.out, if_pos (.inr (.inl h2))]⟩; clear HCAP HE
    go_wp2_with ((with_reducible show wpList _ _ _ _ _ _); first
      | (refine wpList_store_whole rfl 72 (.tmp 2) (.tmp 39) rfl gr #[.int .i64 0, .int .i64 0, .int .i64 0] rfl rfl 72 _ (HD.out.at_ 0 rfl) rfl (by kernel_rfl) (by simp [Value.oneCell']) ?_; rintro wz zm zs zb; have HZ : Sl _ := ⟨And.intro zm zb⟩; clear zm zs zb))
    (try simp only [Exit.inBlock, Exit.then])
    refine bodyPost_ret (results_row2c rfl _ _ gr _ _ _ rfl HZ.out.2 Tryz.underlying72 rfl (by kernel_rfl)) rfl ?_; exact ⟨⟨_, _, _, by rw [HR.out]; rfl⟩, below_mv HD.out.bl HZ.out.1 HGE.out HD.out.bl.size⟩
  have q2 : ¬ (40 : Int) < (o.n2 : Int) := (by omega); have q2d : decide ((40 : Int) < (o.n2 : Int)) = false := decide_eq_false q2
  by_cases h3 : 80 < o.n3
  · have q3 : (80 : Int) < (o.n3 : Int) := (by omega); have q3d : decide ((80 : Int) < (o.n3 : Int)) = true := decide_eq_true q3; have HR : Sl (r = 3) := ⟨by rw [HE.out, if_pos (.inr (.inr (.inl h3)))]⟩; clear HCAP HE
    go_wp2_with ((with_reducible show wpList _ _ _ _ _ _); first
      | (refine wpList_store_whole rfl 72 (.tmp 2) (.tmp 39) rfl gr #[.int .i64 0, .int .i64 0, .int .i64 0] rfl rfl 72 _ (HD.out.at_ 0 rfl) rfl (by kernel_rfl) (by simp [Value.oneCell']) ?_; rintro wz zm zs zb; have HZ : Sl _ := ⟨And.intro zm zb⟩; clear zm zs zb))
    (try simp only [Exit.inBlock, Exit.then])
    refine bodyPost_ret (results_row2c rfl _ _ gr _ _ _ rfl HZ.out.2 Tryz.underlying72 rfl (by kernel_rfl)) rfl ?_; exact ⟨⟨_, _, _, by rw [HR.out]; rfl⟩, below_mv HD.out.bl HZ.out.1 HGE.out HD.out.bl.size⟩
  have q3 : ¬ (80 : Int) < (o.n3 : Int) := (by omega); have q3d : decide ((80 : Int) < (o.n3 : Int)) = false := decide_eq_false q3
  by_cases h4 : 24 < o.n4
  · have q4 : (24 : Int) < (o.n4 : Int) := (by omega); have q4d : decide ((24 : Int) < (o.n4 : Int)) = true := decide_eq_true q4; have HR : Sl (r = 3) := ⟨by rw [HE.out, if_pos (.inr (.inr (.inr h4)))]⟩; clear HCAP HE
    go_wp2_with ((with_reducible show wpList _ _ _ _ _ _); first
      | (refine wpList_store_whole rfl 72 (.tmp 2) (.tmp 39) rfl gr #[.int .i64 0, .int .i64 0, .int .i64 0] rfl rfl 72 _ (HD.out.at_ 0 rfl) rfl (by kernel_rfl) (by simp [Value.oneCell']) ?_; rintro wz zm zs zb; have HZ : Sl _ := ⟨And.intro zm zb⟩; clear zm zs zb))
    (try simp only [Exit.inBlock, Exit.then])
    refine bodyPost_ret (results_row2c rfl _ _ gr _ _ _ rfl HZ.out.2 Tryz.underlying72 rfl (by kernel_rfl)) rfl ?_; exact ⟨⟨_, _, _, by rw [HR.out]; rfl⟩, below_mv HD.out.bl HZ.out.1 HGE.out HD.out.bl.size⟩
  have q4 : ¬ (24 : Int) < (o.n4 : Int) := (by omega); have q4d : decide ((24 : Int) < (o.n4 : Int)) = false := decide_eq_false q4; have HN : Sl (o.n1 ≤ 6 ∧ o.n2 ≤ 40 ∧ o.n3 ≤ 80 ∧ o.n4 ≤ 24) := ⟨by omega⟩
  replace HE : Sl (r = if (runE divE divL o.ds []).1 = 0 then
      (if (runE rnkE rnkL o.rs (runE divE divL o.ds []).2).1 = 0 then
        (if (runE (stpsE o) (stpL o.n1) o.ss (runE rnkE rnkL o.rs (runE divE divL o.ds []).2).2).1 = 0 then (runE (cplE o.n1) cplL o.cs (runE (stpsE o) (stpL o.n1) o.ss (runE rnkE rnkL o.rs (runE divE divL o.ds []).2).2).2).1 else (runE (stpsE o) (stpL o.n1) o.ss (runE rnkE rnkL o.rs (runE divE divL o.ds []).2).2).1)
      else (runE rnkE rnkL o.rs (runE divE divL o.ds []).2).1)
    else (runE divE divL o.ds []).1) := ⟨by rw [HE.out, if_neg (by omega)]⟩
  clear h1 h2 h3 h4
  go_upto_region 4 with ((with_reducible show wpList _ _ _ _ _ _); first
    | (refine wpList_box_new 43 rfl rfl 164 (.tmp 42) rfl _ rfl (fun _ => by kernel_rfl) ?_; rintro wc g zg zm zs zb; have HGC : Sl _ := ⟨And.intro zg (And.intro zm (And.intro zs zb))⟩; clear zg zm zs zb)
    | (refine wpList_alloc_new 4 rfl rfl 161 rfl #[.pointer none] alloc_ckp ?_; rintro wp gc zg zm zs zb; have HGP : Sl _ := ⟨And.intro zg (And.intro zm (And.intro zs zb))⟩; clear zg zm zs zb)
    | (refine wpList_store_cell rfl 161 (.tmp 4) (.tmp 43) rfl gc 0 (.pointer (some ⟨g, 0, none⟩)) rfl rfl 161 _ _ HGP.out.2.2.2 (by decide) rfl (by kernel_rfl) rfl rfl ?_; rintro w4 zm zs zb zw; have HGQ : Sl _ := ⟨And.intro zm (And.intro zs zb)⟩; clear zm zs zb zw))
  obtain ⟨bm, hbm⟩ : ∃ bm, wr.heap.size = bm := ⟨_, rfl⟩
  have HCH : Sl (CHP w w4 o g bm gs gr gc []) := ⟨by
    obtain ⟨zg1, zm1, zs1, zb1⟩ := HGC.out; obtain ⟨zg2, zm2, zs2, zb2⟩ := HGP.out; obtain ⟨zm3, zs3, zb3⟩ := HGQ.out; obtain ⟨k1, k2⟩ := HGS.out; obtain ⟨k3, k4⟩ := HGR.out; have hb0 : Below wr.heap.size wr (wr.alloc (.map #[] 0)) := (Below.refl _ _).alloc (Nat.le_refl _) _; have hsz0 : (wr.alloc (.map #[] 0)).heap.size = wr.heap.size + 1 := (by simp); have hn0 := NM.made wr
    have hD1 := (((HD.out.below hb0).new zg1 zm1 zb1).new zg2 zm2 zb2).upd zm3 zb3 (fun p hp => by
      simp only [List.mem_cons, List.not_mem_nil, or_false] at hp
      rcases hp with rfl | rfl | rfl <;> (show _ ≠ gc; omega))
    rw [hbm] at hn0 hD1 hsz0; have hb1 := zm1.block bm (by omega) (by omega); have hb2 := zm2.block bm (by omega) (by omega); have hb3 := zm3.block bm (by omega) (by omega); refine ⟨⟨?_, ?_, by omega⟩, hD1.sub (fun p hp => ?_), ?_⟩
    · exact hD1.at_ 1 rfl
    · exact hn0.kept ((hb3.trans hb2).trans hb1)
    · simp only [List.mem_cons, List.not_mem_nil, or_false] at hp ⊢; rcases hp with rfl | rfl | rfl <;> simp
    · have := HD.out.bl.size
      omega⟩
  have HGRC : Sl (gr ≠ gc ∧ gr ≠ gs ∧ w.heap.size ≤ gr) := ⟨by
    have h1 := HGC.out.1; have h2 := HGP.out.1; have h3 := HGC.out.2.2.1; have h4 := HGS.out; have h5 := HGR.out; have hsz0 : (wr.alloc (.map #[] 0)).heap.size = wr.heap.size + 1 := (by simp); have := HGE.out
    omega⟩
  clear HGC HGP HGQ HGS HGR HD s0 s1 s2 s3 hbm; have c0 := (HCH.out.ld.at_ 0 rfl).cell 0; have cc := (HCH.out.ld.at_ 2 rfl).cell 0; simp at c0 cc
  have H1 : Sl _ := ⟨first_dv o.A1 o.n1 o.c1 o.ds (.pointer (some ⟨g, 0, none⟩)) divE divL (fun k l W => CHP w W o g bm gs gr gc l ∧ l.length ≤ 0 + k) w4 [] (by have := HN.out; omega)
    (fun k l W h => HM.out.d.below h.1.ld.bl)
    (fun k l W ob h => ⟨h.1.alloc ob, h.2⟩)
    (fun k l W x hx h => (division_any h.1.ck x (by have hk := (List.getElem?_eq_some_iff.1 hx).1; rw [HM.out.d.len] at hk; have := HN.out; have := h.2; omega) (HF.out.d x (List.mem_of_getElem? hx)).1).mono fun e w' hh => ⟨hh.1, h.1.step hh.2.1 hh.2.2, by have h5 := nmdL_len l kDv x.nm; have h6 := h.2; show (nmdL l kDv x.nm).length ≤ _; omega⟩)
    ⟨HCH.out, by decide⟩⟩
  obtain ⟨p, hp⟩ : ∃ p, runE divE divL o.ds [] = p := ⟨_, rfl⟩; rw [hp] at H1 HE; have HP1 : Sl _ := ⟨hp⟩; clear hp; obtain ⟨a, la⟩ := p; simp only [] at H1 HE; go_wp2_with fail; refine H1.out.mono ?_; rintro e w5 ⟨⟨i, hi, rfl⟩, k, hk, hc, hl⟩; clear H1 HCH c0 cc; have HCH : Sl _ := ⟨hc⟩; have HLEN : Sl (la.length ≤ 6) := ⟨by have := HN.out; (try simp at hl); omega⟩; clear hc hl hi hk
  by_cases ha : a = 0
  · subst ha; rw [if_pos rfl] at HE
    have HDB : Sl (∀ d ∈ o.ds, 0 ≤ d.lo ∧ d.hi ≤ 1000) := ⟨fun d hd => by
      obtain ⟨l', h'⟩ := runE_all (f := divE) (g := divL) (l := []) (by rw [HP1.out]) d hd
      exact divE_bd h'⟩
    have c0 := (HCH.out.ld.at_ 0 rfl).cell 1; have cc := (HCH.out.ld.at_ 2 rfl).cell 0; simp at c0 cc
    have H1 : Sl _ := ⟨first_rn o.A2 o.n2 o.c2 o.rs (.pointer (some ⟨g, 0, none⟩)) rnkE rnkL (fun k l W => CHP w W o g bm gs gr gc l ∧ l.length ≤ 6 + k) w5 la (by have := HN.out; omega)
      (fun k l W h => HM.out.r.below h.1.ld.bl)
      (fun k l W ob h => ⟨h.1.alloc ob, h.2⟩)
      (fun k l W x hx h => (rank_any h.1.ck x (by have hk := (List.getElem?_eq_some_iff.1 hx).1; rw [HM.out.r.len] at hk; have := HN.out; have := h.2; omega) (HF.out.r x (List.mem_of_getElem? hx)).1 (HF.out.r x (List.mem_of_getElem? hx)).2.2.2.2.2).mono fun e w' hh => ⟨hh.1, h.1.step hh.2.1 hh.2.2, by have h5 := nmdL_len l kRn x.nm; have h6 := h.2; show (nmdL l kRn x.nm).length ≤ _; omega⟩)
      ⟨HCH.out, by have := HLEN.out; omega⟩⟩
    obtain ⟨p, hp⟩ : ∃ p, runE rnkE rnkL o.rs la = p := ⟨_, rfl⟩; rw [hp] at H1 HE; have HP2 : Sl _ := ⟨hp⟩; clear hp; obtain ⟨b, lb⟩ := p; simp only [] at H1 HE; go_wp2_with fail; refine H1.out.mono ?_; rintro e w6 ⟨⟨i2, hi, rfl⟩, k, hk, hc, hl⟩; clear H1 HCH c0 cc; have HCH : Sl _ := ⟨hc⟩; replace HLEN : Sl (lb.length ≤ 46) := ⟨by have := HN.out; (try simp at hl); omega⟩; clear hc hl hi hk
    by_cases ha : b = 0
    · subst ha; rw [if_pos rfl] at HE
      have HRB : Sl (∀ r ∈ o.rs, (0 ≤ r.lo ∧ r.lo ≤ 1000) ∧ (0 ≤ r.ct ∧ r.ct ≤ 1000)) := ⟨fun d hd => by
        obtain ⟨l', h'⟩ := runE_all (f := rnkE) (g := rnkL) (l := la) (by rw [HP2.out]) d hd
        exact rnkE_bd h'⟩
      have c2 := (HCH.out.ld.at_ 0 rfl).cell 2; simp at c2; obtain ⟨p, hp⟩ : ∃ p, runE (stpsE o) (stpL o.n1) o.ss lb = p := ⟨_, rfl⟩; rw [hp] at HE; have HP3 : Sl _ := ⟨hp⟩; clear hp; obtain ⟨cE, lc⟩ := p; simp only [] at HE; go_wp2_with fail; clear c2
      go_loopw [73] (fun s73 wv => ∃ (k : Nat) (l : Keys), k ≤ o.n3 ∧ s73 = .int .i64 k ∧ Sl (CHP w wv o g bm gs gr gc l ∧ l.length ≤ 46 + k) ∧ Sl (runE (stpsE o) (stpL o.n1) (o.ss.drop k) l = (cE, lc))) (fun s73 _ => o.n3 - (RowKit.intOf s73).toNat)
      case atStart => exact ⟨0, lb, Nat.zero_le _, rfl, ⟨HCH.out, HLEN.out⟩, HP3⟩
      case round =>
        obtain ⟨k, l, hk, rfl, HCH, HRK⟩ := hrel
        by_cases hkn : k < o.n3
        · have hkI : decide ((k : Int) < (o.n3 : Int)) = true := decide_eq_true (by omega); have hkI2 : (k : Int) < (o.n3 : Int) := (by omega); obtain ⟨gb, oo, x, hA3, hgb, hx, hra⟩ := (HM.out.s.below HCH.out.1.ld.bl).at_ (by omega) hkn; have HRX := runE_drop (f := stpsE o) (g := stpL o.n1) l hx; rw [HRK.out] at HRX; have HST : Sl _ := ⟨fun (W : World) (hW : CK W g bm o l) => stop_any hW x (by have := HCH.out.2; have := HN.out; omega) (HF.out.s x (List.mem_of_getElem? hx)).1 (by have := HN.out; omega) (Nat.le_trans (HF.out.s x (List.mem_of_getElem? hx)).2.2.2.2.1.1 (HF.out.s x (List.mem_of_getElem? hx)).2.2.2.2.1.2)⟩; have HXP : Sl _ := ⟨HM.out.p x (List.mem_of_getElem? hx)⟩; have HXB : Sl (stpE o.n1 l x = 0 → (0 ≤ x.dv ∧ x.dv < (o.n1 : Int)) ∧ x.n ≤ 12) := ⟨stpE_bd⟩; have HSE : Sl (stpsE o l x = if stpE o.n1 l x = 0 then (runE (fun _ p => prtE o.rs (o.ds[x.dv.toNat]?.getD dv0) p) (fun l _ => l) x.ps l).1 else stpE o.n1 l x) := ⟨rfl⟩; have HLL : Sl ((stpL o.n1 l x).length ≤ 46 + (k + 1)) := ⟨by have := stpL_len o.n1 l x; have := HCH.out.2; omega⟩; have x0 := hra 0 _ rfl; have x1 := hra 1 _ rfl; have x2 := hra 2 _ rfl; have x3 := hra 3 _ rfl; have x4 := hra 4 _ rfl; rw [Nat.add_zero] at x0; obtain ⟨z, hz⟩ : ∃ z, stpE o.n1 l x = z := ⟨_, rfl⟩; obtain ⟨l2, hl2⟩ : ∃ l2, stpL o.n1 l x = l2 := ⟨_, rfl⟩; obtain ⟨zs, hzs⟩ : ∃ zs, stpsE o l x = zs := ⟨_, rfl⟩; rw [hz, hl2] at HST; rw [hz] at HXB HSE; rw [hzs] at HSE; rw [hl2] at HLL; rw [hzs, hl2] at HRX; have HX : Sl _ := ⟨HRX⟩; clear hz hl2 hzs HRX hra; obtain ⟨nm, dv, fn, fd, A, n, c, ps⟩ := x; simp only [] at x0 x1 x2 x3 x4 HST HXP HXB HSE; rw [hA3]; have HA3 : Sl _ := ⟨hA3⟩; clear hA3 hx
          go_upto_region 13 with ((with_reducible show wpList _ _ _ _ _ _); first
            | (refine wpList_alloc_new 10 rfl rfl 90 rfl #[.string ⟨#[]⟩, .int .i64 0, .int .i64 0, .int .i64 0, .slice none 0 0] alloc_stop ?_; rintro wa gx zg zm zs zb; have HXA : Sl _ := ⟨And.intro zg (And.intro zm (And.intro zs zb))⟩; clear zg zm zs zb)
            | (refine wpList_store_whole rfl 90 (.tmp 10) (.tmp 77) rfl gx #[.string nm, .int .i64 dv, .int .i64 fn, .int .i64 fd, .slice A n c] rfl rfl 90 _ HXA.out.2.2.2 rfl (by kernel_rfl) (by simp [Value.oneCell']) ?_; rintro wb zm zs zb; have HXS : Sl _ := ⟨And.intro zm (And.intro zs zb)⟩; clear zm zs zb))
          have hwb : Below wr.heap.size wr wb := below_mv (below_mv (Below.refl _ _) HXA.out.2.1 (Nat.le_refl _) (Nat.le_refl _)) HXS.out.1 (by have := HXA.out.1; omega) (by have := HXA.out.1; have := HXA.out.2.2.1; omega); have hgxb : gx ≠ bm := (by have := HCH.out.1.ck.nm.lt; have := HXA.out.1; omega); have hxk := HXS.out.2.2; have HXK : Sl _ := ⟨hxk⟩; have HGX : Sl _ := ⟨hgxb⟩; have hch := HCH.out.1.below hwb; have HCW : Sl _ := ⟨hch⟩; clear hwb hgxb hxk hch x0 x1 x2 x3 x4 HXA HXS; have y0 := HXK.out.cell 0; have y1 := HXK.out.cell 1; have y2 := HXK.out.cell 2; have y3 := HXK.out.cell 3; have y4 := HXK.out.cell 4; have cc := (HCW.out.ld.at_ 2 rfl).cell 0; simp at y0 y1 y2 y3 y4 cc; go_wp2_with fail; refine (HST.out wb HCW.out.ck).mono ?_; rintro e w9 ⟨rfl, hck, hm⟩; have HC9 : Sl _ := ⟨HCW.out.step hck hm⟩; have hxk := HXK.out.mv hm HGX.out; have HX9 : Sl _ := ⟨hxk⟩; clear hck hm hxk y0 y1 y2 y3 y4 cc
          by_cases hz0 : z = 0
          · subst hz0; rw [if_pos rfl] at HSE; obtain ⟨⟨d1, d2⟩, d3⟩ := HXB.out rfl; obtain ⟨d, rfl⟩ := Int.eq_ofNat_of_zero_le d1; simp only [Int.toNat_natCast] at HSE
            have H1 : Sl _ := ⟨first_pr A n c ps (.pointer (some ⟨gc, 0, none⟩)) (.pointer (some ⟨gs, 0, none⟩)) (.pointer (some ⟨gx, 0, none⟩)) (fun _ p => prtE o.rs (o.ds[d]?.getD dv0) p) (fun l _ => l) (fun k l W => CHP w W o g bm gs gr gc l2 ∧ Blk W gx 90 #[.string nm, .int .i64 (d : Int), .int .i64 fn, .int .i64 fd, .slice A n c]) w9 l (by omega)
              (fun k l W h => HXP.out.below h.1.ld.bl)
              (fun k l W ob h => ⟨h.1.alloc ob, h.2.alloc ob⟩)
              (fun k l W p hp h => (chk1_any h.1 (HM.out.d.below h.1.ld.bl) (HM.out.r.below h.1.ld.bl) HRB.out (by have := HN.out; omega) HDB.out gx _ _ _ _ d (by omega) (by have := HN.out; omega) h.2 p).mono fun e w' hh => ⟨hh.1, h.1.below hh.2, h.2.below hh.2 h.2.lt⟩)
              ⟨HC9.out, HX9.out⟩⟩
            rw [← HSE.out] at H1; have HDN : Sl (n ≤ 12) := ⟨d3⟩; have y4 := HX9.out.cell 4; simp at y4; clear d1 d2 d3; go_wp2_with fail; refine H1.out.mono ?_; rintro e wA ⟨⟨i3, hi3, rfl⟩, k3, hk3, hcp, hxp⟩; have HCA : Sl _ := ⟨hcp⟩; have HI3 : Sl _ := ⟨hi3⟩; clear hk3 hcp hxp H1 y4
            by_cases hzs : zs = 0
            · subst hzs; rw [if_pos rfl] at HX; clear hi3; go_wp2_with fail; exact ⟨⟨k + 1, l2, by omega, by go_num, ⟨HCA.out, HLL.out⟩, ⟨HX.out.symm⟩⟩, by simp [RowKit.intOf]; omega⟩
            · rw [if_neg hzs] at HX
              have HR : Sl (r = zs) := ⟨by
                have h1 := congrArg Prod.fst HX.out; simp only [] at h1
                rw [HE.out, h1, if_neg hzs]⟩
              have q0 : (zs != 0) = true := (by rw [bne_iff_ne]; exact hzs); have hi4 : (i3 : Int) ≤ 12 := (by have := HDN.out; have := HI3.out; omega); clear hzs HE hi3
              go_wp2_with ((with_reducible show wpList _ _ _ _ _ _); first
                | (refine wpList_store_whole rfl 72 (.tmp 2) (.tmp 99) rfl gr #[.int .i64 3, .int .i64 (k : Int), .int .i64 ((i3 : Int) + 1)] rfl rfl 72 _ (HCA.out.ld.at_ 1 rfl) rfl (by kernel_rfl) (by simp [Value.oneCell']) ?_; rintro wz zm zs zb; have HZ : Sl _ := ⟨And.intro zm zb⟩; clear zm zs zb))
              (try simp only [Exit.inBlock, Exit.then])
              refine bodyPost_ret (results_row2c rfl _ _ gr _ _ _ rfl HZ.out.2 Tryz.underlying72 rfl (by kernel_rfl)) rfl ?_; exact ⟨⟨_, _, _, by rw [HR.out]; rfl⟩, below_mv HCA.out.ld.bl HZ.out.1 HGE.out HCA.out.ld.bl.size⟩
          · rw [if_neg hz0] at HSE
            have HR : Sl (r = z) := ⟨by
              have h0 := HX.out; rw [HSE.out, if_neg hz0] at h0; have h1 := congrArg Prod.fst h0; simp only [] at h1
              rw [HE.out, h1, if_neg hz0]⟩
            have q0 : (z != 0) = true := (by rw [bne_iff_ne]; exact hz0); clear hz0 HE
            go_wp2_with ((with_reducible show wpList _ _ _ _ _ _); first
              | (refine wpList_store_whole rfl 72 (.tmp 2) (.tmp 84) rfl gr #[.int .i64 3, .int .i64 (k : Int), .int .i64 0] rfl rfl 72 _ (HC9.out.ld.at_ 1 rfl) rfl (by kernel_rfl) (by simp [Value.oneCell']) ?_; rintro wz zm zs zb; have HZ : Sl _ := ⟨And.intro zm zb⟩; clear zm zs zb))
            (try simp only [Exit.inBlock, Exit.then])
            refine bodyPost_ret (results_row2c rfl _ _ gr _ _ _ rfl HZ.out.2 Tryz.underlying72 rfl (by kernel_rfl)) rfl ?_; exact ⟨⟨_, _, _, by rw [HR.out]; rfl⟩, below_mv HC9.out.ld.bl HZ.out.1 HGE.out HC9.out.ld.bl.size⟩
        · obtain rfl : k = o.n3 := (by omega); have hdr : (cE, lc) = (0, l) := (by rw [← HRK.out, ← HM.out.s.len, List.drop_length, runE]); injection hdr with h1 h2
          rw [h1, if_pos rfl, h2] at HE; have HLK : Sl (l.length ≤ 126) := ⟨by have := HCH.out.2; have := HN.out; omega⟩; replace HCH : Sl _ := ⟨HCH.out.1⟩; clear h1 h2; have c0 := (HCH.out.ld.at_ 0 rfl).cell 3; have cc := (HCH.out.ld.at_ 2 rfl).cell 0; simp at c0 cc
          have H1 : Sl _ := ⟨first_cp o.A4 o.n4 o.c4 o.cs (.pointer (some ⟨g, 0, none⟩)) (cplE o.n1) cplL (fun k l W => CHP w W o g bm gs gr gc l ∧ l.length ≤ 126 + k) wr l (by have := HN.out; omega)
            (fun k l W h => HM.out.c.below h.1.ld.bl)
            (fun k l W ob h => ⟨h.1.alloc ob, h.2⟩)
            (fun k l W x hx h => (coupler_any h.1.ck x (by have hk := (List.getElem?_eq_some_iff.1 hx).1; rw [HM.out.c.len] at hk; have := HN.out; have := h.2; omega) (HF.out.c x (List.mem_of_getElem? hx)).1 (by have := HN.out; omega)).mono fun e w' hh => ⟨hh.1, h.1.step hh.2.1 hh.2.2, by have h5 := nmdL_len l kCp x.nm; have h6 := h.2; show (nmdL l kCp x.nm).length ≤ _; omega⟩)
            ⟨HCH.out, by have := HLK.out; omega⟩⟩
          obtain ⟨p, hp⟩ : ∃ p, runE (cplE o.n1) cplL o.cs l = p := ⟨_, rfl⟩; rw [hp] at H1 HE; have HP4 : Sl _ := ⟨hp⟩; clear hp; obtain ⟨b, lb2⟩ := p; simp only [] at H1 HE; go_wp2_with fail; refine H1.out.mono ?_; rintro e w8 ⟨⟨i4, hi, rfl⟩, k4, hk4, hc, hl⟩; clear H1 HCH c0 cc; have HCH : Sl _ := ⟨hc⟩; clear hc hl hi hk4
          by_cases ha : b = 0
          · subst ha; have HR : Sl (r = 0) := ⟨HE.out⟩; clear HE
            go_wp2_with ((with_reducible show wpList _ _ _ _ _ _); first
              | (refine wpList_store_whole rfl 72 (.tmp 2) (.tmp 115) rfl gr #[.int .i64 0, .int .i64 0, .int .i64 0] rfl rfl 72 _ (HCH.out.ld.at_ 1 rfl) rfl (by kernel_rfl) (by simp [Value.oneCell']) ?_; rintro wz zm zs zb; have HZ : Sl _ := ⟨And.intro zm zb⟩; clear zm zs zb))
            (try simp only [Exit.inBlock, Exit.then])
            refine bodyPost_ret (results_row2c rfl _ _ gr _ _ _ rfl HZ.out.2 Tryz.underlying72 rfl (by kernel_rfl)) rfl ?_; exact ⟨⟨_, _, _, by rw [HR.out]; rfl⟩, below_mv HCH.out.ld.bl HZ.out.1 HGE.out HCH.out.ld.bl.size⟩
          · have HR : Sl (r = b) := ⟨HE.out⟩; have q0 : (b != 0) = true := (by rw [bne_iff_ne]; exact ha); clear ha HE
            go_wp2_with ((with_reducible show wpList _ _ _ _ _ _); first
              | (refine wpList_store_whole rfl 72 (.tmp 2) (.tmp 113) rfl gr #[.int .i64 4, .int .i64 (i4 : Int), .int .i64 0] rfl rfl 72 _ (HCH.out.ld.at_ 1 rfl) rfl (by kernel_rfl) (by simp [Value.oneCell']) ?_; rintro wz zm zs zb; have HZ : Sl _ := ⟨And.intro zm zb⟩; clear zm zs zb))
            (try simp only [Exit.inBlock, Exit.then])
            refine bodyPost_ret (results_row2c rfl _ _ gr _ _ _ rfl HZ.out.2 Tryz.underlying72 rfl (by kernel_rfl)) rfl ?_; exact ⟨⟨_, _, _, by rw [HR.out]; rfl⟩, below_mv HCH.out.ld.bl HZ.out.1 HGE.out HCH.out.ld.bl.size⟩
    · rw [if_neg ha] at HE; have HR : Sl (r = b) := ⟨HE.out⟩; have q0 : (b != 0) = true := (by rw [bne_iff_ne]; exact ha); clear ha HE
      go_wp2_with ((with_reducible show wpList _ _ _ _ _ _); first
        | (refine wpList_store_whole rfl 72 (.tmp 2) (.tmp 68) rfl gr #[.int .i64 2, .int .i64 (i2 : Int), .int .i64 0] rfl rfl 72 _ (HCH.out.ld.at_ 1 rfl) rfl (by kernel_rfl) (by simp [Value.oneCell']) ?_; rintro wz zm zs zb; have HZ : Sl _ := ⟨And.intro zm zb⟩; clear zm zs zb))
      (try simp only [Exit.inBlock, Exit.then])
      refine bodyPost_ret (results_row2c rfl _ _ gr _ _ _ rfl HZ.out.2 Tryz.underlying72 rfl (by kernel_rfl)) rfl ?_; exact ⟨⟨_, _, _, by rw [HR.out]; rfl⟩, below_mv HCH.out.ld.bl HZ.out.1 HGE.out HCH.out.ld.bl.size⟩
  · rw [if_neg ha] at HE; have HR : Sl (r = a) := ⟨HE.out⟩; have q0 : (a != 0) = true := (by rw [bne_iff_ne]; exact ha); clear ha HE
    go_wp2_with ((with_reducible show wpList _ _ _ _ _ _); first
      | (refine wpList_store_whole rfl 72 (.tmp 2) (.tmp 55) rfl gr #[.int .i64 1, .int .i64 (i : Int), .int .i64 0] rfl rfl 72 _ (HCH.out.ld.at_ 1 rfl) rfl (by kernel_rfl) (by simp [Value.oneCell']) ?_; rintro wz zm zs zb; have HZ : Sl _ := ⟨And.intro zm zb⟩; clear zm zs zb))
    (try simp only [Exit.inBlock, Exit.then])
    refine bodyPost_ret (results_row2c rfl _ _ gr _ _ _ rfl HZ.out.2 Tryz.underlying72 rfl (by kernel_rfl)) rfl ?_; exact ⟨⟨_, _, _, by rw [HR.out]; rfl⟩, below_mv HCH.out.ld.bl HZ.out.1 HGE.out HCH.out.ld.bl.size⟩
end Go.Proofs.YtabkpbbjodfolaaGreatDoor
