/- The reference of chapter 10: stop, has, part. (Printed by gensrd.py.) -/
import Derived.Test.YtabkpbbjodfolaaGreatDoorZvW
namespace Go.Proofs.YtabkpbbjodfolaaGreatDoor
set_option linter.unusedSimpArgs false
open Go.RowKit
set_option linter.unusedVariables false
theorem rhas_any2 (x : RnV) (n : Int) (w : World) (hb : (0 ≤ x.lo ∧ x.lo ≤ 1000) ∧ 0 ≤ x.ct ∧ x.ct ≤ 1000) : Calls Tryz.prog 120 #[.agg #[.string x.nm, .int .i64 x.kd, .int .i64 x.fn, .int .i64 x.fd, .int .i64 x.lo, .int .i64 x.ct], .int .i64 n] w fun e w' => e = .returned (.bool (decide (x.lo ≤ n ∧ n < x.lo + x.ct))) ∧ Below w.heap.size w w' := by
  obtain ⟨nm, kd, fn, fd, lo, ct⟩ := x; simp only [] at hb ⊢; have hbl := (Below.refl w.heap.size w).alloc (Nat.le_refl _) (.cells #[.string nm, .int .i64 kd, .int .i64 fn, .int .i64 fd, .int .i64 lo, .int .i64 ct] 100); have X0 := Blk.new w 100 #[.string nm, .int .i64 kd, .int .i64 fn, .int .i64 fd, .int .i64 lo, .int .i64 ct]; have d3 : (w.alloc (.cells #[.string nm, .int .i64 kd, .int .i64 fn, .int .i64 fd, .int .i64 lo, .int .i64 ct] 100)).cell? ⟨w.heap.size, 4, none⟩ = some (.int .i64 lo) := X0.cell 4; have d4 : (w.alloc (.cells #[.string nm, .int .i64 kd, .int .i64 fn, .int .i64 fd, .int .i64 lo, .int .i64 ct] 100)).cell? ⟨w.heap.size, 5, none⟩ = some (.int .i64 ct) := X0.cell 5; have hw : IntKind.i64.wrap (lo + ct) = lo + ct := (by rw [IntKind.wrap_i64]; omega); have HBL : Sl _ := ⟨hbl⟩; clear hbl X0 hb
  by_cases h : lo ≤ n
  · have h1 : decide (lo ≤ n) = true := decide_eq_true h; have HC : Sl (decide (lo ≤ n ∧ n < lo + ct) = decide (n < lo + ct)) := ⟨decide_eq_decide.2 ⟨fun h => h.2, fun h2 => ⟨h, h2⟩⟩⟩; go_enter Tryz.func120, Tryz.ntmps120; go_wp2_with fail; go_ret; exact ⟨by first | rfl | (rw [HC.out]; rfl), HBL.out⟩
  · have h1 : decide (lo ≤ n) = false := decide_eq_false h; have HC : Sl (decide (lo ≤ n ∧ n < lo + ct) = false) := ⟨decide_eq_false fun hh => h hh.1⟩; go_enter Tryz.func120, Tryz.ntmps120; go_wp2_with fail; go_ret; exact ⟨by first | rfl | (rw [HC.out]; rfl), HBL.out⟩
set_option maxHeartbeats 3200000 in
set_option maxRecDepth 100000 in
theorem rstop_any (o : SpO) (i : Nat) (w : World) (hM : SpM w o) (hF : SpF o) (hi : i < o.n3) (hn : o.n3 ≤ 1000) (hn1 : o.n1 ≤ 1000) :
    Calls Tryz.prog 69 #[.agg #[.slice o.A1 o.n1 o.c1, .slice o.A2 o.n2 o.c2, .slice o.A3 o.n3 o.c3, .slice o.A4 o.n4 o.c4], .int .i64 (i : Int)] w fun e w' => e = .returned (.int .i64 (rstE o i)) ∧ Below w.heap.size w w' := by
  have HD : Sl (Lg w w []) := ⟨Lg.nil w⟩; obtain ⟨gb, oo, hA, hgb, hall⟩ := hM.s.all_ (by decide) (show 0 < o.n3 by omega); have HALL : Sl _ := ⟨hall⟩; obtain ⟨x, hx, _⟩ := hall w (Below.refl _ _) i hi
  have HXI : Sl (∀ W, Below w.heap.size w W → W.rangeAt gb (oo + i * 5) x.cells) := ⟨fun W hW => by
    obtain ⟨x2, hx2, h2⟩ := HALL.out W hW i hi; rw [hx] at hx2; injection hx2 with hx2
    rw [hx2]
    exact h2⟩
  have hxF := hF.s x (List.mem_of_getElem? hx); obtain ⟨r, hr⟩ : ∃ r, rstE o i = r := ⟨_, rfl⟩; have HE : Sl (r = if nmB x.nm = false then 6 else if wiB x.dv 0 ((o.n1 : Int) - 1) = false then 4 else if twB (fun y => decide (y.dv = x.dv) && decide (y.nm = x.nm)) o.ss i = true then 8 else if decide (vF x.fn x.fd) = false ∨ x.n = 0 then 2 else if 12 < x.n then 3 else 0) := ⟨by rw [← hr]; unfold rstE; rw [hx]; rfl⟩; rw [hr]; obtain ⟨nm, dv, fn, fd, A, n, c, ps⟩ := x; simp only [] at HE hxF; have HNM : Sl (nm.size ≤ maxLen) := ⟨hxF.1⟩; have HPN : Sl (n ≤ c ∧ c ≤ maxLen) := ⟨hxF.2.2.2.2.1⟩; clear hxF; have HIN : Sl (i < o.n3 ∧ o.n3 ≤ 1000) := ⟨hi, hn⟩; have hi0 : (0 : Int) ≤ (i : Int) := (by omega); have hi1 : (i : Int) < (o.n3 : Int) := (by omega); clear hr hM hF hall hx hi hn; go_enter Tryz.func69, Tryz.ntmps69
  go_upto_region 1 with ((with_reducible show wpList _ _ _ _ _ _); (refine wpList_box_new 2 rfl rfl 33 (.tmp 0) rfl #[.slice o.A1 o.n1 o.c1, .slice o.A2 o.n2 o.c2, .slice o.A3 o.n3 o.c3, .slice o.A4 o.n4 o.c4] rfl (fun _ => by kernel_rfl) ?_; rintro w1 g0 zg zm zs zb; replace HD : Sl _ := ⟨HD.out.new zg zm zb⟩; clear zg zm zs zb))
  have c0 : w1.cell? ⟨g0, 2, none⟩ = some (.slice (some ⟨gb, oo, none⟩) o.n3 o.c3) := (by rw [← hA]; exact (HD.out.at_ 0 rfl).cell 2); have HA : Sl _ := ⟨hA⟩; clear hA
  go_upto_region 2 with ((with_reducible show wpList _ _ _ _ _ _); first
    | (refine wpList_load_mid rfl 90 (.tmp 10) rfl gb (oo + i * 5) rfl _ _ (HXI.out _ HD.out.bl) Tryz.underlying90 rfl (by kernel_rfl) ?_)
    | (refine wpList_alloc_new 5 rfl rfl 90 rfl #[.string ⟨#[]⟩, .int .i64 0, .int .i64 0, .int .i64 0, .slice none 0 0] (fun _ => by kernel_rfl) ?_; rintro w2 g5 zg zm zs zb; replace HD : Sl _ := ⟨HD.out.new zg zm zb⟩; clear zg zm zs zb)
    | (refine wpList_store_whole rfl 90 (.tmp 5) (.tmp 11) rfl g5 #[.string nm, .int .i64 dv, .int .i64 fn, .int .i64 fd, .slice A n c] rfl rfl 90 _ (HD.out.at_ 0 rfl) rfl (by kernel_rfl) (by simp [Value.oneCell']) ?_; rintro w3 zm zs zb; replace HD : Sl _ := ⟨HD.out.upd zm zb⟩; clear zm zs zb))
  clear c0 hi0 hi1; have c1 : w3.cell? ⟨g5, 0, none⟩ = some (.string nm) := (HD.out.at_ 0 rfl).cell 0; go_wp2_with fail; refine (rname_any nm _ HNM.out).mono ?_; rintro e w4 ⟨rfl, hb4⟩; replace HD : Sl _ := ⟨HD.out.below hb4⟩; clear hb4 c1; obtain ⟨b0, hb0⟩ : ∃ b0, nmB nm = b0 := ⟨_, rfl⟩; rw [hb0] at HE ⊢; clear hb0
  cases b0 with
  | false =>
    go_wp2_with fail; go_ret; exact ⟨by rw [HE.out]; rfl, HD.out.bl⟩
  | true =>
    have c1 : w4.cell? ⟨g5, 1, none⟩ = some (.int .i64 dv) := (HD.out.at_ 0 rfl).cell 1; have c2 : w4.cell? ⟨g0, 0, none⟩ = some (.slice o.A1 o.n1 o.c1) := (HD.out.at_ 1 rfl).cell 0; go_wp2_with fail; refine (rindex_any dv (o.n1 : Int) _).mono ?_; rintro e w5 ⟨rfl, rfl⟩; obtain ⟨b1, hb1⟩ : ∃ b1, wiB dv 0 ((o.n1 : Int) - 1) = b1 := ⟨_, rfl⟩; rw [hb1] at HE ⊢; clear hb1 c1 c2
    cases b1 with
    | false =>
      go_wp2_with fail; go_ret; exact ⟨by rw [HE.out]; rfl, HD.out.bl⟩
    | true =>
      go_wp2_with fail
      go_loopw [6] (fun s6 wv => ∃ k : Nat, k ≤ i ∧ s6 = .int .i64 k ∧ Sl (Lg w wv [(g5, 90, #[.string nm, .int .i64 dv, .int .i64 fn, .int .i64 fd, .slice A n c]), (g0, 33, #[.slice o.A1 o.n1 o.c1, .slice o.A2 o.n2 o.c2, .slice o.A3 o.n3 o.c3, .slice o.A4 o.n4 o.c4])]) ∧ Sl (twB (fun y => decide (y.dv = dv) && decide (y.nm = nm)) o.ss k = false)) (fun s6 _ => i - (RowKit.intOf s6).toNat)
      case atStart => exact ⟨0, Nat.zero_le _, rfl, HD, ⟨rfl⟩⟩
      case round =>
        clear HD; obtain ⟨k, hk, rfl, HD, HTW⟩ := hrel; have hi9 : (i : Int) ≤ 1000 := (by have := HIN.out; omega)
        by_cases hki : k < i
        · have hkI : decide ((k : Int) < (i : Int)) = true := decide_eq_true (by omega); have hkI2 : (k : Int) < (i : Int) := (by omega); have hk0 : (0 : Int) ≤ (k : Int) := (by omega); have hk1 : (k : Int) < (o.n3 : Int) := (by have := HIN.out; omega); obtain ⟨y, hy, hra2⟩ := HALL.out _ HD.out.bl k (by have := HIN.out; omega); have HSU := twB_succ (p := fun y => decide (y.dv = dv) && decide (y.nm = nm)) hy; rw [HTW.out, Bool.false_or] at HSU; have HS2 : Sl _ := ⟨HSU⟩
          have HQ : Sl (∀ W, Below wr.heap.size wr W → (W.cell? ⟨g0, 2, none⟩ = some (.slice (some ⟨gb, oo, none⟩) o.n3 o.c3) ∧ W.cell? ⟨g5, 0, none⟩ = some (.string nm) ∧ W.cell? ⟨g5, 1, none⟩ = some (.int .i64 dv)) ∧ W.cell? ⟨gb, oo + k * 5, none⟩ = some (.string y.nm) ∧ W.cell? ⟨gb, oo + k * 5 + 1, none⟩ = some (.int .i64 y.dv)) := ⟨fun W hW => by
            have hW2 := HD.out.below hW; obtain ⟨y2, hy2, hra3⟩ := HALL.out W hW2.bl k (by have := HIN.out; omega); rw [hy] at hy2; injection hy2 with hy2
            subst hy2
            exact ⟨⟨by rw [← HA.out]; exact (hW2.at_ 1 rfl).cell 2, (hW2.at_ 0 rfl).cell 0, (hW2.at_ 0 rfl).cell 1⟩, hra3 0 _ rfl, hra3 1 _ rfl⟩⟩
          have hS0 : Below wr.heap.size wr wr.drew := below_drewN (Below.refl _ _) 1; clear HSU hra2 hy
          by_cases hd : y.dv = dv
          · by_cases heq : y.nm = nm
            · have HT : Sl (twB (fun y => decide (y.dv = dv) && decide (y.nm = nm)) o.ss i = true) := ⟨twB_mono (by rw [HS2.out, hd, heq]; simp) (by omega : k + 1 ≤ i)⟩; go_wp2_with fail; have hm := hS0; refine wp_region_held_drew (S := fun w' => Below wr.heap.size wr w') (by kernel_rfl) hm (fun hHeld => ?_); clear hm; refine wpAnyH_pure 0 (v := .pointer (some ⟨g0, 2, none⟩)) rfl (by kernel_rfl) (by kernel_rfl) (by kernel_rfl) (fun _ _ _ h => h) rfl (fun _ => by go_simp) (by assumption) ?_; simp only [Act.put, sS0, sS1, sS2]
              refine wpAnyH_cell 1 (v := .slice (some ⟨gb, oo, none⟩) o.n3 o.c3) rfl rfl (fun w' h => by
                have hc := (HQ.out w' h).1.1
                go_simp) (by kernel_rfl) (by kernel_rfl) (by kernel_rfl) (fun _ _ _ h => h) (by assumption) ?_
              simp only [Act.put, sS0, sS1, sS2]; refine wpAnyH_pure 2 (v := .int .i64 (k : Int)) rfl (by kernel_rfl) (by kernel_rfl) (by kernel_rfl) (fun _ _ _ h => h) rfl (fun _ => rfl) (by assumption) ?_; simp only [Act.put, sS0, sS1, sS2]; refine wpAnyH_pure 3 (v := .pointer (some ⟨gb, oo + k * 5, none⟩)) rfl (by kernel_rfl) (by kernel_rfl) (by kernel_rfl) (fun _ _ _ h => h) rfl (fun _ => by go_simp) (by assumption) ?_; simp only [Act.put, sS0, sS1, sS2]; refine wpAnyH_pure 4 (v := .pointer (some ⟨gb, oo + k * 5 + 1, none⟩)) rfl (by kernel_rfl) (by kernel_rfl) (by kernel_rfl) (fun _ _ _ h => h) rfl (fun _ => by go_simp) (by assumption) ?_; simp only [Act.put, sS0, sS1, sS2]
              refine wpAnyH_cell 5 (v := .int .i64 y.dv) rfl rfl (fun w' h => by
                have hc := (HQ.out w' h).2.2
                go_simp) (by kernel_rfl) (by kernel_rfl) (by kernel_rfl) (fun _ _ _ h => h) (by assumption) ?_
              simp only [Act.put, sS0, sS1, sS2]; refine wpAnyH_pure 6 (v := .pointer (some ⟨g5, 1, none⟩)) rfl (by kernel_rfl) (by kernel_rfl) (by kernel_rfl) (fun _ _ _ h => h) rfl (fun _ => by go_simp) (by assumption) ?_; simp only [Act.put, sS0, sS1, sS2]
              refine wpAnyH_cell 7 (v := .int .i64 dv) rfl rfl (fun w' h => by
                have hc := (HQ.out w' h).1.2.2
                go_simp) (by kernel_rfl) (by kernel_rfl) (by kernel_rfl) (fun _ _ _ h => h) (by assumption) ?_
              simp only [Act.put, sS0, sS1, sS2]; refine wpAnyH_pure 8 (v := .bool true) rfl (by kernel_rfl) (by kernel_rfl) (by kernel_rfl) (fun _ _ _ h => h) rfl (fun _ => by go_simp; (try simpa using hd)) (by assumption) ?_; simp only [Act.put, sS0, sS1, sS2]; refine wpAnyH_pure 9 (v := .bool true) rfl (by kernel_rfl) (by kernel_rfl) (by kernel_rfl) (fun _ _ _ h => h) rfl (fun _ => rfl) (by assumption) ?_; simp only [Act.put, sS0, sS1, sS2]; refine wpAnyH_pureg 10 (v := .pointer (some ⟨g0, 2, none⟩)) rfl (by kernel_rfl) (by kernel_rfl) (by kernel_rfl) (fun _ _ _ h => h) (by rfl) (fun _ => by go_simp) (by assumption) ?_; simp only [Act.put, sS0, sS1, sS2]
              refine wpAnyH_cellg 11 (v := .slice (some ⟨gb, oo, none⟩) o.n3 o.c3) rfl (by rfl) (fun w' h => by
                have hc := (HQ.out w' h).1.1
                go_simp) (by kernel_rfl) (by kernel_rfl) (by kernel_rfl) (fun _ _ _ h => h) (by assumption) ?_
              simp only [Act.put, sS0, sS1, sS2]; refine wpAnyH_pureg 12 (v := .int .i64 (k : Int)) rfl (by kernel_rfl) (by kernel_rfl) (by kernel_rfl) (fun _ _ _ h => h) (by rfl) (fun _ => rfl) (by assumption) ?_; simp only [Act.put, sS0, sS1, sS2]; refine wpAnyH_pureg 13 (v := .pointer (some ⟨gb, oo + k * 5, none⟩)) rfl (by kernel_rfl) (by kernel_rfl) (by kernel_rfl) (fun _ _ _ h => h) (by rfl) (fun _ => by go_simp) (by assumption) ?_; simp only [Act.put, sS0, sS1, sS2]; refine wpAnyH_pureg 14 (v := .pointer (some ⟨gb, oo + k * 5, none⟩)) rfl (by kernel_rfl) (by kernel_rfl) (by kernel_rfl) (fun _ _ _ h => h) (by rfl) (fun _ => by go_simp) (by assumption) ?_; simp only [Act.put, sS0, sS1, sS2]
              refine wpAnyH_cellg 15 (v := .string y.nm) rfl (by rfl) (fun w' h => by
                have hc := (HQ.out w' h).2.1
                go_simp) (by kernel_rfl) (by kernel_rfl) (by kernel_rfl) (fun _ _ _ h => h) (by assumption) ?_
              simp only [Act.put, sS0, sS1, sS2]; refine wpAnyH_pureg 16 (v := .pointer (some ⟨g5, 0, none⟩)) rfl (by kernel_rfl) (by kernel_rfl) (by kernel_rfl) (fun _ _ _ h => h) (by rfl) (fun _ => by go_simp) (by assumption) ?_; simp only [Act.put, sS0, sS1, sS2]
              refine wpAnyH_cellg 17 (v := .string nm) rfl (by rfl) (fun w' h => by
                have hc := (HQ.out w' h).1.2.1
                go_simp) (by kernel_rfl) (by kernel_rfl) (by kernel_rfl) (fun _ _ _ h => h) (by assumption) ?_
              simp only [Act.put, sS0, sS1, sS2]; refine wpAnyH_pureg 18 (v := .bool true) rfl (by kernel_rfl) (by kernel_rfl) (by kernel_rfl) (fun _ _ _ h => h) (by rfl) (fun _ => by go_simp; (first | (simpa using heq) | exact fun h => heq (cbytes_eq h) | skip)) (by assumption) ?_; simp only [Act.put, sS0, sS1, sS2]; refine wpAnyH_pure 19 (v := .bool true) rfl (by kernel_rfl) (by kernel_rfl) (by kernel_rfl) (fun _ _ _ h => h) rfl (fun _ => by go_simp) (by assumption) ?_; simp only [Act.put, sS0, sS1, sS2]; refine wpAnyH_done (by kernel_rfl) ?_ _; clear hHeld; go_wp2_with fail; go_ret; exact ⟨by rw [HE.out, HT.out]; rfl, below_drewN HD.out.bl 1⟩
            · have HT : Sl (twB (fun y => decide (y.dv = dv) && decide (y.nm = nm)) o.ss (k + 1) = false) := ⟨by rw [HS2.out]; simp [heq]⟩; go_wp2_with fail; have hm := hS0; refine wp_region_held_drew (S := fun w' => Below wr.heap.size wr w') (by kernel_rfl) hm (fun hHeld => ?_); clear hm; refine wpAnyH_pure 0 (v := .pointer (some ⟨g0, 2, none⟩)) rfl (by kernel_rfl) (by kernel_rfl) (by kernel_rfl) (fun _ _ _ h => h) rfl (fun _ => by go_simp) (by assumption) ?_; simp only [Act.put, sS0, sS1, sS2]
              refine wpAnyH_cell 1 (v := .slice (some ⟨gb, oo, none⟩) o.n3 o.c3) rfl rfl (fun w' h => by
                have hc := (HQ.out w' h).1.1
                go_simp) (by kernel_rfl) (by kernel_rfl) (by kernel_rfl) (fun _ _ _ h => h) (by assumption) ?_
              simp only [Act.put, sS0, sS1, sS2]; refine wpAnyH_pure 2 (v := .int .i64 (k : Int)) rfl (by kernel_rfl) (by kernel_rfl) (by kernel_rfl) (fun _ _ _ h => h) rfl (fun _ => rfl) (by assumption) ?_; simp only [Act.put, sS0, sS1, sS2]; refine wpAnyH_pure 3 (v := .pointer (some ⟨gb, oo + k * 5, none⟩)) rfl (by kernel_rfl) (by kernel_rfl) (by kernel_rfl) (fun _ _ _ h => h) rfl (fun _ => by go_simp) (by assumption) ?_; simp only [Act.put, sS0, sS1, sS2]; refine wpAnyH_pure 4 (v := .pointer (some ⟨gb, oo + k * 5 + 1, none⟩)) rfl (by kernel_rfl) (by kernel_rfl) (by kernel_rfl) (fun _ _ _ h => h) rfl (fun _ => by go_simp) (by assumption) ?_; simp only [Act.put, sS0, sS1, sS2]
              refine wpAnyH_cell 5 (v := .int .i64 y.dv) rfl rfl (fun w' h => by
                have hc := (HQ.out w' h).2.2
                go_simp) (by kernel_rfl) (by kernel_rfl) (by kernel_rfl) (fun _ _ _ h => h) (by assumption) ?_
              simp only [Act.put, sS0, sS1, sS2]; refine wpAnyH_pure 6 (v := .pointer (some ⟨g5, 1, none⟩)) rfl (by kernel_rfl) (by kernel_rfl) (by kernel_rfl) (fun _ _ _ h => h) rfl (fun _ => by go_simp) (by assumption) ?_; simp only [Act.put, sS0, sS1, sS2]
              refine wpAnyH_cell 7 (v := .int .i64 dv) rfl rfl (fun w' h => by
                have hc := (HQ.out w' h).1.2.2
                go_simp) (by kernel_rfl) (by kernel_rfl) (by kernel_rfl) (fun _ _ _ h => h) (by assumption) ?_
              simp only [Act.put, sS0, sS1, sS2]; refine wpAnyH_pure 8 (v := .bool true) rfl (by kernel_rfl) (by kernel_rfl) (by kernel_rfl) (fun _ _ _ h => h) rfl (fun _ => by go_simp; (try simpa using hd)) (by assumption) ?_; simp only [Act.put, sS0, sS1, sS2]; refine wpAnyH_pure 9 (v := .bool true) rfl (by kernel_rfl) (by kernel_rfl) (by kernel_rfl) (fun _ _ _ h => h) rfl (fun _ => rfl) (by assumption) ?_; simp only [Act.put, sS0, sS1, sS2]; refine wpAnyH_pureg 10 (v := .pointer (some ⟨g0, 2, none⟩)) rfl (by kernel_rfl) (by kernel_rfl) (by kernel_rfl) (fun _ _ _ h => h) (by rfl) (fun _ => by go_simp) (by assumption) ?_; simp only [Act.put, sS0, sS1, sS2]
              refine wpAnyH_cellg 11 (v := .slice (some ⟨gb, oo, none⟩) o.n3 o.c3) rfl (by rfl) (fun w' h => by
                have hc := (HQ.out w' h).1.1
                go_simp) (by kernel_rfl) (by kernel_rfl) (by kernel_rfl) (fun _ _ _ h => h) (by assumption) ?_
              simp only [Act.put, sS0, sS1, sS2]; refine wpAnyH_pureg 12 (v := .int .i64 (k : Int)) rfl (by kernel_rfl) (by kernel_rfl) (by kernel_rfl) (fun _ _ _ h => h) (by rfl) (fun _ => rfl) (by assumption) ?_; simp only [Act.put, sS0, sS1, sS2]; refine wpAnyH_pureg 13 (v := .pointer (some ⟨gb, oo + k * 5, none⟩)) rfl (by kernel_rfl) (by kernel_rfl) (by kernel_rfl) (fun _ _ _ h => h) (by rfl) (fun _ => by go_simp) (by assumption) ?_; simp only [Act.put, sS0, sS1, sS2]; refine wpAnyH_pureg 14 (v := .pointer (some ⟨gb, oo + k * 5, none⟩)) rfl (by kernel_rfl) (by kernel_rfl) (by kernel_rfl) (fun _ _ _ h => h) (by rfl) (fun _ => by go_simp) (by assumption) ?_; simp only [Act.put, sS0, sS1, sS2]
              refine wpAnyH_cellg 15 (v := .string y.nm) rfl (by rfl) (fun w' h => by
                have hc := (HQ.out w' h).2.1
                go_simp) (by kernel_rfl) (by kernel_rfl) (by kernel_rfl) (fun _ _ _ h => h) (by assumption) ?_
              simp only [Act.put, sS0, sS1, sS2]; refine wpAnyH_pureg 16 (v := .pointer (some ⟨g5, 0, none⟩)) rfl (by kernel_rfl) (by kernel_rfl) (by kernel_rfl) (fun _ _ _ h => h) (by rfl) (fun _ => by go_simp) (by assumption) ?_; simp only [Act.put, sS0, sS1, sS2]
              refine wpAnyH_cellg 17 (v := .string nm) rfl (by rfl) (fun w' h => by
                have hc := (HQ.out w' h).1.2.1
                go_simp) (by kernel_rfl) (by kernel_rfl) (by kernel_rfl) (fun _ _ _ h => h) (by assumption) ?_
              simp only [Act.put, sS0, sS1, sS2]; refine wpAnyH_pureg 18 (v := .bool false) rfl (by kernel_rfl) (by kernel_rfl) (by kernel_rfl) (fun _ _ _ h => h) (by rfl) (fun _ => by go_simp; (first | (simpa using heq) | exact fun h => heq (cbytes_eq h) | skip)) (by assumption) ?_; simp only [Act.put, sS0, sS1, sS2]; refine wpAnyH_pure 19 (v := .bool false) rfl (by kernel_rfl) (by kernel_rfl) (by kernel_rfl) (fun _ _ _ h => h) rfl (fun _ => by go_simp) (by assumption) ?_; simp only [Act.put, sS0, sS1, sS2]; refine wpAnyH_done (by kernel_rfl) ?_ _; clear hHeld; go_wp2_with fail; exact ⟨⟨k + 1, by omega, by go_num, ⟨HD.out.below (below_drewN (Below.refl _ _) 1)⟩, HT⟩, by simp [RowKit.intOf]; omega⟩
          · have HT : Sl (twB (fun y => decide (y.dv = dv) && decide (y.nm = nm)) o.ss (k + 1) = false) := ⟨by rw [HS2.out]; simp [hd]⟩; go_wp2_with fail; have hm := hS0; refine wp_region_held_drew (S := fun w' => Below wr.heap.size wr w') (by kernel_rfl) hm (fun hHeld => ?_); clear hm; refine wpAnyH_pure 0 (v := .pointer (some ⟨g0, 2, none⟩)) rfl (by kernel_rfl) (by kernel_rfl) (by kernel_rfl) (fun _ _ _ h => h) rfl (fun _ => by go_simp) (by assumption) ?_; simp only [Act.put, sS0, sS1, sS2]
            refine wpAnyH_cell 1 (v := .slice (some ⟨gb, oo, none⟩) o.n3 o.c3) rfl rfl (fun w' h => by
              have hc := (HQ.out w' h).1.1
              go_simp) (by kernel_rfl) (by kernel_rfl) (by kernel_rfl) (fun _ _ _ h => h) (by assumption) ?_
            simp only [Act.put, sS0, sS1, sS2]; refine wpAnyH_pure 2 (v := .int .i64 (k : Int)) rfl (by kernel_rfl) (by kernel_rfl) (by kernel_rfl) (fun _ _ _ h => h) rfl (fun _ => rfl) (by assumption) ?_; simp only [Act.put, sS0, sS1, sS2]; refine wpAnyH_pure 3 (v := .pointer (some ⟨gb, oo + k * 5, none⟩)) rfl (by kernel_rfl) (by kernel_rfl) (by kernel_rfl) (fun _ _ _ h => h) rfl (fun _ => by go_simp) (by assumption) ?_; simp only [Act.put, sS0, sS1, sS2]; refine wpAnyH_pure 4 (v := .pointer (some ⟨gb, oo + k * 5 + 1, none⟩)) rfl (by kernel_rfl) (by kernel_rfl) (by kernel_rfl) (fun _ _ _ h => h) rfl (fun _ => by go_simp) (by assumption) ?_; simp only [Act.put, sS0, sS1, sS2]
            refine wpAnyH_cell 5 (v := .int .i64 y.dv) rfl rfl (fun w' h => by
              have hc := (HQ.out w' h).2.2
              go_simp) (by kernel_rfl) (by kernel_rfl) (by kernel_rfl) (fun _ _ _ h => h) (by assumption) ?_
            simp only [Act.put, sS0, sS1, sS2]; refine wpAnyH_pure 6 (v := .pointer (some ⟨g5, 1, none⟩)) rfl (by kernel_rfl) (by kernel_rfl) (by kernel_rfl) (fun _ _ _ h => h) rfl (fun _ => by go_simp) (by assumption) ?_; simp only [Act.put, sS0, sS1, sS2]
            refine wpAnyH_cell 7 (v := .int .i64 dv) rfl rfl (fun w' h => by
              have hc := (HQ.out w' h).1.2.2
              go_simp) (by kernel_rfl) (by kernel_rfl) (by kernel_rfl) (fun _ _ _ h => h) (by assumption) ?_
            simp only [Act.put, sS0, sS1, sS2]; refine wpAnyH_pure 8 (v := .bool false) rfl (by kernel_rfl) (by kernel_rfl) (by kernel_rfl) (fun _ _ _ h => h) rfl (fun _ => by go_simp; (try simpa using hd)) (by assumption) ?_; simp only [Act.put, sS0, sS1, sS2]; refine wpAnyH_pure 9 (v := .bool false) rfl (by kernel_rfl) (by kernel_rfl) (by kernel_rfl) (fun _ _ _ h => h) rfl (fun _ => rfl) (by assumption) ?_; simp only [Act.put, sS0, sS1, sS2]; refine wpAnyH_no 10 rfl (by kernel_rfl) (by kernel_rfl) (by kernel_rfl) (fun _ _ _ h => h) (by rfl) (by assumption) ?_; simp only [Act.put, sS0, sS1, sS2]; refine wpAnyH_no 11 rfl (by kernel_rfl) (by kernel_rfl) (by kernel_rfl) (fun _ _ _ h => h) (by rfl) (by assumption) ?_; simp only [Act.put, sS0, sS1, sS2]; refine wpAnyH_no 12 rfl (by kernel_rfl) (by kernel_rfl) (by kernel_rfl) (fun _ _ _ h => h) (by rfl) (by assumption) ?_; simp only [Act.put, sS0, sS1, sS2]; refine wpAnyH_no 13 rfl (by kernel_rfl) (by kernel_rfl) (by kernel_rfl) (fun _ _ _ h => h) (by rfl) (by assumption) ?_; simp only [Act.put, sS0, sS1, sS2]; refine wpAnyH_no 14 rfl (by kernel_rfl) (by kernel_rfl) (by kernel_rfl) (fun _ _ _ h => h) (by rfl) (by assumption) ?_; simp only [Act.put, sS0, sS1, sS2]; refine wpAnyH_no 15 rfl (by kernel_rfl) (by kernel_rfl) (by kernel_rfl) (fun _ _ _ h => h) (by rfl) (by assumption) ?_; simp only [Act.put, sS0, sS1, sS2]; refine wpAnyH_no 16 rfl (by kernel_rfl) (by kernel_rfl) (by kernel_rfl) (fun _ _ _ h => h) (by rfl) (by assumption) ?_; simp only [Act.put, sS0, sS1, sS2]; refine wpAnyH_no 17 rfl (by kernel_rfl) (by kernel_rfl) (by kernel_rfl) (fun _ _ _ h => h) (by rfl) (by assumption) ?_; simp only [Act.put, sS0, sS1, sS2]; refine wpAnyH_no 18 rfl (by kernel_rfl) (by kernel_rfl) (by kernel_rfl) (fun _ _ _ h => h) (by rfl) (by assumption) ?_; simp only [Act.put, sS0, sS1, sS2]; refine wpAnyH_pure 19 (v := .bool false) rfl (by kernel_rfl) (by kernel_rfl) (by kernel_rfl) (fun _ _ _ h => h) rfl (fun _ => by go_simp) (by assumption) ?_; simp only [Act.put, sS0, sS1, sS2]; refine wpAnyH_done (by kernel_rfl) ?_ _; clear hHeld; go_wp2_with fail; exact ⟨⟨k + 1, by omega, by go_num, ⟨HD.out.below (below_drewN (Below.refl _ _) 1)⟩, HT⟩, by simp [RowKit.intOf]; omega⟩
        · obtain rfl : i = k := (by omega); have hkI : decide ((i : Int) < (i : Int)) = false := (by simp); rw [HTW.out, if_neg (by decide), if_neg (by decide), if_neg (by decide)] at HE; clear HTW hki hk; have d2 : wr.cell? ⟨g5, 2, none⟩ = some (.int .i64 fn) := (HD.out.at_ 0 rfl).cell 2; have d3 : wr.cell? ⟨g5, 3, none⟩ = some (.int .i64 fd) := (HD.out.at_ 0 rfl).cell 3; go_wp2_with fail; refine (rvalid_any fn fd _).mono ?_; rintro e w6 ⟨rfl, hb6⟩; replace HD : Sl _ := ⟨HD.out.below hb6⟩; clear hb6 d2 d3; obtain ⟨b2, hb2⟩ : ∃ b2, decide (vF fn fd) = b2 := ⟨_, rfl⟩; rw [hb2] at HE ⊢; clear hb2
          cases b2 with
          | false =>
            have HV : Sl (r = 2) := ⟨by rw [HE.out, if_pos (.inl rfl)]⟩; clear HE; go_wp2_with fail; go_ret; exact ⟨by first | (rw [HV.out]; rfl) | rw [HV.out], HD.out.bl⟩
          | true =>
            have d4 : w6.cell? ⟨g5, 4, none⟩ = some (.slice A n c) := (HD.out.at_ 0 rfl).cell 4
            by_cases n0 : n = 0
            · subst n0; have HV : Sl (r = 2) := ⟨by rw [HE.out, if_pos (.inr rfl)]⟩; clear HE; go_wp2_with fail; go_ret; exact ⟨by first | (rw [HV.out]; rfl) | rw [HV.out], HD.out.bl⟩
            · have n0b : ((n : Int) == 0) = false := (by rw [beq_eq_false_iff_ne]; omega)
              by_cases n12 : 12 < n
              · have n12d : decide ((12 : Int) < (n : Int)) = true := decide_eq_true (by omega); have HV : Sl (r = 3) := ⟨by rw [HE.out, if_neg (by simp; omega), if_pos n12]⟩; clear HE; go_wp2_with fail; go_ret; exact ⟨by first | (rw [HV.out]; rfl) | rw [HV.out], HD.out.bl⟩
              · have n12d : decide ((12 : Int) < (n : Int)) = false := decide_eq_false (by omega); have HV : Sl (r = 0) := ⟨by rw [HE.out, if_neg (by simp; omega), if_neg n12]⟩; clear HE; go_wp2_with fail; go_ret; exact ⟨by first | (rw [HV.out]; rfl) | rw [HV.out], HD.out.bl⟩
set_option maxHeartbeats 3200000 in
set_option maxRecDepth 100000 in
theorem rpart_any (o : SpO) (s0 : ByteArray) (dv : Nat) (s2 s3 : Int) (s4 : Option Addr) (s5 s6 : Nat) (p : PrV) (w : World) (hM : SpM w o) (hdv : dv < o.n1) (hn1 : o.n1 ≤ 1000) (hn2 : o.n2 ≤ 1000)
    (hrb : ∀ r ∈ o.rs, (0 ≤ r.lo ∧ r.lo ≤ 1000) ∧ 0 ≤ r.ct ∧ r.ct ≤ 1000) (hdb : ∀ d ∈ o.ds, 0 ≤ d.lo ∧ d.hi ≤ 1000) (hp : i64 p.rk) :
    Calls Tryz.prog 70 #[.agg #[.slice o.A1 o.n1 o.c1, .slice o.A2 o.n2 o.c2, .slice o.A3 o.n3 o.c3, .slice o.A4 o.n4 o.c4], .agg #[.string s0, .int .i64 (dv : Int), .int .i64 s2, .int .i64 s3, .slice s4 s5 s6], .agg #[.int .i64 p.rk, .int .i64 p.sh, .int .i64 p.lo, .int .i64 p.hi]] w fun e w' => e = .returned (.int .i64 (prtE o.rs (o.ds[dv]?.getD dv0) p)) ∧ Below w.heap.size w w' := by
  have HD : Sl (Lg w w []) := ⟨Lg.nil w⟩; obtain ⟨gb, oo, hA, hgb, hall⟩ := hM.d.all_ (by decide) (show 0 < o.n1 by omega); have HALL : Sl _ := ⟨hall⟩; obtain ⟨d, hd, _⟩ := hall w (Below.refl _ _) dv hdv
  have HXI : Sl (∀ W, Below w.heap.size w W → W.rangeAt gb (oo + dv * 3) d.cells) := ⟨fun W hW => by
    obtain ⟨x2, hx2, h2⟩ := HALL.out W hW dv hdv; rw [hd] at hx2; injection hx2 with hx2
    rw [hx2]
    exact h2⟩
  have hdF := hdb d (List.mem_of_getElem? hd); rw [hd, Option.getD_some]; have HRL : Sl (o.rs.length = o.n2) := ⟨hM.r.len⟩; have HRM : Sl _ := ⟨hM.r⟩; have HRB : Sl _ := ⟨hrb⟩; obtain ⟨r, hr⟩ : ∃ r, prtE o.rs d p = r := ⟨_, rfl⟩
  have HE : Sl (r = if wiB p.rk 0 ((o.rs.length : Int) - 1) = false then 4 else if wiB p.lo d.lo d.hi && (wiB p.hi p.lo d.hi && wiB p.sh (-96) 96) then
    (if p.lo + p.sh < (o.rs[p.rk.toNat]?.getD rn0).lo ∨ (o.rs[p.rk.toNat]?.getD rn0).lo + (o.rs[p.rk.toNat]?.getD rn0).ct ≤ p.hi + p.sh then 4 else 0) else 7) := ⟨by rw [← hr]; rfl⟩
  rw [hr]; rw [HRL.out] at HE; obtain ⟨dn, lo, hj⟩ := d; obtain ⟨rk, sh, plo, phi⟩ := p; simp only [] at HE hdF ⊢; have hdv0 : (0 : Int) ≤ (dv : Int) := (by omega); have hdv1 : (dv : Int) < (o.n1 : Int) := (by omega); have HN2 : Sl (o.n2 ≤ 1000) := ⟨hn2⟩; clear hr hM hall hd hrb hdb hp; go_enter Tryz.func70, Tryz.ntmps70
  go_upto_region 1 with ((with_reducible show wpList _ _ _ _ _ _); first
    | (refine wpList_box_new 3 rfl rfl 33 (.tmp 0) rfl #[.slice o.A1 o.n1 o.c1, .slice o.A2 o.n2 o.c2, .slice o.A3 o.n3 o.c3, .slice o.A4 o.n4 o.c4] rfl (fun _ => by kernel_rfl) ?_; rintro w1 g0 zg zm zs zb; replace HD : Sl _ := ⟨HD.out.new zg zm zb⟩; clear zg zm zs zb)
    | (refine wpList_box_new 4 rfl rfl 90 (.tmp 1) rfl #[.string s0, .int .i64 (dv : Int), .int .i64 s2, .int .i64 s3, .slice s4 s5 s6] rfl (fun _ => by kernel_rfl) ?_; rintro w2 g1 zg zm zs zb; replace HD : Sl _ := ⟨HD.out.new zg zm zb⟩; clear zg zm zs zb)
    | (refine wpList_box_new 5 rfl rfl 102 (.tmp 2) rfl #[.int .i64 rk, .int .i64 sh, .int .i64 plo, .int .i64 phi] rfl (fun _ => by kernel_rfl) ?_; rintro w3 g2 zg zm zs zb; replace HD : Sl _ := ⟨HD.out.new zg zm zb⟩; clear zg zm zs zb))
  have c0 : w3.cell? ⟨g2, 0, none⟩ = some (.int .i64 rk) := (HD.out.at_ 0 rfl).cell 0; have c1 : w3.cell? ⟨g0, 1, none⟩ = some (.slice o.A2 o.n2 o.c2) := (HD.out.at_ 2 rfl).cell 1; go_wp2_with fail; refine (rindex_any rk (o.n2 : Int) _).mono ?_; rintro e w5 ⟨rfl, rfl⟩; obtain ⟨b1, hb1⟩ : ∃ b1, wiB rk 0 ((o.n2 : Int) - 1) = b1 := ⟨_, rfl⟩; rw [hb1] at HE ⊢; have HB1 : Sl _ := ⟨hb1⟩; clear hb1 c0 c1
  cases b1 with
  | false =>
    go_wp2_with fail; go_ret; exact ⟨by rw [HE.out]; rfl, HD.out.bl⟩
  | true =>
    rw [if_neg (by decide)] at HE; have hrk := wi_iff.1 HB1.out; obtain ⟨rk, rfl⟩ := Int.eq_ofNat_of_zero_le hrk.1; rw [Int.toNat_natCast] at HE; have hrk0 : (0 : Int) ≤ (rk : Int) := (by omega); have hrk1 : (rk : Int) < (o.n2 : Int) := (by omega); have hrkn : rk < o.n2 := (by omega); obtain ⟨gr, orr, hAr, hgr, hallr⟩ := HRM.out.all_ (by decide) (show 0 < o.n2 by omega); obtain ⟨x, hx, _⟩ := hallr w (Below.refl _ _) rk hrkn; have hxb := HRB.out x (List.mem_of_getElem? hx)
    have HXR : Sl (∀ W, Below w.heap.size w W → W.rangeAt gr (orr + rk * 6) x.cells) := ⟨fun W hW => by
      obtain ⟨x2, hx2, h2⟩ := hallr W hW rk hrkn; rw [hx] at hx2; injection hx2 with hx2
      rw [hx2]
      exact h2⟩
    rw [hx, Option.getD_some] at HE; have HXB : Sl _ := ⟨hxb⟩; have HAR : Sl _ := ⟨hAr⟩; have HDF : Sl _ := ⟨hdF⟩; have HRK : Sl (rk < o.n2) := ⟨hrkn⟩; clear hx hallr hrk hrkn hgr hxb hAr hdF HB1; have c0 : w5.cell? ⟨g0, 0, none⟩ = some (.slice (some ⟨gb, oo, none⟩) o.n1 o.c1) := (by rw [← hA]; exact (HD.out.at_ 2 rfl).cell 0); have c1 : w5.cell? ⟨g1, 1, none⟩ = some (.int .i64 (dv : Int)) := (HD.out.at_ 1 rfl).cell 1; have HA : Sl _ := ⟨hA⟩; clear hA
    go_upto_region 4 with ((with_reducible show wpList _ _ _ _ _ _); first
      | (refine wpList_load_mid rfl 98 (.tmp 20) rfl gb (oo + dv * 3) rfl _ _ (HXI.out _ HD.out.bl) Tryz.underlying98 rfl (by kernel_rfl) ?_)
      | (refine wpList_alloc_new 7 rfl rfl 98 rfl #[.string ⟨#[]⟩, .int .i64 0, .int .i64 0] (fun _ => by kernel_rfl) ?_; rintro w7 g7 zg zm zs zb; replace HD : Sl _ := ⟨HD.out.new zg zm zb⟩; clear zg zm zs zb)
      | (refine wpList_store_whole rfl 98 (.tmp 7) (.tmp 21) rfl g7 #[.string dn, .int .i64 lo, .int .i64 hj] rfl rfl 98 _ (HD.out.at_ 0 rfl) rfl (by kernel_rfl) (by simp [Value.oneCell']) ?_; rintro w8 zm zs zb; replace HD : Sl _ := ⟨HD.out.upd zm zb⟩; clear zm zs zb))
    clear c0 c1; have c2 : w8.cell? ⟨g2, 2, none⟩ = some (.int .i64 plo) := (HD.out.at_ 1 rfl).cell 2; have c3 : w8.cell? ⟨g2, 3, none⟩ = some (.int .i64 phi) := (HD.out.at_ 1 rfl).cell 3; have c4 : w8.cell? ⟨g2, 1, none⟩ = some (.int .i64 sh) := (HD.out.at_ 1 rfl).cell 1; have c5 : w8.cell? ⟨g7, 1, none⟩ = some (.int .i64 lo) := (HD.out.at_ 0 rfl).cell 1; have c6 : w8.cell? ⟨g7, 2, none⟩ = some (.int .i64 hj) := (HD.out.at_ 0 rfl).cell 2
    by_cases p0 : plo < lo
    · have p0d : decide (plo < lo) = true := decide_eq_true p0; have HV : Sl (r = 7) := ⟨by rw [HE.out, if_neg]; unfold wiB; simp; omega⟩; clear HE; go_wp2_with fail; go_ret; exact ⟨by first | (rw [HV.out]; rfl) | rw [HV.out], HD.out.bl⟩
    · have p0d : decide (plo < lo) = false := decide_eq_false p0
      by_cases p1 : hj < phi
      · have p1d : decide (hj < phi) = true := decide_eq_true p1; have HV : Sl (r = 7) := ⟨by rw [HE.out, if_neg]; unfold wiB; simp; omega⟩; clear HE; go_wp2_with fail; go_ret; exact ⟨by first | (rw [HV.out]; rfl) | rw [HV.out], HD.out.bl⟩
      · have p1d : decide (hj < phi) = false := decide_eq_false p1
        by_cases p2 : phi < plo
        · have p2d : decide (phi < plo) = true := decide_eq_true p2; have HV : Sl (r = 7) := ⟨by rw [HE.out, if_neg]; unfold wiB; simp; omega⟩; clear HE; go_wp2_with fail; go_ret; exact ⟨by first | (rw [HV.out]; rfl) | rw [HV.out], HD.out.bl⟩
        · have p2d : decide (phi < plo) = false := decide_eq_false p2
          by_cases p3 : sh < -96
          · have p3d : decide (sh < -96) = true := decide_eq_true p3; have HV : Sl (r = 7) := ⟨by rw [HE.out, if_neg]; unfold wiB; simp; omega⟩; clear HE; go_wp2_with fail; go_ret; exact ⟨by first | (rw [HV.out]; rfl) | rw [HV.out], HD.out.bl⟩
          · have p3d : decide (sh < -96) = false := decide_eq_false p3
            by_cases p4 : 96 < sh
            · have p4d : decide (96 < sh) = true := decide_eq_true p4; have HV : Sl (r = 7) := ⟨by rw [HE.out, if_neg]; unfold wiB; simp; omega⟩; clear HE; go_wp2_with fail; go_ret; exact ⟨by first | (rw [HV.out]; rfl) | rw [HV.out], HD.out.bl⟩
            · have p4d : decide (96 < sh) = false := decide_eq_false p4; have HOK : Sl ((wiB plo lo hj && (wiB phi plo hj && wiB sh (-96) 96)) = true) := ⟨by unfold wiB; simp; omega⟩; rw [if_pos HOK.out] at HE; have HBD : Sl (0 ≤ plo ∧ phi ≤ 1000 ∧ plo ≤ phi ∧ -96 ≤ sh ∧ sh ≤ 96) := ⟨by have := HDF.out; omega⟩; clear HOK; go_wp2_with fail; clear c2 c3 c4 c5 c6 p0 p1 p2 p3 p4 p0d p1d p2d p3d p4d
              go_loopw [8] (fun s8 wv => ∃ key : Int, plo ≤ key ∧ key ≤ phi + 1 ∧ s8 = .int .i64 key ∧ Sl (Lg w wv [(g7, 98, #[.string dn, .int .i64 lo, .int .i64 hj]), (g2, 102, #[.int .i64 (rk : Int), .int .i64 sh, .int .i64 plo, .int .i64 phi]), (g1, 90, #[.string s0, .int .i64 (dv : Int), .int .i64 s2, .int .i64 s3, .slice s4 s5 s6]), (g0, 33, #[.slice o.A1 o.n1 o.c1, .slice o.A2 o.n2 o.c2, .slice o.A3 o.n3 o.c3, .slice o.A4 o.n4 o.c4])]) ∧ Sl (∀ j, plo ≤ j → j < key → x.lo ≤ j + sh ∧ j + sh < x.lo + x.ct)) (fun s8 _ => (phi + 1 - RowKit.intOf s8).toNat)
              case atStart => exact ⟨plo, Int.le_refl _, by have := HBD.out; omega, rfl, HD, ⟨fun j h1 h2 => by omega⟩⟩
              case round =>
                clear HD; obtain ⟨key, hk0, hk1, rfl, HD, HK⟩ := hrel; have c3 : wr.cell? ⟨g2, 3, none⟩ = some (.int .i64 phi) := (HD.out.at_ 1 rfl).cell 3; have hb := HBD.out; have hkb : key ≤ 1001 := (by omega); have hkc : 0 ≤ key := (by omega)
                by_cases hkp : key ≤ phi
                · have hkd : decide (key ≤ phi) = true := decide_eq_true hkp; have HQ : Sl (∀ W, Below wr.heap.size wr W → Lg w W [(g7, 98, #[.string dn, .int .i64 lo, .int .i64 hj]), (g2, 102, #[.int .i64 (rk : Int), .int .i64 sh, .int .i64 plo, .int .i64 phi]), (g1, 90, #[.string s0, .int .i64 (dv : Int), .int .i64 s2, .int .i64 s3, .slice s4 s5 s6]), (g0, 33, #[.slice o.A1 o.n1 o.c1, .slice o.A2 o.n2 o.c2, .slice o.A3 o.n3 o.c3, .slice o.A4 o.n4 o.c4])]) := ⟨fun W hW => HD.out.below hW⟩; have hS0 : Below wr.heap.size wr wr.drew := below_drewN (Below.refl _ _) 1; have HS0 : Sl _ := ⟨hS0⟩; have hws : IntKind.i64.wrap (key + sh) = key + sh := (by rw [IntKind.wrap_i64]; omega); have HH : Sl _ := ⟨fun W : World => rhas_any2 x (key + sh) W HXB.out⟩; have HKP : Sl (key ≤ phi) := ⟨hkp⟩; obtain ⟨bb, hbb⟩ : ∃ bb, decide (x.lo ≤ key + sh ∧ key + sh < x.lo + x.ct) = bb := ⟨_, rfl⟩; rw [hbb] at HH; have HBB : Sl _ := ⟨hbb⟩; clear hbb; go_wp2_with fail; clear c3; have hm := hS0; refine wp_region_held_drew (S := fun w' => Below wr.heap.size wr w') (by kernel_rfl) hm (fun hHeld => ?_); clear hm; refine wpAnyH_pure 0 (v := .pointer (some ⟨g0, 1, none⟩)) rfl (by kernel_rfl) (by kernel_rfl) (by kernel_rfl) (fun _ _ _ h => h) rfl (fun _ => by go_simp) (by assumption) ?_; simp only [Act.put, sS0, sS1, sS2]
                  refine wpAnyH_cell 1 (v := .slice (some ⟨gr, orr, none⟩) o.n2 o.c2) rfl rfl (fun w' h => by
                    have hc := (((HQ.out w' h).at_ 3 rfl).cell 1).trans (show _ = some (.slice (some ⟨gr, orr, none⟩) o.n2 o.c2) by rw [← HAR.out]; rfl)
                    go_simp) (by kernel_rfl) (by kernel_rfl) (by kernel_rfl) (fun _ _ _ h => h) (by assumption) ?_
                  simp only [Act.put, sS0, sS1, sS2]; refine wpAnyH_pure 2 (v := .pointer (some ⟨g2, 0, none⟩)) rfl (by kernel_rfl) (by kernel_rfl) (by kernel_rfl) (fun _ _ _ h => h) rfl (fun _ => by go_simp) (by assumption) ?_; simp only [Act.put, sS0, sS1, sS2]
                  refine wpAnyH_cell 3 (v := .int .i64 (rk : Int)) rfl rfl (fun w' h => by
                    have hc := ((HQ.out w' h).at_ 1 rfl).cell 0
                    go_simp) (by kernel_rfl) (by kernel_rfl) (by kernel_rfl) (fun _ _ _ h => h) (by assumption) ?_
                  simp only [Act.put, sS0, sS1, sS2]; refine wpAnyH_pure 4 (v := .pointer (some ⟨gr, orr + rk * 6, none⟩)) rfl (by kernel_rfl) (by kernel_rfl) (by kernel_rfl) (fun _ _ _ h => h) rfl (fun _ => by go_simp) (by assumption) ?_; simp only [Act.put, sS0, sS1, sS2]; refine wpAnyH_load 5 100 (.tmp 63) rfl rfl rfl gr (orr + rk * 6) rfl #[.string x.nm, .int .i64 x.kd, .int .i64 x.fn, .int .i64 x.fd, .int .i64 x.lo, .int .i64 x.ct] _ (fun w' h => HXR.out w' (HQ.out w' h).bl) Tryz.underlying100 rfl (by kernel_rfl) (by kernel_rfl) (by kernel_rfl) (by kernel_rfl) (fun _ _ _ h => h) (by assumption) ?_; simp only [Act.put, sS0, sS1, sS2]; refine wpAnyH_pure 6 (v := .int .i64 key) rfl (by kernel_rfl) (by kernel_rfl) (by kernel_rfl) (fun _ _ _ h => h) rfl (fun _ => rfl) (by assumption) ?_; simp only [Act.put, sS0, sS1, sS2]; refine wpAnyH_pure 7 (v := .pointer (some ⟨g2, 1, none⟩)) rfl (by kernel_rfl) (by kernel_rfl) (by kernel_rfl) (fun _ _ _ h => h) rfl (fun _ => by go_simp) (by assumption) ?_; simp only [Act.put, sS0, sS1, sS2]
                  refine wpAnyH_cell 8 (v := .int .i64 sh) rfl rfl (fun w' h => by
                    have hc := ((HQ.out w' h).at_ 1 rfl).cell 1
                    go_simp) (by kernel_rfl) (by kernel_rfl) (by kernel_rfl) (fun _ _ _ h => h) (by assumption) ?_
                  simp only [Act.put, sS0, sS1, sS2]; refine wpAnyH_pure 9 (v := .int .i64 (key + sh)) rfl (by kernel_rfl) (by kernel_rfl) (by kernel_rfl) (fun _ _ _ h => h) rfl (fun _ => by go_simp) (by assumption) ?_; simp only [Act.put, sS0, sS1, sS2]; refine wpAnyH_one 10 rfl (by kernel_rfl) rfl (fun K hK => ?_); go_simp; go_at_call 120
                  (with_reducible refine (HH.out _).mono ?_)
                  rintro e4 w4 ⟨rfl, hb4⟩; have hb5 : Below wr.heap.size wr w4 := HS0.out.trans (hb4.mono HS0.out.size); have HB5 : Sl _ := ⟨hb5⟩; clear hb4 hb5; refine hK.out _ _ HB5.out (fun hHeld => ?_); clear hK K
                  (try simp only [Act.put, sS0, sS1, sS2])
                  refine wpAnyH_pure 11 (v := .bool (!bb)) rfl (by kernel_rfl) (by kernel_rfl) (by kernel_rfl) (fun _ _ _ h => h) rfl (fun _ => by go_simp) (by assumption) ?_; simp only [Act.put, sS0, sS1, sS2]; refine wpAnyH_done (by kernel_rfl) ?_ _; clear hHeld
                  cases bb with
                  | true =>
                    have hin := of_decide_eq_true HBB.out; go_wp2_with fail
                    exact ⟨⟨key + 1, by omega, by have := HKP.out; omega, by go_num, ⟨HD.out.below HB5.out⟩, ⟨fun j h1 h2 => by
                      rcases Int.lt_or_le j key with h3 | h3
                      · exact HK.out j h1 h3
                      · obtain rfl : j = key := (by omega)
                        exact hin⟩⟩, by have := HKP.out; simp [RowKit.intOf]; omega⟩
                  | false =>
                    have hin := of_decide_eq_false HBB.out; have HV : Sl (r = 4) := ⟨by rw [HE.out, if_pos]; have := HKP.out; have := HXB.out; omega⟩; clear HE hin; go_wp2_with fail; go_ret; exact ⟨by first | (rw [HV.out]; rfl) | rw [HV.out], HD.out.bl.trans (HB5.out.mono HD.out.bl.size)⟩
                · have hkd : decide (key ≤ phi) = false := decide_eq_false hkp
                  have HV : Sl (r = 0) := ⟨by
                    have h1 := HK.out plo (Int.le_refl _) (by omega); have h2 := HK.out phi (by omega) (by omega)
                    rw [HE.out, if_neg]; omega⟩
                  clear HE; go_wp2_with fail; go_ret; exact ⟨by first | (rw [HV.out]; rfl) | rw [HV.out], HD.out.bl⟩
end Go.Proofs.YtabkpbbjodfolaaGreatDoor
