/- The reference of chapter 10: division, rank, coupler, stop, part. (Printed by gensrc.py.) -/
import Derived.Test.YtabkpbbjodfolaaGreatDoorZvP
import Derived.Test.YtabkpbbjodfolaaGreatDoorZvV
import Derived.Test.YtabkpbbjodfolaaGreatDoorZvU
namespace Go.Proofs.YtabkpbbjodfolaaGreatDoor
set_option linter.unusedSimpArgs false
open Go.RowKit
set_option linter.unusedVariables false
theorem cbytes_eq {a b : ByteArray} (h : a.toList = b.toList) : a = b := by
  rw [Go.ByteArray.toList_eq, Go.ByteArray.toList_eq] at h; exact bytes_data h
theorem twB_mono {α : Type} {p : α → Bool} {L : List α} {k i : Nat} (h : twB p L k = true) (hk : k ≤ i) : twB p L i = true := by
  obtain ⟨y, hy, e⟩ := twB_iff.1 h; refine twB_iff.2 ⟨y, ?_, e⟩; have : L.take k = (L.take i).take k := (by rw [List.take_take, Nat.min_eq_left hk]); rw [this] at hy; exact List.mem_of_mem_take hy
theorem RowG.all_ {α : Type} {w : World} {A : Option Addr} {n sz : Nat} {f : α → List Value} {l : List α} (h : RowG w A n sz f l) (hsz : 0 < sz) (hn : 0 < n) :
    ∃ gb o, A = some ⟨gb, o, none⟩ ∧ gb < w.heap.size ∧ ∀ W, Below w.heap.size w W → ∀ k, k < n → ∃ y, l[k]? = some y ∧ W.rangeAt gb (o + k * sz) (f y) := by
  obtain ⟨gb, oo, x, hA, hgb, hx, hra⟩ := h.at_ hsz hn; refine ⟨gb, oo, hA, hgb, fun W hW k hk => ?_⟩; obtain ⟨gb2, oo2, y, hA2, _, hy, hra2⟩ := h.at_ hsz hk; rw [hA] at hA2; injection hA2 with hA2
  injection hA2 with e1 e2 _
  subst e1 e2; exact ⟨y, hy, fun j v hv => (hW.cell (p := ⟨gb, oo + k * sz + j, none⟩) hgb).trans (hra2 j v hv)⟩
theorem rnote_any (n : Int) (w : World) : Calls Tryz.prog 117 #[.int .i64 n] w fun e w' => e = .returned (.bool (decide (0 ≤ n ∧ n ≤ 127))) ∧ w' = w := by
  by_cases h : 0 ≤ n
  · have hb : decide (0 ≤ n) = true := decide_eq_true h; have HC : Sl (decide (0 ≤ n ∧ n ≤ 127) = decide (n ≤ 127)) := ⟨decide_eq_decide.2 ⟨fun h => h.2, fun h2 => ⟨h, h2⟩⟩⟩; go_enter Tryz.func117, Tryz.ntmps117; go_wp2_with fail; go_ret; exact ⟨by first | rfl | (rw [HC.out]; rfl), rfl⟩
  · have hb : decide (0 ≤ n) = false := decide_eq_false h; have HC : Sl (decide (0 ≤ n ∧ n ≤ 127) = false) := ⟨decide_eq_false fun hh => h hh.1⟩; go_enter Tryz.func117, Tryz.ntmps117; go_wp2_with fail; go_ret; exact ⟨by first | rfl | (rw [HC.out]; rfl), rfl⟩
theorem rindex_any (n m : Int) (w : World) : Calls Tryz.prog 119 #[.int .i64 n, .int .i64 m] w fun e w' => e = .returned (.bool (wiB n 0 (m - 1))) ∧ w' = w := by
  by_cases h : 0 ≤ n
  · have hb : decide (0 ≤ n) = true := decide_eq_true h; have HC : Sl (wiB n 0 (m - 1) = decide (n < m)) := ⟨by unfold wiB; rw [decide_eq_true h, Bool.true_and]; exact decide_eq_decide.2 (by omega)⟩; go_enter Tryz.func119, Tryz.ntmps119; go_wp2_with fail; go_ret; exact ⟨by first | rfl | (rw [HC.out]; rfl), rfl⟩
  · have hb : decide (0 ≤ n) = false := decide_eq_false h; have HC : Sl (wiB n 0 (m - 1) = false) := ⟨by unfold wiB; rw [decide_eq_false h, Bool.false_and]⟩; go_enter Tryz.func119, Tryz.ntmps119; go_wp2_with fail; go_ret; exact ⟨by first | rfl | (rw [HC.out]; rfl), rfl⟩
set_option maxHeartbeats 3200000 in
set_option maxRecDepth 100000 in
theorem rdivision_any (o : SpO) (i : Nat) (w : World) (hM : SpM w o) (hF : SpF o) (hi : i < o.n1) (hn : o.n1 ≤ 1000) :
    Calls Tryz.prog 67 #[.agg #[.slice o.A1 o.n1 o.c1, .slice o.A2 o.n2 o.c2, .slice o.A3 o.n3 o.c3, .slice o.A4 o.n4 o.c4], .int .i64 (i : Int)] w fun e w' => e = .returned (.int .i64 (rdvE o i)) ∧ Below w.heap.size w w' := by
  have HD : Sl (Lg w w []) := ⟨Lg.nil w⟩; obtain ⟨gb, oo, hA, hgb, hall⟩ := hM.d.all_ (by decide) (show 0 < o.n1 by omega); have HALL : Sl _ := ⟨hall⟩; have HLEN : Sl (o.ds.length = o.n1) := ⟨hM.d.len⟩; obtain ⟨x, hx, _⟩ := hall w (Below.refl _ _) i hi
  have HXI : Sl (∀ W, Below w.heap.size w W → W.rangeAt gb (oo + i * 3) x.cells) := ⟨fun W hW => by
    obtain ⟨x2, hx2, h2⟩ := HALL.out W hW i hi; rw [hx] at hx2; injection hx2 with hx2
    rw [hx2]
    exact h2⟩
  have hxF := hF.d x (List.mem_of_getElem? hx); obtain ⟨r, hr⟩ : ∃ r, rdvE o i = r := ⟨_, rfl⟩; have HE : Sl (r = if nmB x.nm = true then (if twB (fun y => decide (y.nm = x.nm)) o.ds i = true then 8 else if wiB x.lo 0 127 && wiB x.hi x.lo (min 127 (x.lo + 60)) then 0 else 7) else 6) := ⟨by rw [← hr]; unfold rdvE; rw [hx]; rfl⟩; rw [hr]; obtain ⟨nm, lo, hj⟩ := x; simp only [] at HE hxF; have HNM : Sl (nm.size ≤ maxLen) := ⟨hxF.1⟩; clear hxF; have HIN : Sl (i < o.n1 ∧ o.n1 ≤ 1000) := ⟨hi, hn⟩; have hi0 : (0 : Int) ≤ (i : Int) := (by omega); have hi1 : (i : Int) < (o.n1 : Int) := (by omega); have HSPM : Sl _ := ⟨hM⟩; clear hr hM hF hall hx hi hn; go_enter Tryz.func67, Tryz.ntmps67
  go_upto_region 1 with ((with_reducible show wpList _ _ _ _ _ _); (refine wpList_box_new 2 rfl rfl 33 (.tmp 0) rfl #[.slice o.A1 o.n1 o.c1, .slice o.A2 o.n2 o.c2, .slice o.A3 o.n3 o.c3, .slice o.A4 o.n4 o.c4] rfl (fun _ => by kernel_rfl) ?_; rintro w1 g0 zg zm zs zb; replace HD : Sl _ := ⟨HD.out.new zg zm zb⟩; clear zg zm zs zb))
  have c0 : w1.cell? ⟨g0, 0, none⟩ = some (.slice (some ⟨gb, oo, none⟩) o.n1 o.c1) := (by rw [← hA]; exact (HD.out.at_ 0 rfl).cell 0); have HA : Sl _ := ⟨hA⟩; clear hA
  go_upto_region 2 with ((with_reducible show wpList _ _ _ _ _ _); first
    | (refine wpList_load_mid rfl 98 (.tmp 10) rfl gb (oo + i * 3) rfl _ _ (HXI.out _ HD.out.bl) Tryz.underlying98 rfl (by kernel_rfl) ?_)
    | (refine wpList_alloc_new 5 rfl rfl 98 rfl #[.string ⟨#[]⟩, .int .i64 0, .int .i64 0] (fun _ => by kernel_rfl) ?_; rintro w2 g5 zg zm zs zb; replace HD : Sl _ := ⟨HD.out.new zg zm zb⟩; clear zg zm zs zb)
    | (refine wpList_store_whole rfl 98 (.tmp 5) (.tmp 11) rfl g5 #[.string nm, .int .i64 lo, .int .i64 hj] rfl rfl 98 _ (HD.out.at_ 0 rfl) rfl (by kernel_rfl) (by simp [Value.oneCell']) ?_; rintro w3 zm zs zb; replace HD : Sl _ := ⟨HD.out.upd zm zb⟩; clear zm zs zb))
  clear c0 hi0 hi1; have c1 : w3.cell? ⟨g5, 0, none⟩ = some (.string nm) := (HD.out.at_ 0 rfl).cell 0; go_wp2_with fail; refine (rname_any nm _ HNM.out).mono ?_; rintro e w4 ⟨rfl, hb4⟩; replace HD : Sl _ := ⟨HD.out.below hb4⟩; clear hb4 c1; obtain ⟨b0, hb0⟩ : ∃ b0, nmB nm = b0 := ⟨_, rfl⟩; rw [hb0] at HE ⊢; clear hb0
  cases b0 with
  | false =>
    go_wp2_with fail; go_ret; exact ⟨by rw [HE.out]; rfl, HD.out.bl⟩
  | true =>
    go_wp2_with fail
    go_loopw [6] (fun s6 wv => ∃ k : Nat, k ≤ i ∧ s6 = .int .i64 k ∧ Sl (Lg w wv [(g5, 98, #[.string nm, .int .i64 lo, .int .i64 hj]), (g0, 33, #[.slice o.A1 o.n1 o.c1, .slice o.A2 o.n2 o.c2, .slice o.A3 o.n3 o.c3, .slice o.A4 o.n4 o.c4])]) ∧ Sl (twB (fun y => decide (y.nm = nm)) o.ds k = false)) (fun s6 _ => i - (RowKit.intOf s6).toNat)
    case atStart => exact ⟨0, Nat.zero_le _, rfl, HD, ⟨rfl⟩⟩
    case round =>
      clear HD; obtain ⟨k, hk, rfl, HD, HTW⟩ := hrel; have hi9 : (i : Int) ≤ 1000 := (by have := HIN.out; omega)
      by_cases hki : k < i
      · have hkI : decide ((k : Int) < (i : Int)) = true := decide_eq_true (by omega); have hkI2 : (k : Int) < (i : Int) := (by omega); have hk0 : (0 : Int) ≤ (k : Int) := (by omega); have hk1 : (k : Int) < (o.n1 : Int) := (by have := HIN.out; omega); obtain ⟨y, hy, hra2⟩ := HALL.out _ HD.out.bl k (by have := HIN.out; omega); have HSU := twB_succ (p := fun y => decide (y.nm = nm)) hy; rw [HTW.out, Bool.false_or] at HSU; have HS2 : Sl _ := ⟨HSU⟩; have c0 : wr.cell? ⟨g0, 0, none⟩ = some (.slice (some ⟨gb, oo, none⟩) o.n1 o.c1) := (by rw [← HA.out]; exact (HD.out.at_ 1 rfl).cell 0); have c1 : wr.cell? ⟨g5, 0, none⟩ = some (.string nm) := (HD.out.at_ 0 rfl).cell 0; have q1 : wr.cell? ⟨gb, oo + k * 3, none⟩ = some (.string y.nm) := hra2 0 _ rfl; clear HSU hra2 hy
        by_cases heq : y.nm = nm
        · have HT : Sl (twB (fun y => decide (y.nm = nm)) o.ds i = true) := ⟨twB_mono (by rw [HS2.out]; exact decide_eq_true heq) (by omega : k + 1 ≤ i)⟩; have hq : (y.nm.toList == nm.toList) = true := (by rw [heq]; simp); clear heq; go_wp2_with fail
          go_quiet (fail)
          go_wp2_with fail; go_ret; exact ⟨by rw [HE.out, HT.out]; rfl, below_drewN HD.out.bl nq⟩
        · have HT : Sl (twB (fun y => decide (y.nm = nm)) o.ds (k + 1) = false) := ⟨by rw [HS2.out]; exact decide_eq_false heq⟩; have hq : (y.nm.toList == nm.toList) = false := (by rw [beq_eq_false_iff_ne]; exact fun h => heq (cbytes_eq h)); clear heq; go_wp2_with fail
          go_quiet (fail)
          go_wp2_with fail; exact ⟨⟨k + 1, by omega, by go_num, ⟨HD.out.below (below_drewN (Below.refl _ _) nq)⟩, HT⟩, by simp [RowKit.intOf]; omega⟩
      · obtain rfl : i = k := (by omega); have hkI : decide ((i : Int) < (i : Int)) = false := (by simp); rw [HTW.out] at HE; simp only [if_true, Bool.false_eq_true, if_false] at HE; clear HTW hki hk; have d1 : wr.cell? ⟨g5, 1, none⟩ = some (.int .i64 lo) := (HD.out.at_ 0 rfl).cell 1; have d2 : wr.cell? ⟨g5, 2, none⟩ = some (.int .i64 hj) := (HD.out.at_ 0 rfl).cell 2; go_wp2_with fail; refine (rnote_any lo _).mono ?_; rintro e w5 ⟨rfl, rfl⟩
        by_cases p1 : 0 ≤ lo ∧ lo ≤ 127
        · rw [decide_eq_true p1]; go_wp2_with fail; refine (rnote_any hj _).mono ?_; rintro e w5 ⟨rfl, rfl⟩
          by_cases p2 : 0 ≤ hj ∧ hj ≤ 127
          · rw [decide_eq_true p2]; have p10 := p1.1; have p11 := p1.2; have p20 := p2.1; have p21 := p2.2
            by_cases p3 : hj < lo
            · have p3d : decide (hj < lo) = true := decide_eq_true p3; have HV : Sl (r = 7) := ⟨by rw [HE.out, if_neg]; unfold wiB; simp; omega⟩; clear HE; go_wp2_with fail; go_ret; exact ⟨by first | (rw [HV.out]; rfl) | rw [HV.out], HD.out.bl⟩
            · have p3d : decide (hj < lo) = false := decide_eq_false p3; have hw1 : IntKind.i64.wrap (hj - lo) = hj - lo := (by rw [IntKind.wrap_i64]; omega); have hw2 : IntKind.i64.wrap (hj - lo + 1) = hj - lo + 1 := (by rw [IntKind.wrap_i64]; omega)
              by_cases p4 : 61 < hj - lo + 1
              · have p4d : decide (61 < hj - lo + 1) = true := decide_eq_true p4; have HV : Sl (r = 7) := ⟨by rw [HE.out, if_neg]; unfold wiB; simp; omega⟩; clear HE; go_wp2_with fail; go_ret; exact ⟨by first | (rw [HV.out]; rfl) | rw [HV.out], HD.out.bl⟩
              · have p4d : decide (61 < hj - lo + 1) = false := decide_eq_false p4; have HV : Sl (r = 0) := ⟨by rw [HE.out, if_pos]; unfold wiB; simp; omega⟩; clear HE; go_wp2_with fail; go_ret; exact ⟨by first | (rw [HV.out]; rfl) | rw [HV.out], HD.out.bl⟩
          · rw [decide_eq_false p2]; have HV : Sl (r = 7) := ⟨by rw [HE.out, if_neg]; unfold wiB; simp; omega⟩; clear HE; go_wp2_with fail; go_ret; exact ⟨by first | (rw [HV.out]; rfl) | rw [HV.out], HD.out.bl⟩
        · rw [decide_eq_false p1]; have HV : Sl (r = 7) := ⟨by rw [HE.out, if_neg]; unfold wiB; simp; omega⟩; clear HE; go_wp2_with fail; go_ret; exact ⟨by first | (rw [HV.out]; rfl) | rw [HV.out], HD.out.bl⟩
set_option maxHeartbeats 3200000 in
set_option maxRecDepth 100000 in
theorem rrank_any (o : SpO) (i : Nat) (w : World) (hM : SpM w o) (hF : SpF o) (hi : i < o.n2) (hn : o.n2 ≤ 1000) :
    Calls Tryz.prog 68 #[.agg #[.slice o.A1 o.n1 o.c1, .slice o.A2 o.n2 o.c2, .slice o.A3 o.n3 o.c3, .slice o.A4 o.n4 o.c4], .int .i64 (i : Int)] w fun e w' => e = .returned (.int .i64 (rrkE o i)) ∧ Below w.heap.size w w' := by
  have HD : Sl (Lg w w []) := ⟨Lg.nil w⟩; obtain ⟨gb, oo, hA, hgb, hall⟩ := hM.r.all_ (by decide) (show 0 < o.n2 by omega); have HALL : Sl _ := ⟨hall⟩; have HLEN : Sl (o.rs.length = o.n2) := ⟨hM.r.len⟩; obtain ⟨x, hx, _⟩ := hall w (Below.refl _ _) i hi
  have HXI : Sl (∀ W, Below w.heap.size w W → W.rangeAt gb (oo + i * 6) x.cells) := ⟨fun W hW => by
    obtain ⟨x2, hx2, h2⟩ := HALL.out W hW i hi; rw [hx] at hx2; injection hx2 with hx2
    rw [hx2]
    exact h2⟩
  have hxF := hF.r x (List.mem_of_getElem? hx); obtain ⟨r, hr⟩ : ∃ r, rrkE o i = r := ⟨_, rfl⟩; have HE : Sl (r = if nmB x.nm = true then (if twB (fun y => decide (y.nm = x.nm)) o.rs i = true then 8 else if wiB x.kd 1 4 && decide (vF x.fn x.fd) then (if wiB x.ct 1 97 && wiB x.lo 0 (128 - x.ct) then 0 else 7) else 2) else 6) := ⟨by rw [← hr]; unfold rrkE; rw [hx]; rfl⟩; rw [hr]; obtain ⟨nm, kd, fn, fd, lo, ct⟩ := x; simp only [] at HE hxF; have HNM : Sl (nm.size ≤ maxLen) := ⟨hxF.1⟩; clear hxF; have HIN : Sl (i < o.n2 ∧ o.n2 ≤ 1000) := ⟨hi, hn⟩; have hi0 : (0 : Int) ≤ (i : Int) := (by omega); have hi1 : (i : Int) < (o.n2 : Int) := (by omega); have HSPM : Sl _ := ⟨hM⟩; clear hr hM hF hall hx hi hn; go_enter Tryz.func68, Tryz.ntmps68
  go_upto_region 1 with ((with_reducible show wpList _ _ _ _ _ _); (refine wpList_box_new 2 rfl rfl 33 (.tmp 0) rfl #[.slice o.A1 o.n1 o.c1, .slice o.A2 o.n2 o.c2, .slice o.A3 o.n3 o.c3, .slice o.A4 o.n4 o.c4] rfl (fun _ => by kernel_rfl) ?_; rintro w1 g0 zg zm zs zb; replace HD : Sl _ := ⟨HD.out.new zg zm zb⟩; clear zg zm zs zb))
  have c0 : w1.cell? ⟨g0, 1, none⟩ = some (.slice (some ⟨gb, oo, none⟩) o.n2 o.c2) := (by rw [← hA]; exact (HD.out.at_ 0 rfl).cell 1); have HA : Sl _ := ⟨hA⟩; clear hA
  go_upto_region 2 with ((with_reducible show wpList _ _ _ _ _ _); first
    | (refine wpList_load_mid rfl 100 (.tmp 10) rfl gb (oo + i * 6) rfl _ _ (HXI.out _ HD.out.bl) Tryz.underlying100 rfl (by kernel_rfl) ?_)
    | (refine wpList_alloc_new 5 rfl rfl 100 rfl #[.string ⟨#[]⟩, .int .i64 0, .int .i64 0, .int .i64 0, .int .i64 0, .int .i64 0] (fun _ => by kernel_rfl) ?_; rintro w2 g5 zg zm zs zb; replace HD : Sl _ := ⟨HD.out.new zg zm zb⟩; clear zg zm zs zb)
    | (refine wpList_store_whole rfl 100 (.tmp 5) (.tmp 11) rfl g5 #[.string nm, .int .i64 kd, .int .i64 fn, .int .i64 fd, .int .i64 lo, .int .i64 ct] rfl rfl 100 _ (HD.out.at_ 0 rfl) rfl (by kernel_rfl) (by simp [Value.oneCell']) ?_; rintro w3 zm zs zb; replace HD : Sl _ := ⟨HD.out.upd zm zb⟩; clear zm zs zb))
  clear c0 hi0 hi1; have c1 : w3.cell? ⟨g5, 0, none⟩ = some (.string nm) := (HD.out.at_ 0 rfl).cell 0; go_wp2_with fail; refine (rname_any nm _ HNM.out).mono ?_; rintro e w4 ⟨rfl, hb4⟩; replace HD : Sl _ := ⟨HD.out.below hb4⟩; clear hb4 c1; obtain ⟨b0, hb0⟩ : ∃ b0, nmB nm = b0 := ⟨_, rfl⟩; rw [hb0] at HE ⊢; clear hb0
  cases b0 with
  | false =>
    go_wp2_with fail; go_ret; exact ⟨by rw [HE.out]; rfl, HD.out.bl⟩
  | true =>
    go_wp2_with fail
    go_loopw [6] (fun s6 wv => ∃ k : Nat, k ≤ i ∧ s6 = .int .i64 k ∧ Sl (Lg w wv [(g5, 100, #[.string nm, .int .i64 kd, .int .i64 fn, .int .i64 fd, .int .i64 lo, .int .i64 ct]), (g0, 33, #[.slice o.A1 o.n1 o.c1, .slice o.A2 o.n2 o.c2, .slice o.A3 o.n3 o.c3, .slice o.A4 o.n4 o.c4])]) ∧ Sl (twB (fun y => decide (y.nm = nm)) o.rs k = false)) (fun s6 _ => i - (RowKit.intOf s6).toNat)
    case atStart => exact ⟨0, Nat.zero_le _, rfl, HD, ⟨rfl⟩⟩
    case round =>
      clear HD; obtain ⟨k, hk, rfl, HD, HTW⟩ := hrel; have hi9 : (i : Int) ≤ 1000 := (by have := HIN.out; omega)
      by_cases hki : k < i
      · have hkI : decide ((k : Int) < (i : Int)) = true := decide_eq_true (by omega); have hkI2 : (k : Int) < (i : Int) := (by omega); have hk0 : (0 : Int) ≤ (k : Int) := (by omega); have hk1 : (k : Int) < (o.n2 : Int) := (by have := HIN.out; omega); obtain ⟨y, hy, hra2⟩ := HALL.out _ HD.out.bl k (by have := HIN.out; omega); have HSU := twB_succ (p := fun y => decide (y.nm = nm)) hy; rw [HTW.out, Bool.false_or] at HSU; have HS2 : Sl _ := ⟨HSU⟩; have c0 : wr.cell? ⟨g0, 1, none⟩ = some (.slice (some ⟨gb, oo, none⟩) o.n2 o.c2) := (by rw [← HA.out]; exact (HD.out.at_ 1 rfl).cell 1); have c1 : wr.cell? ⟨g5, 0, none⟩ = some (.string nm) := (HD.out.at_ 0 rfl).cell 0; have q1 : wr.cell? ⟨gb, oo + k * 6, none⟩ = some (.string y.nm) := hra2 0 _ rfl; clear HSU hra2 hy
        by_cases heq : y.nm = nm
        · have HT : Sl (twB (fun y => decide (y.nm = nm)) o.rs i = true) := ⟨twB_mono (by rw [HS2.out]; exact decide_eq_true heq) (by omega : k + 1 ≤ i)⟩; have hq : (y.nm.toList == nm.toList) = true := (by rw [heq]; simp); clear heq; go_wp2_with fail
          go_quiet (fail)
          go_wp2_with fail; go_ret; exact ⟨by rw [HE.out, HT.out]; rfl, below_drewN HD.out.bl nq⟩
        · have HT : Sl (twB (fun y => decide (y.nm = nm)) o.rs (k + 1) = false) := ⟨by rw [HS2.out]; exact decide_eq_false heq⟩; have hq : (y.nm.toList == nm.toList) = false := (by rw [beq_eq_false_iff_ne]; exact fun h => heq (cbytes_eq h)); clear heq; go_wp2_with fail
          go_quiet (fail)
          go_wp2_with fail; exact ⟨⟨k + 1, by omega, by go_num, ⟨HD.out.below (below_drewN (Below.refl _ _) nq)⟩, HT⟩, by simp [RowKit.intOf]; omega⟩
      · obtain rfl : i = k := (by omega); have hkI : decide ((i : Int) < (i : Int)) = false := (by simp); rw [HTW.out] at HE; simp only [if_true, Bool.false_eq_true, if_false] at HE; clear HTW hki hk; have d1 : wr.cell? ⟨g5, 1, none⟩ = some (.int .i64 kd) := (HD.out.at_ 0 rfl).cell 1; have d2 : wr.cell? ⟨g5, 2, none⟩ = some (.int .i64 fn) := (HD.out.at_ 0 rfl).cell 2; have d3 : wr.cell? ⟨g5, 3, none⟩ = some (.int .i64 fd) := (HD.out.at_ 0 rfl).cell 3
        by_cases p1 : kd < 1
        · have p1d : decide (kd < 1) = true := decide_eq_true p1; have p1e : decide (kd ≤ 0) = true := decide_eq_true (by omega); have HV : Sl (r = 2) := ⟨by rw [HE.out, if_neg]; unfold wiB; simp; omega⟩; clear HE; go_wp2_with fail; go_ret; exact ⟨by first | (rw [HV.out]; rfl) | rw [HV.out], HD.out.bl⟩
        · have p1d : decide (kd < 1) = false := decide_eq_false p1
          by_cases p2 : 4 < kd
          · have p2d : decide (4 < kd) = true := decide_eq_true p2; have HV : Sl (r = 2) := ⟨by rw [HE.out, if_neg]; unfold wiB; simp; omega⟩; clear HE; go_wp2_with fail; go_ret; exact ⟨by first | (rw [HV.out]; rfl) | rw [HV.out], HD.out.bl⟩
          · have p2d : decide (4 < kd) = false := decide_eq_false p2; go_wp2_with fail; refine (rvalid_any fn fd _).mono ?_; rintro e w5 ⟨rfl, hb5⟩; replace HD : Sl _ := ⟨HD.out.below hb5⟩; clear hb5 d1 d2 d3 p1d p2d; obtain ⟨b2, hb2⟩ : ∃ b2, decide (vF fn fd) = b2 := ⟨_, rfl⟩; rw [hb2] at HE ⊢; clear hb2
            cases b2 with
            | false =>
              have HV : Sl (r = 2) := ⟨by rw [HE.out, if_neg]; simp⟩; clear HE; go_wp2_with fail; go_ret; exact ⟨by first | (rw [HV.out]; rfl) | rw [HV.out], HD.out.bl⟩
            | true =>
              have HKF : Sl ((wiB kd 1 4 && true) = true) := ⟨by unfold wiB; simp; omega⟩; have d4 : w5.cell? ⟨g5, 4, none⟩ = some (.int .i64 lo) := (HD.out.at_ 0 rfl).cell 4; have d5 : w5.cell? ⟨g5, 5, none⟩ = some (.int .i64 ct) := (HD.out.at_ 0 rfl).cell 5; clear p1 p2
              by_cases p1 : ct < 1
              · have p1d : decide (ct < 1) = true := decide_eq_true p1; have p1e : decide (ct ≤ 0) = true := decide_eq_true (by omega); have HV : Sl (r = 7) := ⟨by rw [HE.out, if_pos HKF.out, if_neg]; unfold wiB; simp; omega⟩; clear HE; go_wp2_with fail; go_ret; exact ⟨by first | (rw [HV.out]; rfl) | rw [HV.out], HD.out.bl⟩
              · have p1d : decide (ct < 1) = false := decide_eq_false p1
                by_cases p2 : 97 < ct
                · have p2d : decide (97 < ct) = true := decide_eq_true p2; have HV : Sl (r = 7) := ⟨by rw [HE.out, if_pos HKF.out, if_neg]; unfold wiB; simp; omega⟩; clear HE; go_wp2_with fail; go_ret; exact ⟨by first | (rw [HV.out]; rfl) | rw [HV.out], HD.out.bl⟩
                · have p2d : decide (97 < ct) = false := decide_eq_false p2; go_wp2_with fail; refine (rnote_any lo _).mono ?_; rintro e w6 ⟨rfl, rfl⟩
                  by_cases p3 : 0 ≤ lo ∧ lo ≤ 127
                  · rw [decide_eq_true p3]; have hw1 : IntKind.i64.wrap (lo + ct) = lo + ct := (by rw [IntKind.wrap_i64]; omega); have hw2 : IntKind.i64.wrap (lo + ct - 1) = lo + ct - 1 := (by rw [IntKind.wrap_i64]; omega); go_wp2_with fail; refine (rnote_any (lo + ct - 1) _).mono ?_; rintro e w6 ⟨rfl, rfl⟩
                    by_cases p4 : 0 ≤ lo + ct - 1 ∧ lo + ct - 1 ≤ 127
                    · rw [decide_eq_true p4]; have HV : Sl (r = 0) := ⟨by rw [HE.out, if_pos HKF.out, if_pos]; unfold wiB; simp; omega⟩; clear HE; go_wp2_with fail; go_ret; exact ⟨by first | (rw [HV.out]; rfl) | rw [HV.out], HD.out.bl⟩
                    · rw [decide_eq_false p4]; have HV : Sl (r = 7) := ⟨by rw [HE.out, if_pos HKF.out, if_neg]; unfold wiB; simp; omega⟩; clear HE; go_wp2_with fail; go_ret; exact ⟨by first | (rw [HV.out]; rfl) | rw [HV.out], HD.out.bl⟩
                  · rw [decide_eq_false p3]; have HV : Sl (r = 7) := ⟨by rw [HE.out, if_pos HKF.out, if_neg]; unfold wiB; simp; omega⟩; clear HE; go_wp2_with fail; go_ret; exact ⟨by first | (rw [HV.out]; rfl) | rw [HV.out], HD.out.bl⟩
set_option maxHeartbeats 3200000 in
set_option maxRecDepth 100000 in
theorem rcoupler_any (o : SpO) (i : Nat) (w : World) (hM : SpM w o) (hF : SpF o) (hi : i < o.n4) (hn : o.n4 ≤ 1000) :
    Calls Tryz.prog 71 #[.agg #[.slice o.A1 o.n1 o.c1, .slice o.A2 o.n2 o.c2, .slice o.A3 o.n3 o.c3, .slice o.A4 o.n4 o.c4], .int .i64 (i : Int)] w fun e w' => e = .returned (.int .i64 (rcpE o i)) ∧ Below w.heap.size w w' := by
  have HD : Sl (Lg w w []) := ⟨Lg.nil w⟩; obtain ⟨gb, oo, hA, hgb, hall⟩ := hM.c.all_ (by decide) (show 0 < o.n4 by omega); have HALL : Sl _ := ⟨hall⟩; have HLEN : Sl (o.cs.length = o.n4) := ⟨hM.c.len⟩; obtain ⟨x, hx, _⟩ := hall w (Below.refl _ _) i hi
  have HXI : Sl (∀ W, Below w.heap.size w W → W.rangeAt gb (oo + i * 6) x.cells) := ⟨fun W hW => by
    obtain ⟨x2, hx2, h2⟩ := HALL.out W hW i hi; rw [hx] at hx2; injection hx2 with hx2
    rw [hx2]
    exact h2⟩
  have hxF := hF.c x (List.mem_of_getElem? hx); obtain ⟨r, hr⟩ : ∃ r, rcpE o i = r := ⟨_, rfl⟩; have HE : Sl (r = if nmB x.nm = true then (if twB (fun y => decide (y.nm = x.nm)) o.cs i = true then 8 else if wiB x.fr 0 ((o.n1 : Int) - 1) && wiB x.tt 0 ((o.n1 : Int) - 1) then (if ((x.sh == -12) || ((x.sh == 12) || ((x.sh == 0) && (x.fr != x.tt)))) && (wiB x.on 0 2 && !(x.th && (x.on != 0))) then 0 else 2) else 4) else 6) := ⟨by rw [← hr]; unfold rcpE; rw [hx]; rfl⟩; rw [hr]; obtain ⟨nm, fr, tt, sh, on, th⟩ := x; simp only [] at HE hxF; have HNM : Sl (nm.size ≤ maxLen) := ⟨hxF.1⟩; clear hxF; have HIN : Sl (i < o.n4 ∧ o.n4 ≤ 1000) := ⟨hi, hn⟩; have hi0 : (0 : Int) ≤ (i : Int) := (by omega); have hi1 : (i : Int) < (o.n4 : Int) := (by omega); have HSPM : Sl _ := ⟨hM⟩; clear hr hM hF hall hx hi hn; go_enter Tryz.func71, Tryz.ntmps71
  go_upto_region 1 with ((with_reducible show wpList _ _ _ _ _ _); (refine wpList_box_new 2 rfl rfl 33 (.tmp 0) rfl #[.slice o.A1 o.n1 o.c1, .slice o.A2 o.n2 o.c2, .slice o.A3 o.n3 o.c3, .slice o.A4 o.n4 o.c4] rfl (fun _ => by kernel_rfl) ?_; rintro w1 g0 zg zm zs zb; replace HD : Sl _ := ⟨HD.out.new zg zm zb⟩; clear zg zm zs zb))
  have c0 : w1.cell? ⟨g0, 3, none⟩ = some (.slice (some ⟨gb, oo, none⟩) o.n4 o.c4) := (by rw [← hA]; exact (HD.out.at_ 0 rfl).cell 3); have HA : Sl _ := ⟨hA⟩; clear hA
  go_upto_region 2 with ((with_reducible show wpList _ _ _ _ _ _); first
    | (refine wpList_load_mid rfl 93 (.tmp 10) rfl gb (oo + i * 6) rfl _ _ (HXI.out _ HD.out.bl) Tryz.underlying93 rfl (by kernel_rfl) ?_)
    | (refine wpList_alloc_new 5 rfl rfl 93 rfl #[.string ⟨#[]⟩, .int .i64 0, .int .i64 0, .int .i64 0, .int .i64 0, .bool false] (fun _ => by kernel_rfl) ?_; rintro w2 g5 zg zm zs zb; replace HD : Sl _ := ⟨HD.out.new zg zm zb⟩; clear zg zm zs zb)
    | (refine wpList_store_whole rfl 93 (.tmp 5) (.tmp 11) rfl g5 #[.string nm, .int .i64 fr, .int .i64 tt, .int .i64 sh, .int .i64 on, .bool th] rfl rfl 93 _ (HD.out.at_ 0 rfl) rfl (by kernel_rfl) (by simp [Value.oneCell']) ?_; rintro w3 zm zs zb; replace HD : Sl _ := ⟨HD.out.upd zm zb⟩; clear zm zs zb))
  clear c0 hi0 hi1; have c1 : w3.cell? ⟨g5, 0, none⟩ = some (.string nm) := (HD.out.at_ 0 rfl).cell 0; go_wp2_with fail; refine (rname_any nm _ HNM.out).mono ?_; rintro e w4 ⟨rfl, hb4⟩; replace HD : Sl _ := ⟨HD.out.below hb4⟩; clear hb4 c1; obtain ⟨b0, hb0⟩ : ∃ b0, nmB nm = b0 := ⟨_, rfl⟩; rw [hb0] at HE ⊢; clear hb0
  cases b0 with
  | false =>
    go_wp2_with fail; go_ret; exact ⟨by rw [HE.out]; rfl, HD.out.bl⟩
  | true =>
    go_wp2_with fail
    go_loopw [6] (fun s6 wv => ∃ k : Nat, k ≤ i ∧ s6 = .int .i64 k ∧ Sl (Lg w wv [(g5, 93, #[.string nm, .int .i64 fr, .int .i64 tt, .int .i64 sh, .int .i64 on, .bool th]), (g0, 33, #[.slice o.A1 o.n1 o.c1, .slice o.A2 o.n2 o.c2, .slice o.A3 o.n3 o.c3, .slice o.A4 o.n4 o.c4])]) ∧ Sl (twB (fun y => decide (y.nm = nm)) o.cs k = false)) (fun s6 _ => i - (RowKit.intOf s6).toNat)
    case atStart => exact ⟨0, Nat.zero_le _, rfl, HD, ⟨rfl⟩⟩
    case round =>
      clear HD; obtain ⟨k, hk, rfl, HD, HTW⟩ := hrel; have hi9 : (i : Int) ≤ 1000 := (by have := HIN.out; omega)
      by_cases hki : k < i
      · have hkI : decide ((k : Int) < (i : Int)) = true := decide_eq_true (by omega); have hkI2 : (k : Int) < (i : Int) := (by omega); have hk0 : (0 : Int) ≤ (k : Int) := (by omega); have hk1 : (k : Int) < (o.n4 : Int) := (by have := HIN.out; omega); obtain ⟨y, hy, hra2⟩ := HALL.out _ HD.out.bl k (by have := HIN.out; omega); have HSU := twB_succ (p := fun y => decide (y.nm = nm)) hy; rw [HTW.out, Bool.false_or] at HSU; have HS2 : Sl _ := ⟨HSU⟩; have c0 : wr.cell? ⟨g0, 3, none⟩ = some (.slice (some ⟨gb, oo, none⟩) o.n4 o.c4) := (by rw [← HA.out]; exact (HD.out.at_ 1 rfl).cell 3); have c1 : wr.cell? ⟨g5, 0, none⟩ = some (.string nm) := (HD.out.at_ 0 rfl).cell 0; have q1 : wr.cell? ⟨gb, oo + k * 6, none⟩ = some (.string y.nm) := hra2 0 _ rfl; clear HSU hra2 hy
        by_cases heq : y.nm = nm
        · have HT : Sl (twB (fun y => decide (y.nm = nm)) o.cs i = true) := ⟨twB_mono (by rw [HS2.out]; exact decide_eq_true heq) (by omega : k + 1 ≤ i)⟩; have hq : (y.nm.toList == nm.toList) = true := (by rw [heq]; simp); clear heq; go_wp2_with fail
          go_quiet (fail)
          go_wp2_with fail; go_ret; exact ⟨by rw [HE.out, HT.out]; rfl, below_drewN HD.out.bl nq⟩
        · have HT : Sl (twB (fun y => decide (y.nm = nm)) o.cs (k + 1) = false) := ⟨by rw [HS2.out]; exact decide_eq_false heq⟩; have hq : (y.nm.toList == nm.toList) = false := (by rw [beq_eq_false_iff_ne]; exact fun h => heq (cbytes_eq h)); clear heq; go_wp2_with fail
          go_quiet (fail)
          go_wp2_with fail; exact ⟨⟨k + 1, by omega, by go_num, ⟨HD.out.below (below_drewN (Below.refl _ _) nq)⟩, HT⟩, by simp [RowKit.intOf]; omega⟩
      · obtain rfl : i = k := (by omega); have hkI : decide ((i : Int) < (i : Int)) = false := (by simp); rw [HTW.out] at HE; simp only [if_true, Bool.false_eq_true, if_false] at HE; clear HTW hki hk; have d1 : wr.cell? ⟨g5, 1, none⟩ = some (.int .i64 fr) := (HD.out.at_ 0 rfl).cell 1; have d2 : wr.cell? ⟨g5, 2, none⟩ = some (.int .i64 tt) := (HD.out.at_ 0 rfl).cell 2; have e1 : wr.cell? ⟨g0, 0, none⟩ = some (.slice o.A1 o.n1 o.c1) := (HD.out.at_ 1 rfl).cell 0; go_wp2_with fail; refine (rindex_any fr (o.n1 : Int) _).mono ?_; rintro e w5 ⟨rfl, rfl⟩; obtain ⟨b1, hb1⟩ : ∃ b1, wiB fr 0 ((o.n1 : Int) - 1) = b1 := ⟨_, rfl⟩; rw [hb1] at HE ⊢; clear hb1
        cases b1 with
        | false =>
          have HV : Sl (r = 4) := ⟨by rw [HE.out, if_neg]; simp⟩; clear HE; go_wp2_with fail; go_ret; exact ⟨by first | (rw [HV.out]; rfl) | rw [HV.out], HD.out.bl⟩
        | true =>
          go_wp2_with fail; refine (rindex_any tt (o.n1 : Int) _).mono ?_; rintro e w6 ⟨rfl, rfl⟩; obtain ⟨b2, hb2⟩ : ∃ b2, wiB tt 0 ((o.n1 : Int) - 1) = b2 := ⟨_, rfl⟩; rw [hb2] at HE ⊢; clear hb2
          cases b2 with
          | false =>
            have HV : Sl (r = 4) := ⟨by rw [HE.out, if_neg]; simp⟩; clear HE; go_wp2_with fail; go_ret; exact ⟨by first | (rw [HV.out]; rfl) | rw [HV.out], HD.out.bl⟩
          | true =>
            rw [Bool.true_and, if_pos rfl] at HE; have d3 : w6.cell? ⟨g5, 3, none⟩ = some (.int .i64 sh) := (HD.out.at_ 0 rfl).cell 3; have d4 : w6.cell? ⟨g5, 4, none⟩ = some (.int .i64 on) := (HD.out.at_ 0 rfl).cell 4; have d5 : w6.cell? ⟨g5, 5, none⟩ = some (.bool th) := (HD.out.at_ 0 rfl).cell 5
            by_cases m1 : sh = -12
            · subst m1
              by_cases q1 : on < 0
              · have q1d : decide (on < 0) = true := decide_eq_true q1; have HV : Sl (r = 2) := ⟨by rw [HE.out, if_neg]; unfold wiB; simp; omega⟩; clear HE; go_wp2_with fail; go_ret; exact ⟨by first | (rw [HV.out]; rfl) | rw [HV.out], HD.out.bl⟩
              · have q1d : decide (on < 0) = false := decide_eq_false q1
                by_cases q2 : 2 < on
                · have q2d : decide (2 < on) = true := decide_eq_true q2; have HV : Sl (r = 2) := ⟨by rw [HE.out, if_neg]; unfold wiB; simp; omega⟩; clear HE; go_wp2_with fail; go_ret; exact ⟨by first | (rw [HV.out]; rfl) | rw [HV.out], HD.out.bl⟩
                · have q2d : decide (2 < on) = false := decide_eq_false q2
                  cases th with
                  | true =>
                    by_cases q3 : on = 0
                    · subst q3
                      by_cases q4 : fr = tt
                      · have q4b : (fr == tt) = true := (by simpa using q4); have HV : Sl (r = 0) := ⟨by rw [HE.out, if_pos]; unfold wiB; simp; try omega⟩; clear HE; go_wp2_with fail; go_ret; exact ⟨by first | (rw [HV.out]; rfl) | rw [HV.out], HD.out.bl⟩
                      · have q4b : (fr == tt) = false := (by simpa using q4); have HV : Sl (r = 0) := ⟨by rw [HE.out, if_pos]; unfold wiB; simp; try omega⟩; clear HE; go_wp2_with fail; go_ret; exact ⟨by first | (rw [HV.out]; rfl) | rw [HV.out], HD.out.bl⟩
                    · have q3n : (on != 0) = true := (by simpa using q3); have q3b : (on == 0) = false := (by simpa using q3); have HV : Sl (r = 2) := ⟨by rw [HE.out, if_neg]; rw [q3n]; simp⟩; clear HE; go_wp2_with fail; go_ret; exact ⟨by first | (rw [HV.out]; rfl) | rw [HV.out], HD.out.bl⟩
                  | false =>
                    by_cases q4 : fr = tt
                    · have q4b : (fr == tt) = true := (by simpa using q4); have HV : Sl (r = 0) := ⟨by rw [HE.out, if_pos]; unfold wiB; simp; try omega⟩; clear HE; go_wp2_with fail; go_ret; exact ⟨by first | (rw [HV.out]; rfl) | rw [HV.out], HD.out.bl⟩
                    · have q4b : (fr == tt) = false := (by simpa using q4); have HV : Sl (r = 0) := ⟨by rw [HE.out, if_pos]; unfold wiB; simp; try omega⟩; clear HE; go_wp2_with fail; go_ret; exact ⟨by first | (rw [HV.out]; rfl) | rw [HV.out], HD.out.bl⟩
            · by_cases m2 : sh = 12
              · subst m2
                by_cases q1 : on < 0
                · have q1d : decide (on < 0) = true := decide_eq_true q1; have HV : Sl (r = 2) := ⟨by rw [HE.out, if_neg]; unfold wiB; simp; omega⟩; clear HE; go_wp2_with fail; go_ret; exact ⟨by first | (rw [HV.out]; rfl) | rw [HV.out], HD.out.bl⟩
                · have q1d : decide (on < 0) = false := decide_eq_false q1
                  by_cases q2 : 2 < on
                  · have q2d : decide (2 < on) = true := decide_eq_true q2; have HV : Sl (r = 2) := ⟨by rw [HE.out, if_neg]; unfold wiB; simp; omega⟩; clear HE; go_wp2_with fail; go_ret; exact ⟨by first | (rw [HV.out]; rfl) | rw [HV.out], HD.out.bl⟩
                  · have q2d : decide (2 < on) = false := decide_eq_false q2
                    cases th with
                    | true =>
                      by_cases q3 : on = 0
                      · subst q3
                        by_cases q4 : fr = tt
                        · have q4b : (fr == tt) = true := (by simpa using q4); have HV : Sl (r = 0) := ⟨by rw [HE.out, if_pos]; unfold wiB; simp; try omega⟩; clear HE; go_wp2_with fail; go_ret; exact ⟨by first | (rw [HV.out]; rfl) | rw [HV.out], HD.out.bl⟩
                        · have q4b : (fr == tt) = false := (by simpa using q4); have HV : Sl (r = 0) := ⟨by rw [HE.out, if_pos]; unfold wiB; simp; try omega⟩; clear HE; go_wp2_with fail; go_ret; exact ⟨by first | (rw [HV.out]; rfl) | rw [HV.out], HD.out.bl⟩
                      · have q3n : (on != 0) = true := (by simpa using q3); have q3b : (on == 0) = false := (by simpa using q3); have HV : Sl (r = 2) := ⟨by rw [HE.out, if_neg]; rw [q3n]; simp⟩; clear HE; go_wp2_with fail; go_ret; exact ⟨by first | (rw [HV.out]; rfl) | rw [HV.out], HD.out.bl⟩
                    | false =>
                      by_cases q4 : fr = tt
                      · have q4b : (fr == tt) = true := (by simpa using q4); have HV : Sl (r = 0) := ⟨by rw [HE.out, if_pos]; unfold wiB; simp; try omega⟩; clear HE; go_wp2_with fail; go_ret; exact ⟨by first | (rw [HV.out]; rfl) | rw [HV.out], HD.out.bl⟩
                      · have q4b : (fr == tt) = false := (by simpa using q4); have HV : Sl (r = 0) := ⟨by rw [HE.out, if_pos]; unfold wiB; simp; try omega⟩; clear HE; go_wp2_with fail; go_ret; exact ⟨by first | (rw [HV.out]; rfl) | rw [HV.out], HD.out.bl⟩
              · by_cases m3 : sh = 0
                · subst m3
                  by_cases q1 : on < 0
                  · have q1d : decide (on < 0) = true := decide_eq_true q1; have HV : Sl (r = 2) := ⟨by rw [HE.out, if_neg]; unfold wiB; simp; omega⟩; clear HE; go_wp2_with fail; go_ret; exact ⟨by first | (rw [HV.out]; rfl) | rw [HV.out], HD.out.bl⟩
                  · have q1d : decide (on < 0) = false := decide_eq_false q1
                    by_cases q2 : 2 < on
                    · have q2d : decide (2 < on) = true := decide_eq_true q2; have HV : Sl (r = 2) := ⟨by rw [HE.out, if_neg]; unfold wiB; simp; omega⟩; clear HE; go_wp2_with fail; go_ret; exact ⟨by first | (rw [HV.out]; rfl) | rw [HV.out], HD.out.bl⟩
                    · have q2d : decide (2 < on) = false := decide_eq_false q2
                      cases th with
                      | true =>
                        by_cases q3 : on = 0
                        · subst q3
                          by_cases q4 : fr = tt
                          · have q4b : (fr == tt) = true := (by simpa using q4); have q4n : (fr != tt) = false := (by simpa using q4); have HV : Sl (r = 2) := ⟨by rw [HE.out, if_neg]; rw [q4n]; simp⟩; clear HE; go_wp2_with fail; go_ret; exact ⟨by first | (rw [HV.out]; rfl) | rw [HV.out], HD.out.bl⟩
                          · have q4b : (fr == tt) = false := (by simpa using q4); have q4n : (fr != tt) = true := (by simpa using q4); have HV : Sl (r = 0) := ⟨by rw [HE.out, if_pos]; rw [q4n]; unfold wiB; simp; try omega⟩; clear HE; go_wp2_with fail; go_ret; exact ⟨by first | (rw [HV.out]; rfl) | rw [HV.out], HD.out.bl⟩
                        · have q3n : (on != 0) = true := (by simpa using q3); have q3b : (on == 0) = false := (by simpa using q3); have HV : Sl (r = 2) := ⟨by rw [HE.out, if_neg]; rw [q3n]; simp⟩; clear HE; go_wp2_with fail; go_ret; exact ⟨by first | (rw [HV.out]; rfl) | rw [HV.out], HD.out.bl⟩
                      | false =>
                        by_cases q4 : fr = tt
                        · have q4b : (fr == tt) = true := (by simpa using q4); have q4n : (fr != tt) = false := (by simpa using q4); have HV : Sl (r = 2) := ⟨by rw [HE.out, if_neg]; rw [q4n]; simp⟩; clear HE; go_wp2_with fail; go_ret; exact ⟨by first | (rw [HV.out]; rfl) | rw [HV.out], HD.out.bl⟩
                        · have q4b : (fr == tt) = false := (by simpa using q4); have q4n : (fr != tt) = true := (by simpa using q4); have HV : Sl (r = 0) := ⟨by rw [HE.out, if_pos]; rw [q4n]; unfold wiB; simp; try omega⟩; clear HE; go_wp2_with fail; go_ret; exact ⟨by first | (rw [HV.out]; rfl) | rw [HV.out], HD.out.bl⟩
                · have m1n : (sh != -12) = true := (by simpa using m1); have m2n : (sh != 12) = true := (by simpa using m2); have m3n : (sh != 0) = true := (by simpa using m3); have m1b : (sh == -12) = false := (by simpa using m1); have m2b : (sh == 12) = false := (by simpa using m2); have m3b : (sh == 0) = false := (by simpa using m3); have HV : Sl (r = 2) := ⟨by rw [HE.out, if_neg]; rw [m1b, m2b, m3b]; simp⟩; clear HE; go_wp2_with fail; go_ret; exact ⟨by first | (rw [HV.out]; rfl) | rw [HV.out], HD.out.bl⟩
end Go.Proofs.YtabkpbbjodfolaaGreatDoor
