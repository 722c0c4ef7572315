/- Package crescendo: Plan. (Printed by gensih.py.) -/
import Derived.Test.YtbaojmfkjpnfhaaGreatDoorSiG
namespace Go.Proofs.YtbaojmfkjpnfhaaGreatDoor
set_option linter.unusedSimpArgs false
open Go.RowKit
set_option linter.unusedVariables false

set_option maxHeartbeats 3200000 in
set_option maxRecDepth 100000 in
/-- the sort of nothing -/
theorem sort0_any (A : Option Addr) (c gf : Nat) (w : World) :
    Calls Tryz.prog 71 #[.slice A 0 c, .func (.func 72) #[] #[.pointer (some ⟨gf, 0, none⟩)]] w fun e w' => e = .returned (.tuple #[]) ∧ w' = w := by
  have HI : Sl (∀ W : World, Calls Tryz.prog 165 #[.slice A 0 c, .int .i64 0, .int .i64 0, .func (.func 72) #[] #[.pointer (some ⟨gf, 0, none⟩)]] W fun e w' => e = .returned (.tuple #[]) ∧ w' = W) := ⟨fun W => by
    go_enter Tryz.func165, Tryz.ntmps165
    go_wp2_with fail
    go_loop [8] (fun s8 => s8 = .int .i64 1) (fun _ => 0)
    case atStart => rfl
    case round =>
      subst hrel
      go_wp2_with fail
      go_end0
      exact ⟨rfl, rfl⟩⟩
  have HS : Sl (Calls Tryz.prog 124 #[.slice A 0 c, .int .i64 0, .func (.func 72) #[] #[.pointer (some ⟨gf, 0, none⟩)]] w fun e w' => e = .returned (.tuple #[]) ∧ w' = w) := ⟨by
    go_enter Tryz.func124, Tryz.ntmps124
    go_wp2_with fail
    go_loop [7, 8] (fun s7 s8 => s7 = .int .i64 0 ∧ s8 = .int .i64 20) (fun _ _ => 0)
    case atStart => exact ⟨rfl, rfl⟩
    case round =>
      obtain ⟨rfl, rfl⟩ := hrel
      go_wp2_with fail
      refine (HI.out _).mono ?_; rintro e w1 ⟨rfl, rfl⟩
      go_wp2_with fail
      go_loop [6] (fun s6 => s6 = .int .i64 20) (fun _ => 0)
      case atStart => rfl
      case round =>
        subst hrel
        go_wp2_with fail
        go_end0
        exact ⟨rfl, rfl⟩⟩
  go_enter Tryz.func71, Tryz.ntmps71
  go_wp2_with fail
  refine HS.out.mono ?_; rintro e w1 ⟨rfl, rfl⟩
  go_wp2_with fail
  go_end0
  exact ⟨rfl, rfl⟩
/-- what Plan leaves -/
def PlnR (base : Nat) (G : List (List Int)) (s e : Int) (en : Ending) (w' : World) : Prop := ∃ A k c L, en = .returned (.tuple #[.slice A k c, .int .i64 s, .int .i64 e]) ∧ OG w' base A k c L ∧ L.map SlV.l = G
theorem PlnR.no {base : Nat} {e : Int} {w' : World} : PlnR base [] 0 e (.returned (.tuple #[.slice none 0 0, .int .i64 0, .int .i64 e])) w' := ⟨none, 0, 0, [], rfl, OG.nil _ _, rfl⟩
def nums (n : Nat) : List Int := (List.range n).map fun k : Nat => (k : Int)
theorem nums_succ (n : Nat) : nums (n + 1) = nums n ++ [(n : Int)] := by
  unfold nums
  rw [List.range_succ, List.map_append]
  rfl
theorem nums_len (n : Nat) : (nums n).length = n := by simp [nums]
theorem nums_at {n k : Nat} (h : k < n) : gt (nums n) k = (k : Int) := by
  unfold nums
  rw [gt, List.getElem?_map, List.getElem?_range h]
  rfl
theorem OI.irow {w : World} {base g n c : Nat} {l : List Int} (h : OI w base (some ⟨g, 0, none⟩) n c l) : IRow w g n (gt l) := by
  have hl := h.len
  rcases h.2 with ⟨h0, _⟩ | ⟨b, cap, cur, e1, _, hh, hnc, _, hcs, _⟩
  · cases h0
  · injection e1 with e1
    injection e1 with e1
    injection e1 with e1
    subst e1
    refine ⟨_, cur, hh, by omega, fun j hj => ?_⟩
    obtain ⟨ad, e, _, hc⟩ := h.ii.cell hj
    injection e with e
    subst e
    rw [Addr.add_mid, Nat.zero_add] at hc
    have hB : Blk w g 3 cur := hh
    rw [← hB.cell j, hc]
theorem IRow.ii {w : World} {g n : Nat} {f : Nat → Int} (h : IRow w g n f) {l : List Int} (hl : (List.range n).map f = l) : II w (some ⟨g, 0, none⟩) n l := by
  subst hl
  refine ⟨by simp, by simp, fun hn => ⟨⟨g, 0, none⟩, rfl, h.lt, fun j u hu => ?_⟩⟩
  have hj : j < n := by have := (List.getElem?_eq_some_iff.1 hu).1; simpa using this
  rw [Addr.add_mid, Nat.zero_add, h.cell hj]
  rw [List.getElem?_map, List.getElem?_map, List.getElem?_range hj] at hu
  exact hu
theorem II.take {w : World} {A : Option Addr} {n : Nat} {l : List Int} (h : II w A n l) {u : Nat} (hu : u ≤ n) : II w A u (l.take u) := by
  have hl := h.1
  refine ⟨by rw [List.length_take]; omega, by simp; omega, fun h0 => ?_⟩
  obtain ⟨ad, e, hb, hc⟩ := h.2.2 (by omega)
  refine ⟨ad, e, hb, fun j v hv => hc j v ?_⟩
  have hj : j < u := by have := (List.getElem?_eq_some_iff.1 hv).1; simp at this; omega
  rw [List.getElem?_map, List.getElem?_take_of_lt hj] at hv
  rw [List.getElem?_map]
  exact hv
theorem II.drop {w : World} {A : Option Addr} {n c : Nat} {l : List Int} (h : II w A n l) {k : Nat} (hk : k ≤ n) (hc : n ≤ c) : II w (if c = k then A else A.map (·.add k)) (n - k) (l.drop k) := by
  have := Reads.cut h.2 (cap := c) hk hc
  rw [Nat.mul_one] at this
  exact ⟨by rw [List.length_drop, h.1], by rw [List.map_drop]; exact this⟩
theorem ne_L64 : 3 ≠ 70 := by decide
/-- Plan's sort of the items -/
theorem planSort_any {A B : Option Addr} {n c cb : Nat} {ws : List Int} {w wr : World} (hn : ws.length = n) (h80 : n ≤ 80) (hl : II w A n ws) (hD : Lg w wr [(w.heap.size, 70, #[.slice A n c])]) (hO : OI wr w.heap.size B n cb (nums n)) :
    Calls Tryz.prog 71 #[.slice B n cb, .func (.func 72) #[] #[.pointer (some ⟨w.heap.size, 0, none⟩)]] wr fun e w' => e = .returned (.tuple #[]) ∧ II w' B n (ordL ws) ∧ Lg w w' [(w.heap.size, 70, #[.slice A n c])] := by
  rcases Nat.eq_zero_or_pos n with h0 | h0
  · subst h0
    refine (sort0_any B cb w.heap.size wr).mono fun e w' hh => ?_
    obtain ⟨rfl, rfl⟩ := hh
    have hod : ordL ws = [] := List.eq_nil_of_length_eq_zero (by rw [ordL, ordF_len, hn])
    exact ⟨rfl, by rw [hod]; exact II.nil _ _, hD⟩
  · obtain ⟨g, hB⟩ : ∃ g, B = some ⟨g, 0, none⟩ := by
      rcases hO.2 with ⟨h1, _⟩ | ⟨g, cap, cur, e1, _⟩
      · exact absurd h1 (by intro e; injection e with _ e2; omega)
      · injection e1 with e1; exact ⟨g, e1⟩
    subst hB
    have hlt := hO.lt g rfl
    have hir : IRow wr g n (fun k : Nat => (k : Int)) := hO.irow.congr fun j hj => nums_at hj
    have hw : KeyI ws wr w.heap.size g := by
      refine ⟨⟨A, c, by rw [hn]; exact hD.at_ 0 rfl, by rw [hn]; exact hl.below hD.bl, fun ad e => ?_⟩, ?_, by omega⟩
      · obtain ⟨ad', e', hb, _⟩ := hl.2.2 h0
        rw [e] at e'
        injection e' with e'
        subst e'
        omega
      · exact fun e => hO.ne_blk (hD.at_ 0 rfl) ne_L64 (by rw [e]; rfl)
    refine (lwSortStableI_any ws g w.heap.size n cb (fun k : Nat => (k : Int)) wr ⟨hir, fun j hj => by rw [hn]; show 0 ≤ (j : Int) ∧ (j : Int) < (n : Int); omega⟩ hw (by omega) (fun _ _ => rfl)).mono fun e w' hh => ?_
    obtain ⟨rfl, hm, d', hp, hq, hs⟩ := hh
    refine ⟨rfl, hp.1.ii ?_, hD.mv hm hlt.1 (fun q hq2 => ?_)⟩
    · have := ordL_of (ws := ws) (by omega) (e := d') (by rw [hn]; exact hq) (by rw [hn]; exact hs)
      rwa [hn] at this
    · simp only [List.mem_cons, List.not_mem_nil, or_false] at hq2
      subst hq2
      exact fun e => hO.ne_blk (hD.at_ 0 rfl) ne_L64 (by show some g = some _; rw [← e])
theorem gtI_get {l : List Int} {i : Nat} (h : i < l.length) : gt l i = l[i] := by rw [gt, List.getElem?_eq_getElem h]; rfl
theorem wt_gt (ws : List Int) {k : Nat} (hk : k < ws.length) : gt (wtL ws) k = gt ws (gt (ordL ws) k).toNat := by
  have ho : k < (ordL ws).length := by rw [ordL, ordF_len]; exact hk
  have hl : k < (wtL ws).length := by rw [wtL_len]; exact hk
  rw [gtI_get hl, gtI_get ho]
  exact List.getElem_map _
theorem wt_take (ws : List Int) {k : Nat} (hk : k < ws.length) : (wtL ws).take (k + 1) = (wtL ws).take k ++ [gt ws (gt (ordL ws) k).toNat] := by
  have hl : k < (wtL ws).length := by rw [wtL_len]; exact hk
  rw [← wt_gt ws hk, List.take_add_one, List.getElem?_eq_getElem hl, gtI_get hl]
  rfl
set_option maxHeartbeats 12800000 in
set_option maxRecDepth 100000 in
theorem crPlan_any (A : Option Addr) (n c : Nat) (ws : List Int) (steps : Int) (w : World) (hl : II w A n ws) (hn : n ≤ maxLen) (hs : i64 steps) :
    Calls Tryz.prog 32 #[.slice A n c, .int .i64 steps] w fun e w' => PlnR w.heap.size (planG ws steps) (planS ws steps) (planE ws steps) e w' ∧ Below w.heap.size w w' := by
  have HLN : Sl (ws.length = n) := ⟨hl.1⟩
  have HL : Sl _ := ⟨hl⟩
  have HE : Sl (planE ws steps = if 80 < n then 3 else if steps < 1 ∨ 60 < steps then 2 else fstE (rngW ws) n 0) := ⟨by rw [← hl.1]; rfl⟩
  have hb1 := (Below.refl w.heap.size w).alloc (Nat.le_refl _) (.cells #[.slice A n c] 70)
  have HD : Sl (Lg w (w.alloc (.cells #[.slice A n c] 70)) [(w.heap.size, 70, #[.slice A n c])]) := ⟨(Lg.nil w).new rfl (Mv.of_below hb1) (Blk.new w _ _)⟩
  have c0 : (w.alloc (.cells #[.slice A n c] 70)).cell? ⟨w.heap.size, 0, none⟩ = some (.slice A n c) := (HD.out.at_ 0 rfl).cell 0
  have HNO : Sl (∀ e, planE ws steps = e → e ≠ 0 → planG ws steps = [] ∧ planS ws steps = 0) := ⟨fun e h1 h2 => by
    unfold planG planS
    rw [if_neg (by rw [h1]; exact h2), if_neg (by rw [h1]; exact h2)]
    exact ⟨rfl, rfl⟩⟩
  have hmf : ∀ (fn : Fn) (first cap : Array Value) (w : World), (Instr.makeFunc fn first cap).run Tryz.prog w = .ok (.func fn first cap) w := fun _ _ _ _ => rfl
  unfold maxLen at hn
  clear hl hb1
  obtain ⟨E, hE⟩ : ∃ E, planE ws steps = E := ⟨_, rfl⟩
  obtain ⟨S, hS⟩ : ∃ S, planS ws steps = S := ⟨_, rfl⟩
  obtain ⟨G, hG⟩ : ∃ G, planG ws steps = G := ⟨_, rfl⟩
  have HGS : Sl (E = 0 → S = lst (wtL ws) (steps.toNat - 1) 0 ∧ G = (grpE (wtL ws) S steps.toNat 0).map (cutL (ordL ws))) := ⟨fun h => by
    unfold planG at hG
    unfold planS at hS
    rw [if_pos (by rw [hE, h])] at hG hS
    exact ⟨hS.symm, by rw [← hG, ← hS]; unfold planS; rw [if_pos (by rw [hE, h])]⟩⟩
  rw [hE] at HE HNO
  rw [hE, hS, hG]
  rw [hS, hG] at HNO
  replace HNO : Sl (E ≠ 0 → G = [] ∧ S = 0) := ⟨fun h => HNO.out E rfl h⟩
  clear hE hS hG
  go_enter Tryz.func32, Tryz.ntmps32
  by_cases h80 : 80 < n
  · have q1 : (80 : Int) < (n : Int) := by omega
    have q1d : decide ((80 : Int) < (n : Int)) = true := decide_eq_true q1
    have HV : Sl (E = 3) := ⟨by rw [HE.out, if_pos h80]⟩
    clear h80
    go_wp2_with fail
    (try simp only [Exit.inBlock, Exit.then])
    refine bodyPost_ret (v := .tuple #[.slice none 0 0, .int .i64 0, .int .i64 3]) (by simp [results, Tryz.results32, go_sem]) rfl ?_
    obtain ⟨h1, h2⟩ := HNO.out (by rw [HV.out]; decide)
    rw [h1, h2, HV.out]
    exact ⟨PlnR.no, HD.out.bl⟩
  have q1 : ¬ (80 : Int) < (n : Int) := by omega
  have q1d : decide ((80 : Int) < (n : Int)) = false := decide_eq_false q1
  rw [if_neg h80] at HE
  have hn80 : (n : Int) ≤ 80 := by omega
  have HN80 : Sl (n ≤ 80) := ⟨by omega⟩
  by_cases h1 : steps < 1
  · have q2d : decide (steps < 1) = true := decide_eq_true h1
    have q2e : decide (steps ≤ 0) = true := decide_eq_true (by omega)
    have HV : Sl (E = 2) := ⟨by rw [HE.out]; exact if_pos (.inl h1)⟩
    clear h80
    go_wp2_with fail
    (try simp only [Exit.inBlock, Exit.then])
    refine bodyPost_ret (v := .tuple #[.slice none 0 0, .int .i64 0, .int .i64 2]) (by simp [results, Tryz.results32, go_sem]) rfl ?_
    obtain ⟨h1, h2⟩ := HNO.out (by rw [HV.out]; decide)
    rw [h1, h2, HV.out]
    exact ⟨PlnR.no, HD.out.bl⟩
  have q2d : decide (steps < 1) = false := decide_eq_false h1
  by_cases h2 : 60 < steps
  · have q3d : decide (60 < steps) = true := decide_eq_true h2
    have HV : Sl (E = 2) := ⟨by rw [HE.out]; exact if_pos (.inr h2)⟩
    clear h80
    go_wp2_with fail
    (try simp only [Exit.inBlock, Exit.then])
    refine bodyPost_ret (v := .tuple #[.slice none 0 0, .int .i64 0, .int .i64 2]) (by simp [results, Tryz.results32, go_sem]) rfl ?_
    obtain ⟨h1, h2⟩ := HNO.out (by rw [HV.out]; decide)
    rw [h1, h2, HV.out]
    exact ⟨PlnR.no, HD.out.bl⟩
  have q3d : decide (60 < steps) = false := decide_eq_false h2
  replace HE : Sl (E = fstE (rngW ws) n 0) := ⟨by rw [HE.out, if_neg (by omega)]⟩
  obtain ⟨st, rfl⟩ := Int.eq_ofNat_of_zero_le (show 0 ≤ steps by omega)
  have HST : Sl (1 ≤ st ∧ st ≤ 60) := ⟨by omega⟩
  have hst1 : (1 : Int) ≤ (st : Int) := by omega
  have hst6 : (st : Int) ≤ 60 := by omega
  clear h1 h2 h80 hs
  go_wp2_with fail
  clear q1 q1d q2d q3d c0
  rw [Int.toNat_natCast] at HGS
  go_loopw [4, 7, 33] (fun s4 s7 s33 wv => ∃ (k : Nat) (B : Option Addr) (cb : Nat), k ≤ n ∧ s4 = .slice none 0 0 ∧ s7 = .slice B k cb ∧ s33 = .int .i64 k ∧ Sl (Lg w wv [(w.heap.size, 70, #[.slice A n c])] ∧ OI wv w.heap.size B k cb (nums k)) ∧ Sl (fstE (rngW ws) (n - k) k = E)) (fun _ _ s33 _ => n - (RowKit.intOf s33).toNat)
  case atStart => exact ⟨0, none, 0, Nat.zero_le _, rfl, rfl, rfl, ⟨HD.out, OI.nil _ _⟩, ⟨HE.out.symm⟩⟩
  case round =>
    obtain ⟨k, B, cb, hk, rfl, rfl, rfl, HM, HK⟩ := hrel
    by_cases hkn : k < n
    · have hkI : decide ((k : Int) < (n : Int)) = true := decide_eq_true (by omega)
      have hkI2 : (k : Int) < (n : Int) := by omega
      obtain ⟨ad, hA2, hab, c1⟩ := (HL.out.below HM.out.1.bl).cell (j := k) hkn
      have HSX : Sl (E = if rngW ws k = 0 then fstE (rngW ws) (n - (k + 1)) (k + 1) else rngW ws k) := ⟨by rw [← HK.out, show n - k = (n - (k + 1)) + 1 by omega]; rfl⟩
      have HRW : Sl (rngW ws k = if gt ws k < 0 ∨ 1073741824 < gt ws k then 7 else 0) := ⟨rfl⟩
      obtain ⟨z, hz⟩ : ∃ z, gt ws k = z := ⟨_, rfl⟩
      rw [hz] at c1 HRW
      rw [hA2]
      have HA2 : Sl _ := ⟨hA2⟩
      clear hz hA2 HD HK
      by_cases p1 : z < 0
      · have p1d : decide (z < 0) = true := decide_eq_true p1
        have h7 : rngW ws k = 7 := by rw [HRW.out]; exact if_pos (.inl p1)
        have HV : Sl (E = 7) := ⟨by rw [HSX.out, h7]; rfl⟩
        clear h7
        go_wp2_with fail
        (try simp only [Exit.inBlock, Exit.then])
        refine bodyPost_ret (v := .tuple #[.slice none 0 0, .int .i64 0, .int .i64 7]) (by simp [results, Tryz.results32, go_sem]) rfl ?_
        obtain ⟨h1, h2⟩ := HNO.out (by rw [HV.out]; decide)
        rw [h1, h2, HV.out]
        exact ⟨PlnR.no, HM.out.1.bl⟩
      · have p1d : decide (z < 0) = false := decide_eq_false p1
        by_cases p2 : 1073741824 < z
        · have p2d : decide (1073741824 < z) = true := decide_eq_true p2
          have h7 : rngW ws k = 7 := by rw [HRW.out]; exact if_pos (.inr p2)
          have HV : Sl (E = 7) := ⟨by rw [HSX.out, h7]; rfl⟩
          clear h7
          go_wp2_with fail
          (try simp only [Exit.inBlock, Exit.then])
          refine bodyPost_ret (v := .tuple #[.slice none 0 0, .int .i64 0, .int .i64 7]) (by simp [results, Tryz.results32, go_sem]) rfl ?_
          obtain ⟨h1, h2⟩ := HNO.out (by rw [HV.out]; decide)
          rw [h1, h2, HV.out]
          exact ⟨PlnR.no, HM.out.1.bl⟩
        · have p2d : decide (1073741824 < z) = false := decide_eq_false p2
          have HV : Sl (fstE (rngW ws) (n - (k + 1)) (k + 1) = E) := ⟨by rw [HSX.out, if_pos]; rw [HRW.out, if_neg (by omega)]⟩
          have HO : Sl _ := ⟨HM.out.2⟩
          have HD : Sl _ := ⟨HM.out.1⟩
          have HK1 : Sl (k + 1 ≤ 1000000) := ⟨by have := HN80.out; omega⟩
          clear HM HRW HSX p1 p2
          go_wp2_with (at_builtin; go_loud (refine wpList_append_oi rfl (.tmp 44) (.tmp 46) rfl w.heap.size B k cb (nums k) rfl (HO.out.alloc _) (some ⟨wr.heap.size, 0, none⟩) 1 1 [(k : Int)] rfl (II.made _ _ _) HK1.out (Nat.le_trans HD.out.bl.size (by simp)) ?_); rintro B2 c2 w2 zo zg zt; have HZ : Sl _ := ⟨And.intro zo zg⟩; clear zo zg zt)
          have hD2 : Lg w w2 [(w.heap.size, 70, #[.slice A n c])] := (HD.out.below ((Below.refl _ _).alloc (Nat.le_refl _) _)).app (HO.out.alloc _) HZ.out.2 (by intro q hq; simp only [List.mem_cons, List.not_mem_nil, or_false] at hq; subst hq; exact ne_L64)
          rw [HA2.out] at hD2
          exact ⟨⟨k + 1, B2, c2, by omega, rfl, rfl, by go_num, ⟨hD2, by rw [nums_succ]; exact HZ.out.1⟩, HV⟩, by simp [RowKit.intOf]; omega⟩
    · obtain rfl : k = n := by omega
      have HE0 : Sl (E = 0) := ⟨by rw [← HK.out, Nat.sub_self]; rfl⟩
      have HO : Sl _ := ⟨HM.out.2⟩
      replace HD : Sl _ := ⟨HM.out.1⟩
      have HCB : Sl (k ≤ cb) := ⟨HO.out.cap.1⟩
      clear HM HK hk hkn
      have HLE : Sl (∀ j, 0 ≤ gt (wtL ws) j ∧ gt (wtL ws) j ≤ 1073741824) := ⟨wtL_bd (by rw [HLN.out, ← HE.out, HE0.out])⟩
      have HSRT : Sl _ := ⟨planSort_any HLN.out HN80.out HL.out HD.out HO.out⟩
      go_wp2_with fail
      refine HSRT.out.mono ?_; rintro e w2 ⟨rfl, zi, zd⟩
      have HII : Sl _ := ⟨zi⟩
      have HB2 : Sl (Below w.heap.size w w2) := ⟨zd.bl⟩
      have HGW : Sl (Blk w2 w.heap.size 70 #[.slice A k c]) := ⟨zd.at_ 0 rfl⟩
      have HWS : Sl _ := ⟨HL.out.below zd.bl⟩
      clear zi zd HSRT HO HD HL
      go_wp2_with fail
      go_loopw [10, 11, 54] (fun s10 s11 s54 wv => ∃ (t : Nat) (C : Option Addr) (cc : Nat), t ≤ k ∧ s10 = .slice C t cc ∧ s11 = .int .i64 (psm (wtL ws) t) ∧ s54 = .int .i64 t ∧ Sl (Below w2.heap.size w2 wv ∧ OL wv w2.heap.size C t cc ((wtL ws).take t))) (fun _ _ s54 _ => k - (RowKit.intOf s54).toNat)
      case atStart => exact ⟨0, none, 0, Nat.zero_le _, rfl, rfl, rfl, ⟨Below.refl _ _, OL.nil _ _⟩⟩
      case round =>
        obtain ⟨t, C, cc, ht, rfl, rfl, rfl, HM⟩ := hrel
        by_cases htk : t < k
        · have htI : decide ((t : Int) < (k : Int)) = true := decide_eq_true (by omega)
          have htI2 : (t : Int) < (k : Int) := by omega
          obtain ⟨ad, hB2, hab, c1⟩ := (HII.out.below HM.out.1).cell htk
          have hmem := (ordF_mem ws ws.length (gt (ordL ws) t)).1 (by
            have ho : t < (ordL ws).length := by rw [ordL, ordF_len, HLN.out]; exact htk
            rw [gtI_get ho]; exact List.getElem_mem ho)
          rw [HLN.out] at hmem
          have HWT : Sl _ := ⟨And.intro (wt_take ws (k := t) (by rw [HLN.out]; exact htk)) (wt_gt ws (k := t) (by rw [HLN.out]; exact htk))⟩
          obtain ⟨x, hx⟩ : ∃ x, gt (ordL ws) t = x := ⟨_, rfl⟩
          rw [hx] at c1 hmem HWT
          clear hx
          obtain ⟨xn, rfl⟩ := Int.eq_ofNat_of_zero_le hmem.1
          have hxI : (xn : Int) < (k : Int) := hmem.2
          have hxN : xn < k := by omega
          rw [Int.toNat_natCast] at HWT
          obtain ⟨ad2, hA2, hab2, c2⟩ := (HWS.out.below HM.out.1).cell hxN
          have g0 := (HGW.out.below HM.out.1 HGW.out.lt).cell 0
          simp at g0
          have hgb := HLE.out t
          rw [HWT.out.2] at hgb
          have hps := psm_le HLE.out t
          have HPS : Sl (psm (wtL ws) (t + 1) = psm (wtL ws) t + gt ws xn) := ⟨by rw [psm, HWT.out.2]⟩
          obtain ⟨z, hz⟩ : ∃ z, gt ws xn = z := ⟨_, rfl⟩
          obtain ⟨p, hp⟩ : ∃ p, psm (wtL ws) t = p := ⟨_, rfl⟩
          rw [hz] at c2 hgb HPS HWT
          rw [hp] at hps HPS ⊢
          rw [hB2]
          have HAA : Sl (B = some ad ∧ A = some ad2) := ⟨hB2, hA2⟩
          rw [hA2] at g0 ⊢
          have hk80 : (k : Int) ≤ 80 := by have := HN80.out; omega
          have hz1 := hgb.1
          have hz2 := hgb.2
          have hp1 := hps.1
          have hp2 : p ≤ 85899345920 := by omega
          have HPQ : Sl (psm (wtL ws) (t + 1) = p + z) := ⟨by rw [HPS.out]⟩
          clear hp hmem hgb hps hA2 hB2
          have HZZ : Sl (gt ws xn = z) := ⟨hz⟩
          clear hz
          have HT1 : Sl (t + 1 ≤ 1000000) := ⟨by have := HN80.out; omega⟩
          go_upto_region 20 with (at_builtin; go_loud (refine wpList_append_ol rfl (.tmp 58) (.tmp 63) rfl w2.heap.size C t cc ((wtL ws).take t) rfl (HM.out.2.alloc _) (some ⟨wr.heap.size, 0, none⟩) 1 1 [z] rfl (II.made _ _ _) HT1.out (Nat.le_trans HM.out.1.size (by simp)) ?_); rintro C2 c2' w3 zo zg zt; have HZ : Sl _ := ⟨And.intro zo zg⟩; clear zo zg zt)
          have hbz : Below w2.heap.size w2 w3 := below_grown (HM.out.1.alloc (HM.out.1.size) _) HZ.out.2 (Nat.le_trans HM.out.1.size (by simp)) (fun q hq => (World.ownsRow.lt HM.out.2 q hq).1)
          have HBZ : Sl _ := ⟨hbz⟩
          have hO := HZ.out.1
          rw [← HWT.out.1] at hO
          have HOZ : Sl (OL w3 w2.heap.size C2 (t + 1) c2' ((wtL ws).take (t + 1))) := ⟨hO⟩
          have g1 := (HGW.out.below hbz HGW.out.lt).cell 0
          simp at g1
          rw [HAA.out.2] at g1
          obtain ⟨ad3, hA3, _, c3⟩ := (HWS.out.below hbz).cell hxN
          have hA4 := HAA.out.2.symm.trans hA3
          injection hA4 with hA4
          subst hA4
          rw [HZZ.out] at c3
          have hpw : IntKind.i64.wrap (p + z) = p + z := by rw [IntKind.wrap_i64]; omega
          clear c1 c2 g0 hbz hO hA3 HZ HM
          go_wp2_with fail
          exact ⟨⟨t + 1, C2, c2', by omega, rfl, by rw [HPS.out], by go_num, ⟨HBZ.out, HOZ.out⟩⟩, by simp [RowKit.intOf]; omega⟩
        · obtain rfl : t = k := by omega
          have HO : Sl (Below w2.heap.size w2 wr ∧ OL wr w2.heap.size C t cc (wtL ws)) := ⟨HM.out.1, by have := HM.out.2; rwa [List.take_of_length_le (by rw [wtL_len, HLN.out]; exact Nat.le_refl _)] at this⟩
          obtain ⟨hS0, hG0⟩ := HGS.out HE0.out
          have hpos : ∀ j, 0 ≤ gt (wtL ws) j := fun j => (HLE.out j).1
          have hlp := lst_pos hpos (st - 1) 0 (Nat.zero_le _)
          have hsum := psm_le HLE.out t
          have hlen : (wtL ws).length = t := by rw [wtL_len, HLN.out]
          rw [hlen, ← hS0] at hlp
          have HFI : Sl (∀ Q : Int, 0 ≤ Q → (rem (wtL ws) Q st = 0 ↔ S ≤ Q)) := ⟨fun Q hQ => by
            have := fit_iff hpos hQ (st - 1)
            rw [show st - 1 + 1 = st by have := HST.out; omega] at this
            rw [this, ← hS0]⟩
          have HFC : Sl _ := ⟨fun (g : Nat) (Q : Int) (W : World) (hW : Below wr.heap.size wr W) (hg : g ≤ 60) (hQ : 0 ≤ Q ∧ Q ≤ 1099511627776) => crfit_any C t cc (wtL ws) g Q W (HO.out.2.ii.below hW) (by have := HN80.out; omega) (by omega) HLE.out hQ⟩
          have HRL : Sl (∀ (Q : Int) (g : Nat), rem (wtL ws) Q g ≤ t) := ⟨fun Q g => by rw [← hlen]; exact rem_le _ _ _⟩
          obtain ⟨T, hT⟩ : ∃ T, psm (wtL ws) t = T := ⟨_, rfl⟩
          rw [hT] at hlp hsum ⊢
          have HT : Sl (0 ≤ S ∧ S ≤ T ∧ T ≤ 85899345920) := ⟨by have := HN80.out; omega⟩
          have HGG : Sl _ := ⟨hG0⟩
          clear hT hS0 hG0 hpos hlp hsum hlen HGS HNO HM
          go_wp2_with fail
          go_loop [14, 15, 16] (fun s14 s15 s16 => ∃ (lo hi : Int) (v16 : Value), s14 = .int .i64 lo ∧ s15 = .int .i64 hi ∧ v16 = s16 ∧ Sl (0 ≤ lo ∧ lo ≤ S ∧ S ≤ hi ∧ hi ≤ 85899345920)) (fun s14 s15 _ => (RowKit.intOf s15 - RowKit.intOf s14).toNat)
          case atStart => exact ⟨0, T, _, rfl, rfl, rfl, ⟨by have := HT.out; omega⟩⟩
          case round =>
            obtain ⟨lo, hi, v16, rfl, rfl, rfl, HLH⟩ := hrel
            obtain ⟨l1, l2, l3, l4⟩ := HLH.out
            by_cases hlh : lo < hi
            · have hld : decide (lo < hi) = true := decide_eq_true hlh
              obtain ⟨q, hq⟩ : ∃ q, (lo + hi) / 2 = q := ⟨_, rfl⟩
              have hq1 : lo ≤ q ∧ q < hi := by omega
              have HQ : Sl (lo ≤ q ∧ q < hi ∧ q ≤ 85899345920) := ⟨by omega⟩
              have hq0 : 0 ≤ q := by omega
              have hq2 : q ≤ 85899345920 := by omega
              have HF1 := HFI.out q hq0
              have HFQ : Sl _ := ⟨HFC.out st q wr (Below.refl _ _) (by have := HST.out; omega) (by omega)⟩
              have HRQ : Sl _ := ⟨HRL.out q st⟩
              obtain ⟨rm, hrm⟩ : ∃ rm, rem (wtL ws) q st = rm := ⟨_, rfl⟩
              rw [hrm] at HF1 HFQ HRQ
              have HFF : Sl _ := ⟨HF1⟩
              have hrt := HRQ.out
              by_cases hr0 : rm = 0
              · have he : (((t - rm : Nat) : Int) == (t : Int)) = true := by rw [beq_iff_eq]; omega
                have HSQ : Sl (S ≤ q) := ⟨HFF.out.1 hr0⟩
                obtain ⟨tr, htr⟩ : ∃ tr, t - rm = tr := ⟨_, rfl⟩
                rw [htr] at HFQ he
                clear HF1 hrm hr0 htr hlh
                go_wp2_with fail
                refine HFQ.out.mono ?_; rintro e w4 ⟨rfl, rfl⟩
                go_wp2_with fail
                exact ⟨⟨lo, q, _, rfl, rfl, rfl, ⟨l1, l2, HSQ.out, HQ.out.2.2⟩⟩, by have := HQ.out; simp [RowKit.intOf]; omega⟩
              · have he : (((t - rm : Nat) : Int) == (t : Int)) = false := by rw [beq_eq_false_iff_ne]; omega
                have HSQ : Sl (q + 1 ≤ S) := ⟨by have := fun h => hr0 (HFF.out.2 h); omega⟩
                obtain ⟨tr, htr⟩ : ∃ tr, t - rm = tr := ⟨_, rfl⟩
                rw [htr] at HFQ he
                clear HF1 hrm hr0 htr hlh
                go_wp2_with fail
                refine HFQ.out.mono ?_; rintro e w4 ⟨rfl, rfl⟩
                go_wp2_with fail
                exact ⟨⟨q + 1, hi, _, rfl, rfl, rfl, ⟨by omega, HSQ.out, l3, l4⟩⟩, by have := HQ.out; simp [RowKit.intOf]; omega⟩
            · have hld : decide (lo < hi) = false := decide_eq_false hlh
              have hlS : lo = S := by omega
              subst hlS
              have HS9 : Sl (0 ≤ lo ∧ lo ≤ 1099511627776) := ⟨by omega⟩
              clear hlh l2 l3 HLH HFI HT
              go_wp2_with fail
              go_loopw [4, 17, 18, 19] (fun s4 s17 s18 s19 wv => ∃ (m f : Nat) (Gs : Option Addr) (kg cg : Nat) (LL : List SlV) (v19 : Value), m ≤ st ∧ s4 = .slice Gs kg cg ∧ s17 = .int .i64 f ∧ s18 = .int .i64 m ∧ v19 = s19 ∧ Sl (f ≤ t ∧ kg + m = st) ∧ Sl (Below wr.heap.size wr wv ∧ OG wv wr.heap.size Gs kg cg LL) ∧ Sl (LL.map SlV.l ++ (grpE (wtL ws) lo m f).map (cutL (ordL ws)) = G)) (fun _ _ s18 _ _ => (RowKit.intOf s18).toNat)
              case atStart => exact ⟨st, 0, none, 0, 0, [], _, Nat.le_refl _, rfl, rfl, rfl, rfl, ⟨Nat.zero_le _, Nat.zero_add _⟩, ⟨Below.refl _ _, OG.nil _ _⟩, ⟨HGG.out.symm⟩⟩
              case round =>
                obtain ⟨m, f, Gs, kg, cg, LL, v19, hm, rfl, rfl, rfl, rfl, HF, HM, HR⟩ := hrel
                by_cases hm0 : m = 0
                · have hmd : decide ((0 : Int) < (m : Int)) = false := decide_eq_false (by omega)
                  have hmI : ¬ (0 : Int) < (m : Int) := by omega
                  have hmN : ¬ 0 < m := by omega
                  have hmNd : decide (0 < m) = false := decide_eq_false hmN
                  have HRR : Sl (LL.map SlV.l = G) := ⟨by have := HR.out; rw [hm0, grpE] at this; simpa using this⟩
                  clear hm0
                  go_wp2_with fail
                  refine bodyPost_ret (v := .tuple #[.slice Gs kg cg, .int .i64 lo, .int .i64 0]) (by simp [results, Tryz.results32, go_sem]) rfl ?_
                  rw [HE0.out]
                  have hbw := HO.out.1.size
                  have hbw2 := HB2.out.size
                  have hmono : ∀ {base base' : Nat} {e : TypeId} {v : Value} {n : Nat} {xs : List Value} {W : World}, W.ownsRow base e 1 v n xs → base' ≤ base → W.ownsRow base' e 1 v n xs := fun h hb => ⟨h.1, h.2.imp id fun ⟨g, cap, cur, h1, h2, h3⟩ => ⟨g, cap, cur, h1, Nat.le_trans hb h2, h3⟩⟩
                  exact ⟨⟨Gs, kg, cg, LL, rfl, ⟨hmono HM.out.2.row (by omega), fun s hs => (HM.out.2.all s hs).mono (by omega)⟩, HRR.out⟩, (HB2.out.trans (HO.out.1.mono hbw2)).trans (HM.out.1.mono (by omega))⟩
                · obtain ⟨m', hm'⟩ : ∃ m', m' + 1 = m := ⟨m - 1, by omega⟩
                  have hmd : decide ((0 : Int) < (m : Int)) = true := decide_eq_true (by omega)
                  have hmI : (0 : Int) < (m : Int) := by omega
                  have hmN : 0 < m := by omega
                  have hmNd : decide (0 < m) = true := decide_eq_true hmN
                  have hmp : (m : Int) - 1 = (m' : Int) := by omega
                  have hmw : IntKind.i64.wrap (m' : Int) = (m' : Int) := by have := HST.out; rw [IntKind.wrap_i64]; omega
                  have HMP : Sl (m' + 1 = m) := ⟨hm'⟩
                  have HFT : Sl _ := ⟨HFC.out m' lo _ HM.out.1 (by have := HST.out; omega) HS9.out⟩
                  have HRQ : Sl _ := ⟨HRL.out lo m'⟩
                  have hgr : grpE (wtL ws) lo m f = (f, max f (rem (wtL ws) lo m')) :: grpE (wtL ws) lo m' (max f (rem (wtL ws) lo m')) := by rw [← hm', grpE]
                  rw [hgr] at HR
                  obtain ⟨rm, hrm⟩ : ∃ rm, rem (wtL ws) lo m' = rm := ⟨_, rfl⟩
                  rw [hrm] at HFT HRQ HR
                  have hrt := HRQ.out
                  have hft := HF.out.1
                  obtain ⟨tr, htr⟩ : ∃ tr, t - rm = tr := ⟨_, rfl⟩
                  rw [htr] at HFT
                  have htI : (t : Int) - (tr : Int) = (rm : Int) := by omega
                  obtain ⟨u, hu⟩ : ∃ u, max f rm = u := ⟨_, rfl⟩
                  rw [hu] at HR
                  have hmx : max (f : Int) (rm : Int) = (u : Int) := by omega
                  have hrmw : IntKind.i64.wrap (rm : Int) = (rm : Int) := by rw [IntKind.wrap_i64]; omega
                  have hcb := HCB.out
                  have HU : Sl (f ≤ u ∧ u ≤ t ∧ u ≤ cb) := ⟨by omega⟩
                  have hfu : (f : Int) ≤ (u : Int) := by omega
                  have hucb : (u : Int) ≤ (cb : Int) := by omega
                  have hcut := ((HII.out.below (HO.out.1)).below HM.out.1).take HU.out.2.1 |>.drop (c := cb) HU.out.1 HU.out.2.2
                  have HCUT : Sl _ := ⟨hcut⟩
                  clear hcut hgr hrm htr hu hm' hm0
                  by_cases hcf : cb = f
                  · subst hcf
                    rw [if_pos rfl] at HCUT
                    go_wp2_with fail
                    refine HFT.out.mono ?_; rintro e w4 ⟨rfl, rfl⟩
                    go_wp2_with fail
                    refine (cloneII_any _ _ _ _ _ HCUT.out (by have := HN80.out; have := HU.out; omega)).mono ?_; rintro e w5 ⟨⟨A', c', rfl, zo⟩, zb⟩
                    have HOI : Sl (OI w5 wr.heap.size A' (u - cb) c' (cutL (ordL ws) (cb, u))) := ⟨zo.mono HM.out.1.size⟩
                    have HOG : Sl _ := ⟨HM.out.2.below zb⟩
                    have HBW : Sl (Below wr.heap.size wr w5) := ⟨HM.out.1.trans (zb.mono HM.out.1.size)⟩
                    have HKG : Sl (kg + 1 ≤ 1000000) := ⟨by have := HF.out.2; have := HST.out; omega⟩
                    clear zo zb HM HCUT HFT
                    go_wp2_with (at_builtin; go_loud (refine wpList_append_og rfl (.tmp 105) (.tmp 111) rfl wr.heap.size Gs kg cg LL rfl w5 31 ⟨A', u - cb, c', cutL (ordL ws) (cb, u)⟩ rfl HOG.out HOI.out rfl HKG.out HBW.out.size ?_); rintro G2 c2 w6 zo zg; have HZ : Sl _ := ⟨And.intro zo zg⟩; clear zo zg)
                    have HB6 : Sl (Below wr.heap.size wr w6) := ⟨below_grown (HBW.out.alloc HBW.out.size _) HZ.out.2 (Nat.le_trans HBW.out.size (by simp)) (fun q hq => (World.ownsRow.lt HOG.out.row q hq).1)⟩
                    exact ⟨⟨m', u, G2, kg + 1, c2, LL ++ [⟨A', u - cb, c', cutL (ordL ws) (cb, u)⟩], _, by have := HMP.out; omega, rfl, rfl, rfl, rfl, ⟨HU.out.2.1, by have := HF.out.2; have := HMP.out; omega⟩, ⟨HB6.out, HZ.out.1⟩, ⟨by rw [← HR.out]; simp⟩⟩, by have := HMP.out; simp [RowKit.intOf]; omega⟩
                  · rw [if_neg hcf] at HCUT
                    go_wp2_with fail
                    refine HFT.out.mono ?_; rintro e w4 ⟨rfl, rfl⟩
                    go_wp2_with fail
                    refine (cloneII_any _ _ _ _ _ HCUT.out (by have := HN80.out; have := HU.out; omega)).mono ?_; rintro e w5 ⟨⟨A', c', rfl, zo⟩, zb⟩
                    have HOI : Sl (OI w5 wr.heap.size A' (u - f) c' (cutL (ordL ws) (f, u))) := ⟨zo.mono HM.out.1.size⟩
                    have HOG : Sl _ := ⟨HM.out.2.below zb⟩
                    have HBW : Sl (Below wr.heap.size wr w5) := ⟨HM.out.1.trans (zb.mono HM.out.1.size)⟩
                    have HKG : Sl (kg + 1 ≤ 1000000) := ⟨by have := HF.out.2; have := HST.out; omega⟩
                    clear zo zb HM HCUT HFT
                    go_wp2_with (at_builtin; go_loud (refine wpList_append_og rfl (.tmp 105) (.tmp 111) rfl wr.heap.size Gs kg cg LL rfl w5 31 ⟨A', u - f, c', cutL (ordL ws) (f, u)⟩ rfl HOG.out HOI.out rfl HKG.out HBW.out.size ?_); rintro G2 c2 w6 zo zg; have HZ : Sl _ := ⟨And.intro zo zg⟩; clear zo zg)
                    have HB6 : Sl (Below wr.heap.size wr w6) := ⟨below_grown (HBW.out.alloc HBW.out.size _) HZ.out.2 (Nat.le_trans HBW.out.size (by simp)) (fun q hq => (World.ownsRow.lt HOG.out.row q hq).1)⟩
                    exact ⟨⟨m', u, G2, kg + 1, c2, LL ++ [⟨A', u - f, c', cutL (ordL ws) (f, u)⟩], _, by have := HMP.out; omega, rfl, rfl, rfl, rfl, ⟨HU.out.2.1, by have := HF.out.2; have := HMP.out; omega⟩, ⟨HB6.out, HZ.out.1⟩, ⟨by rw [← HR.out]; simp⟩⟩, by have := HMP.out; simp [RowKit.intOf]; omega⟩
end Go.Proofs.YtbaojmfkjpnfhaaGreatDoor
