/- Fractions: the reference's Proper and badq. -/
import Derived.Test.YtgjbaamhpapeeaaGreatDoorLawY
namespace Go.Proofs.YtgjbaamhpapeeaaGreatDoor
open Go.RowKit Go.Lib
set_option linter.unusedVariables false
set_option linter.unusedSimpArgs false

theorem valid_arg {A : Option Addr} {n c : Nat} {l : List Nat} {w : World} (h : Arg w A n c l) (W : World) (hW : Below w.heap.size w W) :
    Calls Tryz.prog 28 #[.slice A n c] W fun e w' => e = .returned (.bool (validL l)) ∧ W = w' := rValid_any A n c l W (h.below hW).1 h.2.1 h.2.2
theorem of1_at (w : World) (W : World) (hW : Below w.heap.size w W) :
    Calls Tryz.prog 51 #[.int .u64 1] W fun e w' => (∃ A c, e = .returned (.slice A (limbs 1).length c) ∧ Sl (Arg w' A (limbs 1).length c (limbs 1))) ∧ Below w.heap.size w w' := by
  have C := rOf_any 1 W (by decide)
  simp only [Int.natCast_one] at C
  refine C.mono fun e w' h => ⟨?_, hW.trans (h.2.mono hW.size)⟩
  obtain ⟨A, c, rfl, h1, h2, h3⟩ := h.1
  exact ⟨A, c, rfl, ⟨⟨h3, h1, h2⟩⟩⟩

set_option maxHeartbeats 3200000 in
set_option maxRecDepth 100000 in
theorem rProper_any (neg : Bool) (A B : Option Addr) (n m c d : Nat) (la lb : List Nat) (w : World) (ha : Arg w A n c la) (hb : Arg w B m d lb) :
    Calls Tryz.prog 22 #[qv neg A n c B m d] w fun e w' => e = .returned (.bool (properS neg la lb)) ∧ Below w.heap.size w w' := by
  unfold qv
  have hu : Below w.heap.size w (w.alloc (.cells #[.bool neg, .slice A n c, .slice B m d] 25)) := (Below.refl _ _).alloc (Nat.le_refl _) _
  have hbl := Blk.new w 25 #[.bool neg, .slice A n c, .slice B m d]
  have HA : Sl _ := ⟨ha.below hu⟩
  have HB : Sl _ := ⟨hb.below hu⟩
  clear ha hb
  go_enter Tryz.func22, Tryz.ntmps22
  go_wp2_with fail
  generalize w.alloc (.cells #[.bool neg, .slice A n c, .slice B m d] 25) = w1 at *
  have VA : Sl _ := ⟨fun q => (rValid_any A n c la (w1.drewN q) (HA.out.1.drewN q) HA.out.2.1 HA.out.2.2).mono (R' := fun e w'' => e = .returned (.bool (validL la)) ∧ ∃ m, w'' = w1.drewN m) (fun e w'' h => ⟨h.1, q, h.2.symm⟩)⟩
  have VB : Sl _ := ⟨fun q => (rValid_any B m d lb (w1.drewN q) (HB.out.1.drewN q) HB.out.2.1 HB.out.2.2).mono (R' := fun e w'' => e = .returned (.bool (validL lb)) ∧ ∃ m, w'' = w1.drewN m) (fun e w'' h => ⟨h.1, q, h.2.symm⟩)⟩
  have x0 := hbl.cell 0
  have x1 := hbl.cell 1
  have x2 := hbl.cell 2
  simp at x0 x1 x2
  have hna := HA.out.1.len
  have hnb := HB.out.1.len
  rcases hva : validL la with _ | _
  · have hs : properS neg la lb = false := by simp [properS, hva]
    have HS : Sl _ := ⟨hs⟩
    simp only [hva] at VA
    clear hs hva hna hnb
    go_quiet ((go_at_call 28; (with_reducible exact VA.out _)))
    go_wp2_with fail
    go_ret
    exact ⟨by rw [HS.out]; rfl, below_drewN hu _⟩
  · simp only [hva] at VA
    rcases hvb : validL lb with _ | _
    · have hs : properS neg la lb = false := by simp [properS, hvb]
      have HS : Sl _ := ⟨hs⟩
      simp only [hvb] at VB
      clear hs hva hvb hna hnb
      go_quiet (first | (go_at_call 28; (with_reducible exact VA.out _)) | (go_at_call 28; (with_reducible exact VB.out _)))
      go_wp2_with fail
      go_ret
      exact ⟨by rw [HS.out]; rfl, below_drewN hu _⟩
    · simp only [hvb] at VB
      rcases Nat.eq_zero_or_pos m with hm | hm
      · subst hm
        have hl : lb = [] := List.eq_nil_of_length_eq_zero hnb
        have hs : properS neg la lb = false := by simp [properS, hl]
        have HS : Sl _ := ⟨hs⟩
        clear hs hva hvb hna hnb hl
        go_quiet (first | (go_at_call 28; (with_reducible exact VA.out _)) | (go_at_call 28; (with_reducible exact VB.out _)))
        go_wp2_with fail
        go_ret
        exact ⟨by rw [HS.out]; rfl, below_drewN hu _⟩
      · have hm0 : ((m : Int) == 0) = false := by rw [beq_eq_false_iff_ne]; omega
        have hlb : lb ≠ [] := by intro h; rw [h] at hnb; simp at hnb; omega
        obtain ⟨p1, h1⟩ := ok_one HA.out hva
        obtain ⟨p2, h2⟩ := ok_one HB.out hvb
        have hv0 : valOf lb ≠ 0 := by
          intro h
          have := p2.1.len
          rw [h, limbs_zero] at this
          simp at this
          omega
        have P1 : Sl _ := ⟨p1⟩
        have P2 : Sl _ := ⟨p2⟩
        have hgl : (limbs (Nat.gcd (valOf la) (valOf lb))).length ≤ 512 := by
          have := limbs_mono (Nat.gcd_le_right (valOf la) (Nat.pos_of_ne_zero hv0))
          have h3 := p2.1.len
          omega
        rcases Nat.eq_zero_or_pos n with hn | hn
        · subst hn
          have hl0 : la = [] := List.eq_nil_of_length_eq_zero hna
          rcases neg with _ | _
          · have hs : properS false la lb = decide (Nat.gcd (valOf la) (valOf lb) = 1) := by simp [properS, hva, hvb, hlb]
            have hg0 : Nat.gcd (valOf la) (valOf lb) = valOf lb := by rw [hl0]; simp [valOf]
            have HS : Sl _ := ⟨hs⟩
            have HG0 : Sl _ := ⟨hg0⟩
            have hS : Sl (∀ w', RowKit.Below w1.heap.size w1 w' → w'.cell? ⟨w.heap.size, 0, none⟩ = some (.bool false) ∧ w'.cell? ⟨w.heap.size, 1, none⟩ = some (.slice A 0 c) ∧ w'.cell? ⟨w.heap.size, 2, none⟩ = some (.slice B m d)) := ⟨fun w' h => by
              have e := hbl.below h hbl.lt
              exact ⟨by rw [e.cell]; rfl, by rw [e.cell]; rfl, by rw [e.cell]; rfl⟩⟩
            have hd : RowKit.Below w1.heap.size w1 w1.drew := below_drewN (Below.refl _ _) 1
            have VAr : Sl _ := ⟨rValid_any A 0 c la w1.drew (HA.out.1.drewN 1) HA.out.2.1 HA.out.2.2⟩
            have VBr : Sl _ := ⟨rValid_any B m d lb w1.drew (HB.out.1.drewN 1) HB.out.2.1 HB.out.2.2⟩
            rw [hva] at VAr
            rw [hvb] at VBr
            have OF1 : Sl _ := ⟨of1_at w1 w1.drew hd⟩
            have hord := fun (A3 : Option Addr) (c3 : Nat) (w3 : World) (h3 : RowKit.Below w1.heap.size w1 w3) (k : Sl (Arg w3 A3 (limbs 1).length c3 (limbs 1))) => order_any B A3 m _ d c3 (limbs (valOf lb)) (limbs 1) w3 (P2.out.below h3).1 k.out.1 (by omega) (by have : (limbs 1).length ≤ 1 := limbs_len_le (by decide); omega)
            simp only [valOf_limbs] at hord
            have HORD : Sl _ := ⟨hord⟩
            clear hs hva hvb hna hnb p1 p2 hv0 hlb hl0 hg0 hbl hord
            by_cases hb1 : valOf lb = 1
            · have hc : cmpN (valOf lb) 1 = 0 := by rw [hb1]; exact cmpN_eq 1
              rw [hc] at HORD
              clear hc
              go_region_with (first
                | (go_at_call 28; (with_reducible refine VAr.out.mono ?_); rintro e w2 ⟨rfl, rfl⟩)
                | (go_at_call 28; (with_reducible refine VBr.out.mono ?_); rintro e w2 ⟨rfl, rfl⟩)
                | (go_at_call 51; (with_reducible refine OF1.out.mono ?_); rintro e w3 ⟨⟨A3, c3, rfl, k3⟩, hb3⟩; obtain ⟨x0, x1, x2⟩ := hS.out w3 hb3)
                | (go_at_call 42; (with_reducible refine (HORD.out _ _ _ (by assumption) (by assumption)).mono ?_); rintro e w4 ⟨rfl, rfl⟩))
              all_goals (
                have u3 := hu.trans (RowKit.Below.mono hb3 hu.size)
                have hcm := common_any A B 0 m c d (valOf la) (valOf lb) w3 (P1.out.below hb3) (P2.out.below hb3) (by omega) (by omega)
                rw [HG0.out] at hcm
                have HCM : Sl _ := ⟨hcm⟩
                have hbl2 : (limbs (valOf lb)).length ≤ 512 := by rw [← HG0.out]; exact hgl
                clear hcm hgl
                go_wp2_with fail
                refine HCM.out.mono ?_; rintro e w5 ⟨⟨A5, c5, rfl, k1, k2, k5⟩, hb5⟩
                have u5 := u3.trans (hb5.mono u3.size)
                have K5 : Sl _ := ⟨k5⟩
                clear k1 k2 k5 HCM
                go_wp2_with fail
                refine (of1_at w5 w5 (Below.refl _ _)).mono ?_; rintro e w6 ⟨⟨A6, c6, rfl, k6⟩, hb6⟩
                have u6 := u5.trans (hb6.mono u5.size)
                have hor := order_any A5 A6 _ _ c5 c6 (limbs (valOf lb)) (limbs 1) w6 (K5.out.below hb6) k6.out.1 (by omega) (by have : (limbs 1).length ≤ 1 := limbs_len_le (by decide); omega)
                rw [valOf_limbs, valOf_limbs, hb1, cmpN_eq] at hor
                have HOR : Sl _ := ⟨hor⟩
                have HS2 : Sl (properS false la lb = true) := ⟨by rw [HS.out]; exact decide_eq_true (HG0.out.trans hb1)⟩
                clear hor hb5 hb6
                go_wp2_with fail
                refine HOR.out.mono ?_; rintro e w' ⟨rfl, rfl⟩
                go_wp2_with fail
                go_ret
                exact ⟨by rw [HS2.out]; rfl, u6⟩)
            · have hpos : 0 < valOf lb := by
                rcases Nat.eq_zero_or_pos (valOf lb) with h | h
                · have h9 := P2.out.1.len
                  rw [h, limbs_zero] at h9
                  simp at h9
                  omega
                · exact h
              have hc : cmpN (valOf lb) 1 = 1 := cmpN_gt (by omega)
              rw [hc] at HORD
              have HS2 : Sl (properS false la lb = false) := ⟨by rw [HS.out]; exact decide_eq_false (fun h => hb1 (HG0.out.symm.trans h))⟩
              clear hc hpos
              go_region_with (first
                | (go_at_call 28; (with_reducible refine VAr.out.mono ?_); rintro e w2 ⟨rfl, rfl⟩)
                | (go_at_call 28; (with_reducible refine VBr.out.mono ?_); rintro e w2 ⟨rfl, rfl⟩)
                | (go_at_call 51; (with_reducible refine OF1.out.mono ?_); rintro e w3 ⟨⟨A3, c3, rfl, k3⟩, hb3⟩; obtain ⟨x0, x1, x2⟩ := hS.out w3 hb3)
                | (go_at_call 42; (with_reducible refine (HORD.out _ _ _ (by assumption) (by assumption)).mono ?_); rintro e w4 ⟨rfl, rfl⟩))
              all_goals (
                have u3 := hu.trans (RowKit.Below.mono hb3 hu.size)
                go_wp2_with fail
                go_ret
                exact ⟨by rw [HS2.out]; rfl, u3⟩)
          · have hs : properS true la lb = false := by simp [properS, hl0]
            have HS : Sl _ := ⟨hs⟩
            clear hs hva hvb hna hnb p1 p2 hv0 hlb hl0
            go_quiet (first | (go_at_call 28; (with_reducible exact VA.out _)) | (go_at_call 28; (with_reducible exact VB.out _)))
            go_wp2_with fail
            go_ret
            exact ⟨by rw [HS.out]; rfl, below_drewN hu _⟩
        · have hla : la ≠ [] := by intro h; rw [h] at hna; simp at hna; omega
          have hs : properS neg la lb = decide (Nat.gcd (valOf la) (valOf lb) = 1) := by simp [properS, hva, hvb, hla, hlb]
          have HS : Sl _ := ⟨hs⟩
          have hn0 : ((n : Int) == 0) = false := by rw [beq_eq_false_iff_ne]; omega
          have HBL : Sl _ := ⟨hbl⟩
          clear hs hva hvb hna hnb p1 p2 hv0 hla hlb
          go_quiet (first | (go_at_call 28; (with_reducible exact VA.out _)) | (go_at_call 28; (with_reducible exact VB.out _)))
          have hu1 := below_drewN hu nq
          have hcm := common_any A B n m c d (valOf la) (valOf lb) (w1.drewN nq) (P1.out.drewN nq) (P2.out.drewN nq) (by omega) (by omega)
          have HCM : Sl _ := ⟨hcm⟩
          clear hcm
          go_wp2_with fail
          refine HCM.out.mono ?_; rintro e w2 ⟨⟨A2, c2, rfl, k1, k2, k3⟩, hb2⟩
          have u2 := hu1.trans (hb2.mono hu1.size)
          have K3 : Sl _ := ⟨k3⟩
          clear k1 k2 k3 HCM
          go_wp2_with fail
          refine (of1_at w2 w2 (Below.refl _ _)).mono ?_; rintro e w3 ⟨⟨A3, c3, rfl, k4⟩, hb3⟩
          have u3 := u2.trans (hb3.mono u2.size)
          have hor := order_any A2 A3 _ _ c2 c3 (limbs (Nat.gcd (valOf la) (valOf lb))) (limbs 1) w3 (K3.out.below hb3) k4.out.1 (by omega) (by have : (limbs 1).length ≤ 1 := limbs_len_le (by decide); omega)
          rw [valOf_limbs, valOf_limbs] at hor
          have HOR : Sl _ := ⟨hor⟩
          have hbeq := cmpN_beq (Nat.gcd (valOf la) (valOf lb))
          have HBE : Sl _ := ⟨hbeq⟩
          clear hor hbeq hb2 hb3
          generalize cmpN (Nat.gcd (valOf la) (valOf lb)) 1 = z at *
          go_wp2_with fail
          refine HOR.out.mono ?_; rintro e w' ⟨rfl, rfl⟩
          go_wp2_with fail
          go_ret
          exact ⟨by rw [HS.out, ← HBE.out]; rfl, u3⟩
end Go.Proofs.YtgjbaamhpapeeaaGreatDoor
