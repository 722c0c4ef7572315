/- The law's awake. -/
import Derived.Test.YtgjbaamhpapeeaaGreatDoorLawB
import Derived.Test.YtgjbaamhpapeeaaGreatDoorNatW
namespace Go.Proofs.YtgjbaamhpapeeaaGreatDoor
set_option linter.unusedSimpArgs false
open Go.RowKit
set_option linter.unusedVariables false

theorem below_new (w : World) (o : Obj) : Below w.heap.size w (w.alloc o) := (Below.refl _ _).alloc (Nat.le_refl _) _
theorem U_lit3 (w : World) (x y z : Nat) (a b c : Int) (ha : a = x) (hb : b = y) (hc : c = z) (hx : x < LB) (hy : y < LB) (hz : z < LB) (t : TypeId) : U (w.alloc (.cells #[.int .u32 a, .int .u32 b, .int .u32 c] t)) (some ⟨w.heap.size, 0, none⟩) 3 [x, y, z] := by
  subst ha hb hc
  refine ⟨⟨rfl, fun _ => ⟨_, rfl, by simp, fun j u hu => ?_⟩⟩, by simp [hx, hy, hz]⟩
  match j, hu with
  | 0, hu => simp [lv] at hu; subst hu; simp [Addr.add]
  | 1, hu => simp [lv] at hu; subst hu; simp [Addr.add]
  | 2, hu => simp [lv] at hu; subst hu; simp [Addr.add]
theorem U_lit1 (w : World) (x : Nat) (a : Int) (ha : a = x) (hx : x < LB) (t : TypeId) : U (w.alloc (.cells #[.int .u32 a] t)) (some ⟨w.heap.size, 0, none⟩) 1 [x] := by
  subst ha; exact U_one w x hx t

/-- a number beside a literal that is equal to it -/
theorem same_lit2 (A : Option Addr) (c x y : Nat) (w0 : World) (h : Arg w0 A 2 c [x, y]) (hx : x < LB) (hy : y < LB) (W : World) (hW : Below w0.heap.size w0 W) :
    Calls Tryz.prog 23 #[.slice A 2 c, .slice (some ⟨W.heap.size, 0, none⟩) 2 2] (W.alloc (.cells #[.int .u32 x, .int .u32 y] 49)) fun e w' => e = .returned (.bool true) ∧ Below w0.heap.size w0 w' := by
  have hn := below_new W (.cells #[.int .u32 x, .int .u32 y] 49)
  have hW' := hW.trans (hn.mono hW.size)
  refine (same_any A _ 2 2 c 2 [x, y] [x, y] _ (h.1.below hW') (U_two W x y x y rfl rfl hx hy _) (by decide) (by decide)).mono ?_
  rintro e w' ⟨rfl, q, rfl⟩
  exact ⟨by simp, below_drewN hW' q⟩
theorem same_lit1 (A : Option Addr) (c x : Nat) (w0 : World) (h : Arg w0 A 1 c [x]) (hx : x < LB) (W : World) (hW : Below w0.heap.size w0 W) :
    Calls Tryz.prog 23 #[.slice A 1 c, .slice (some ⟨W.heap.size, 0, none⟩) 1 1] (W.alloc (.cells #[.int .u32 x] 49)) fun e w' => e = .returned (.bool true) ∧ Below w0.heap.size w0 w' := by
  have hn := below_new W (.cells #[.int .u32 x] 49)
  have hW' := hW.trans (hn.mono hW.size)
  refine (same_any A _ 1 1 c 1 [x] [x] _ (h.1.below hW') (U_one W x hx _) (by decide) (by decide)).mono ?_
  rintro e w' ⟨rfl, q, rfl⟩
  exact ⟨by simp, below_drewN hW' q⟩

/-- a fraction of literals -/
theorem quo_lit (neg : Bool) (x y : Nat) (a b : Int) (w0 : World) (ha : a = x) (hb : b = y) (hx0 : x ≠ 0) (hx : x < LB) (hy0 : y ≠ 0) (hy : y < LB) (W : World) (hW : Below w0.heap.size w0 W) :
    Calls Tryz.prog 32 #[.bool neg, .int .u64 a, .int .u64 b] W fun e w' => ∃ A c B d, e = .returned (.agg #[.bool neg, .slice A 1 c, .slice B 1 d]) ∧ Sl (QV.ok w' ⟨neg, A, 1, c, B, 1, d, [x], [y]⟩) ∧ Below w0.heap.size w0 w' := by
  subst ha hb
  refine (quo_any neg x y W (Nat.lt_of_lt_of_le hx (by decide)) (Nat.lt_of_lt_of_le hy (by decide))).mono ?_
  rintro e w' ⟨⟨A, c, B, d, rfl, h1, h2⟩, hb⟩
  rw [limbs_one hx0 hx] at h1
  rw [limbs_one hy0 hy] at h2
  rw [limbs_one hx0 hx, limbs_one hy0 hy]
  exact ⟨A, c, B, d, rfl, ⟨⟨h1, h2⟩⟩, hW.trans (hb.mono hW.size)⟩
/-- two fractions that are equal -/
theorem sameQuo_lit (neg : Bool) (A B A' B' : Option Addr) (c d c' d' x y : Nat) (w0 : World) (hp : QV.ok w0 ⟨neg, A, 1, c, B, 1, d, [x], [y]⟩) (W : World) (hq : Sl (QV.ok W ⟨neg, A', 1, c', B', 1, d', [x], [y]⟩)) (hW : Below w0.heap.size w0 W) :
    Calls Tryz.prog 12 #[.agg #[.bool neg, .slice A 1 c, .slice B 1 d], .agg #[.bool neg, .slice A' 1 c', .slice B' 1 d']] W fun e w' => e = .returned (.bool true) ∧ Below w0.heap.size w0 w' := by
  have hp' : QV.ok W ⟨neg, A, 1, c, B, 1, d, [x], [y]⟩ := ⟨hp.num.below hW, hp.den.below hW⟩
  refine (sameQuo_any ⟨neg, A, 1, c, B, 1, d, [x], [y]⟩ ⟨neg, A', 1, c', B', 1, d', [x], [y]⟩ W hp' hq.out (show 1 ≤ 4294967296 by decide) (show 1 ≤ 4294967296 by decide) (show 1 ≤ 4294967296 by decide) (show 1 ≤ 4294967296 by decide) rfl rfl rfl).mono ?_
  rintro e w' ⟨rfl, hb⟩
  exact ⟨rfl, hW.trans (hb.mono hW.size)⟩

set_option maxHeartbeats 16000000 in
set_option maxRecDepth 100000 in
theorem awake_any (w : World) (ht : Tab10 w) :
    Calls Tryz.prog 7 #[] w fun e w' => e = .returned (.bool true) ∧ Below w.heap.size w w' := by
  have HT : Sl _ := ⟨ht⟩
  clear ht
  go_enter Tryz.func7, Tryz.ntmps7
  go_wp2_with fail
  have hu0 := below_new w (.cells #[.int .u32 0, .int .u32 1] 49)
  have C1 := Text_any (some ⟨w.heap.size, 0, none⟩) 2 2 [0, 1] (w.alloc (.cells #[.int .u32 0, .int .u32 1] 49)) ⟨U_two w 0 1 0 1 rfl rfl (by decide) (by decide) _, by decide, by decide⟩ (HT.out.below hu0)
  rw [awake_text] at C1
  refine C1.mono ?_; rintro e w1 ⟨rfl, hb1⟩
  have hu1 := hu0.trans (hb1.mono hu0.size)
  clear C1
  go_wp2_with fail
  have hx := below_new w1 (.cells #[.int .u32 0, .int .u32 0, .int .u32 1] 49)
  have hy := below_new (w1.alloc (.cells #[.int .u32 0, .int .u32 0, .int .u32 1] 49)) (.cells #[.int .u32 4294967295] 49)
  have C2 := DivMod_any (some ⟨w1.heap.size, 0, none⟩) (some ⟨w1.heap.size + 1, 0, none⟩) 3 1 3 1 [0, 0, 1] [4294967295] _ ⟨(U_lit3 w1 0 0 1 0 0 1 rfl rfl rfl (by decide) (by decide) (by decide) _).below hy, by decide, by decide⟩
    ⟨by
      have := U_lit1 (w1.alloc (.cells #[.int .u32 0, .int .u32 0, .int .u32 1] 49)) 4294967295 4294967295 rfl (by decide) 49
      simpa using this, by decide, by decide⟩
  rw [awake_div] at C2
  refine C2.mono ?_; rintro e w2 ⟨⟨A2, c2, B2, d2, rfl, g1, g2⟩, hb2⟩
  have hxy := hx.trans (hy.mono hx.size)
  have hb2' := hxy.trans (hb2.mono hxy.size)
  have hu2 := hu1.trans (hb2'.mono hu1.size)
  have G1 : Sl _ := ⟨g1⟩
  have G2 : Sl _ := ⟨g2⟩
  clear C2 hx hy hxy hb2 hb2' g1 g2
  simp only [List.length_cons, List.length_nil, Nat.zero_add] at G1 G2 ⊢
  go_wp2_with fail
  refine (Of_any 462 _ (by decide)).mono ?_; rintro e w3 ⟨⟨A3, c3, rfl, k1, k2, k3⟩, hb3⟩
  have G3 : Sl (Arg w3 A3 (limbs 462).length c3 (limbs 462)) := ⟨⟨k3, k1, k2⟩⟩
  clear k1 k2 k3
  go_wp2_with fail
  refine (Of_any 1071 _ (by decide)).mono ?_; rintro e w4 ⟨⟨A4, c4, rfl, k1, k2, k3⟩, hb4⟩
  have G4 : Sl (Arg w4 A4 (limbs 1071).length c4 (limbs 1071)) := ⟨⟨k3, k1, k2⟩⟩
  clear k1 k2 k3
  have C3 := Gcd_any A3 A4 _ _ c3 c4 _ _ w4 (G3.out.below hb4) G4.out
  rw [awake_gcd] at C3
  go_wp2_with fail
  refine C3.mono ?_; rintro e w5 ⟨⟨A5, c5, rfl, k1, k2, k3⟩, hb5⟩
  have hb25 := (hb3.trans (hb4.mono hb3.size)).trans (hb5.mono (hb3.trans (hb4.mono hb3.size)).size)
  have hu5 := hu2.trans (hb25.mono hu2.size)
  have G5 : Sl (Arg w5 A5 1 c5 [21]) := ⟨⟨k3, k1, k2⟩⟩
  have G15 : Sl _ := ⟨G1.out.below hb25⟩
  have G25 : Sl _ := ⟨G2.out.below hb25⟩
  clear C3 k1 k2 k3 hb3 hb4 hb5 G1 G2 G3 G4 hb25
  simp only [List.length_cons, List.length_nil, Nat.zero_add]
  go_wp2_with fail
  refine (quo_any false 1 6 w5 (by decide) (by decide)).mono ?_; rintro e w6 ⟨⟨A6, c6, B6, d6, rfl, p1, p2⟩, hb6⟩
  have P6 : Sl (QV.ok w6 ⟨false, A6, (limbs 1).length, c6, B6, (limbs 6).length, d6, limbs 1, limbs 6⟩) := ⟨⟨p1, p2⟩⟩
  clear p1 p2
  go_wp2_with fail
  refine (quo_any true 2 3 w6 (by decide) (by decide)).mono ?_; rintro e w7 ⟨⟨A7, c7, B7, d7, rfl, p1, p2⟩, hb7⟩
  have P7 : Sl (QV.ok w7 ⟨true, A7, (limbs 2).length, c7, B7, (limbs 3).length, d7, limbs 2, limbs 3⟩) := ⟨⟨p1, p2⟩⟩
  clear p1 p2
  have C4 := QAdd_any _ _ w7 (P6.out.below hb7) P7.out
  go_wp2_with fail
  refine C4.mono ?_; rintro e w8 ⟨hr, hb8⟩
  have hr := awake_add rfl (limbs_one (by decide) (by decide)) (limbs_one (by decide) (by decide)) rfl (limbs_one (by decide) (by decide)) (limbs_one (by decide) (by decide)) hr
  obtain ⟨A8, c8, B8, d8, rfl, g1, g2⟩ := hr
  have hb58 := (hb6.trans (hb7.mono hb6.size)).trans (hb8.mono (hb6.trans (hb7.mono hb6.size)).size)
  have hu8 := hu5.trans (hb58.mono hu5.size)
  have G8 : Sl _ := ⟨And.intro g1 g2⟩
  have G18 : Sl _ := ⟨G15.out.below hb58⟩
  have G28 : Sl _ := ⟨G25.out.below hb58⟩
  have G58 : Sl _ := ⟨G5.out.below hb58⟩
  clear C4 hb6 hb7 hb8 P6 P7 g1 g2 G15 G25 G5 hb58
  simp only [List.length_cons, List.length_nil, Nat.zero_add, qv]
  go_wp2_with fail
  have ha9 := below_new w8 (.cells #[.bool true, .slice A8 1 c8, .slice B8 1 d8] 25)
  have hbl9 := Blk.new w8 25 #[.bool true, .slice A8 1 c8, .slice B8 1 d8]
  generalize hw9 : w8.alloc (.cells #[.bool true, .slice A8 1 c8, .slice B8 1 d8] 25) = w9 at *
  clear hw9
  generalize hX8 : w8.heap.size = X8 at *
  have HX8 : Sl _ := ⟨hX8⟩
  clear hX8
  refine (quo_any true 1 2 w9 (by decide) (by decide)).mono ?_; rintro e w10 ⟨⟨A10, c10, B10, d10, rfl, p1, p2⟩, hb10⟩
  have P10 : Sl (QV.ok w10 ⟨true, A10, (limbs 1).length, c10, B10, (limbs 2).length, d10, limbs 1, limbs 2⟩) := ⟨⟨p1, p2⟩⟩
  have C5 := QFloor_any _ w10 P10.out
  go_wp2_with fail
  refine C5.mono ?_; rintro e w11 ⟨hr, hb11⟩
  have hr := awake_floor rfl (limbs_one (by decide) (by decide)) (limbs_one (by decide) (by decide)) hr
  obtain ⟨A11, c11, rfl, g1⟩ := hr
  have hb911 := hb10.trans (hb11.mono hb10.size)
  have G11 : Sl _ := ⟨g1⟩
  clear C5 g1 p1 p2 P10 hb10 hb11
  simp only [List.length_cons, List.length_nil, Nat.zero_add]
  go_wp2_with fail
  refine (quo_any true 2 3 w11 (by decide) (by decide)).mono ?_; rintro e w12 ⟨⟨A12, c12, B12, d12, rfl, p1, p2⟩, hb12⟩
  have P12 : Sl (QV.ok w12 ⟨true, A12, (limbs 2).length, c12, B12, (limbs 3).length, d12, limbs 2, limbs 3⟩) := ⟨⟨p1, p2⟩⟩
  have C6 := QPow_any _ (-3) w12 P12.out (by decide) (by decide)
  go_wp2_with fail
  refine C6.mono ?_; rintro e w13 ⟨hr, hb13⟩
  have hr := awake_pow rfl (limbs_one (by decide) (by decide)) (limbs_one (by decide) (by decide)) hr
  obtain ⟨A13, c13, B13, d13, rfl, g1, g2⟩ := hr
  have hb1113 := hb12.trans (hb13.mono hb12.size)
  have G13 : Sl _ := ⟨And.intro g1 g2⟩
  have hb913 := hb911.trans (hb1113.mono hb911.size)
  have G113 : Sl _ := ⟨G11.out.below hb1113⟩
  clear C6 g1 g2 p1 p2 P12 hb12 hb13 G11
  simp only [List.length_cons, List.length_nil, Nat.zero_add, qv]
  go_wp2_with fail
  have ha14 := below_new w13 (.cells #[.bool true, .slice A13 1 c13, .slice B13 1 d13] 25)
  have hbl14 := Blk.new w13 25 #[.bool true, .slice A13 1 c13, .slice B13 1 d13]
  generalize hw14 : w13.alloc (.cells #[.bool true, .slice A13 1 c13, .slice B13 1 d13] 25) = w14 at *
  clear hw14
  have ha14' := ha14
  generalize hX13 : w13.heap.size = X13 at ha14 hbl14 ⊢
  have HX13 : Sl _ := ⟨hX13⟩
  clear hX13
  refine (Of_any 999 _ (by decide)).mono ?_; rintro e w15 ⟨⟨A15, c15, rfl, k1, k2, k3⟩, hb15⟩
  have C7 := Root_any A15 _ c15 (limbs 999) 3 w15 ⟨k3, k1, k2⟩
  go_wp2_with fail
  refine C7.mono ?_; rintro e w16 ⟨⟨l, er, hl, hn⟩, hb16⟩
  obtain ⟨rfl, rfl⟩ := awake_root hl
  obtain ⟨A16, c16, rfl, g1, g2, g3⟩ := hn
  have G16 : Sl _ := ⟨And.intro g3 (And.intro g1 g2)⟩
  have hb1416 := hb15.trans (hb16.mono hb15.size)
  clear C7 k1 k2 k3 hl g1 g2 g3 hb15 hb16
  simp only [List.length_cons, List.length_nil, Nat.zero_add]
  have ha14 := ha14'
  clear ha14'
  have hb916 := (hb913.trans (ha14.mono hb913.size)).trans (hb1416.mono (hb913.trans (ha14.mono hb913.size)).size)
  have hb816 : Below w8.heap.size w8 w16 := by
    have h1 : Below w8.heap.size w8 w9 := by rw [HX8.out]; exact ha9
    exact h1.trans (hb916.mono h1.size)
  have hu16 := hu8.trans (hb816.mono hu8.size)
  have K1 : Sl _ := ⟨G18.out.below hb816⟩
  have K2 : Sl _ := ⟨G28.out.below hb816⟩
  have K5 : Sl _ := ⟨G58.out.below hb816⟩
  have K8 : Sl _ := ⟨And.intro (G8.out.1.below hb816) (G8.out.2.below hb816)⟩
  have h1316 := ha14.trans (hb1416.mono ha14.size)
  have K11 : Sl _ := ⟨G113.out.below h1316⟩
  have K13 : Sl _ := ⟨And.intro (G13.out.1.below h1316) (G13.out.2.below h1316)⟩
  have KB8 : Sl _ := ⟨hbl9.below hb916 hbl9.lt⟩
  have KB13 : Sl _ := ⟨hbl14.below hb1416 hbl14.lt⟩
  clear hb916 hb816 hb913 ha9 ha14 hb1416 hbl9 hbl14 h1316 hb911 hb1113 G18 G28 G58 G8 G113 G13 hu8 hu5 hu2 hu1 hu0
  have T1 := same_lit2 A2 c2 1 1 w16 K1.out (by decide) (by decide)
  have T2 := same_lit1 B2 d2 1 w16 K2.out (by decide)
  have T3 := same_lit1 A5 c5 21 w16 K5.out (by decide)
  have T4 := same_lit1 A11 c11 1 w16 K11.out (by decide)
  simp only [Int.cast_ofNat_Int] at T1 T2 T3 T4
  unfold sv
  have hd : RowKit.Below w16.heap.size w16 w16.drew := below_drewN (Below.refl _ _) 1
  have T1d : Calls Tryz.prog 23 #[.slice A2 2 c2, .slice (some ⟨w16.heap.size, 0, none⟩) 2 2] (w16.alloc (.cells #[.int .u32 1, .int .u32 1] 49)).drew fun e w' => e = .returned (.bool true) ∧ Below w16.heap.size w16 w' := T1 w16.drew hd
  have K16 : Sl (Arg w16 A16 1 c16 [9]) := ⟨G16.out⟩
  have T9 := same_lit1 A16 c16 9 w16 K16.out (by decide)
  simp only [Int.cast_ofNat_Int] at T9
  have TT9 : Sl _ := ⟨T9⟩
  have Q12 : Sl _ := ⟨quo_lit true 1 2 1 2 w16 rfl rfl (by decide) (by decide) (by decide) (by decide)⟩
  have Q278 : Sl _ := ⟨quo_lit true 27 8 27 8 w16 rfl rfl (by decide) (by decide) (by decide) (by decide)⟩
  have S12 : Sl _ := ⟨fun A' B' c' d' => sameQuo_lit true A8 B8 A' B' c8 d8 c' d' 1 2 w16 ⟨K8.out.1, K8.out.2⟩⟩
  have S278 : Sl _ := ⟨fun A' B' c' d' => sameQuo_lit true A13 B13 A' B' c13 d13 c' d' 27 8 w16 ⟨K13.out.1, K13.out.2⟩⟩
  clear T9
  have HX13c : Sl (∀ w', RowKit.Below w16.heap.size w16 w' → w'.cell? ⟨X13, 0, none⟩ = some (.bool true) ∧ w'.cell? ⟨X13, 1, none⟩ = some (.slice A13 1 c13) ∧ w'.cell? ⟨X13, 2, none⟩ = some (.slice B13 1 d13)) := ⟨fun w' h => by
    have e := KB13.out.below h KB13.out.lt
    exact ⟨by rw [e.cell]; rfl, by rw [e.cell]; rfl, by rw [e.cell]; rfl⟩⟩
  have TT1 : Sl _ := ⟨T1d⟩
  have TT2 : Sl _ := ⟨T2⟩
  have TT3 : Sl _ := ⟨T3⟩
  have TT4 : Sl _ := ⟨T4⟩
  clear T1 T2 T3 T4
  have HX8c : Sl (∀ w', RowKit.Below w16.heap.size w16 w' → w'.cell? ⟨X8, 0, none⟩ = some (.bool true) ∧ w'.cell? ⟨X8, 1, none⟩ = some (.slice A8 1 c8) ∧ w'.cell? ⟨X8, 2, none⟩ = some (.slice B8 1 d8)) := ⟨fun w' h => by
    have e := KB8.out.below h KB8.out.lt
    exact ⟨by rw [e.cell]; rfl, by rw [e.cell]; rfl, by rw [e.cell]; rfl⟩⟩
  go_wp2_with fail
  go_region_with (first
    | (go_at_call 23; (with_reducible refine TT1.out.mono ?_); rintro e w17 ⟨rfl, hb17⟩)
    | (go_at_call 23; (with_reducible refine (TT2.out _ (by assumption)).mono ?_); rintro e w18 ⟨rfl, hb18⟩)
    | (go_at_call 23; (with_reducible refine (TT3.out _ (by assumption)).mono ?_); rintro e w19 ⟨rfl, hb19⟩; obtain ⟨x0, x1, x2⟩ := HX8c.out w19 hb19)
    | (go_at_call 32; (with_reducible refine (Q12.out _ (by assumption)).mono ?_); rintro e w20 ⟨A20, c20, B20, d20, rfl, hq20, hb20⟩; obtain ⟨x0, x1, x2⟩ := HX8c.out w20 hb20)
    | (go_at_call 12; (with_reducible refine (S12.out _ _ _ _ _ (by assumption) (by assumption)).mono ?_); rintro e w21 ⟨rfl, hb21⟩)
    | (go_at_call 23; (with_reducible refine (TT4.out _ (by assumption)).mono ?_); rintro e w22 ⟨rfl, hb22⟩; obtain ⟨x0, x1, x2⟩ := HX13c.out w22 hb22)
    | (go_at_call 32; (with_reducible refine (Q278.out _ (by assumption)).mono ?_); rintro e w23 ⟨A23, c23, B23, d23, rfl, hq23, hb23⟩; obtain ⟨x0, x1, x2⟩ := HX13c.out w23 hb23)
    | (go_at_call 12; (with_reducible refine (S278.out _ _ _ _ _ (by assumption) (by assumption)).mono ?_); rintro e w24 ⟨rfl, hb24⟩)
    | (go_at_call 23; (with_reducible refine (TT9.out _ (by assumption)).mono ?_); rintro e w25 ⟨rfl, hb25⟩))
  all_goals (
    go_wp2_with fail
    go_ret
    exact ⟨rfl, hu16.trans (RowKit.Below.mono (by assumption : RowKit.Below w16.heap.size w16 _) hu16.size)⟩)
end Go.Proofs.YtgjbaamhpapeeaaGreatDoor
