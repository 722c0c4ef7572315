/- The reference of chapter 04: order, sign: of powers of six primes. The reference of chapter 04: valid, exponent, moved. The reference of chapter 04: moved. The reference of chapter 04: Floor. -/
import Derived.Test.YtmcoadmnkelkkaaGreatDoorRefK
import Derived.Test.YtmcoadmnkelkkaaGreatDoorRefO
import Derived.Test.YtmcoadmnkelkkaaGreatDoorMixG
import Derived.Test.YtmcoadmnkelkkaaGreatDoorMixN
import Derived.Test.YtmcoadmnkelkkaaGreatDoorRatN
import Derived.Deep.RegionLaw
namespace Go.Proofs.YtmcoadmnkelkkaaGreatDoor
set_option linter.unusedSimpArgs false
open Go.RowKit
set_option linter.unusedVariables false

/-- what the bounds show: 0: nothing -/
def ordS (g : (Nat × Nat) × (Nat × Nat)) : Int := if g.2.2 < g.1.1 then 1 else if g.1.2 < g.2.1 then -1 else 0
theorem cmpN_gt0 {a b : Nat} : (0 < cmpN a b) ↔ b < a := by
  rcases Nat.lt_trichotomy a b with h | rfl | h
  · rw [cmpN_lt h]; omega
  · rw [cmpN_eq]; omega
  · rw [cmpN_gt h]; omega
set_option maxHeartbeats 1600000 in
set_option maxRecDepth 100000 in
theorem r4order_any (v1 v2 v3 v4 : Value) (g : (Nat × Nat) × (Nat × Nat)) (w : World) (hF : FourLN w g v1 v2 v3 v4) (hl : (C.limbs g.1.1).length ≤ 50000 ∧ (C.limbs g.1.2).length ≤ 50000 ∧ (C.limbs g.2.1).length ≤ 50000 ∧ (C.limbs g.2.2).length ≤ 50000) :
    Calls Tryz.prog 91 #[.agg #[v1, v2], .agg #[v3, v4]] w fun e w' => e = .returned (.int .i64 (ordS g)) ∧ Below w.heap.size w w' := by
  obtain ⟨⟨a1, a2⟩, b1, b2⟩ := g
  obtain ⟨A1, n1, c1, rfl⟩ := hF.a.slice
  obtain ⟨A2, n2, c2, rfl⟩ := hF.b.slice
  obtain ⟨A3, n3, c3, rfl⟩ := hF.c.slice
  obtain ⟨A4, n4, c4, rfl⟩ := hF.d.slice
  have hu := ((Below.refl w.heap.size w).alloc (Nat.le_refl _) (.cells #[.slice A1 n1 c1, .slice A2 n2 c2] 115)).alloc (by simp) (.cells #[.slice A3 n3 c3, .slice A4 n4 c4] 115)
  have X0 := (Blk.new w 115 #[.slice A1 n1 c1, .slice A2 n2 c2]).alloc (.cells #[.slice A3 n3 c3, .slice A4 n4 c4] 115)
  have X1 := Blk.new (w.alloc (.cells #[.slice A1 n1 c1, .slice A2 n2 c2] 115)) 115 #[.slice A3 n3 c3, .slice A4 n4 c4]
  rw [show (w.alloc (.cells #[.slice A1 n1 c1, .slice A2 n2 c2] 115)).heap.size = w.heap.size + 1 by simp] at X1
  have hF2 := hF.below hu
  obtain ⟨l1, l2, l3, l4⟩ := hl
  simp only [] at l1 l2 l3 l4
  have HU : Sl _ := ⟨And.intro hu (And.intro X0 (And.intro X1 hF2))⟩
  have x0 := X0.cell 0
  have x1 := X0.cell 1
  have y0 := X1.cell 0
  have y1 := X1.cell 1
  simp at x0 x1 y0 y1
  clear hu X0 X1 hF hF2
  go_enter Tryz.func91, Tryz.ntmps91
  go_wp2_with fail
  clear x0 x1 y0 y1
  generalize (w.alloc (.cells #[.slice A1 n1 c1, .slice A2 n2 c2] 115)).alloc (.cells #[.slice A3 n3 c3, .slice A4 n4 c4] 115) = w0 at *
  refine (r4cmp_any _ _ a1 b2 w0 HU.out.2.2.2.a HU.out.2.2.2.d (by omega) (by omega)).mono ?_; rintro e w1 ⟨rfl, q1, rfl⟩
  obtain ⟨k1, hk1⟩ : ∃ k, cmpN a1 b2 = k := ⟨_, rfl⟩
  rw [hk1]
  have c1' := cmpN_gt0 (a := a1) (b := b2)
  rw [hk1] at c1'
  clear hk1
  by_cases h1 : b2 < a1
  · have hk : 0 < k1 := c1'.2 h1
    have HS : Sl (ordS ((a1, a2), (b1, b2)) = 1) := ⟨by unfold ordS; rw [if_pos h1]⟩
    clear c1' h1
    go_wp2_with fail
    go_ret
    exact ⟨by rw [HS.out]; rfl, below_drewN HU.out.1 q1⟩
  · have hk : ¬ 0 < k1 := fun h => h1 (c1'.1 h)
    have H1 : Sl _ := ⟨h1⟩
    clear c1' h1
    have HD : Sl _ := ⟨And.intro (HU.out.2.2.2.below (below_drewN (Below.refl _ _) q1)) (And.intro (below_drewN HU.out.1 q1) (And.intro (HU.out.2.1.drewN q1) (HU.out.2.2.1.drewN q1)))⟩
    generalize w0.drewN q1 = w1 at *
    have x0 := HD.out.2.2.1.cell 0
    have x1 := HD.out.2.2.1.cell 1
    have y0 := HD.out.2.2.2.cell 0
    have y1 := HD.out.2.2.2.cell 1
    simp at x0 x1 y0 y1
    clear HU
    go_wp2_with fail
    clear x0 x1 y0 y1
    refine (r4cmp_any _ _ a2 b1 w1 HD.out.1.b HD.out.1.c (by omega) (by omega)).mono ?_; rintro e w2 ⟨rfl, q2, rfl⟩
    obtain ⟨k2, hk2⟩ : ∃ k, cmpN a2 b1 = k := ⟨_, rfl⟩
    rw [hk2]
    have c2' := cmpN_lt0 (a := a2) (b := b1)
    rw [hk2] at c2'
    clear hk2
    by_cases h2 : a2 < b1
    · have hk2 : k2 < 0 := c2'.2 h2
      have HS : Sl (ordS ((a1, a2), (b1, b2)) = -1) := ⟨by unfold ordS; rw [if_neg H1.out, if_pos h2]⟩
      clear c2' h2
      go_wp2_with fail
      go_ret
      exact ⟨by rw [HS.out]; rfl, below_drewN HD.out.2.1 q2⟩
    · have hk2 : ¬ k2 < 0 := fun h => h2 (c2'.1 h)
      have HS : Sl (ordS ((a1, a2), (b1, b2)) = 0) := ⟨by unfold ordS; rw [if_neg H1.out, if_neg h2]⟩
      clear c2' h2
      go_wp2_with fail
      go_ret
      exact ⟨by rw [HS.out]; rfl, below_drewN HD.out.2.1 q2⟩
theorem bdr6 {n P : Nat} (h : n ∈ primes6) : Bd n P (lgr n P) := by
  have hb : 0 < n ∧ n < 2 ^ 64 ∧ Lib.bitLen n - 1 ≤ 3 := by
    simp only [primes6, List.mem_cons, List.not_mem_nil, or_false] at h
    rcases h with rfl | rfl | rfl | rfl | rfl | rfl <;> exact ⟨by decide, by decide, by decide +kernel⟩
  exact lgr_bd hb.1 hb.2.1 (by omega)
theorem ord_sound {l : List (Nat × Int)} (h : ∀ x ∈ l, x.1 ∈ primes6) (P : Nat) : (ordS (sumB (fun n => lgr n P) l) ≠ 0 → ordS (sumB (fun n => lgr n P) l) = sgn l) ∧ (ordS (sumB (fun n => lgr n P) l) = 0 → guessG (sumB (fun n => lgr n P) l) = none) := by
  have hs := fun s => guessG_sound (B := fun n => lgr n P) (l := l) (P := P) (fun x hx => bdr6 (h x hx)) (s := s)
  generalize sumB (fun n => lgr n P) l = g at *
  unfold ordS
  unfold guessG at hs ⊢
  split
  · rename_i h1
    rw [if_pos h1] at hs
    exact ⟨fun _ => hs 1 rfl, fun h => by cases h⟩
  · rename_i h1
    rw [if_neg h1] at hs
    split
    · rename_i h2
      rw [if_pos h2] at hs
      exact ⟨fun _ => hs (-1) rfl, fun h => by cases h⟩
    · rename_i h2
      exact ⟨fun h => absurd rfl h, fun _ => rfl⟩
set_option maxHeartbeats 3200000 in
set_option maxRecDepth 100000 in
theorem r4sign_any (A : Option Addr) (n c : Nat) (l : List (Nat × Int)) (w : World) (hl : TR w A n l) (h : ok6 l) :
    Calls Tryz.prog 115 #[.slice A n c] w fun e w' => e = .returned (.int .i64 (sgn l)) ∧ Below w.heap.size w w' := by
  have hn : n ≤ 17 := by rw [← hl.1]; exact h.1
  have HO : Sl _ := ⟨r4one_any A n c l w hl hn (fun x hx => ⟨(h.2 x hx).1, by have := (h.2 x hx).2; omega⟩)⟩
  have HL : Sl _ := ⟨And.intro hl h⟩
  clear hl h
  by_cases hone : up l = down l
  · rw [sgn_one hone]
    rw [decide_eq_true hone] at HO
    clear hone
    go_enter Tryz.func115, Tryz.ntmps115
    go_wp2_with fail
    refine HO.out.mono ?_; rintro e w1 ⟨rfl, hb⟩
    go_wp2_with fail
    go_ret
    exact ⟨rfl, hb⟩
  · rw [decide_eq_false hone] at HO
    have HNE : Sl _ := ⟨hone⟩
    clear hone
    obtain ⟨sg, hsg⟩ : ∃ s, sgn l = s := ⟨_, rfl⟩
    rw [hsg]
    have HSG : Sl _ := ⟨hsg⟩
    clear hsg
    go_enter Tryz.func115, Tryz.ntmps115
    go_wp2_with fail
    refine HO.out.mono ?_; rintro e w1 ⟨rfl, hb⟩
    have HB : Sl _ := ⟨hb⟩
    clear hb HO
    go_wp2_with fail
    go_loopg [3] 5 (fun g s3 wr => ∃ P : Nat, s3 = .int .i64 P ∧ Sl (Below w.heap.size w wr ∧ ((g = 5 ∧ P = 30) ∨ (g = 4 ∧ P = 60) ∨ (g = 3 ∧ P = 120) ∨ (g = 2 ∧ P = 240) ∨ (g = 1 ∧ P = 480))))
    case atStart => exact ⟨30, rfl, ⟨HB.out, .inl ⟨rfl, rfl⟩⟩⟩
    case round =>
      clear HB
      obtain ⟨P, rfl, HP⟩ := hrel
      have hP : P ≤ 480 := by have := HP.out.2; omega
      obtain ⟨t, ht⟩ : ∃ t, P = 15 * t := ⟨P / 15, by have := HP.out.2; omega⟩
      have HSM : Sl _ := ⟨r4sums_any A n c P t l wr (HL.out.1.below HP.out.1) hn ht (by omega) (fun x hx => ⟨(HL.out.2.2 x hx).1, by have := (HL.out.2.2 x hx).2; omega⟩)⟩
      have hlen := sums_len (l := l) (P := P) (by rw [HL.out.1.1]; exact hn) (by omega) (fun x hx => ⟨(HL.out.2.2 x hx).1, by have := (HL.out.2.2 x hx).2; omega⟩)
      have hos := ord_sound (l := l) (fun x hx => (HL.out.2.2 x hx).1) P
      have hend : P = 480 → guessG (sumB (fun n => lgr n P) l) = none → False := fun e hg => by
        rw [e] at hg
        exact HNE.out (decided480 (fun x hx => (HL.out.2.2 x hx).1) HL.out.2.tot hg)
      obtain ⟨g, hg⟩ : ∃ g, sumB (fun n => lgr n P) l = g := ⟨_, rfl⟩
      rw [hg] at HSM hlen hos hend
      rw [HSG.out] at hos
      have HLEN : Sl _ := ⟨And.intro (hlen _ (.inl rfl)) (And.intro (hlen _ (.inr (.inl rfl))) (And.intro (hlen _ (.inr (.inr (.inl rfl)))) (hlen _ (.inr (.inr (.inr rfl))))))⟩
      have HOS : Sl _ := ⟨And.intro hos hend⟩
      clear hlen hos hend hg ht
      go_wp2_with fail
      refine HSM.out.mono ?_; rintro e w3 ⟨⟨v1, v2, v3, v4, rfl, hF⟩, hb3⟩
      obtain ⟨A1, n1, c1, rfl⟩ := hF.a.slice
      obtain ⟨A2, n2, c2, rfl⟩ := hF.b.slice
      obtain ⟨A3, n3, c3, rfl⟩ := hF.c.slice
      obtain ⟨A4, n4, c4, rfl⟩ := hF.d.slice
      have hB3 := HP.out.1.trans (hb3.mono HP.out.1.size)
      have HF : Sl _ := ⟨And.intro hF hB3⟩
      clear hF hb3 hB3 HSM
      have X0 := (Blk.new w3 115 #[.slice A1 n1 c1, .slice A2 n2 c2]).alloc (.cells #[.slice A3 n3 c3, .slice A4 n4 c4] 115)
      have X1 := Blk.new (w3.alloc (.cells #[.slice A1 n1 c1, .slice A2 n2 c2] 115)) 115 #[.slice A3 n3 c3, .slice A4 n4 c4]
      rw [show (w3.alloc (.cells #[.slice A1 n1 c1, .slice A2 n2 c2] 115)).heap.size = w3.heap.size + 1 by simp] at X1
      have hal := ((Below.refl w3.heap.size w3).alloc (Nat.le_refl _) (.cells #[.slice A1 n1 c1, .slice A2 n2 c2] 115)).alloc (by simp) (.cells #[.slice A3 n3 c3, .slice A4 n4 c4] 115)
      have HW : Sl _ := ⟨And.intro X0 (And.intro X1 (And.intro (HF.out.1.below hal) (HF.out.2.trans (hal.mono HF.out.2.size))))⟩
      clear X0 X1 hal HF
      go_upto_region 6 with (fail)
      generalize (w3.alloc (.cells #[.slice A1 n1 c1, .slice A2 n2 c2] 115)).alloc (.cells #[.slice A3 n3 c3, .slice A4 n4 c4] 115) = w4 at *
      have x0 := HW.out.1.cell 0
      have x1 := HW.out.1.cell 1
      have y0 := HW.out.2.1.cell 0
      have y1 := HW.out.2.1.cell 1
      simp at x0 x1 y0 y1
      have HOR : Sl _ := ⟨r4order_any _ _ _ _ g w4 HW.out.2.2.1 ⟨by have := HLEN.out.1; omega, by have := HLEN.out.2.1; omega, by have := HLEN.out.2.2.1; omega, by have := HLEN.out.2.2.2; omega⟩⟩
      go_wp2_with fail
      clear x0 x1 y0 y1
      refine HOR.out.mono ?_; rintro e w5 ⟨rfl, hb5⟩
      have hB5 := HW.out.2.2.2.trans (hb5.mono HW.out.2.2.2.size)
      have HB5 : Sl _ := ⟨hB5⟩
      clear hB5 hb5 HW HOR
      obtain ⟨s, hs⟩ : ∃ s, ordS g = s := ⟨_, rfl⟩
      rw [hs] at HOS ⊢
      clear hs
      by_cases h0 : s = 0
      · have hP2 : P < 480 := by
          rcases Nat.lt_or_ge P 480 with h | h
          · exact h
          · exact (HOS.out.2 (by omega) (HOS.out.1.2 h0)).elim
        subst h0
        go_wp2_with fail
        go_roundg (gk - 1)
        case measure => have := HP.out.2; omega
        case rel => exact ⟨2 * P, by go_num, ⟨HB5.out, by have := HP.out.2; omega⟩⟩
      · have hsz : (s != 0) = true := by rw [bne_iff_ne]; exact h0
        have HSE : Sl _ := ⟨HOS.out.1.1 h0⟩
        clear h0
        go_wp2_with fail
        go_ret
        exact ⟨by rw [HSE.out]; rfl, HB5.out⟩
end Go.Proofs.YtmcoadmnkelkkaaGreatDoor
namespace Go.Proofs.YtmcoadmnkelkkaaGreatDoor
set_option linter.unusedSimpArgs false
open Go.RowKit
set_option linter.unusedVariables false

set_option maxHeartbeats 800000 in
set_option maxRecDepth 100000 in
theorem r4valid_ok (A : Option Addr) (n c : Nat) (l : List (Nat × Int)) (w : World) (hl : TR w A n l) (hok : okT l) :
    Calls Tryz.prog 88 #[.slice A n c] w fun e w' => e = .returned (.int .i64 0) ∧ w = w' := by
  have hn : n ≤ 16 := by rw [← hl.1]; exact hok.1
  have HL : Sl _ := ⟨hl⟩
  have HK : Sl _ := ⟨hok⟩
  clear hl hok
  go_enter Tryz.func88, Tryz.ntmps88
  go_wp2_with fail
  go_loop [3] (fun s3 => ∃ i : Nat, i ≤ n ∧ s3 = .int .i64 i) (fun s3 => n - (RowKit.intOf s3).toNat)
  case atStart => exact ⟨0, Nat.zero_le _, rfl⟩
  case round =>
    obtain ⟨i, hi, rfl⟩ := hrel
    by_cases hin : i < n
    · obtain ⟨⟨nn, kk⟩, hx⟩ : ∃ x, l[i]? = some x := ⟨_, List.getElem?_eq_getElem (by rw [HL.out.1]; exact hin)⟩
      obtain ⟨ad, rfl, hab, c1, c2⟩ := HL.out.cells hx
      have e1 : (ad.add (i * 2)).add 1 = ⟨(ad.add (i * 2)).block, (ad.add (i * 2)).off + 1, none⟩ := by
        generalize ad.add (i * 2) = a1
        simp [Addr.add]
      rw [← add_of_add, e1] at c2
      have hk := HK.out.2 _ (List.mem_of_getElem? hx)
      obtain ⟨k1, k2, k3, k4⟩ := hk
      simp only [] at k1 k2 k3 k4
      have t1 : ¬ (nn : Int) < 1 := by omega
      have t2 : ¬ 1000000000000 < (nn : Int) := by omega
      have t3 : ¬ kk < -1000000000 := by omega
      have t4 : ¬ 1000000000 < kk := by omega
      clear e1 hx
      go_wp2_with fail
      exact ⟨⟨i + 1, hin, by go_num⟩, by simp [RowKit.intOf]; omega⟩
    · obtain rfl : i = n := by omega
      go_wp2_with fail
      go_ret
      exact ⟨rfl, rfl⟩
theorem TR.reads {w : World} {A : Option Addr} {n : Nat} {l : List (Nat × Int)} (h : TR w A n l) : Reads w w.heap.size 2 A n (l.flatMap fun x => [.int .i64 (x.1 : Int), .int .i64 x.2]) := h.2
theorem flat_one (l : List (Nat × Int)) : ∀ u ∈ (l.flatMap fun x => [Value.int .i64 (x.1 : Int), Value.int .i64 x.2]), u.oneCell' = true := by
  intro u hu
  obtain ⟨x, _, hx⟩ := List.mem_flatMap.1 hu
  simp only [List.mem_cons, List.not_mem_nil, or_false] at hx
  rcases hx with rfl | rfl <;> rfl
theorem TR.of_own {w : World} {base : Nat} {e : TypeId} {v : Value} {n : Nat} {l : List (Nat × Int)} (h : w.ownsRow base e 2 v n (l.flatMap fun x => [.int .i64 (x.1 : Int), .int .i64 x.2])) (hn : l.length = n) : ∃ A c, v = .slice A n c ∧ TR w A n l := by
  have h' := h
  rcases h.2 with ⟨rfl, h0⟩ | ⟨g, cap, cur, rfl, _, _, h1, h2, _⟩
  · rw [h0] at h' hn
    exact ⟨none, 0, by rw [h0], by rw [h0]; exact ⟨hn, Reads.of_own h'⟩⟩
  · exact ⟨_, cap, rfl, hn, Reads.of_own h⟩
theorem reads_two (w : World) (a b : Int) : Reads (w.alloc (.cells #[.int .i64 a, .int .i64 b] 112)) (w.alloc (.cells #[.int .i64 a, .int .i64 b] 112)).heap.size 2 (some ⟨w.heap.size, 0, none⟩) 1 [.int .i64 a, .int .i64 b] := by
  refine ⟨rfl, fun _ => ⟨_, rfl, by simp, fun j u hj => ?_⟩⟩
  have hb := Blk.new w 112 #[.int .i64 a, .int .i64 b]
  have e : (⟨w.heap.size, 0, none⟩ : Addr).add j = ⟨w.heap.size, j, none⟩ := by
    unfold Addr.add
    by_cases h : j = 0
    · subst h; simp
    · simp [h]
  rw [e, hb.cell]
  simpa using hj
set_option maxHeartbeats 1600000 in
set_option maxRecDepth 100000 in
theorem r4exponent_any (A : Option Addr) (n c : Nat) (l : List (Nat × Int)) (m den : Int) (w : World) (hl : TR w A n l) (hn : n ≤ 16) (hm1 : -2000000000000 ≤ m) (hm2 : m ≤ 2000000000000) (hd1 : 1 ≤ den) (hd2 : den ≤ 1000) (h6 : ok6 (l ++ [(2, -m * den)])) :
    Calls Tryz.prog 89 #[.slice A n c, .int .i64 m, .int .i64 den] w fun e w' => e = .returned (.int .i64 (sgn (l ++ [(2, -m * den)]))) ∧ Below w.heap.size w w' := by
  obtain ⟨i0, hi0, hz0, hz1, hz2⟩ := info_term
  have HI : Sl _ := ⟨And.intro hi0 (And.intro hz0 (And.intro hz1 hz2))⟩
  clear hi0 hz0 hz1 hz2
  have HL : Sl _ := ⟨And.intro hl h6⟩
  have hln : l.length = n := hl.1
  have hab : (-m * den).natAbs ≤ 2000000000000 * 1000 := by
    rw [Int.natAbs_mul, Int.natAbs_neg]
    exact Nat.mul_le_mul (by omega) (by omega)
  obtain ⟨x, hx⟩ : ∃ x, -m * den = x := ⟨_, rfl⟩
  rw [hx] at hab HL ⊢
  have hwm : IntKind.i64.wrap (-m) = -m := by rw [IntKind.wrap_i64]; omega
  have hwx : IntKind.i64.wrap x = x := by rw [IntKind.wrap_i64]; omega
  have hxi := hx
  have HX : Sl _ := ⟨And.intro hab hln⟩
  clear hab hl h6 hln
  go_enter Tryz.func89, Tryz.ntmps89
  have hone := flat_one l
  have HONE : Sl _ := ⟨hone⟩
  clear hone
  go_wp2_with (first
    | (at_builtin; refine wpList_append_any _ rfl (.tmp 7) (.tmp 8) _ rfl w.heap.size 112 i0 _ 2 16 Tryz.underlying75 HI.out.1 HI.out.2.1 HI.out.2.2.1 HI.out.2.2.2 rfl (by decide) (.slice (some ⟨w.heap.size, 0, none⟩) 0 0) 0 [] rfl (World.ownsRow_made w #[] 0 (Nat.le_refl _) (by decide) rfl) w.heap.size A n c _ rfl (Reads.alloc HL.out.1.reads (Nat.le_refl _) _) HONE.out (by simp only [maxLen]; omega) (by omega) (by simp) ?_; intro v1 w1 hown1 hg1 hat1; have hBx := ((Below.refl w.heap.size w).alloc (Nat.le_refl _) (.cells #[] 112)).grown hg1 (by simp) (fun k hk => by simp [Value.ownBlock] at hk; omega); have hsx := hBx.size)
    | (at_builtin; refine wpList_append_any _ rfl (.tmp 9) (.tmp 15) _ rfl w.heap.size 112 i0 _ 2 16 Tryz.underlying75 HI.out.1 HI.out.2.1 HI.out.2.2.1 HI.out.2.2.2 rfl (by decide) v1 (0 + n) _ rfl (hown1.alloc _) _ (some ⟨w1.heap.size, 0, none⟩) 1 1 _ rfl (reads_two w1 2 x) (by intro u hu; simp at hu; rcases hu with rfl | rfl <;> rfl) (by simp only [maxLen]; omega) (by omega) (by simp; omega) ?_; intro v2 w2 hown2 hg2 hat2)
    | fail)
  have hB2 := (hBx.alloc hsx (.cells #[.int .i64 2, .int .i64 x] 112)).grown hg2 (Nat.le_trans hsx (by simp)) (fun k hk => (hown1.lt k hk).1)
  obtain ⟨A2, c2, rfl, hTR⟩ := TR.of_own (l := l ++ [(2, x)]) (n := 0 + n + 1) (by rw [List.flatMap_append]; simpa using hown2) (by rw [List.length_append, HX.out.2]; simp)
  have HS : Sl _ := ⟨And.intro (r4sign_any A2 (0 + n + 1) c2 (l ++ [(2, x)]) w2 hTR HL.out.2) hB2⟩
  clear hTR hB2 hBx hown1 hown2 hg1 hg2 hat1 hat2
  refine HS.out.1.mono ?_; rintro e w3 ⟨rfl, hb3⟩
  go_wp2_with fail
  go_ret
  exact ⟨rfl, HS.out.2.trans (hb3.mono HS.out.2.size)⟩
end Go.Proofs.YtmcoadmnkelkkaaGreatDoor
namespace Go.Proofs.YtmcoadmnkelkkaaGreatDoor
set_option linter.unusedSimpArgs false
open Go.RowKit
set_option linter.unusedVariables false

set_option maxHeartbeats 3200000 in
set_option maxRecDepth 100000 in
theorem r4moved_any (v1 v2 : Value) (a1 a2 : Nat) (n : Int) (w : World) (h1 : LN w v1 a1) (h2 : LN w v2 a2) (hl1 : (C.limbs a1).length ≤ 40000) (hl2 : (C.limbs a2).length ≤ 40000) (hn : n ≤ 4000000000000000) :
    Calls Tryz.prog 92 #[.agg #[v1, v2], .int .i64 n] w fun e w' => (∃ r1 r2, e = .returned (.agg #[r1, r2]) ∧ LN w' r1 (a1 + n.toNat * 2 ^ 60) ∧ LN w' r2 (a2 + n.toNat * 2 ^ 60)) ∧ Below w.heap.size w w' := by
  obtain ⟨A1, n1, c1, rfl⟩ := h1.slice
  obtain ⟨A2, n2, c2, rfl⟩ := h2.slice
  have hu := ((Below.refl w.heap.size w).alloc (Nat.le_refl _) (.cells #[.slice A1 n1 c1, .slice A2 n2 c2] 115)).alloc (by simp) (.cells #[.slice none 0 0, .slice none 0 0] 115)
  have X0 := (Blk.new w 115 #[.slice A1 n1 c1, .slice A2 n2 c2]).alloc (.cells #[.slice none 0 0, .slice none 0 0] 115)
  have X1 := Blk.new (w.alloc (.cells #[.slice A1 n1 c1, .slice A2 n2 c2] 115)) 115 #[.slice none 0 0, .slice none 0 0]
  rw [show (w.alloc (.cells #[.slice A1 n1 c1, .slice A2 n2 c2] 115)).heap.size = w.heap.size + 1 by simp] at X1
  have HU : Sl _ := ⟨And.intro hu (And.intro X0 (And.intro X1 (And.intro (h1.below hu) (h2.below hu))))⟩
  clear hu X0 X1 h1 h2
  have hzz := pair_not_int (.slice none 0 0) (.slice none 0 0) ⟨none, 0, 0, rfl⟩ ⟨none, 0, 0, rfl⟩
  have HZZ : Sl _ := ⟨hzz⟩
  clear hzz
  have hne : w.heap.size ≠ w.heap.size + 1 := by omega
  have hne2 : w.heap.size + 1 ≠ w.heap.size := by omega
  have HEND : Sl (∀ (W : World) (A B : Option Addr) (i j c d x y : Nat), Blk W (w.heap.size + 1) 115 #[.slice none 0 0, .slice none 0 0] → RowKit.Below w.heap.size w W → LN W (.slice A i c) x → LN W (.slice B j d) y →
      Blk ((W.setCell ⟨w.heap.size + 1, 0, none⟩ (.slice A i c)).setCell ⟨w.heap.size + 1, 1, none⟩ (.slice B j d)) (w.heap.size + 1) 115 #[.slice A i c, .slice B j d] ∧
      RowKit.Below w.heap.size w ((W.setCell ⟨w.heap.size + 1, 0, none⟩ (.slice A i c)).setCell ⟨w.heap.size + 1, 1, none⟩ (.slice B j d)) ∧
      LN ((W.setCell ⟨w.heap.size + 1, 0, none⟩ (.slice A i c)).setCell ⟨w.heap.size + 1, 1, none⟩ (.slice B j d)) (.slice A i c) x ∧ LN ((W.setCell ⟨w.heap.size + 1, 0, none⟩ (.slice A i c)).setCell ⟨w.heap.size + 1, 1, none⟩ (.slice B j d)) (.slice B j d) y) := ⟨fun W A B i j c d x y hb hw hx hy => by
    have hb1 := hb.set_ 0 (.slice A i c)
    have hz1 := pair_not_int (.slice A i c) (.slice none 0 0) ⟨_, _, _, rfl⟩ ⟨_, _, _, rfl⟩
    exact ⟨hb1.set_ 1 (.slice B j d), (hw.setCell (p := ⟨w.heap.size + 1, 0, none⟩) (Nat.le_succ _) _).setCell (p := ⟨w.heap.size + 1, 1, none⟩) (Nat.le_succ _) _, (hx.set hb HZZ.out 0 _).set hb1 hz1 1 _, (hy.set hb HZZ.out 0 _).set hb1 hz1 1 _⟩⟩
  rcases Int.lt_or_le 0 n with hpos | hpos
  · obtain ⟨k, rfl⟩ : ∃ k : Nat, n = k := ⟨n.toNat, by omega⟩
    rw [Int.toNat_natCast]
    have hlk : (C.limbs k).length ≤ 10 := C.len_pow (Nat.lt_of_lt_of_le (show k < 4000000000000001 by omega) (by decide))
    have HL : Sl _ := ⟨fun W : World => r4limbs_any k W (by omega)⟩
    have hlk2 : (C.limbs (k * 2 ^ 60)).length ≤ 20 := by
      have h1 := C.len_mul k (2 ^ 60)
      have h2 : (C.limbs (2 ^ 60)).length ≤ 5 := C.len_pow (by decide)
      omega
    go_enter Tryz.func92, Tryz.ntmps92
    go_wp2_with fail
    generalize (w.alloc (.cells #[.slice A1 n1 c1, .slice A2 n2 c2] 115)).alloc (.cells #[.slice none 0 0, .slice none 0 0] 115) = w0 at *
    refine (HL.out w0).mono ?_; rintro e w1 ⟨⟨vk, rfl, hk⟩, hb1⟩
    have G1 : Sl _ := ⟨And.intro (r4shift_ok vk k 60 w1 hk (by omega) (by decide)) (And.intro (HU.out.1.trans (hb1.mono HU.out.1.size)) (And.intro (HU.out.2.1.below hb1 HU.out.2.1.lt) (And.intro (HU.out.2.2.1.below hb1 HU.out.2.2.1.lt) (And.intro (HU.out.2.2.2.1.below hb1) (HU.out.2.2.2.2.below hb1)))))⟩
    clear hk hb1 HU HL
    go_wp2_with fail
    refine G1.out.1.mono ?_; rintro e w2 ⟨⟨vx, rfl, hx⟩, hb2⟩
    have G2 : Sl _ := ⟨And.intro hx (And.intro (G1.out.2.1.trans (hb2.mono G1.out.2.1.size)) (And.intro (G1.out.2.2.1.below hb2 G1.out.2.2.1.lt) (And.intro (G1.out.2.2.2.1.below hb2 G1.out.2.2.2.1.lt) (And.intro (G1.out.2.2.2.2.1.below hb2) (G1.out.2.2.2.2.2.below hb2)))))⟩
    clear hx hb2 G1
    have x0 := G2.out.2.2.1.cell 0
    simp at x0
    have HA1 : Sl _ := ⟨r4add_any (.slice A1 n1 c1) vx a1 (k * 2 ^ 60) w2 G2.out.2.2.2.2.1 G2.out.1 (by omega) (by omega)⟩
    go_wp2_with fail
    clear x0
    refine HA1.out.mono ?_; rintro e w3 ⟨⟨r1, rfl, hr1⟩, hb3⟩
    obtain ⟨B1, m1, d1, rfl⟩ := hr1.slice
    have hP := G2.out.2.2.1.below hb3 G2.out.2.2.1.lt
    have hp0 := pair_not_int (.slice A1 n1 c1) (.slice A2 n2 c2) ⟨_, _, _, rfl⟩ ⟨_, _, _, rfl⟩
    have x0 := hP.cell 0
    have f0 := hP.frozen 0
    simp at x0
    have G3 : Sl _ := ⟨And.intro ((G2.out.1.below hb3).set hP hp0 0 (.slice B1 m1 d1)) (And.intro ((G2.out.2.1.trans (hb3.mono G2.out.2.1.size)).setCell (p := ⟨w.heap.size, 0, none⟩) (Nat.le_refl _) (.slice B1 m1 d1)) (And.intro (hP.set_ 0 (.slice B1 m1 d1)) (And.intro ((G2.out.2.2.2.1.below hb3 G2.out.2.2.2.1.lt).far (p := ⟨w.heap.size, 0, none⟩) hne2 (.slice B1 m1 d1)) (And.intro (hr1.set hP hp0 0 (.slice B1 m1 d1)) ((G2.out.2.2.2.2.2.below hb3).set hP hp0 0 (.slice B1 m1 d1))))))⟩
    clear hP hr1 hb3 G2 HA1 hp0
    go_upto_region 4 with (fail)
    generalize w3.setCell ⟨w.heap.size, 0, none⟩ (.slice B1 m1 d1) = w4 at *
    clear x0 f0
    have x1 := G3.out.2.2.1.cell 1
    simp at x1
    have HA2 : Sl _ := ⟨r4add_any (.slice A2 n2 c2) vx a2 (k * 2 ^ 60) w4 G3.out.2.2.2.2.2 G3.out.1 (by omega) (by omega)⟩
    go_wp2_with fail
    clear x1
    refine HA2.out.mono ?_; rintro e w5 ⟨⟨r2, rfl, hr2⟩, hb5⟩
    obtain ⟨B2, m2, d2, rfl⟩ := hr2.slice
    have hP : Blk w5 w.heap.size 115 #[.slice B1 m1 d1, .slice A2 n2 c2] := G3.out.2.2.1.below hb5 G3.out.2.2.1.lt
    have hp0 := pair_not_int (.slice B1 m1 d1) (.slice A2 n2 c2) ⟨_, _, _, rfl⟩ ⟨_, _, _, rfl⟩
    have x1 := hP.cell 1
    have f1 := hP.frozen 1
    simp at x1
    have hP2 : Blk (w5.setCell ⟨w.heap.size, 1, none⟩ (.slice B2 m2 d2)) w.heap.size 115 #[.slice B1 m1 d1, .slice B2 m2 d2] := hP.set_ 1 (.slice B2 m2 d2)
    have G4 : Sl _ := ⟨And.intro hP2 (HEND.out (w5.setCell ⟨w.heap.size, 1, none⟩ (.slice B2 m2 d2)) B1 B2 m1 m2 d1 d2 _ _ ((G3.out.2.2.2.1.below hb5 G3.out.2.2.2.1.lt).far (p := ⟨w.heap.size, 1, none⟩) hne2 (.slice B2 m2 d2)) ((G3.out.2.1.trans (hb5.mono G3.out.2.1.size)).setCell (p := ⟨w.heap.size, 1, none⟩) (Nat.le_refl _) (.slice B2 m2 d2)) ((G3.out.2.2.2.2.1.below hb5).set hP hp0 1 (.slice B2 m2 d2)) (hr2.set hP hp0 1 (.slice B2 m2 d2)))⟩
    have H1Z : Sl _ := ⟨(G3.out.2.2.2.1.below hb5 G3.out.2.2.2.1.lt).far (p := ⟨w.heap.size, 1, none⟩) hne2 (.slice B2 m2 d2)⟩
    clear hP hP2 hr2 hb5 G3 HA2 hp0
    go_upto_region 5 with (fail)
    generalize w5.setCell ⟨w.heap.size, 1, none⟩ (.slice B2 m2 d2) = w6 at *
    clear x1 f1
    have x0 := G4.out.1.cell 0
    have x1 := G4.out.1.cell 1
    have y0 := H1Z.out.cell 0
    have y1 := H1Z.out.cell 1
    simp at x0 x1 y0 y1
    have f0 := H1Z.out.frozen 0
    have f1 := H1Z.out.frozen 1
    go_wp2_with fail
    refine bodyPost_ret (results_cell1 rfl _ _ (w.heap.size + 1) _ _ _ rfl G4.out.2.1 Tryz.underlying115 rfl (by kernel_rfl)) rfl ?_
    exact ⟨⟨_, _, rfl, G4.out.2.2.2.1, G4.out.2.2.2.2⟩, G4.out.2.2.1⟩
  · rw [show n.toNat = 0 by omega, Nat.zero_mul, Nat.add_zero, Nat.add_zero]
    have hnp : ¬ 0 < n := by omega
    go_enter Tryz.func92, Tryz.ntmps92
    go_upto_region 1 with (fail)
    generalize (w.alloc (.cells #[.slice A1 n1 c1, .slice A2 n2 c2] 115)).alloc (.cells #[.slice none 0 0, .slice none 0 0] 115) = w0 at *
    have x0 := HU.out.2.1.cell 0
    have x1 := HU.out.2.1.cell 1
    have y0 := HU.out.2.2.1.cell 0
    have y1 := HU.out.2.2.1.cell 1
    simp at x0 x1 y0 y1
    have f0 := HU.out.2.2.1.frozen 0
    have f1 := HU.out.2.2.1.frozen 1
    have G4 : Sl _ := ⟨HEND.out w0 A1 A2 n1 n2 c1 c2 a1 a2 HU.out.2.2.1 HU.out.1 HU.out.2.2.2.1 HU.out.2.2.2.2⟩
    go_wp2_with fail
    refine bodyPost_ret (results_cell1 rfl _ _ (w.heap.size + 1) _ _ _ rfl G4.out.1 Tryz.underlying115 rfl (by kernel_rfl)) rfl ?_
    exact ⟨⟨_, _, rfl, G4.out.2.2.1, G4.out.2.2.2⟩, G4.out.2.1⟩
end Go.Proofs.YtmcoadmnkelkkaaGreatDoor
namespace Go.Proofs.YtmcoadmnkelkkaaGreatDoor
set_option linter.unusedSimpArgs false
open Go.RowKit
set_option linter.unusedVariables false

theorem scaled_snoc (l : List (Nat × Int)) (s : Int) (n : Nat) (k : Int) : scaled (l ++ [(n, k)]) s = scaled l s ++ [(n, k * s)] := by unfold scaled; rw [List.map_append]; rfl
theorem flat_snoc2 (l : List (Nat × Int)) (n : Nat) (k : Int) : ((l ++ [(n, k)]).flatMap fun x => [Value.int .i64 (x.1 : Int), Value.int .i64 x.2]) = (l.flatMap fun x => [Value.int .i64 (x.1 : Int), Value.int .i64 x.2]) ++ [.int .i64 (n : Int), .int .i64 k] := by rw [List.flatMap_append]; rfl
theorem lgr_two (P : Nat) : lgr 2 P = (2 ^ P, 2 ^ P) := by
  have h : Go.Lib.bitLen 2 - 1 = 1 := by decide +kernel
  unfold lgr
  rw [h]
  simp
/-- the bounds of a list with a power of 2 behind it -/
theorem sumB_two (l : List (Nat × Int)) (x y : Int) (h : y = -x) : sumB (fun n => lgr n 60) (l ++ [(2, x)]) = (((sumB (fun n => lgr n 60) l).1.1 + x.toNat * 2 ^ 60, (sumB (fun n => lgr n 60) l).1.2 + x.toNat * 2 ^ 60), ((sumB (fun n => lgr n 60) l).2.1 + y.toNat * 2 ^ 60, (sumB (fun n => lgr n 60) l).2.2 + y.toNat * 2 ^ 60)) := by
  rw [sumB_snoc, lgr_two]
  simp only []
  subst h
  split
  · rename_i h0
    rw [show (-x).toNat = 0 by omega, show x.toNat = x.natAbs by omega, Nat.zero_mul, Nat.add_zero, Nat.add_zero, Nat.mul_comm]
  · rename_i h0
    rw [show (-x).toNat = x.natAbs by omega, show x.toNat = 0 by omega, Nat.zero_mul, Nat.add_zero, Nat.add_zero, Nat.mul_comm]
theorem half_between {a b : Int} (h : 1 < b - a) : a < (a + b).tdiv 2 ∧ (a + b).tdiv 2 < b := by
  rcases Int.lt_or_le (a + b) 0 with h0 | h0
  · have e : (a + b).tdiv 2 = -((-(a + b)) / 2) := by
      rw [show a + b = -(-(a + b)) by omega, Int.neg_tdiv, Int.tdiv_eq_ediv_of_nonneg (by omega)]
      simp
    rw [e]; omega
  · rw [Int.tdiv_eq_ediv_of_nonneg h0]; omega
set_option maxHeartbeats 6400000 in
set_option maxRecDepth 100000 in
theorem r4Floor_any (A : Option Addr) (n c : Nat) (l : List (Nat × Int)) (den s : Int) (w : World) (hl : TR w A n l) (hok : okT l) (hd1 : 1 ≤ den) (hd2 : den ≤ 1000) (hs1 : 1 ≤ s) (hs2 : s ≤ 10000000)
    (h6 : ∀ m, -1000000000000 ≤ m → m ≤ 1000000000001 → ok6 (atM l s den m)) :
    Calls Tryz.prog 50 #[.slice A n c, .int .i64 den, .int .i64 s] w fun e w' => FloorRes l s den (fun m => sgn (atM l s den m)) e ∧ Below w.heap.size w w' := by
  have hn : n ≤ 16 := by rw [← hl.1]; exact hok.1
  have HV : Sl _ := ⟨r4valid_ok A n c l w hl hok⟩
  have HL : Sl _ := ⟨And.intro hl (And.intro hok h6)⟩
  clear hl hok h6
  obtain ⟨i0, hi0, hz0, hz1, hz2⟩ := info_term
  have HI : Sl _ := ⟨And.intro hi0 (And.intro hz0 (And.intro hz1 hz2))⟩
  clear hi0 hz0 hz1 hz2
  have t1 : ¬ den < 1 := by omega
  have t2 : ¬ 1000000 < den := by omega
  have t3 : ¬ s < 1 := by omega
  have t4 : ¬ 10000000 < s := by omega
  go_enter Tryz.func50, Tryz.ntmps50
  go_wp2_with fail
  refine HV.out.mono ?_; rintro e w1 ⟨rfl, rfl⟩
  clear HV
  go_wp2_with fail
  clear t1 t2 t3 t4
  go_loopw [10, 11] (fun s10 s11 wr => ∃ (i : Nat) (v10 : Value), i ≤ n ∧ s11 = .int .i64 i ∧ v10 = s10 ∧ Sl (wr.ownsRow w.heap.size 112 2 v10 i ((scaled (l.take i) s).flatMap fun x => [.int .i64 (x.1 : Int), .int .i64 x.2]) ∧ Below w.heap.size w wr)) (fun _ s11 _ => n - (RowKit.intOf s11).toNat)
  case atStart => exact ⟨0, _, Nat.zero_le _, rfl, rfl, ⟨World.ownsRow_nil _ _ _ _, Below.refl _ _⟩⟩
  case round =>
    obtain ⟨i, v10, hi, rfl, rfl, HR⟩ := hrel
    by_cases hin : i < n
    · obtain ⟨⟨nn, kk⟩, hx⟩ : ∃ x, l[i]? = some x := ⟨_, List.getElem?_eq_getElem (by rw [HL.out.1.1]; exact hin)⟩
      obtain ⟨ad, rfl, hab, e1, e2⟩ := (HL.out.1.below HR.out.2).cells hx
      have e3 : (ad.add (i * 2)).add 1 = ⟨(ad.add (i * 2)).block, (ad.add (i * 2)).off + 1, none⟩ := by
        generalize ad.add (i * 2) = a1
        simp [Addr.add]
      rw [← add_of_add, e3] at e2
      have hnn := HL.out.2.1.2 _ (List.mem_of_getElem? hx)
      simp only [] at hnn e1 e2
      have hks : (kk * s).natAbs ≤ 1000000000 * 10000000 := by
        rw [Int.natAbs_mul]
        exact Nat.mul_le_mul (by omega) (by omega)
      obtain ⟨y, hy⟩ : ∃ y, kk * s = y := ⟨_, rfl⟩
      rw [hy] at hks
      have hwy : IntKind.i64.wrap y = y := by rw [IntKind.wrap_i64]; omega
      have HY : Sl _ := ⟨And.intro hx hy⟩
      have HO : Sl (World.ownsRow ((wr.drewN 1).alloc (.cells #[.int .i64 (nn : Int), .int .i64 y] 112)) w.heap.size 112 2 v10 i ((scaled (l.take i) s).flatMap fun x => [.int .i64 (x.1 : Int), .int .i64 x.2])) := ⟨World.ownsRow.alloc (w := wr.drewN 1) HR.out.1 _⟩
      have hB1 := (below_drewN HR.out.2 1).alloc HR.out.2.size (.cells #[.int .i64 (nn : Int), .int .i64 y] 112)
      have HB1 : Sl _ := ⟨hB1⟩
      have HZ : Sl (w.heap.size ≤ ((wr.drewN 1).alloc (.cells #[.int .i64 (nn : Int), .int .i64 y] 112)).heap.size) := ⟨hB1.size⟩
      clear hx e3 hnn hks hB1
      go_wp2_with fail
      go_region_law (refine step_append_any _ rfl (.tmp 43) (.tmp 57) _ rfl w.heap.size 112 i0 _ 2 16 Tryz.underlying75 HI.out.1 HI.out.2.1 HI.out.2.2.1 HI.out.2.2.2 rfl (by decide) v10 i _ (by simp [Act.eval, Act.put]) HO.out _ (some ⟨wr.heap.size, 0, none⟩) 1 1 [.int .i64 (nn : Int), .int .i64 y] (by simp [Act.eval, Act.put]) (reads_two (wr.drewN 1) nn y) (by intro u hu; simp at hu; rcases hu with rfl | rfl <;> rfl) (by unfold maxLen; omega) (by omega) HZ.out ?_; intro v1 w3 hown1 hg1 hat1)
      all_goals (
        have hB3 := HB1.out.grown hg1 HZ.out (fun k hk => (HO.out.lt k hk).1)
        have HN : Sl _ := ⟨And.intro hown1 hB3⟩
        clear hown1 hg1 hat1 hB3
        go_wp2_with fail
        refine ⟨⟨i + 1, _, hin, by go_num, rfl, ⟨?_, HN.out.2⟩⟩, by simp [RowKit.intOf]; try omega⟩
        rw [show l.take (i + 1) = l.take i ++ [(nn, kk)] by rw [List.take_add_one, HY.out.1]; rfl, scaled_snoc, HY.out.2, flat_snoc2]
        exact HN.out.1)
    · obtain rfl : n = i := by omega
      have hR := HR.out
      rw [List.take_of_length_le (by rw [HL.out.1.1]; exact Nat.le_refl _)] at hR
      have hsl : (scaled l s).length = n := by unfold scaled; rw [List.length_map]; exact HL.out.1.1
      obtain ⟨A2, c2, rfl, hTR⟩ := TR.of_own hR.1 hsl
      have hp0 : sgn (atM l s den 1000000000001) = sgn (scaled l s ++ [(2, -1000000000001 * den)]) := rfl
      have HP : Sl _ := ⟨And.intro hTR (And.intro hR.2 hsl)⟩
      have hn17 : n ≤ 16 := hn
      have HEX : Sl (∀ (W : World) (m : Int), -1000000000000 ≤ m → m ≤ 1000000000001 → RowKit.Below wr.heap.size wr W → Calls Tryz.prog 89 #[.slice A2 n c2, .int .i64 m, .int .i64 den] W fun e w' => e = .returned (.int .i64 (sgn (atM l s den m))) ∧ Below W.heap.size W w') := ⟨fun W m k1 k2 hb => r4exponent_any A2 n c2 (scaled l s) m den W (HP.out.1.below hb) hn17 (by omega) (by omega) hd1 hd2 (HL.out.2.2 m k1 k2)⟩
      clear hR hTR hsl HR hp0 hin hi
      obtain ⟨sh, hsh⟩ : ∃ z, sgn (atM l s den 1000000000001) = z := ⟨_, rfl⟩
      obtain ⟨sw, hsw⟩ : ∃ z, sgn (atM l s den (-1000000000000)) = z := ⟨_, rfl⟩
      have HSS : Sl _ := ⟨And.intro hsh hsw⟩
      have HX1 : Sl _ := ⟨HEX.out wr 1000000000001 (by decide) (by decide) (Below.refl _ _)⟩
      rw [hsh] at HX1
      have HX2 : Sl (∀ W : World, RowKit.Below wr.heap.size wr W → Calls Tryz.prog 89 #[.slice A2 n c2, .int .i64 (-1000000000000), .int .i64 den] W fun e w' => e = .returned (.int .i64 sw) ∧ Below W.heap.size W w') := ⟨fun W hb => by
        have := HEX.out W (-1000000000000) (by decide) (by decide) hb
        rw [hsw] at this
        exact this⟩
      clear hsh hsw
      by_cases hbad1 : 0 ≤ sh
      · have HFR : Sl (FloorRes l s den (fun m => sgn (atM l s den m)) (.returned (.tuple #[.int .i64 0, .bool false, .int .i64 7]))) := ⟨by
          unfold FloorRes
          simp only []
          rw [HSS.out.1, if_pos (.inl hbad1)]
          trivial⟩
        go_wp2_with fail
        refine HX1.out.mono ?_; rintro e w2 ⟨rfl, hb2⟩
        go_wp2_with fail
        go_ret3
        exact ⟨HFR.out, HP.out.2.1.trans (hb2.mono HP.out.2.1.size)⟩
      · by_cases hbad2 : sw < 0
        · have HFR : Sl (FloorRes l s den (fun m => sgn (atM l s den m)) (.returned (.tuple #[.int .i64 0, .bool false, .int .i64 7]))) := ⟨by
            unfold FloorRes
            simp only []
            rw [HSS.out.1, HSS.out.2, if_pos (.inr hbad2)]
            trivial⟩
          go_wp2_with fail
          refine HX1.out.mono ?_; rintro e w2 ⟨rfl, hb2⟩
          have HX3 : Sl _ := ⟨And.intro (HX2.out w2 hb2) (HP.out.2.1.trans (hb2.mono HP.out.2.1.size))⟩
          clear hb2
          go_wp2_with fail
          refine HX3.out.1.mono ?_; rintro e w3 ⟨rfl, hb3⟩
          go_wp2_with fail
          go_ret3
          exact ⟨HFR.out, HX3.out.2.trans (hb3.mono HX3.out.2.size)⟩
        · have HGO : Sl _ := ⟨And.intro hbad1 hbad2⟩
          go_wp2_with fail
          refine HX1.out.mono ?_; rintro e w2 ⟨rfl, hb2⟩
          have HX3 : Sl _ := ⟨And.intro (HX2.out w2 hb2) hb2⟩
          clear hb2
          go_wp2_with fail
          refine HX3.out.1.mono ?_; rintro e w3 ⟨rfl, hb3⟩
          have hb13 := HX3.out.2.trans (hb3.mono HX3.out.2.size)
          have HSM : Sl _ := ⟨And.intro (r4sums_any A2 n c2 60 4 (scaled l s) w3 (HP.out.1.below hb13) (by omega) rfl (by decide) (fun x hx => by
            have h := (HL.out.2.2 0 (by decide) (by decide)).2 x (by unfold atM; exact List.mem_append_left _ hx)
            exact ⟨h.1, by have := h.2; omega⟩)) hb13⟩
          clear hb3 hb13 HX3 HX1 HX2
          go_wp2_with fail
          refine HSM.out.1.mono ?_; rintro e w4 ⟨⟨v1, v2, v3, v4, rfl, hF⟩, hb4⟩
          obtain ⟨A3, n3, c3, rfl⟩ := hF.a.slice
          obtain ⟨A4, n4, c4, rfl⟩ := hF.b.slice
          obtain ⟨A5, n5, c5, rfl⟩ := hF.c.slice
          obtain ⟨A6, n6, c6, rfl⟩ := hF.d.slice
          have hb14 := HSM.out.2.trans (hb4.mono HSM.out.2.size)
          have X0 := (Blk.new w4 115 #[.slice A3 n3 c3, .slice A4 n4 c4]).alloc (.cells #[.slice A5 n5 c5, .slice A6 n6 c6] 115)
          have X1 := Blk.new (w4.alloc (.cells #[.slice A3 n3 c3, .slice A4 n4 c4] 115)) 115 #[.slice A5 n5 c5, .slice A6 n6 c6]
          rw [show (w4.alloc (.cells #[.slice A3 n3 c3, .slice A4 n4 c4] 115)).heap.size = w4.heap.size + 1 by simp] at X1
          have hal := ((Below.refl w4.heap.size w4).alloc (Nat.le_refl _) (.cells #[.slice A3 n3 c3, .slice A4 n4 c4] 115)).alloc (by simp) (.cells #[.slice A5 n5 c5, .slice A6 n6 c6] 115)
          have HW : Sl _ := ⟨And.intro X0 (And.intro X1 (And.intro (hF.below hal) (hb14.trans (hal.mono hb14.size))))⟩
          clear X0 X1 hal hF hb4 hb14 HSM
          go_upto_region 14 with (fail)
          generalize (w4.alloc (.cells #[.slice A3 n3 c3, .slice A4 n4 c4] 115)).alloc (.cells #[.slice A5 n5 c5, .slice A6 n6 c6] 115) = w5 at *
          have hlen := sums_len (l := scaled l s) (P := 60) (by have := HP.out.2.2; omega) (by decide) (fun x hx => by
            have h := (HL.out.2.2 0 (by decide) (by decide)).2 x (by unfold atM; exact List.mem_append_left _ hx)
            exact ⟨h.1, by have := h.2; omega⟩)
          obtain ⟨S, hS⟩ : ∃ S, sumB (fun n => lgr n 60) (scaled l s) = S := ⟨_, rfl⟩
          rw [hS] at hlen HW
          have HSL : Sl _ := ⟨And.intro hS (And.intro (hlen _ (.inl rfl)) (And.intro (hlen _ (.inr (.inl rfl))) (And.intro (hlen _ (.inr (.inr (.inl rfl)))) (hlen _ (.inr (.inr (.inr rfl)))))))⟩
          clear hS hlen
          generalize w4.heap.size = g4 at *
          have HBX : Sl _ := ⟨HW.out.2.2.2⟩
          have HBW : Sl _ := ⟨HP.out.2.1.trans (HW.out.2.2.2.mono HP.out.2.1.size)⟩
          go_wp2_with fail
          go_loopw [14, 15] (fun s14 s15 wq => ∃ lo hi : Int, -1000000000000 ≤ lo ∧ lo < hi ∧ hi ≤ 1000000000001 ∧ s14 = .int .i64 lo ∧ s15 = .int .i64 hi ∧ Sl (0 ≤ sgn (atM l s den lo) ∧ sgn (atM l s den hi) < 0 ∧ RowKit.Below w5.heap.size w5 wq)) (fun s14 s15 _ => (RowKit.intOf s15 - RowKit.intOf s14).toNat)
          case atStart => exact ⟨_, _, by decide, by decide, by decide, rfl, rfl, ⟨by rw [HSS.out.2]; have := HGO.out.2; omega, by rw [HSS.out.1]; have := HGO.out.1; omega, Below.refl _ _⟩⟩
          case round =>
            obtain ⟨lo, hi, hl1, hl2, hl3, rfl, rfl, HQ⟩ := hrel
            have hBQ := HBW.out.trans (HQ.out.2.2.mono HBW.out.size)
            by_cases hgap : 1 < hi - lo
            · obtain ⟨hm1, hm2⟩ := half_between hgap
              obtain ⟨m, hm⟩ : ∃ m, (lo + hi).tdiv 2 = m := ⟨_, rfl⟩
              rw [hm] at hm1 hm2
              have hmb : -1000000000000 ≤ m ∧ m ≤ 1000000000001 := by omega
              obtain ⟨hmb1, hmb2⟩ := hmb
              have hab : (m * den).natAbs ≤ 1000000000001 * 1000 := by
                rw [Int.natAbs_mul]
                exact Nat.mul_le_mul (by omega) (by omega)
              obtain ⟨y, hy⟩ : ∃ y, m * den = y := ⟨_, rfl⟩
              obtain ⟨x, hx⟩ : ∃ x, -m * den = x := ⟨_, rfl⟩
              have hyx : y = -x := by rw [← hy, ← hx, Int.neg_mul, Int.neg_neg]
              rw [hy] at hab
              have hxb : -2000000000000000 ≤ x ∧ x ≤ 2000000000000000 := by omega
              have hyb : -2000000000000000 ≤ y ∧ y ≤ 2000000000000000 := by omega
              obtain ⟨hxb1, hxb2⟩ := hxb
              obtain ⟨hyb1, hyb2⟩ := hyb
              have hw1 : IntKind.i64.wrap (-m) = -m := by rw [IntKind.wrap_i64]; omega
              have hw2 : IntKind.i64.wrap x = x := by rw [IntKind.wrap_i64]; omega
              have hw3 : IntKind.i64.wrap y = y := by rw [IntKind.wrap_i64]; omega
              have hgs := sumB_two (scaled l s) x y hyx
              rw [HSL.out.1] at hgs
              have hatm : atM l s den m = scaled l s ++ [(2, x)] := by unfold atM; rw [hx]
              rw [← hatm] at hgs
              have HG : Sl _ := ⟨hgs⟩
              have hpx : (C.limbs (x.toNat * 2 ^ 60)).length ≤ 20 := C.len_le_pow (E := 120) (by
                have : x.toNat < 2 ^ 60 := by omega
                have e : (2 : Nat) ^ 120 = 2 ^ 60 * 2 ^ 60 := by decide
                rw [e]; exact Nat.mul_lt_mul_of_pos_right this (by decide)) (by decide)
              clear hgs hatm hyx hab
              go_upto_region 17 with (fail)
              have HS : Sl (∀ w' : World, RowKit.Below w5.heap.size w5 w' → w'.cell? ⟨g4, 0, none⟩ = some (.slice A3 n3 c3) ∧ w'.cell? ⟨g4, 1, none⟩ = some (.slice A4 n4 c4) ∧ w'.cell? ⟨g4 + 1, 0, none⟩ = some (.slice A5 n5 c5) ∧ w'.cell? ⟨g4 + 1, 1, none⟩ = some (.slice A6 n6 c6)) := ⟨fun w' h => by
                have e1 := HW.out.1.below h HW.out.1.lt
                have e2 := HW.out.2.1.below h HW.out.2.1.lt
                exact ⟨e1.cell 0, e1.cell 1, e2.cell 0, e2.cell 1⟩⟩
              have HMU : Sl _ := ⟨fun (W : World) (h : RowKit.Below w5.heap.size w5 W) => r4moved_any (.slice A3 n3 c3) (.slice A4 n4 c4) S.1.1 S.1.2 x W ((HW.out.2.2.1.below h).a) ((HW.out.2.2.1.below h).b) (by have := HSL.out.2.1; omega) (by have := HSL.out.2.2.1; omega) (by omega)⟩
              have HMD : Sl _ := ⟨fun (W : World) (h : RowKit.Below w5.heap.size w5 W) => r4moved_any (.slice A5 n5 c5) (.slice A6 n6 c6) S.2.1 S.2.2 y W ((HW.out.2.2.1.below h).c) ((HW.out.2.2.1.below h).d) (by have := HSL.out.2.2.2.1; omega) (by have := HSL.out.2.2.2.2; omega) (by omega)⟩
              have hpy : (C.limbs (y.toNat * 2 ^ 60)).length ≤ 20 := C.len_le_pow (E := 120) (by
                have : y.toNat < 2 ^ 60 := by omega
                have e : (2 : Nat) ^ 120 = 2 ^ 60 * 2 ^ 60 := by decide
                rw [e]; exact Nat.mul_lt_mul_of_pos_right this (by decide)) (by decide)
              have hatl := sums_len (l := atM l s den m) (P := 60) (by have := (HL.out.2.2 m hmb1 hmb2).1; exact this) (by decide) (fun z hz => by
                have h := (HL.out.2.2 m hmb1 hmb2).2 z hz
                exact ⟨h.1, by have := h.2; omega⟩)
              obtain ⟨G, hG⟩ : ∃ G, sumB (fun n => lgr n 60) (atM l s den m) = G := ⟨_, rfl⟩
              have hgG := HG.out
              rw [hG] at hgG hatl
              have HGL : Sl _ := ⟨And.intro (Nat.le_trans (hatl _ (.inl rfl)) (by decide : 100 ≤ 50000)) (And.intro (Nat.le_trans (hatl _ (.inr (.inl rfl))) (by decide : 100 ≤ 50000)) (And.intro (Nat.le_trans (hatl _ (.inr (.inr (.inl rfl)))) (by decide : 100 ≤ 50000)) (Nat.le_trans (hatl _ (.inr (.inr (.inr rfl)))) (by decide : 100 ≤ 50000))))⟩
              have HORD : Sl (∀ (W : World) (a b c d : Value), LN W a (S.1.1 + x.toNat * 2 ^ 60) → LN W b (S.1.2 + x.toNat * 2 ^ 60) → LN W c (S.2.1 + y.toNat * 2 ^ 60) → LN W d (S.2.2 + y.toNat * 2 ^ 60) → Calls Tryz.prog 91 #[.agg #[a, b], .agg #[c, d]] W fun e w' => e = .returned (.int .i64 (ordS G)) ∧ RowKit.Below W.heap.size W w') := ⟨fun W a b c d ha hb hc hd => r4order_any a b c d G W (by rw [hgG]; exact ⟨ha, hb, hc, hd⟩) HGL.out⟩
              have HGG : Sl _ := ⟨hG⟩
              clear hpx hpy hatl hG hgG HG
              have hs : RowKit.Below w5.heap.size w5 wr.drew := below_drewN HQ.out.2.2 1
              go_region_held3 (fun w' : World => w'.cell? ⟨g4, 0, none⟩ = some (.slice A3 n3 c3) ∧ w'.cell? ⟨g4, 1, none⟩ = some (.slice A4 n4 c4) ∧ w'.cell? ⟨g4 + 1, 0, none⟩ = some (.slice A5 n5 c5) ∧ w'.cell? ⟨g4 + 1, 1, none⟩ = some (.slice A6 n6 c6))
                (first | (refine HS.out _ ?_; assumption) | fail)
                (first
                  | (go_at_call 92; have hh := HMU.out _ hs; (with_reducible refine hh.mono ?_); rintro e wz ⟨⟨r1, r2, rfl, hu1, hu2⟩, hb⟩; (try have hd1 := hd1.below hb); (try have hd2 := hd2.below hb); have hs := hs.trans (hb.mono hs.size))
                  | (go_at_call 92; have hh := HMD.out _ hs; (with_reducible refine hh.mono ?_); rintro e wz ⟨⟨r3, r4, rfl, hd1, hd2⟩, hb⟩; (try have hu1 := hu1.below hb); (try have hu2 := hu2.below hb); have hs := hs.trans (hb.mono hs.size))
                  | (go_at_call 91; have hh := HORD.out _ _ _ _ _ hu1 hu2 hd1 hd2; (with_reducible refine hh.mono ?_); rintro e wz ⟨rfl, hb⟩; have hs := hs.trans (hb.mono hs.size))
                  | fail)
              all_goals (
                obtain ⟨sm, hsm⟩ : ∃ z, sgn (atM l s den m) = z := ⟨_, rfl⟩
                have hos := ord_sound (l := atM l s den m) (fun z hz => ((HL.out.2.2 m hmb1 hmb2).2 z hz).1) 60
                rw [HGG.out, hsm] at hos
                have HSM2 : Sl _ := ⟨hsm⟩
                have HHS : Sl _ := ⟨hs⟩
                have HXM := HEX.out wz m hmb1 hmb2 ((HBX.out).trans (hs.mono HBX.out.size))
                rw [hsm] at HXM
                have HXS : Sl _ := ⟨HXM⟩
                obtain ⟨kq, hkq⟩ : ∃ z, ordS G = z := ⟨_, rfl⟩
                rw [hkq] at hos ⊢
                clear hsm hs HXM hkq HS HMU HMD HORD HGL HGG hu1 hu2 hd1 hd2 hb hBQ
                by_cases hk0 : kq = 0
                · subst hk0
                  clear hos
                  go_wp2_with fail
                  refine HXS.out.mono ?_; rintro e wy ⟨rfl, hby⟩
                  have HY : Sl _ := ⟨HHS.out.trans (hby.mono HHS.out.size)⟩
                  clear hby HXS HHS
                  by_cases hge : 0 ≤ sm
                  · have HGE : Sl _ := ⟨hge⟩
                    go_wp2_with fail
                    exact ⟨⟨m, hi, hmb1, hm2, hl3, rfl, rfl, ⟨by rw [HSM2.out]; exact HGE.out, HQ.out.2.1, HY.out⟩⟩, by simp [RowKit.intOf]; omega⟩
                  · have HGE : Sl _ := ⟨hge⟩
                    go_wp2_with fail
                    exact ⟨⟨lo, m, hl1, hm1, hmb2, rfl, rfl, ⟨HQ.out.1, by rw [HSM2.out]; have := HGE.out; omega, HY.out⟩⟩, by simp [RowKit.intOf]; omega⟩
                · have hkz : (kq == 0) = false := by rw [beq_eq_false_iff_ne]; exact hk0
                  obtain rfl : kq = sm := hos.1 hk0
                  clear hos hk0 HXS
                  by_cases hge : 0 ≤ kq
                  · have HGE : Sl _ := ⟨hge⟩
                    go_wp2_with fail
                    exact ⟨⟨m, hi, hmb1, hm2, hl3, rfl, rfl, ⟨by rw [HSM2.out]; exact HGE.out, HQ.out.2.1, HHS.out⟩⟩, by simp [RowKit.intOf]; omega⟩
                  · have HGE : Sl _ := ⟨hge⟩
                    go_wp2_with fail
                    exact ⟨⟨lo, m, hl1, hm1, hmb2, rfl, rfl, ⟨HQ.out.1, by rw [HSM2.out]; have := HGE.out; omega, HHS.out⟩⟩, by simp [RowKit.intOf]; omega⟩
)
            · have hhi : hi = lo + 1 := by omega
              subst hhi
              obtain ⟨sl, hsl⟩ : ∃ z, sgn (atM l s den lo) = z := ⟨_, rfl⟩
              have HXM := HEX.out wr lo (by omega) (by omega) ((HBX.out).trans (HQ.out.2.2.mono HBX.out.size))
              rw [hsl] at HXM
              have HXS : Sl _ := ⟨HXM⟩
              have HF : Sl (FloorRes l s den (fun m => sgn (atM l s den m)) (.returned (.tuple #[.int .i64 lo, .bool (decide (sl = 0)), .int .i64 0]))) := ⟨by
                unfold FloorRes
                simp only []
                rw [HSS.out.1, HSS.out.2, if_neg (by have := HGO.out.1; have := HGO.out.2; omega)]
                refine ⟨lo, by omega, by omega, HQ.out.1, HQ.out.2.1, ?_⟩
                have : decide (sl = 0) = decide (up (atM l s den lo) = down (atM l s den lo)) := by
                  rw [← hsl]
                  by_cases h : up (atM l s den lo) = down (atM l s den lo)
                  · rw [sgn_one h, decide_eq_true h]; rfl
                  · rw [decide_eq_false h, decide_eq_false]
                    unfold sgn
                    split
                    · decide
                    · rw [if_pos (by omega)]; decide
                rw [this]⟩
              clear HXM hsl
              by_cases hz : sl = 0
              · subst hz
                have HF2 : Sl _ := ⟨HF.out⟩
                go_wp2_with fail
                refine HXS.out.mono ?_; rintro e wy ⟨rfl, hby⟩
                go_wp2_with fail
                go_ret3
                exact ⟨HF.out, hBQ.trans (hby.mono hBQ.size)⟩
              · have hzz : (sl == 0) = false := by rw [beq_eq_false_iff_ne]; exact hz
                rw [decide_eq_false hz] at HF
                go_wp2_with fail
                refine HXS.out.mono ?_; rintro e wy ⟨rfl, hby⟩
                go_wp2_with fail
                go_ret3
                exact ⟨HF.out, hBQ.trans (hby.mono hBQ.size)⟩
end Go.Proofs.YtmcoadmnkelkkaaGreatDoor
