/- The law WideRoots returns true, where awake does. -/
import Derived.Test.YtgjbaamhpapeeaaDoorLawU
namespace Go.Proofs.YtgjbaamhpapeeaaDoor
open Go.RowKit
set_option linter.unusedVariables false
set_option linter.unusedSimpArgs false

theorem wf_u8 {z : Int} (h : (Lit.int .u8 z).wf = true) : 0 ≤ z ∧ z < 256 := by
  simp [Lit.wf, IntKind.min, IntKind.max, IntKind.signed, IntKind.bits] at h
  omega
theorem NatRes.arg {l : List Nat} {er : Int} {e : Ending} {w : World} (h : NatRes l er e w) {n : Nat} (hl : l.length = n) : ∃ A c, e = .returned (.tuple #[.slice A n c, .int .i64 er]) ∧ Arg w A n c l := by
  subst hl
  obtain ⟨A, c, rfl, h1, h2, h3⟩ := h
  exact ⟨A, c, rfl, h3, h1, h2⟩

set_option maxHeartbeats 3200000 in
set_option maxRecDepth 100000 in
theorem roots_main (HAW : Awake) (A : Option Addr) (n c a : Nat) (k s : Nat) (hk : k < 256) (hs : s < 256) (w : World) (HA : Sl (Arg w A n c (limbs a))) (hn : n ≤ 60) (HT : Sl (Tab10 w)) :
    Calls Tryd.prog 10 #[.slice A n c, .int .u8 k, .int .u8 s] w fun e w' => e = .returned (.bool true) ∧ Below w.heap.size w w' := by
  have hal : (limbs a).length ≤ 60 := by rw [HA.out.1.len]; exact hn
  have hnl : (limbs a).length = n := HA.out.1.len
  have HV : Sl _ := ⟨rValid_any A n c (limbs a) w HA.out.1 HA.out.2.1 HA.out.2.2⟩
  rw [validL_limbs (by omega)] at HV
  obtain ⟨g, hg⟩ : ∃ g, g = 1 + k % 64 := ⟨_, rfl⟩
  have hg1 : 1 ≤ g := by omega
  have hg2 : g ≤ 64 := by omega
  have hgm : (k : Int) % 64 = ((k % 64 : Nat) : Int) := by omega
  have hgt : (k : Int).tmod 64 = (g : Int) - 1 := by rw [Int.tmod_eq_emod_of_nonneg (by omega)]; omega
  have hgw : 1 + ((g : Int) - 1) = (g : Int) := by omega
  have hgi : (k : Int) % 64 = (g : Int) - 1 := by omega
  have HAL : Sl _ := ⟨hal⟩
  have HNL : Sl _ := ⟨hnl⟩
  have HG : Sl _ := ⟨hg⟩
  clear hal hnl hg hgm
  go_enter Tryd.func10, Tryd.ntmps10
  go_wp2_with fail
  refine HV.out.mono ?_; rintro e w' ⟨rfl, rfl⟩
  have hal5 : (limbs a).length ≤ 512 := Nat.le_trans HAL.out (by decide)
  have HAL5 : Sl _ := ⟨hal5⟩
  clear hal5
  go_wp2_with fail
  refine (Root_any A n c (limbs a) (g : Int) w HA.out).mono ?_; rintro e w1 ⟨⟨l, er, hr, hres⟩, hb1⟩
  obtain ⟨x, hx, rfl, rfl⟩ := hr.ok HAL5.out hg1 hg2
  have hxl : (limbs x).length ≤ 60 := Nat.le_trans (limbs_mono (root_le (k := g) (by omega) hx.le)) HAL.out
  have hql := next_len HAL.out hx.le hg2 (by omega)
  have hpl : (limbs (x ^ g)).length ≤ 60 := Nat.le_trans (limbs_mono hx.le) HAL.out
  have hzl : (limbs (x + 1)).length ≤ 61 := limbs_len_add hxl (Nat.le_trans (limbs_len_le (k := 1) (by decide)) (by decide))
  have l1 : (limbs 1).length ≤ 512 := Nat.le_trans (limbs_len_le (k := 1) (by decide)) (by decide)
  have S1 := plusS_fit (a := x) (b := 1) (by omega) l1 (by omega)
  have S2 := powS_fit (a := x) (k := g) (by omega) (by omega) (by omega)
  have S3 := powS_fit (a := x + 1) (k := g) (by omega) (by omega) (by omega)
  have S4 := cmpS_ok (a := x ^ g) (b := a) (by omega) HAL5.out
  have S5 := cmpS_ok (a := (x + 1) ^ g) (b := a) (by omega) HAL5.out
  have c1 : cmpN (x ^ g) a ≤ 0 := by
    have := hx.le
    unfold cmpN
    by_cases h : x ^ g < a
    · rw [if_pos h]; decide
    · rw [if_neg h, if_neg (by omega)]; decide
  rw [cmpN_gt hx.lt] at S5
  have hsl : (limbs (a * 2 ^ s)).length ≤ 512 := by
    have h1 := limbs_len_mul a (2 ^ s)
    have h2 : (limbs (2 ^ s)).length ≤ 8 := pow2_len (M := 8) (by omega)
    have h3 := HAL.out
    omega
  have S6 := shiftS_up (a := a) (k := s) HAL5.out (by omega) hsl
  have S7 := shiftS_back (a := a) (k := s) (by omega) hsl
  obtain ⟨A1, d1, rfl, hr1⟩ := hres.arg rfl
  have R1 : Sl _ := ⟨hr1⟩
  have HS1 : Sl _ := ⟨S1⟩
  have HS2 : Sl _ := ⟨S2⟩
  have HS3 : Sl _ := ⟨S3⟩
  have HS4 : Sl _ := ⟨S4⟩
  have HS5 : Sl _ := ⟨S5⟩
  have HS6 : Sl _ := ⟨S6⟩
  have HS7 : Sl _ := ⟨S7⟩
  generalize cmpN (x ^ g) a = cc at *
  have hof := Of_any 1 w1 (by decide)
  simp only [Int.natCast_one] at hof
  have HOF : Sl _ := ⟨hof⟩
  clear hr hres hr1 hx hxl hql hpl hzl l1 S1 S2 S3 S4 S5 S6 S7 hsl hof
  go_wp2_with fail
  refine HOF.out.mono ?_; rintro e w2 ⟨⟨A2, d2, rfl, k1, k2, k3⟩, hb2⟩
  have u2 := hb1.trans (hb2.mono hb1.size)
  have R12 : Sl _ := ⟨R1.out.below hb2⟩
  have C3 := Add_any A1 A2 _ _ d1 d2 (limbs x) (limbs 1) w2 R12.out ⟨k3, k1, k2⟩
  rw [HS1.out] at C3
  have HC3 : Sl _ := ⟨C3⟩
  clear k1 k2 k3 C3 HOF hb1 hb2 R1
  go_wp2_with fail
  refine HC3.out.mono ?_; rintro e w3 ⟨hr3, hb3⟩
  obtain ⟨A3, d3, hq3, ha3⟩ := hr3.arg rfl
  subst hq3
  clear hr3
  have u3 := u2.trans (hb3.mono u2.size)
  have R13 : Sl _ := ⟨R12.out.below hb3⟩
  have R33 : Sl _ := ⟨ha3⟩
  have C4 := Pow_any A1 _ d1 (limbs x) (g : Int) w3 R13.out
  rw [HS2.out] at C4
  have HC4 : Sl _ := ⟨C4⟩
  clear ha3 C4 HC3 hb3 u2 R12
  go_wp2_with fail
  refine HC4.out.mono ?_; rintro e w4 ⟨hr4, hb4⟩
  obtain ⟨A4, d4, hq4, ha4⟩ := hr4.arg rfl
  subst hq4
  clear hr4
  have u4 := u3.trans (hb4.mono u3.size)
  have R34 : Sl _ := ⟨R33.out.below hb4⟩
  have R44 : Sl _ := ⟨ha4⟩
  have C5 := Pow_any A3 _ d3 (limbs (x + 1)) (g : Int) w4 R34.out
  rw [HS3.out] at C5
  have HC5 : Sl _ := ⟨C5⟩
  clear ha4 C5 HC4 hb4 u3 R33 R13
  go_wp2_with fail
  refine HC5.out.mono ?_; rintro e w5 ⟨hr5, hb5⟩
  obtain ⟨A5, d5, hq5, ha5⟩ := hr5.arg rfl
  subst hq5
  clear hr5
  have u5 := u4.trans (hb5.mono u4.size)
  have R45 : Sl _ := ⟨R44.out.below hb5⟩
  have R55 : Sl _ := ⟨ha5⟩
  have C6 := Cmp_any A4 A _ n d4 c (limbs (x ^ g)) (limbs a) w5 R45.out (HA.out.below u5)
  rw [HS4.out] at C6
  have HC6 : Sl _ := ⟨C6⟩
  clear ha5 C6 HC5 hb5 u4 R44 R34
  go_wp2_with fail
  refine HC6.out.mono ?_; rintro e w6 ⟨rfl, hb6⟩
  have u6 := u5.trans (hb6.mono u5.size)
  have R56 : Sl _ := ⟨R55.out.below hb6⟩
  have C7 := Cmp_any A5 A _ n d5 c (limbs ((x + 1) ^ g)) (limbs a) w6 R56.out (HA.out.below u6)
  rw [HS5.out] at C7
  have HC7 : Sl _ := ⟨C7⟩
  clear C7 HC6 hb6 u5 R55 R45
  go_wp2_with fail
  refine HC7.out.mono ?_; rintro e w7 ⟨rfl, hb7⟩
  have u7 := u6.trans (hb7.mono u6.size)
  have C8 := Shift_any A n c (limbs a) (s : Int) w7 (HA.out.below u7)
  rw [HS6.out] at C8
  have HC8 : Sl _ := ⟨C8⟩
  clear C8 HC7 hb7 u6 R56
  go_wp2_with fail
  refine HC8.out.mono ?_; rintro e w8 ⟨hr8, hb8⟩
  obtain ⟨A8, d8, hq8, ha8⟩ := hr8.arg rfl
  subst hq8
  clear hr8
  have u8 := u7.trans (hb8.mono u7.size)
  have C9 := Shift_any A8 _ d8 (limbs (a * 2 ^ s)) (-(s : Int)) w8 ha8
  rw [HS7.out] at C9
  have HC9 : Sl _ := ⟨C9⟩
  clear ha8 C9 HC8 hb8 u7
  go_wp2_with fail
  refine HC9.out.mono ?_; rintro e w9 ⟨hr9, hb9⟩
  obtain ⟨A9, d9, hq9, ha9⟩ := hr9.arg HNL.out
  subst hq9
  clear hr9
  have u9 := u8.trans (hb9.mono u8.size)
  have C10 := same_any A9 A n n d9 c (limbs a) (limbs a) w9 ha9.1 (HA.out.below u9).1 (by omega) (by omega)
  rw [decide_eq_true rfl] at C10
  have HC10 : Sl _ := ⟨C10⟩
  clear ha9 C10 HC9 hb9 u8
  go_wp2_with fail
  refine HC10.out.mono ?_; rintro e w10 ⟨rfl, q, rfl⟩
  have u10 := below_drewN u9 q
  go_wp2_with fail
  refine (HAW _ (HT.out.below u10)).mono ?_; rintro e w11 ⟨rfl, hb11⟩
  go_wp2_with fail
  go_ret
  exact ⟨rfl, u10.trans (hb11.mono u10.size)⟩

set_option maxHeartbeats 1600000 in
theorem roots_any (HAW : Awake) (A : Option Addr) (n c : Nat) (la : List Nat) (k : Nat) (hk : k < 256) (s : Nat) (hs : s < 256) (w : World) (ha : Arg w A n c la) (ht : Tab10 w) :
    Calls Tryd.prog 10 #[.slice A n c, .int .u8 k, .int .u8 s] w fun e w' => e = .returned (.bool true) ∧ Below w.heap.size w w' := by
  have HT : Sl _ := ⟨ht⟩
  have HV : Sl _ := ⟨rValid_any A n c la w ha.1 ha.2.1 ha.2.2⟩
  rcases hv : validL la with _ | _
  · rw [hv] at HV
    clear hv ha ht
    go_enter Tryd.func10, Tryd.ntmps10
    go_wp2_with fail
    refine HV.out.mono ?_; rintro e w' ⟨rfl, rfl⟩
    go_wp2_with fail
    refine (HAW w HT.out).mono ?_; rintro e w1 ⟨rfl, hb1⟩
    go_wp2_with fail
    go_ret
    exact ⟨rfl, hb1⟩
  · by_cases h6 : n ≤ 60
    · have e := ((validL_iff ha.1.2).1 hv).1
      rw [e] at ha
      exact roots_main HAW A n c (valOf la) k s hk hs w ⟨ha⟩ h6 HT
    · rw [hv] at HV
      have hm := ha.2
      unfold maxLen at hm
      obtain ⟨m1, m2⟩ := hm
      clear hv ha ht
      go_enter Tryd.func10, Tryd.ntmps10
      go_wp2_with fail
      refine HV.out.mono ?_; rintro e w' ⟨rfl, rfl⟩
      go_wp2_with fail
      refine (HAW w HT.out).mono ?_; rintro e w1 ⟨rfl, hb1⟩
      go_wp2_with fail
      go_ret
      exact ⟨rfl, hb1⟩
end Go.Proofs.YtgjbaamhpapeeaaDoor
