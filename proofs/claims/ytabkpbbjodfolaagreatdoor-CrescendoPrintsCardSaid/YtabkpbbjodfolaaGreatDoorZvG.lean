/- Package spec: first over divisions, ranks, parts, couplers, of any elements. (Printed by genckd.py.) -/
import Derived.Test.YtabkpbbjodfolaaGreatDoorZvF
namespace Go.Proofs.YtabkpbbjodfolaaGreatDoor
set_option linter.unusedSimpArgs false
open Go.RowKit
set_option linter.unusedVariables false
set_option maxHeartbeats 1600000 in
set_option maxRecDepth 100000 in
theorem first_dv (A : Option Addr) (n c : Nat) (L : List DvV) (q : Value) (E : Keys → DvV → Int) (G : Keys → DvV → Keys) (P : Nat → Keys → World → Prop) (w : World) (l0 : Keys) (hn : n ≤ 100000)
    (hB : ∀ k l W, P k l W → RowG W A n 3 DvV.cells L) (hA : ∀ k l W o, P k l W → P k l (W.alloc o))
    (hF : ∀ k l W x, L[k]? = some x → P k l W → Calls Tryz.prog 97 #[q, .agg #[.string x.nm, .int .i64 x.lo, .int .i64 x.hi]] W fun e w' => e = .returned (.int .i64 (E l x)) ∧ P (k + 1) (G l x) w') (hP : P 0 l0 w) :
    Calls Tryz.prog 96 #[.slice A n c, .func (.func 97) #[q] #[]] w fun e w' => (∃ i : Nat, i ≤ n ∧ e = .returned (.tuple #[.int .i64 (i : Int), .int .i64 (runE E G L l0).1])) ∧ ∃ k, k ≤ n ∧ P k (runE E G L l0).2 w' := by
  have HB : Sl _ := ⟨hB⟩; have HA : Sl _ := ⟨hA⟩; have HF : Sl _ := ⟨hF⟩; have HP : Sl _ := ⟨hP⟩; have HN : Sl (L.length = n) := ⟨(hB 0 l0 w hP).len⟩; clear hB hA hF hP; obtain ⟨R, hR⟩ : ∃ R, runE E G L l0 = R := ⟨_, rfl⟩; rw [hR]; have HR : Sl _ := ⟨hR⟩; clear hR; have hrun : ∀ (args : Array Value) (w : World), (callFunc 97 args).run Tryz.prog w = .ok (.enter 97 args) w := fun a w => by go_simp
  go_enter Tryz.func96, Tryz.ntmps96; go_wp2_with fail
  go_loopw [11] (fun s11 wr => ∃ (k : Nat) (l : Keys), k ≤ n ∧ s11 = .int .i64 k ∧ Sl (P k l wr) ∧ Sl (runE E G (L.drop k) l = R)) (fun s11 _ => n - (RowKit.intOf s11).toNat)
  case atStart => exact ⟨0, l0, Nat.zero_le _, rfl, HP, HR⟩
  case round =>
    obtain ⟨k, l, hk, rfl, HPK, HRK⟩ := hrel
    by_cases hkn : k < n
    · have hkI : decide ((k : Int) < (n : Int)) = true := decide_eq_true (by omega); have hkI2 : (k : Int) < (n : Int) := (by omega); have X := HB.out k l wr HPK.out; obtain ⟨gb, o, x, rfl, hgb, hx, hra⟩ := X.at_ (by omega) hkn; have HRX := runE_drop (f := E) (g := G) l hx; rw [HRK.out] at HRX; have HC : Sl _ := ⟨HF.out k l _ x hx (HA.out k l wr (.cells #[.string x.nm, .int .i64 x.lo, .int .i64 x.hi] 98) HPK.out)⟩; have x0 := hra 0 _ rfl; have x1 := hra 1 _ rfl; have x2 := hra 2 _ rfl; rw [Nat.add_zero] at x0; clear hra X hx; obtain ⟨v0, v1, v2⟩ := x; simp only [] at x0 x1 x2 HC HRX; obtain ⟨z, hz⟩ : ∃ z, E l ⟨v0, v1, v2⟩ = z := ⟨_, rfl⟩; obtain ⟨l2, hl2⟩ : ∃ l2, G l ⟨v0, v1, v2⟩ = l2 := ⟨_, rfl⟩; rw [hz, hl2] at HRX; rw [hz, hl2] at HC; have HX : Sl _ := ⟨HRX⟩; clear hz hl2 HRX
      by_cases hz0 : z = 0
      · subst hz0; rw [if_pos rfl] at HX; go_wp2_with fail; refine HC.out.mono ?_; rintro e w1 ⟨rfl, hp1⟩; have HP1 : Sl _ := ⟨hp1⟩; clear hp1; go_wp2_with fail; exact ⟨⟨k + 1, l2, by omega, by go_num, HP1, ⟨HX.out.symm⟩⟩, by simp [RowKit.intOf]; omega⟩
      · rw [if_neg hz0] at HX; have q0 : (z != 0) = true := (by rw [bne_iff_ne]; exact hz0); have HKN : Sl (k + 1 ≤ n) := ⟨hkn⟩; clear hz0; go_wp2_with fail; refine HC.out.mono ?_; rintro e w1 ⟨rfl, hp1⟩; have HP1 : Sl _ := ⟨hp1⟩; clear hp1; go_wp2_with fail
        (try simp only [Exit.inBlock, Exit.then])
        go_ret2; exact ⟨⟨k, Nat.le_of_succ_le HKN.out, by rw [HX.out]; rfl⟩, k + 1, HKN.out, by rw [HX.out]; exact HP1.out⟩
    · obtain rfl : k = n := (by omega); have HX : Sl (R = (0, l)) := ⟨by rw [← HRK.out, ← HN.out, List.drop_length, runE]⟩; go_wp2_with fail; go_ret2; exact ⟨⟨0, Nat.zero_le _, by rw [HX.out]; rfl⟩, _, Nat.le_refl _, by rw [HX.out]; exact HPK.out⟩
set_option maxHeartbeats 1600000 in
set_option maxRecDepth 100000 in
theorem first_rn (A : Option Addr) (n c : Nat) (L : List RnV) (q : Value) (E : Keys → RnV → Int) (G : Keys → RnV → Keys) (P : Nat → Keys → World → Prop) (w : World) (l0 : Keys) (hn : n ≤ 100000)
    (hB : ∀ k l W, P k l W → RowG W A n 6 RnV.cells L) (hA : ∀ k l W o, P k l W → P k l (W.alloc o))
    (hF : ∀ k l W x, L[k]? = some x → P k l W → Calls Tryz.prog 99 #[q, .agg #[.string x.nm, .int .i64 x.kd, .int .i64 x.fn, .int .i64 x.fd, .int .i64 x.lo, .int .i64 x.ct]] W fun e w' => e = .returned (.int .i64 (E l x)) ∧ P (k + 1) (G l x) w') (hP : P 0 l0 w) :
    Calls Tryz.prog 98 #[.slice A n c, .func (.func 99) #[q] #[]] w fun e w' => (∃ i : Nat, i ≤ n ∧ e = .returned (.tuple #[.int .i64 (i : Int), .int .i64 (runE E G L l0).1])) ∧ ∃ k, k ≤ n ∧ P k (runE E G L l0).2 w' := by
  have HB : Sl _ := ⟨hB⟩; have HA : Sl _ := ⟨hA⟩; have HF : Sl _ := ⟨hF⟩; have HP : Sl _ := ⟨hP⟩; have HN : Sl (L.length = n) := ⟨(hB 0 l0 w hP).len⟩; clear hB hA hF hP; obtain ⟨R, hR⟩ : ∃ R, runE E G L l0 = R := ⟨_, rfl⟩; rw [hR]; have HR : Sl _ := ⟨hR⟩; clear hR; have hrun : ∀ (args : Array Value) (w : World), (callFunc 99 args).run Tryz.prog w = .ok (.enter 99 args) w := fun a w => by go_simp
  go_enter Tryz.func98, Tryz.ntmps98; go_wp2_with fail
  go_loopw [11] (fun s11 wr => ∃ (k : Nat) (l : Keys), k ≤ n ∧ s11 = .int .i64 k ∧ Sl (P k l wr) ∧ Sl (runE E G (L.drop k) l = R)) (fun s11 _ => n - (RowKit.intOf s11).toNat)
  case atStart => exact ⟨0, l0, Nat.zero_le _, rfl, HP, HR⟩
  case round =>
    obtain ⟨k, l, hk, rfl, HPK, HRK⟩ := hrel
    by_cases hkn : k < n
    · have hkI : decide ((k : Int) < (n : Int)) = true := decide_eq_true (by omega); have hkI2 : (k : Int) < (n : Int) := (by omega); have X := HB.out k l wr HPK.out; obtain ⟨gb, o, x, rfl, hgb, hx, hra⟩ := X.at_ (by omega) hkn; have HRX := runE_drop (f := E) (g := G) l hx; rw [HRK.out] at HRX; have HC : Sl _ := ⟨HF.out k l _ x hx (HA.out k l wr (.cells #[.string x.nm, .int .i64 x.kd, .int .i64 x.fn, .int .i64 x.fd, .int .i64 x.lo, .int .i64 x.ct] 100) HPK.out)⟩; have x0 := hra 0 _ rfl; have x1 := hra 1 _ rfl; have x2 := hra 2 _ rfl; have x3 := hra 3 _ rfl; have x4 := hra 4 _ rfl; have x5 := hra 5 _ rfl; rw [Nat.add_zero] at x0; clear hra X hx; obtain ⟨v0, v1, v2, v3, v4, v5⟩ := x; simp only [] at x0 x1 x2 x3 x4 x5 HC HRX; obtain ⟨z, hz⟩ : ∃ z, E l ⟨v0, v1, v2, v3, v4, v5⟩ = z := ⟨_, rfl⟩; obtain ⟨l2, hl2⟩ : ∃ l2, G l ⟨v0, v1, v2, v3, v4, v5⟩ = l2 := ⟨_, rfl⟩; rw [hz, hl2] at HRX; rw [hz, hl2] at HC; have HX : Sl _ := ⟨HRX⟩; clear hz hl2 HRX
      by_cases hz0 : z = 0
      · subst hz0; rw [if_pos rfl] at HX; go_wp2_with fail; refine HC.out.mono ?_; rintro e w1 ⟨rfl, hp1⟩; have HP1 : Sl _ := ⟨hp1⟩; clear hp1; go_wp2_with fail; exact ⟨⟨k + 1, l2, by omega, by go_num, HP1, ⟨HX.out.symm⟩⟩, by simp [RowKit.intOf]; omega⟩
      · rw [if_neg hz0] at HX; have q0 : (z != 0) = true := (by rw [bne_iff_ne]; exact hz0); have HKN : Sl (k + 1 ≤ n) := ⟨hkn⟩; clear hz0; go_wp2_with fail; refine HC.out.mono ?_; rintro e w1 ⟨rfl, hp1⟩; have HP1 : Sl _ := ⟨hp1⟩; clear hp1; go_wp2_with fail
        (try simp only [Exit.inBlock, Exit.then])
        go_ret2; exact ⟨⟨k, Nat.le_of_succ_le HKN.out, by rw [HX.out]; rfl⟩, k + 1, HKN.out, by rw [HX.out]; exact HP1.out⟩
    · obtain rfl : k = n := (by omega); have HX : Sl (R = (0, l)) := ⟨by rw [← HRK.out, ← HN.out, List.drop_length, runE]⟩; go_wp2_with fail; go_ret2; exact ⟨⟨0, Nat.zero_le _, by rw [HX.out]; rfl⟩, _, Nat.le_refl _, by rw [HX.out]; exact HPK.out⟩
set_option maxHeartbeats 1600000 in
set_option maxRecDepth 100000 in
theorem first_pr (A : Option Addr) (n c : Nat) (L : List PrV) (q1 q2 q3 : Value) (E : Keys → PrV → Int) (G : Keys → PrV → Keys) (P : Nat → Keys → World → Prop) (w : World) (l0 : Keys) (hn : n ≤ 100000)
    (hB : ∀ k l W, P k l W → RowG W A n 4 PrV.cells L) (hA : ∀ k l W o, P k l W → P k l (W.alloc o))
    (hF : ∀ k l W x, L[k]? = some x → P k l W → Calls Tryz.prog 101 #[.agg #[.int .i64 x.rk, .int .i64 x.sh, .int .i64 x.lo, .int .i64 x.hi], q1, q2, q3] W fun e w' => e = .returned (.int .i64 (E l x)) ∧ P (k + 1) (G l x) w') (hP : P 0 l0 w) :
    Calls Tryz.prog 103 #[.slice A n c, .func (.func 101) #[] #[q1, q2, q3]] w fun e w' => (∃ i : Nat, i ≤ n ∧ e = .returned (.tuple #[.int .i64 (i : Int), .int .i64 (runE E G L l0).1])) ∧ ∃ k, k ≤ n ∧ P k (runE E G L l0).2 w' := by
  have HB : Sl _ := ⟨hB⟩; have HA : Sl _ := ⟨hA⟩; have HF : Sl _ := ⟨hF⟩; have HP : Sl _ := ⟨hP⟩; have HN : Sl (L.length = n) := ⟨(hB 0 l0 w hP).len⟩; clear hB hA hF hP; obtain ⟨R, hR⟩ : ∃ R, runE E G L l0 = R := ⟨_, rfl⟩; rw [hR]; have HR : Sl _ := ⟨hR⟩; clear hR; have hrun : ∀ (args : Array Value) (w : World), (callFunc 101 args).run Tryz.prog w = .ok (.enter 101 args) w := fun a w => by go_simp
  go_enter Tryz.func103, Tryz.ntmps103; go_wp2_with fail
  go_loopw [11] (fun s11 wr => ∃ (k : Nat) (l : Keys), k ≤ n ∧ s11 = .int .i64 k ∧ Sl (P k l wr) ∧ Sl (runE E G (L.drop k) l = R)) (fun s11 _ => n - (RowKit.intOf s11).toNat)
  case atStart => exact ⟨0, l0, Nat.zero_le _, rfl, HP, HR⟩
  case round =>
    obtain ⟨k, l, hk, rfl, HPK, HRK⟩ := hrel
    by_cases hkn : k < n
    · have hkI : decide ((k : Int) < (n : Int)) = true := decide_eq_true (by omega); have hkI2 : (k : Int) < (n : Int) := (by omega); have X := HB.out k l wr HPK.out; obtain ⟨gb, o, x, rfl, hgb, hx, hra⟩ := X.at_ (by omega) hkn; have HRX := runE_drop (f := E) (g := G) l hx; rw [HRK.out] at HRX; have HC : Sl _ := ⟨HF.out k l _ x hx (HA.out k l wr (.cells #[.int .i64 x.rk, .int .i64 x.sh, .int .i64 x.lo, .int .i64 x.hi] 102) HPK.out)⟩; have x0 := hra 0 _ rfl; have x1 := hra 1 _ rfl; have x2 := hra 2 _ rfl; have x3 := hra 3 _ rfl; rw [Nat.add_zero] at x0; clear hra X hx; obtain ⟨v0, v1, v2, v3⟩ := x; simp only [] at x0 x1 x2 x3 HC HRX; obtain ⟨z, hz⟩ : ∃ z, E l ⟨v0, v1, v2, v3⟩ = z := ⟨_, rfl⟩; obtain ⟨l2, hl2⟩ : ∃ l2, G l ⟨v0, v1, v2, v3⟩ = l2 := ⟨_, rfl⟩; rw [hz, hl2] at HRX; rw [hz, hl2] at HC; have HX : Sl _ := ⟨HRX⟩; clear hz hl2 HRX
      by_cases hz0 : z = 0
      · subst hz0; rw [if_pos rfl] at HX; go_wp2_with fail; refine HC.out.mono ?_; rintro e w1 ⟨rfl, hp1⟩; have HP1 : Sl _ := ⟨hp1⟩; clear hp1; go_wp2_with fail; exact ⟨⟨k + 1, l2, by omega, by go_num, HP1, ⟨HX.out.symm⟩⟩, by simp [RowKit.intOf]; omega⟩
      · rw [if_neg hz0] at HX; have q0 : (z != 0) = true := (by rw [bne_iff_ne]; exact hz0); have HKN : Sl (k + 1 ≤ n) := ⟨hkn⟩; clear hz0; go_wp2_with fail; refine HC.out.mono ?_; rintro e w1 ⟨rfl, hp1⟩; have HP1 : Sl _ := ⟨hp1⟩; clear hp1; go_wp2_with fail
        (try simp only [Exit.inBlock, Exit.then])
        go_ret2; exact ⟨⟨k, Nat.le_of_succ_le HKN.out, by rw [HX.out]; rfl⟩, k + 1, HKN.out, by rw [HX.out]; exact HP1.out⟩
    · obtain rfl : k = n := (by omega); have HX : Sl (R = (0, l)) := ⟨by rw [← HRK.out, ← HN.out, List.drop_length, runE]⟩; go_wp2_with fail; go_ret2; exact ⟨⟨0, Nat.zero_le _, by rw [HX.out]; rfl⟩, _, Nat.le_refl _, by rw [HX.out]; exact HPK.out⟩
set_option maxHeartbeats 1600000 in
set_option maxRecDepth 100000 in
theorem first_cp (A : Option Addr) (n c : Nat) (L : List CpV) (q : Value) (E : Keys → CpV → Int) (G : Keys → CpV → Keys) (P : Nat → Keys → World → Prop) (w : World) (l0 : Keys) (hn : n ≤ 100000)
    (hB : ∀ k l W, P k l W → RowG W A n 6 CpV.cells L) (hA : ∀ k l W o, P k l W → P k l (W.alloc o))
    (hF : ∀ k l W x, L[k]? = some x → P k l W → Calls Tryz.prog 105 #[q, .agg #[.string x.nm, .int .i64 x.fr, .int .i64 x.tt, .int .i64 x.sh, .int .i64 x.on, .bool x.th]] W fun e w' => e = .returned (.int .i64 (E l x)) ∧ P (k + 1) (G l x) w') (hP : P 0 l0 w) :
    Calls Tryz.prog 104 #[.slice A n c, .func (.func 105) #[q] #[]] w fun e w' => (∃ i : Nat, i ≤ n ∧ e = .returned (.tuple #[.int .i64 (i : Int), .int .i64 (runE E G L l0).1])) ∧ ∃ k, k ≤ n ∧ P k (runE E G L l0).2 w' := by
  have HB : Sl _ := ⟨hB⟩; have HA : Sl _ := ⟨hA⟩; have HF : Sl _ := ⟨hF⟩; have HP : Sl _ := ⟨hP⟩; have HN : Sl (L.length = n) := ⟨(hB 0 l0 w hP).len⟩; clear hB hA hF hP; obtain ⟨R, hR⟩ : ∃ R, runE E G L l0 = R := ⟨_, rfl⟩; rw [hR]; have HR : Sl _ := ⟨hR⟩; clear hR; have hrun : ∀ (args : Array Value) (w : World), (callFunc 105 args).run Tryz.prog w = .ok (.enter 105 args) w := fun a w => by go_simp
  go_enter Tryz.func104, Tryz.ntmps104; go_wp2_with fail
  go_loopw [11] (fun s11 wr => ∃ (k : Nat) (l : Keys), k ≤ n ∧ s11 = .int .i64 k ∧ Sl (P k l wr) ∧ Sl (runE E G (L.drop k) l = R)) (fun s11 _ => n - (RowKit.intOf s11).toNat)
  case atStart => exact ⟨0, l0, Nat.zero_le _, rfl, HP, HR⟩
  case round =>
    obtain ⟨k, l, hk, rfl, HPK, HRK⟩ := hrel
    by_cases hkn : k < n
    · have hkI : decide ((k : Int) < (n : Int)) = true := decide_eq_true (by omega); have hkI2 : (k : Int) < (n : Int) := (by omega); have X := HB.out k l wr HPK.out; obtain ⟨gb, o, x, rfl, hgb, hx, hra⟩ := X.at_ (by omega) hkn; have HRX := runE_drop (f := E) (g := G) l hx; rw [HRK.out] at HRX; have HC : Sl _ := ⟨HF.out k l _ x hx (HA.out k l wr (.cells #[.string x.nm, .int .i64 x.fr, .int .i64 x.tt, .int .i64 x.sh, .int .i64 x.on, .bool x.th] 93) HPK.out)⟩; have x0 := hra 0 _ rfl; have x1 := hra 1 _ rfl; have x2 := hra 2 _ rfl; have x3 := hra 3 _ rfl; have x4 := hra 4 _ rfl; have x5 := hra 5 _ rfl; rw [Nat.add_zero] at x0; clear hra X hx; obtain ⟨v0, v1, v2, v3, v4, v5⟩ := x; simp only [] at x0 x1 x2 x3 x4 x5 HC HRX; obtain ⟨z, hz⟩ : ∃ z, E l ⟨v0, v1, v2, v3, v4, v5⟩ = z := ⟨_, rfl⟩; obtain ⟨l2, hl2⟩ : ∃ l2, G l ⟨v0, v1, v2, v3, v4, v5⟩ = l2 := ⟨_, rfl⟩; rw [hz, hl2] at HRX; rw [hz, hl2] at HC; have HX : Sl _ := ⟨HRX⟩; clear hz hl2 HRX
      by_cases hz0 : z = 0
      · subst hz0; rw [if_pos rfl] at HX; go_wp2_with fail; refine HC.out.mono ?_; rintro e w1 ⟨rfl, hp1⟩; have HP1 : Sl _ := ⟨hp1⟩; clear hp1; go_wp2_with fail; exact ⟨⟨k + 1, l2, by omega, by go_num, HP1, ⟨HX.out.symm⟩⟩, by simp [RowKit.intOf]; omega⟩
      · rw [if_neg hz0] at HX; have q0 : (z != 0) = true := (by rw [bne_iff_ne]; exact hz0); have HKN : Sl (k + 1 ≤ n) := ⟨hkn⟩; clear hz0; go_wp2_with fail; refine HC.out.mono ?_; rintro e w1 ⟨rfl, hp1⟩; have HP1 : Sl _ := ⟨hp1⟩; clear hp1; go_wp2_with fail
        (try simp only [Exit.inBlock, Exit.then])
        go_ret2; exact ⟨⟨k, Nat.le_of_succ_le HKN.out, by rw [HX.out]; rfl⟩, k + 1, HKN.out, by rw [HX.out]; exact HP1.out⟩
    · obtain rfl : k = n := (by omega); have HX : Sl (R = (0, l)) := ⟨by rw [← HRK.out, ← HN.out, List.drop_length, runE]⟩; go_wp2_with fail; go_ret2; exact ⟨⟨0, Nat.zero_le _, by rw [HX.out]; rfl⟩, _, Nat.le_refl _, by rw [HX.out]; exact HPK.out⟩
end Go.Proofs.YtabkpbbjodfolaaGreatDoor
