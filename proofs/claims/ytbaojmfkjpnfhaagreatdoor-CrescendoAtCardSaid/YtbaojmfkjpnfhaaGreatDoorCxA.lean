/- Package crescendo: registrations: plain, in memory; drawn, registration. -/
import Derived.Test.YtbaojmfkjpnfhaaGreatDoorCkG
namespace Go.Proofs.YtbaojmfkjpnfhaaGreatDoor
set_option linter.unusedSimpArgs false
open Go.RowKit
set_option linter.unusedVariables false

/-- the first that is not 0 among f k, f (k + 1), .. -/
def fstE (f : Nat → Int) : Nat → Nat → Int
  | 0, _ => 0
  | n+1, k => if f k = 0 then fstE f n (k + 1) else f k
theorem fstE_zero {f : Nat → Int} : ∀ {n k : Nat}, fstE f n k = 0 → ∀ j, k ≤ j → j < k + n → f j = 0
  | 0, k, _, j, h1, h2 => by omega
  | n+1, k, h, j, h1, h2 => by
    rw [fstE] at h
    by_cases hf : f k = 0
    · rw [if_pos hf] at h
      rcases Nat.lt_or_ge k j with h3 | h3
      · exact fstE_zero h j h3 (by omega)
      · rw [show j = k by omega]; exact hf
    · rw [if_neg hf] at h
      exact absurd h hf
theorem fstE_all {f : Nat → Int} : ∀ {n k : Nat}, (∀ j, k ≤ j → j < k + n → f j = 0) → fstE f n k = 0
  | 0, k, _ => rfl
  | n+1, k, h => by
    rw [fstE, if_pos (h k (Nat.le_refl _) (by omega))]
    exact fstE_all fun j h1 h2 => h j (by omega) (by omega)
/-- what is wrong with the number at k -/
def drwK (l : List Int) (many : Int) (k : Nat) : Int := if gt l k < 0 ∨ many ≤ gt l k then 4 else if 0 < k ∧ gt l k ≤ gt l (k - 1) then 8 else 0
/-- the error of indices -/
def drwE (l : List Int) (many : Int) : Int := fstE (drwK l many) l.length 0
theorem drwE_ok {l : List Int} {many : Int} (h : drwE l many = 0) {k : Nat} (hk : k < l.length) : (0 ≤ gt l k ∧ gt l k < many) ∧ ∀ i, i < k → gt l i < gt l k := by
  have h0 : ∀ j, j < l.length → drwK l many j = 0 := fun j hj => fstE_zero h j (Nat.zero_le _) (by omega)
  have hb : ∀ j, j < l.length → (0 ≤ gt l j ∧ gt l j < many) ∧ (0 < j → gt l (j - 1) < gt l j) := fun j hj => by
    have := h0 j hj
    unfold drwK at this
    split at this
    · cases this
    · split at this
      · cases this
      · omega
  refine ⟨(hb k hk).1, fun i hi => ?_⟩
  have key : ∀ d i, i + (d + 1) = k → gt l i < gt l k := fun d => by
    induction d with
    | zero =>
      intro i hi
      have := (hb k hk).2 (by omega)
      rw [show k - 1 = i by omega] at this
      exact this
    | succ d ih =>
      intro i hi
      have h1 := ih (i + 1) (by omega)
      have h2 := (hb (i + 1) (by omega)).2 (by omega)
      rw [show i + 1 - 1 = i by omega] at h2
      omega
  exact key (k - i - 1) i (by omega)
set_option maxHeartbeats 1600000 in
set_option maxRecDepth 100000 in
theorem drawn_any (A : Option Addr) (n c : Nat) (l : List Int) (many : Nat) (w : World) (hl : II w A n l) (hn : n ≤ maxLen) (hm : many ≤ maxLen) :
    Calls Tryz.prog 119 #[.slice A n c, .int .i64 (many : Int)] w fun e w' => e = .returned (.int .i64 (drwE l many)) ∧ w' = w := by
  have HL : Sl _ := ⟨hl⟩
  have HLN : Sl _ := ⟨hl.1⟩
  obtain ⟨r, hr⟩ : ∃ r, drwE l (many : Int) = r := ⟨_, rfl⟩
  have HR : Sl (fstE (drwK l (many : Int)) n 0 = r) := ⟨by rw [← hr, ← hl.1]; rfl⟩
  rw [hr]
  unfold maxLen at hn hm
  clear hl hr
  go_enter Tryz.func119, Tryz.ntmps119
  go_wp2_with fail
  go_loop [9] (fun s9 => ∃ k : Nat, k ≤ n ∧ s9 = .int .i64 k ∧ Sl (fstE (drwK l (many : Int)) (n - k) k = r)) (fun s9 => n - (RowKit.intOf s9).toNat)
  case atStart => exact ⟨0, Nat.zero_le _, rfl, HR⟩
  case round =>
    obtain ⟨k, hk, rfl, HK⟩ := hrel
    by_cases hkn : k < n
    · have hkI : decide ((k : Int) < (n : Int)) = true := decide_eq_true (by omega)
      have hkI2 : (k : Int) < (n : Int) := by omega
      obtain ⟨ad, rfl, hab, c1⟩ := HL.out.cell (j := k) hkn
      have HSTEP : Sl (r = if drwK l (many : Int) k = 0 then fstE (drwK l (many : Int)) (n - (k + 1)) (k + 1) else drwK l (many : Int) k) := ⟨by rw [← HK.out, show n - k = (n - (k + 1)) + 1 by omega]; rfl⟩
      have HDK : Sl (drwK l (many : Int) k = if gt l k < 0 ∨ (many : Int) ≤ gt l k then 4 else if 0 < k ∧ gt l k ≤ gt l (k - 1) then 8 else 0) := ⟨rfl⟩
      obtain ⟨x, hx⟩ : ∃ x, gt l k = x := ⟨_, rfl⟩
      rw [hx] at c1 HDK
      have HX : Sl _ := ⟨hx⟩
      clear hx
      by_cases q1 : x < 0
      · have q1d : decide (x < 0) = true := decide_eq_true q1
        have HD : drwK l (many : Int) k = 4 := by rw [HDK.out]; exact if_pos (.inl q1)
        have HV : Sl (r = 4) := ⟨by rw [HSTEP.out, HD]; rfl⟩
        clear HD
        go_wp2_with fail
        (try simp only [Exit.inBlock, Exit.then])
        go_ret
        exact ⟨by rw [HV.out]; rfl, rfl⟩
      · have q1d : decide (x < 0) = false := decide_eq_false q1
        by_cases q2 : (many : Int) ≤ x
        · have q2d : decide ((many : Int) ≤ x) = true := decide_eq_true q2
          have HD : drwK l (many : Int) k = 4 := by rw [HDK.out]; exact if_pos (.inr q2)
          have HV : Sl (r = 4) := ⟨by rw [HSTEP.out, HD]; rfl⟩
          clear HD
          go_wp2_with fail
          (try simp only [Exit.inBlock, Exit.then])
          go_ret
          exact ⟨by rw [HV.out]; rfl, rfl⟩
        · have q2d : decide ((many : Int) ≤ x) = false := decide_eq_false q2
          by_cases hk0 : k = 0
          · have hgt : decide ((0 : Int) < (k : Int)) = false := decide_eq_false (by omega)
            have hgt2 : ¬ (0 : Int) < (k : Int) := by omega
            have hgt3 : ¬ 0 < k := by omega
            have hgt4 : decide (0 < k) = false := decide_eq_false hgt3
            have HV : Sl (fstE (drwK l (many : Int)) (n - (k + 1)) (k + 1) = r) := ⟨by rw [HSTEP.out, if_pos (by rw [HDK.out, if_neg (by omega), if_neg (by omega)])]⟩
            clear hk0
            go_wp2_with fail
            exact ⟨⟨k + 1, by omega, by go_num, HV⟩, by simp [RowKit.intOf]; omega⟩
          · obtain ⟨i, hi⟩ : ∃ i, i + 1 = k := ⟨k - 1, by omega⟩
            obtain ⟨ad', hA, _, c0⟩ := HL.out.cell (j := i) (by omega)
            injection hA with hA
            subst hA
            obtain ⟨y, hy⟩ : ∃ y, gt l i = y := ⟨_, rfl⟩
            rw [show k - 1 = i by omega, hy] at HDK
            rw [hy] at c0
            have hij : (k : Int) - 1 = (i : Int) := by omega
            have hgt : decide ((0 : Int) < (k : Int)) = true := decide_eq_true (by omega)
            have hgt2 : (0 : Int) < (k : Int) := by omega
            have hgt3 : 0 < k := by omega
            have hgt4 : decide (0 < k) = true := decide_eq_true hgt3
            have hiN : (i : Int) < (n : Int) := by omega
            have hiN2 : i < n := by omega
            have hiw : IntKind.i64.wrap (i : Int) = (i : Int) := by rw [IntKind.wrap_i64]; omega
            clear hi hy hk0
            by_cases q3 : x ≤ y
            · have q3d : decide (x ≤ y) = true := decide_eq_true q3
              have HD : drwK l (many : Int) k = 8 := by rw [HDK.out, if_neg (by omega)]; exact if_pos ⟨hgt3, q3⟩
              have HV : Sl (r = 8) := ⟨by rw [HSTEP.out, HD]; rfl⟩
              clear HD
              go_wp2_with fail
              (try simp only [Exit.inBlock, Exit.then])
              go_ret
              exact ⟨by rw [HV.out]; rfl, rfl⟩
            · have q3d : decide (x ≤ y) = false := decide_eq_false q3
              have HV : Sl (fstE (drwK l (many : Int)) (n - (k + 1)) (k + 1) = r) := ⟨by rw [HSTEP.out, if_pos (by rw [HDK.out, if_neg (by omega), if_neg (by omega)])]⟩
              go_wp2_with fail
              exact ⟨⟨k + 1, by omega, by go_num, HV⟩, by simp [RowKit.intOf]; omega⟩
    · obtain rfl : k = n := by omega
      have HV : Sl (r = 0) := ⟨by rw [← HK.out, Nat.sub_self]; rfl⟩
      go_wp2_with fail
      go_ret
      exact ⟨by rw [HV.out]; rfl, rfl⟩
/-- a registration, with the places of its rows -/
structure RgV where
  A : Option Addr
  n : Nat
  c : Nat
  l : List Int
  B : Option Addr
  m : Nat
  d : Nat
  k : List Int
def RgV.cells (r : RgV) : List Value := [.slice r.A r.n r.c, .slice r.B r.m r.d]
structure RgM (w : World) (r : RgV) : Prop where
  s : II w r.A r.n r.l
  c : II w r.B r.m r.k
  sc : r.n ≤ r.c ∧ r.c ≤ maxLen
  cc : r.m ≤ r.d ∧ r.d ≤ maxLen
theorem RgM.below {w w' : World} {r : RgV} (h : RgM w r) (hb : Below w.heap.size w w') : RgM w' r := ⟨h.s.below hb, h.c.below hb, h.sc, h.cc⟩
/-- the error of a registration -/
def regE (o : SpO) (r : RgV) : Int := if drwE r.l (o.n3 : Int) = 0 then drwE r.k (o.n4 : Int) else drwE r.l (o.n3 : Int)
set_option maxHeartbeats 1600000 in
set_option maxRecDepth 100000 in
theorem registration_any (o : SpO) (r : RgV) (w : World) (hr : RgM w r) (hF : SpF o) : Calls Tryz.prog 57 #[.agg #[.slice o.A1 o.n1 o.c1, .slice o.A2 o.n2 o.c2, .slice o.A3 o.n3 o.c3, .slice o.A4 o.n4 o.c4], .agg #[.slice r.A r.n r.c, .slice r.B r.m r.d]] w fun e w' => e = .returned (.int .i64 (regE o r)) ∧ Below w.heap.size w w' := by
  have hb1 := (Below.refl w.heap.size w).alloc (Nat.le_refl _) (.cells #[.slice o.A1 o.n1 o.c1, .slice o.A2 o.n2 o.c2, .slice o.A3 o.n3 o.c3, .slice o.A4 o.n4 o.c4] 27)
  have hb2 := hb1.alloc hb1.size (.cells #[.slice r.A r.n r.c, .slice r.B r.m r.d] 33)
  have HB : Sl _ := ⟨hb2⟩
  have H1 : Sl _ := ⟨fun (W : World) (hW : Below w.heap.size w W) => drawn_any r.A r.n r.c r.l o.n3 W (hr.s.below hW) (Nat.le_trans hr.sc.1 hr.sc.2) (Nat.le_trans hF.cap.2.2.1.1 hF.cap.2.2.1.2)⟩
  have H2 : Sl _ := ⟨fun (W : World) (hW : Below w.heap.size w W) => drawn_any r.B r.m r.d r.k o.n4 W (hr.c.below hW) (Nat.le_trans hr.cc.1 hr.cc.2) (Nat.le_trans hF.cap.2.2.2.1 hF.cap.2.2.2.2)⟩
  have HE : Sl (regE o r = if drwE r.l (o.n3 : Int) = 0 then drwE r.k (o.n4 : Int) else drwE r.l (o.n3 : Int)) := ⟨rfl⟩
  obtain ⟨a, ha⟩ : ∃ a, drwE r.l (o.n3 : Int) = a := ⟨_, rfl⟩
  obtain ⟨b, hb⟩ : ∃ b, drwE r.k (o.n4 : Int) = b := ⟨_, rfl⟩
  rw [ha] at HE H1
  rw [hb] at HE H2
  obtain ⟨v, hv⟩ : ∃ v, regE o r = v := ⟨_, rfl⟩
  rw [hv] at HE ⊢
  have hcap := hF.cap
  unfold maxLen at hcap
  have HCAP : Sl _ := ⟨hcap⟩
  clear hb1 hb2 hr hF ha hb hv hcap
  by_cases ha0 : a = 0
  · subst ha0
    rw [if_pos rfl] at HE
    go_enter Tryz.func57, Tryz.ntmps57
    go_wp2_with fail
    refine (H1.out _ HB.out).mono ?_; rintro e w1 ⟨rfl, rfl⟩
    go_wp2_with fail
    refine (H2.out _ HB.out).mono ?_; rintro e w1 ⟨rfl, rfl⟩
    go_wp2_with fail
    go_ret
    exact ⟨by rw [HE.out]; rfl, HB.out⟩
  · rw [if_neg ha0] at HE
    have q0 : (a != 0) = true := by rw [bne_iff_ne]; exact ha0
    clear ha0
    go_enter Tryz.func57, Tryz.ntmps57
    go_wp2_with fail
    refine (H1.out _ HB.out).mono ?_; rintro e w1 ⟨rfl, rfl⟩
    go_wp2_with fail
    go_ret
    exact ⟨by rw [HE.out]; rfl, HB.out⟩
end Go.Proofs.YtbaojmfkjpnfhaaGreatDoor
