/- Package crescendo: registrations: plain, in memory; drawn, registration. -/
import Derived.Test.YtabkpbbjodfolaaGreatDoorZvJ
import Derived.Test.YtabkpbbjodfolaaGreatDoorZvB
import Derived.Test.YtabkpbbjodfolaaGreatDoorShelD
namespace Go.Proofs.YtabkpbbjodfolaaGreatDoor
set_option linter.unusedSimpArgs false
open Go.RowKit
set_option linter.unusedVariables false
def fstE (f : Nat → Int) : Nat → Nat → Int
  | 0, _ => 0
  | n+1, k => if f k = 0 then fstE f n (k + 1) else f k
theorem fstE_zero {f : Nat → Int} : ∀ {n k : Nat}, fstE f n k = 0 → ∀ j, k ≤ j → j < k + n → f j = 0
  | 0, k, _, j, h1, h2 => by omega
  | n+1, k, h, j, h1, h2 => by
    rw [fstE] at h
    by_cases hf : f k = 0
    · rw [if_pos hf] at h; rcases Nat.lt_or_ge k j with h3 | h3
      · exact fstE_zero h j h3 (by omega)
      · rw [show j = k by omega]; exact hf
    · rw [if_neg hf] at h; exact absurd h hf
theorem fstE_all {f : Nat → Int} : ∀ {n k : Nat}, (∀ j, k ≤ j → j < k + n → f j = 0) → fstE f n k = 0
  | 0, k, _ => rfl
  | n+1, k, h => by
    rw [fstE, if_pos (h k (Nat.le_refl _) (by omega))]; exact fstE_all fun j h1 h2 => h j (by omega) (by omega)
def drwK (l : List Int) (many : Int) (k : Nat) : Int := if gt l k < 0 ∨ many ≤ gt l k then 4 else if 0 < k ∧ gt l k ≤ gt l (k - 1) then 8 else 0
def drwE (l : List Int) (many : Int) : Int := fstE (drwK l many) l.length 0
theorem drwE_ok {l : List Int} {many : Int} (h : drwE l many = 0) {k : Nat} (hk : k < l.length) : (0 ≤ gt l k ∧ gt l k < many) ∧ ∀ i, i < k → gt l i < gt l k := by
  have h0 : ∀ j, j < l.length → drwK l many j = 0 := fun j hj => fstE_zero h j (Nat.zero_le _) (by omega)
  have hb : ∀ j, j < l.length → (0 ≤ gt l j ∧ gt l j < many) ∧ (0 < j → gt l (j - 1) < gt l j) := fun j hj => by
    have := h0 j hj; unfold drwK at this
    split at this
    · cases this
    · split at this
      · cases this
      · omega
  refine ⟨(hb k hk).1, fun i hi => ?_⟩
  have key : ∀ d i, i + (d + 1) = k → gt l i < gt l k := fun d => by
    induction d with
    | zero =>
      intro i hi; have := (hb k hk).2 (by omega); rw [show k - 1 = i by omega] at this; exact this
    | succ d ih =>
      intro i hi; have h1 := ih (i + 1) (by omega); have h2 := (hb (i + 1) (by omega)).2 (by omega); rw [show i + 1 - 1 = i by omega] at h2; omega
  exact key (k - i - 1) i (by omega)
set_option maxHeartbeats 1600000 in
set_option maxRecDepth 100000 in
theorem drawn_any (A : Option Addr) (n c : Nat) (l : List Int) (many : Nat) (w : World) (hl : II w A n l) (hn : n ≤ maxLen) (hm : many ≤ maxLen) :
    Calls Tryz.prog 106 #[.slice A n c, .int .i64 (many : Int)] w fun e w' => e = .returned (.int .i64 (drwE l many)) ∧ w' = w := by
  have HL : Sl _ := ⟨hl⟩; have HLN : Sl _ := ⟨hl.1⟩; obtain ⟨r, hr⟩ : ∃ r, drwE l (many : Int) = r := ⟨_, rfl⟩; have HR : Sl (fstE (drwK l (many : Int)) n 0 = r) := ⟨by rw [← hr, ← hl.1]; rfl⟩; rw [hr]; unfold maxLen at hn hm; clear hl hr; go_enter Tryz.func106, Tryz.ntmps106; go_wp2_with fail
  go_loop [9] (fun s9 => ∃ k : Nat, k ≤ n ∧ s9 = .int .i64 k ∧ Sl (fstE (drwK l (many : Int)) (n - k) k = r)) (fun s9 => n - (RowKit.intOf s9).toNat)
  case atStart => exact ⟨0, Nat.zero_le _, rfl, HR⟩
  case round =>
    obtain ⟨k, hk, rfl, HK⟩ := hrel
    by_cases hkn : k < n
    · have hkI : decide ((k : Int) < (n : Int)) = true := decide_eq_true (by omega); have hkI2 : (k : Int) < (n : Int) := (by omega); obtain ⟨ad, rfl, hab, c1⟩ := HL.out.cell (j := k) hkn; have HSTEP : Sl (r = if drwK l (many : Int) k = 0 then fstE (drwK l (many : Int)) (n - (k + 1)) (k + 1) else drwK l (many : Int) k) := ⟨by rw [← HK.out, show n - k = (n - (k + 1)) + 1 by omega]; rfl⟩; have HDK : Sl (drwK l (many : Int) k = if gt l k < 0 ∨ (many : Int) ≤ gt l k then 4 else if 0 < k ∧ gt l k ≤ gt l (k - 1) then 8 else 0) := ⟨rfl⟩; obtain ⟨x, hx⟩ : ∃ x, gt l k = x := ⟨_, rfl⟩; rw [hx] at c1 HDK; have HX : Sl _ := ⟨hx⟩; clear hx
      by_cases q1 : x < 0
      · have q1d : decide (x < 0) = true := decide_eq_true q1; have HD : drwK l (many : Int) k = 4 := (by rw [HDK.out]; exact if_pos (.inl q1)); have HV : Sl (r = 4) := ⟨by rw [HSTEP.out, HD]; rfl⟩; clear HD; go_wp2_with fail
        (try simp only [Exit.inBlock, Exit.then])
        go_ret; exact ⟨by rw [HV.out]; rfl, rfl⟩
      · have q1d : decide (x < 0) = false := decide_eq_false q1
        by_cases q2 : (many : Int) ≤ x
        · have q2d : decide ((many : Int) ≤ x) = true := decide_eq_true q2; have HD : drwK l (many : Int) k = 4 := (by rw [HDK.out]; exact if_pos (.inr q2)); have HV : Sl (r = 4) := ⟨by rw [HSTEP.out, HD]; rfl⟩; clear HD; go_wp2_with fail
          (try simp only [Exit.inBlock, Exit.then])
          go_ret; exact ⟨by rw [HV.out]; rfl, rfl⟩
        · have q2d : decide ((many : Int) ≤ x) = false := decide_eq_false q2
          by_cases hk0 : k = 0
          · have hgt : decide ((0 : Int) < (k : Int)) = false := decide_eq_false (by omega); have hgt2 : ¬ (0 : Int) < (k : Int) := (by omega); have hgt3 : ¬ 0 < k := (by omega); have hgt4 : decide (0 < k) = false := decide_eq_false hgt3; have HV : Sl (fstE (drwK l (many : Int)) (n - (k + 1)) (k + 1) = r) := ⟨by rw [HSTEP.out, if_pos (by rw [HDK.out, if_neg (by omega), if_neg (by omega)])]⟩; clear hk0; go_wp2_with fail; exact ⟨⟨k + 1, by omega, by go_num, HV⟩, by simp [RowKit.intOf]; omega⟩
          · obtain ⟨i, hi⟩ : ∃ i, i + 1 = k := ⟨k - 1, by omega⟩; obtain ⟨ad', hA, _, c0⟩ := HL.out.cell (j := i) (by omega); injection hA with hA
            subst hA; obtain ⟨y, hy⟩ : ∃ y, gt l i = y := ⟨_, rfl⟩; rw [show k - 1 = i by omega, hy] at HDK; rw [hy] at c0; have hij : (k : Int) - 1 = (i : Int) := (by omega); have hgt : decide ((0 : Int) < (k : Int)) = true := decide_eq_true (by omega); have hgt2 : (0 : Int) < (k : Int) := (by omega); have hgt3 : 0 < k := (by omega); have hgt4 : decide (0 < k) = true := decide_eq_true hgt3; have hiN : (i : Int) < (n : Int) := (by omega); have hiN2 : i < n := (by omega); have hiw : IntKind.i64.wrap (i : Int) = (i : Int) := (by rw [IntKind.wrap_i64]; omega); clear hi hy hk0
            by_cases q3 : x ≤ y
            · have q3d : decide (x ≤ y) = true := decide_eq_true q3; have HD : drwK l (many : Int) k = 8 := (by rw [HDK.out, if_neg (by omega)]; exact if_pos ⟨hgt3, q3⟩); have HV : Sl (r = 8) := ⟨by rw [HSTEP.out, HD]; rfl⟩; clear HD; go_wp2_with fail
              (try simp only [Exit.inBlock, Exit.then])
              go_ret; exact ⟨by rw [HV.out]; rfl, rfl⟩
            · have q3d : decide (x ≤ y) = false := decide_eq_false q3; have HV : Sl (fstE (drwK l (many : Int)) (n - (k + 1)) (k + 1) = r) := ⟨by rw [HSTEP.out, if_pos (by rw [HDK.out, if_neg (by omega), if_neg (by omega)])]⟩; go_wp2_with fail; exact ⟨⟨k + 1, by omega, by go_num, HV⟩, by simp [RowKit.intOf]; omega⟩
    · obtain rfl : k = n := (by omega); have HV : Sl (r = 0) := ⟨by rw [← HK.out, Nat.sub_self]; rfl⟩; go_wp2_with fail; go_ret; exact ⟨by rw [HV.out]; rfl, rfl⟩
structure RgV where
  A : Option Addr
  n : Nat
  c : Nat
  l : List Int
  B : Option Addr
  m : Nat
  d : Nat
  k : List Int
def RgV.cells (r : RgV) : List Value := [.slice r.A r.n r.c, .slice r.B r.m r.d]
structure RgM (w : World) (r : RgV) : Prop where
  s : II w r.A r.n r.l
  c : II w r.B r.m r.k
  sc : r.n ≤ r.c ∧ r.c ≤ maxLen
  cc : r.m ≤ r.d ∧ r.d ≤ maxLen
theorem RgM.below {w w' : World} {r : RgV} (h : RgM w r) (hb : Below w.heap.size w w') : RgM w' r := ⟨h.s.below hb, h.c.below hb, h.sc, h.cc⟩
def regE (o : SpO) (r : RgV) : Int := if drwE r.l (o.n3 : Int) = 0 then drwE r.k (o.n4 : Int) else drwE r.l (o.n3 : Int)
set_option maxHeartbeats 1600000 in
set_option maxRecDepth 100000 in
theorem registration_any (o : SpO) (r : RgV) (w : World) (hr : RgM w r) (hF : SpF o) : Calls Tryz.prog 42 #[.agg #[.slice o.A1 o.n1 o.c1, .slice o.A2 o.n2 o.c2, .slice o.A3 o.n3 o.c3, .slice o.A4 o.n4 o.c4], .agg #[.slice r.A r.n r.c, .slice r.B r.m r.d]] w fun e w' => e = .returned (.int .i64 (regE o r)) ∧ Below w.heap.size w w' := by
  have hb1 := (Below.refl w.heap.size w).alloc (Nat.le_refl _) (.cells #[.slice o.A1 o.n1 o.c1, .slice o.A2 o.n2 o.c2, .slice o.A3 o.n3 o.c3, .slice o.A4 o.n4 o.c4] 33); have hb2 := hb1.alloc hb1.size (.cells #[.slice r.A r.n r.c, .slice r.B r.m r.d] 45); have HB : Sl _ := ⟨hb2⟩; have H1 : Sl _ := ⟨fun (W : World) (hW : Below w.heap.size w W) => drawn_any r.A r.n r.c r.l o.n3 W (hr.s.below hW) (Nat.le_trans hr.sc.1 hr.sc.2) (Nat.le_trans hF.cap.2.2.1.1 hF.cap.2.2.1.2)⟩; have H2 : Sl _ := ⟨fun (W : World) (hW : Below w.heap.size w W) => drawn_any r.B r.m r.d r.k o.n4 W (hr.c.below hW) (Nat.le_trans hr.cc.1 hr.cc.2) (Nat.le_trans hF.cap.2.2.2.1 hF.cap.2.2.2.2)⟩; have HE : Sl (regE o r = if drwE r.l (o.n3 : Int) = 0 then drwE r.k (o.n4 : Int) else drwE r.l (o.n3 : Int)) := ⟨rfl⟩; obtain ⟨a, ha⟩ : ∃ a, drwE r.l (o.n3 : Int) = a := ⟨_, rfl⟩; obtain ⟨b, hb⟩ : ∃ b, drwE r.k (o.n4 : Int) = b := ⟨_, rfl⟩; rw [ha] at HE H1; rw [hb] at HE H2; obtain ⟨v, hv⟩ : ∃ v, regE o r = v := ⟨_, rfl⟩; rw [hv] at HE ⊢; have hcap := hF.cap; unfold maxLen at hcap; have HCAP : Sl _ := ⟨hcap⟩; clear hb1 hb2 hr hF ha hb hv hcap
  by_cases ha0 : a = 0
  · subst ha0; rw [if_pos rfl] at HE; go_enter Tryz.func42, Tryz.ntmps42; go_wp2_with fail; refine (H1.out _ HB.out).mono ?_; rintro e w1 ⟨rfl, rfl⟩; go_wp2_with fail; refine (H2.out _ HB.out).mono ?_; rintro e w1 ⟨rfl, rfl⟩; go_wp2_with fail; go_ret; exact ⟨by rw [HE.out]; rfl, HB.out⟩
  · rw [if_neg ha0] at HE; have q0 : (a != 0) = true := (by rw [bne_iff_ne]; exact ha0); clear ha0; go_enter Tryz.func42, Tryz.ntmps42; go_wp2_with fail; refine (H1.out _ HB.out).mono ?_; rintro e w1 ⟨rfl, rfl⟩; go_wp2_with fail; go_ret; exact ⟨by rw [HE.out]; rfl, HB.out⟩
end Go.Proofs.YtabkpbbjodfolaaGreatDoor
namespace Go.Proofs.YtabkpbbjodfolaaGreatDoor
open Go.ChangeShapes Go.WideShapes Go.ChangeAt Go.RowKit Go.Deep
set_option linter.unusedVariables false
set_option linter.unusedSimpArgs false
theorem trod_structA2 {H : Type} {enc : TypeId × Value → H} {P : Program} {w : World} {base : Nat} {spare : Nat → Bool} {held : Bool} {t : TypeId} {f0 f1 : Field} {fuel : Nat} {cs : List Value} {x : DataW H × List MemPlace} (ht : P.underlying t = some (.struct #[f0, f1])) (h : DataW.trod enc P w base spare held fuel t cs = some x) :
    ∃ y0 y1 n, x = (.agg [y0.1, y1.1], y0.2 ++ y1.2) ∧ cs.length = P.cellsOf t ∧ DataW.trod enc P w base spare held n f0.type ((cs.drop f0.offset).take (P.cellsOf f0.type)) = some y0 ∧
      DataW.trod enc P w base spare held n f1.type ((cs.drop f1.offset).take (P.cellsOf f1.type)) = some y1 := by
  obtain ⟨xs, n, _, rfl, hl, hlen, hf⟩ := DataW.trod_struct ht h
  match xs, hlen with
  | [y0, y1], _ => exact ⟨y0, y1, n, by simp, hl, by simpa using hf 0 f0 rfl, by simpa using hf 1 f1 rfl⟩
theorem trod_structA3 {H : Type} {enc : TypeId × Value → H} {P : Program} {w : World} {base : Nat} {spare : Nat → Bool} {held : Bool} {t : TypeId} {f0 f1 f2 : Field} {fuel : Nat} {cs : List Value} {x : DataW H × List MemPlace} (ht : P.underlying t = some (.struct #[f0, f1, f2])) (h : DataW.trod enc P w base spare held fuel t cs = some x) :
    ∃ y0 y1 y2 n, x = (.agg [y0.1, y1.1, y2.1], y0.2 ++ (y1.2 ++ y2.2)) ∧ cs.length = P.cellsOf t ∧ DataW.trod enc P w base spare held n f0.type ((cs.drop f0.offset).take (P.cellsOf f0.type)) = some y0 ∧
      DataW.trod enc P w base spare held n f1.type ((cs.drop f1.offset).take (P.cellsOf f1.type)) = some y1 ∧ DataW.trod enc P w base spare held n f2.type ((cs.drop f2.offset).take (P.cellsOf f2.type)) = some y2 := by
  obtain ⟨xs, n, _, rfl, hl, hlen, hf⟩ := DataW.trod_struct ht h
  match xs, hlen with
  | [y0, y1, y2], _ => exact ⟨y0, y1, y2, n, by simp, hl, by simpa using hf 0 f0 rfl, by simpa using hf 1 f1 rfl, by simpa using hf 2 f2 rfl⟩
set_option maxRecDepth 100000 in
theorem reg_trod {H : Type} {enc : TypeId × Value → H} {W : World} {fuel : Nat} {cs : List Value} {x : DataW H × List MemPlace} (h : DataW.trod enc Tryz.prog W 0 (fun _ => true) true fuel 45 cs = some x) (hb : ∀ p ∈ x.2, p.block < W.heap.size) :
    ∃ r : RgV, cs = [.slice r.A r.n r.c, .slice r.B r.m r.d] ∧ RgM W r ∧ (∀ z ∈ r.l, i64 z) ∧ ∀ z ∈ r.k, i64 z := by
  obtain ⟨y0, y1, n, hx, hl, h0, h1⟩ := trod_structA2 Tryz.underlying45 h; have c1 : Tryz.prog.cellsOf 43 = 1 := (by kernel_rfl); have c7 : Tryz.prog.cellsOf 45 = 2 := (by kernel_rfl); rw [c7] at hl
  match cs, hl with
  | [u0, u1], _ =>
    simp only [c1, List.drop_zero, List.drop_succ_cons, List.take_succ_cons, List.take_zero] at h0 h1; obtain ⟨A, n1, c, l, e0, g1, g2, g3⟩ := ints_trod h0 (fun p hp => hb p (by rw [hx]; simp [hp])); obtain ⟨B, m1, d, k, e1, k1, k2, k3⟩ := ints_trod h1 (fun p hp => hb p (by rw [hx]; simp [hp])); subst e0 e1; exact ⟨⟨A, n1, c, l, B, m1, d, k⟩, rfl, ⟨g1, k1, g2, k2⟩, g3, k3⟩
end Go.Proofs.YtabkpbbjodfolaaGreatDoor
namespace Go.Proofs.YtabkpbbjodfolaaGreatDoor
set_option linter.unusedSimpArgs false
open Go.RowKit
set_option linter.unusedVariables false
def OI (w : World) (base : Nat) (A : Option Addr) (n c : Nat) (l : List Int) : Prop := w.ownsRow base 3 1 (.slice A n c) n (l.map iv)
theorem OI.mono {w : World} {base base' : Nat} {A : Option Addr} {n c : Nat} {l : List Int} (h : OI w base A n c l) (hb : base' ≤ base) : OI w base' A n c l :=
  ⟨h.1, h.2.imp id fun ⟨g, cap, cur, h1, h2, h3⟩ => ⟨g, cap, cur, h1, Nat.le_trans hb h2, h3⟩⟩
theorem OI.len {w : World} {base : Nat} {A : Option Addr} {n c : Nat} {l : List Int} (h : OI w base A n c l) : l.length = n := by
  have := h.1; simpa using this
theorem OI.ii {w : World} {base : Nat} {A : Option Addr} {n c : Nat} {l : List Int} (h : OI w base A n c l) : II w A n l := ⟨h.len, Reads.of_own h⟩
theorem OI.lt {w : World} {base : Nat} {A : Option Addr} {n c : Nat} {l : List Int} (h : OI w base A n c l) : ∀ k, (Value.slice A n c).ownBlock = some k → base ≤ k ∧ k < w.heap.size := World.ownsRow.lt h
theorem OI.mv {w w' : World} {g base : Nat} {A : Option Addr} {n c : Nat} {l : List Int} (h : OI w base A n c l) (hm : Mv g w w') (hne : ∀ k, (Value.slice A n c).ownBlock = some k → k ≠ g) : OI w' base A n c l := own_mv h hm hne
theorem OI.below {w w' : World} {base : Nat} {A : Option Addr} {n c : Nat} {l : List Int} (h : OI w base A n c l) (hb : Below w.heap.size w w') : OI w' base A n c l :=
  own_mv h (Mv.of_below hb) (fun k hk => by have := (World.ownsRow.lt h k hk).2; omega)
theorem OI.cap {w : World} {base : Nat} {A : Option Addr} {n c : Nat} {l : List Int} (h : OI w base A n c l) : n ≤ c ∧ c ≤ maxLen := by
  rcases h.2 with ⟨h0, _⟩ | ⟨b, cap, cur, e1, _, _, h1, h2, _⟩
  · injection h0 with a b c
    subst b c; exact ⟨Nat.le_refl _, by decide⟩
  · injection e1 with a b c
    subst c; exact ⟨h1, h2⟩
theorem cloneII_any (A : Option Addr) (n c : Nat) (l : List Int) (w : World) (h : II w A n l) (hn : n ≤ 1000000) :
    Calls Tryz.prog 62 #[.slice A n c] w fun e w' => (∃ A' c', e = .returned (.slice A' n c') ∧ OI w' w.heap.size A' n c' l) ∧ Below w.heap.size w w' := by
  rcases A with _ | ad
  · have h0 : n = 0 := by
      rcases Nat.eq_zero_or_pos n with h0 | h0
      · exact h0
      · obtain ⟨ad, e, _⟩ := h.2.2 h0
        cases e
    subst h0; have hl : l = [] := List.eq_nil_of_length_eq_zero h.1; subst hl; refine (Tryz.slices_Clone_int_nil 0 c w).mono fun e w' hh => ?_
    obtain ⟨rfl, rfl⟩ := hh; exact ⟨⟨none, 0, rfl, World.ownsRow_nil _ _ _ _⟩, Below.refl _ _⟩
  · have key : ∀ (P : Value → World → Prop) (e : Ending) (w' : World), (∃ v', e = .returned v' ∧ w'.ownsRow w.heap.size 3 1 v' n (l.map iv) ∧ v' ≠ .slice none 0 0 ∧ Below w.heap.size w w') → (∃ A' c', e = .returned (.slice A' n c') ∧ OI w' w.heap.size A' n c' l) ∧ Below w.heap.size w w' := fun P e w' hh => by
      obtain ⟨v', rfl, h1, h2, h3⟩ := hh; rcases h1.2 with ⟨rfl, _⟩ | ⟨g, cap, cur, rfl, _⟩
      · exact absurd rfl h2
      · exact ⟨⟨_, _, rfl, h1⟩, h3⟩
    rcases Nat.eq_zero_or_pos n with h0 | h0
    · subst h0; have hl : l = [] := List.eq_nil_of_length_eq_zero h.1; subst hl; exact (Tryz.slices_Clone_int_zero ad c w).mono fun e w' hh => key (fun _ _ => True) e w' hh
    · obtain ⟨b, off, hA⟩ : ∃ b off, ad = ⟨b, off, none⟩ := by
        obtain ⟨ad', e, _, hc⟩ := h.2.2 h0; injection e with e
        subst e; obtain ⟨b, off, sp⟩ := ad
        cases sp with
        | none => exact ⟨b, off, rfl⟩
        | some s =>
          have c0 := hc 0 _ (List.getElem?_eq_getElem (by rw [List.length_map, h.1]; exact h0)); have e : (⟨b, off, some s⟩ : Addr).add 0 = ⟨b, off, some s⟩ := (by simp [Addr.add]); rw [e] at c0; unfold World.cell? at c0
          split at c0
          · simp at c0
          · cases c0
      subst hA
      have hc := (Tryz.slices_Clone_int b off n c l w (by rw [h.1]; exact Nat.le_refl _) (by omega) (fun j hj => by
        obtain ⟨ad', e, _, hc⟩ := h.cell (j := j) (by rw [← h.1]; exact hj); injection e with e
        subst e; rw [Addr.add_mid] at hc; rw [hc]
        rfl))
      rw [show l.take n = l by rw [← h.1, List.take_length]] at hc; exact hc.mono fun e w' hh => key (fun _ _ => True) e w' hh
structure RgO (w : World) (base : Nat) (r : RgV) : Prop where
  s : OI w base r.A r.n r.c r.l
  c : OI w base r.B r.m r.d r.k
  ne : ∀ g, (Value.slice r.A r.n r.c).ownBlock = some g → (Value.slice r.B r.m r.d).ownBlock ≠ some g
theorem RgO.rg {w : World} {base : Nat} {r : RgV} (h : RgO w base r) : RgM w r := ⟨h.s.ii, h.c.ii, h.s.cap, h.c.cap⟩
theorem RgO.below {w w' : World} {base : Nat} {r : RgV} (h : RgO w base r) (hb : Below w.heap.size w w') : RgO w' base r := ⟨h.s.below hb, h.c.below hb, h.ne⟩
theorem results_row1c {P : Program} {fn : Func} {p : Tmp} {ty : TypeId} (h : fn.results = #[.cell p ty]) (tmps : Array Value) (w : World) (g : Nat) (t : TypeId) (cs : Array Value) (d : TypeDesc)
    (hp : tmps.getD p undef = .pointer (some ⟨g, 0, none⟩)) (hg : Blk w g t cs)
    (hu : P.underlying ty = some d) (hd : (match d with | .struct _ | .array _ _ => true | _ => false) = true) (hi : (P.info? ty).map (·.size) = some cs.size) :
    (results fn tmps).run P w = .ok (.agg cs) w := results_cell_row h tmps w g t cs (0, 0) d hp hg hu hd hi
theorem alloc_reg (w : World) : (Instr.alloc 45 true (.tuple #[])).run Tryz.prog w = .ok (.pointer (some ⟨w.heap.size, 0, none⟩)) (w.alloc (.cells #[.slice none 0 0, .slice none 0 0] 45)) := by kernel_rfl
set_option maxHeartbeats 3200000 in
set_option maxRecDepth 100000 in
theorem copied_any (r : RgV) (w : World) (hr : RgM w r) (hn : r.n ≤ 1000000) (hm : r.m ≤ 1000000) : Calls Tryz.prog 43 #[.agg #[.slice r.A r.n r.c, .slice r.B r.m r.d]] w fun e w' =>
      (∃ A c B d, e = .returned (.agg #[.slice A r.n c, .slice B r.m d]) ∧ RgO w' w.heap.size ⟨A, r.n, c, r.l, B, r.m, d, r.k⟩) ∧ Below w.heap.size w w' := by
  have HD : Sl (Led w w []) := ⟨Led.nil w⟩; have HR : Sl _ := ⟨hr⟩; have HN : Sl (r.n ≤ 1000000 ∧ r.m ≤ 1000000) := ⟨hn, hm⟩; clear hr hn hm; go_enter Tryz.func43, Tryz.ntmps43
  go_upto_region 1 with ((with_reducible show wpList _ _ _ _ _ _); first
    | (refine wpList_box_new 1 rfl rfl 45 (.tmp 0) rfl #[.slice r.A r.n r.c, .slice r.B r.m r.d] rfl (fun _ => by kernel_rfl) ?_; rintro ws gs zg zm zs zb; replace HD : Sl _ := ⟨HD.out.new zg zm zb⟩; have HGS : Sl _ := ⟨And.intro zg zs⟩; clear zg zm zs zb)
    | (refine wpList_alloc_new 2 rfl rfl 45 rfl #[.slice none 0 0, .slice none 0 0] alloc_reg ?_; rintro wr gr zg zm zs zb; replace HD : Sl (Led w wr [(gr, 45, #[.slice none 0 0, .slice none 0 0]), (gs, 45, #[.slice r.A r.n r.c, .slice r.B r.m r.d])]) := ⟨HD.out.new zg zm zb⟩; have HGR : Sl _ := ⟨And.intro zg zs⟩; clear zg zm zs zb))
  have hbd : Below wr.heap.size wr wr.drew := below_drewN (Below.refl _ _) 1; have HBD : Sl _ := ⟨hbd⟩; have HC1 : Sl _ := ⟨cloneII_any r.A r.n r.c r.l wr.drew ((HR.out.s.below HD.out.bl).below hbd) HN.out.1⟩; have HC2 : Sl _ := ⟨fun (W : World) (hW : Below wr.heap.size wr W) => cloneII_any r.B r.m r.d r.k W ((HR.out.c.below HD.out.bl).below hW) HN.out.2⟩; have HGG : Sl (gs ≠ gr ∧ w.heap.size ≤ gr) := ⟨by have := HGR.out; have := HGS.out; omega⟩; clear hbd; have hm := Mv.below (g := gr) HBD.out; refine wp_region_held_drew (S := fun w' => Mv gr wr w') (by kernel_rfl) hm (fun hHeld => ?_); clear hm; refine wpAnyH_pure 0 (v := .pointer (some ⟨gs, 0, none⟩)) rfl (by kernel_rfl) (by kernel_rfl) (by kernel_rfl) (fun _ _ _ h => h) rfl (fun _ => by go_simp) (by assumption) ?_; simp only [Act.put, sS0, sS1, sS2]
  refine wpAnyH_cell 1 (v := .slice r.A r.n r.c) rfl rfl (fun w' h => by
    have hc := ((HD.out.at_ 1 rfl).mv h HGG.out.1).cell 0
    go_simp) (by kernel_rfl) (by kernel_rfl) (by kernel_rfl) (fun _ _ _ h => h) (by assumption) ?_
  simp only [Act.put, sS0, sS1, sS2]; refine wpAnyH_pure 3 (v := .pointer (some ⟨gs, 1, none⟩)) rfl (by kernel_rfl) (by kernel_rfl) (by kernel_rfl) (fun _ _ _ h => h) rfl (fun _ => by go_simp) (by assumption) ?_; simp only [Act.put, sS0, sS1, sS2]
  refine wpAnyH_cell 4 (v := .slice r.B r.m r.d) rfl rfl (fun w' h => by
    have hc := ((HD.out.at_ 1 rfl).mv h HGG.out.1).cell 1
    go_simp) (by kernel_rfl) (by kernel_rfl) (by kernel_rfl) (fun _ _ _ h => h) (by assumption) ?_
  simp only [Act.put, sS0, sS1, sS2]; refine wpAnyH_one 2 rfl (by kernel_rfl) rfl (fun K hK => ?_); go_simp; go_at_call 62
  (with_reducible refine (HC1.out).mono ?_)
  rintro e3 w3 ⟨⟨A1, c1, rfl, ho1⟩, hb3⟩; have hb3 : Below wr.heap.size wr w3 := HBD.out.trans (hb3.mono HBD.out.size); have HB3 : Sl _ := ⟨hb3⟩; have HO1 : Sl _ := ⟨ho1⟩; clear ho1 hb3; refine hK.out _ _ (Mv.below HB3.out) (fun hHeld => ?_); clear hK K
  (try simp only [Act.put, sS0, sS1, sS2])
  refine wpAnyH_one 5 rfl (by kernel_rfl) rfl (fun K hK => ?_); go_simp; go_at_call 62
  (with_reducible refine (HC2.out _ HB3.out).mono ?_)
  rintro e4 w4 ⟨⟨A2, c2, rfl, ho2⟩, hb4⟩; have hb5 : Below wr.heap.size wr w4 := HB3.out.trans (hb4.mono HB3.out.size); have HB5 : Sl _ := ⟨hb5⟩; have HO2 : Sl (OI w4 w3.heap.size A2 r.m c2 r.k) := ⟨ho2⟩; have HO3 : Sl (OI w4 wr.heap.size A1 r.n c1 r.l ∧ ∀ k, (Value.slice A1 r.n c1).ownBlock = some k → k < w3.heap.size) := ⟨HO1.out.below hb4, fun k hk => (HO1.out.lt k hk).2⟩; clear ho2 hb4 hb5 HO1; refine hK.out _ _ (Mv.below HB5.out) (fun hHeld => ?_); clear hK K
  (try simp only [Act.put, sS0, sS1, sS2])
  refine wpAnyH_pure 6 (v := .agg #[.slice A1 r.n c1, .slice A2 r.m c2]) rfl (by kernel_rfl) (by kernel_rfl) (by kernel_rfl) (fun _ _ _ h => h) rfl (fun _ => by go_simp) (by assumption) ?_; simp only [Act.put, sS0, sS1, sS2]; refine wpAnyH_one 7 rfl (by kernel_rfl) rfl (fun K hK => ?_); refine wp_store_partm 45 (.tmp 2) (.tmp 9) rfl gr 0 #[.slice A1 r.n c1, .slice A2 r.m c2] rfl rfl 45 _ #[.slice A1 r.n c1, .slice A2 r.m c2] ((HD.out.at_ 0 rfl).below HB5.out (HD.out.at_ 0 rfl).lt) (by simp) (putA_all _ _ rfl) (by kernel_rfl) (by simp [Value.oneCell']) ?_; rintro w6 zm zs zb; have HZ : Sl _ := ⟨And.intro zm zb⟩; refine hK.out _ _ (Mv.trans (Mv.below HB5.out) zm) (fun hHeld => ?_); clear hK K zm zs zb; simp only [Act.put, sS0, sS1, sS2]; refine wpAnyH_done (by kernel_rfl) ?_ _; clear hHeld; go_wp2_with fail; refine bodyPost_ret (results_row1c rfl _ _ gr _ _ _ rfl HZ.out.2 Tryz.underlying45 rfl (by kernel_rfl)) rfl ?_; have hlt := (HD.out.at_ 0 rfl).lt; have hsz := HB5.out.size; have hs3 := HB3.out.size; have hww := HD.out.bl.size; refine ⟨⟨A1, c1, A2, c2, rfl, ⟨?_, ?_, fun g h1 h2 => ?_⟩⟩, below_mv (HD.out.bl.trans (HB5.out.mono hww)) HZ.out.1 HGG.out.2 (by omega)⟩
  · exact OI.mono (HO3.out.1.mv HZ.out.1 (fun k hk => by have := (HO3.out.1.lt k hk).1; omega)) hww
  · exact OI.mono (HO2.out.mv HZ.out.1 (fun k hk => by have := (HO2.out.lt k hk).1; omega)) (by omega)
  · have h3 := HO3.out.2 g h1; have h4 := (HO2.out.lt g h2).1; omega
end Go.Proofs.YtabkpbbjodfolaaGreatDoor
