/- Package wide, tenth part: div of any numbers, gcd, pow. -/
import Derived.Test.YtgjbaamhpapeeaaGreatDoorWideI
namespace Go.Proofs.YtgjbaamhpapeeaaGreatDoor
set_option linter.unusedSimpArgs false
open Go.RowKit
set_option linter.unusedVariables false

theorem div_any (A B : Option Addr) (n M c d a b : Nat) (w : World) (ha : U w A n (limbs a)) (hb : U w B M (limbs b)) (hn : n ≤ 16384) (hm : M ≤ 16384) (hb0 : b ≠ 0) :
    Calls Tryz.prog 47 #[.slice A n c, .slice B M d] w fun e w' => DivRes (a / b) (a % b) e w' ∧ Below w.heap.size w w' := by
  rcases Nat.lt_or_ge a b with h | h
  · exact div_less A B n M c d a b w ha hb (by omega) (by omega) h
  · have hl := hb.len
    match M, hb, hm, hl with
    | 0, hb, hm, hl => exact absurd (limbs_nil_iff.1 (List.eq_nil_of_length_eq_zero hl)) hb0
    | 1, hb, hm, hl => exact div_one A B n c d a b w ha hb (by omega) h
    | m2 + 2, hb, hm, hl => exact div_main A B n (m2+2) (m2+1) m2 c d a b w ha hb hn rfl rfl hm h

theorem limbs_len_mono {a b : Nat} (h : a ≤ b) : (limbs a).length ≤ (limbs b).length := limbs_len_le (Nat.lt_of_le_of_lt h (lt_limbs_len b))
/-- a slice that holds a number -/
def NV (w : World) (v : Value) (a : Nat) : Prop := ∃ A c, v = .slice A (limbs a).length c ∧ Arg w A (limbs a).length c (limbs a)
theorem NV.below {w w' : World} {v : Value} {a : Nat} (h : NV w v a) (hb : Below w.heap.size w w') : NV w' v a := by
  obtain ⟨A, c, rfl, h⟩ := h; exact ⟨A, c, rfl, h.below hb⟩
theorem NV.uniq {w : World} {v : Value} {a b : Nat} (h : NV w v a) (k : NV w v b) : a = b := by
  obtain ⟨A, c, rfl, h⟩ := h
  obtain ⟨B, d, e, k⟩ := k
  injection e with e1 e2 e3
  subst e1 e3
  have e : limbs a = limbs b := by
    apply List.ext_getElem e2
    intro i h1 h2
    obtain ⟨ad, e1, _, hc⟩ := h.1.cell (k := i) h1
    obtain ⟨ad2, e4, _, hd⟩ := k.1.cell (k := i) h2
    cases e1; cases e4
    rw [hc] at hd
    simp [List.getElem?_eq_getElem h1, List.getElem?_eq_getElem h2] at hd
    omega
  rw [← valOf_limbs a, e, valOf_limbs]
theorem NV.eps {w : World} {v : Value} {a : Nat} (h : NV w v a) : Classical.epsilon (fun z => NV w v z) = a :=
  (Classical.epsilon_spec (p := fun z => NV w v z) ⟨a, h⟩).uniq h
theorem Arg.nv {w : World} {A : Option Addr} {n c a : Nat} (h : Arg w A n c (limbs a)) : NV w (.slice A n c) a := by
  have := h.1.len; subst this; exact ⟨A, c, rfl, h⟩

set_option maxHeartbeats 800000 in
set_option maxRecDepth 100000 in
theorem gcd_any (A B : Option Addr) (n m c d a b : Nat) (w : World) (ha : Arg w A n c (limbs a)) (hb : Arg w B m d (limbs b)) (hn : n ≤ 16384) (hm : m ≤ 16384) :
    Calls Tryz.prog 53 #[.slice A n c, .slice B m d] w fun e w' => Limbs (limbs (Nat.gcd a b)) e w' ∧ Below w.heap.size w w' := by
  have HA : Sl _ := ⟨ha⟩
  have HB : Sl _ := ⟨hb⟩
  have HLA : Sl ((limbs a).length ≤ 16384) := ⟨by rw [ha.1.len]; exact hn⟩
  have HLB : Sl ((limbs b).length ≤ 16384) := ⟨by rw [hb.1.len]; exact hm⟩
  have h0 : NV w (.slice A n c) a := ha.nv
  have h1 : NV w (.slice B m d) b := hb.nv
  clear ha hb hn hm
  go_enter Tryz.func53, Tryz.ntmps53
  go_wp2
  go_loopw [0, 1] (fun s0 s1 wr => ∃ (x y : Nat), NV wr s0 x ∧ NV wr s1 y ∧ (limbs x).length ≤ 16384 ∧ (limbs y).length ≤ 16384 ∧ Nat.gcd x y = Nat.gcd a b ∧ Below w.heap.size w wr) (fun _ s1 wr => Classical.epsilon (fun z => NV wr s1 z))
  case atStart => exact ⟨a, b, h0, h1, HLA.out, HLB.out, rfl, Below.refl _ _⟩
  case round =>
    obtain ⟨x, y, ⟨A1, c1, rfl, hx⟩, ⟨A2, c2, rfl, hy⟩, hlx, hly, hg, hB⟩ := hrel
    have HX : Sl _ := ⟨hx⟩
    have HY : Sl _ := ⟨hy⟩
    have HG : Sl _ := ⟨hg⟩
    have hc1 := hx.2
    clear hx hy hg
    by_cases hz : y = 0
    · subst hz
      have hl0 : (limbs 0).length = 0 := by rw [limbs_zero]; rfl
      go_wp2_with fail
      go_ret
      have hg := HG.out
      rw [Nat.gcd_zero_right] at hg
      rw [← hg]
      exact ⟨⟨A1, c1, rfl, hc1.1, hc1.2, HX.out.1⟩, hB⟩
    · have hyl : 0 < (limbs y).length := by
        rcases Nat.eq_zero_or_pos (limbs y).length with h | h
        · exact absurd (limbs_nil_iff.1 (List.eq_nil_of_length_eq_zero h)) hz
        · exact h
      have hmod := Nat.mod_lt x (Nat.pos_of_ne_zero hz)
      have hml := limbs_len_mono (Nat.le_of_lt hmod)
      have hnv : NV wr (.slice A2 (limbs y).length c2) y := ⟨A2, c2, rfl, HY.out⟩
      have hep := hnv.eps
      have HE : Sl _ := ⟨hep⟩
      clear hep
      have HN : Sl _ := ⟨hnv⟩
      clear hnv
      generalize hly2 : (limbs y).length = ny at *
      generalize hlx2 : (limbs x).length = nx at *
      go_wp2_with fail
      refine (div_any A1 A2 _ _ c1 c2 x y _ HX.out.1 HY.out.1 hlx hly hz).mono ?_; rintro e w' ⟨⟨Q, cq, R, cr, rfl, hq, hr⟩, hb⟩
      have hnr : NV w' (.slice R (limbs (x % y)).length cr) (x % y) := hr.nv
      clear hq hr
      go_wp2_with fail
      rw [HE.out, hnr.eps]
      refine ⟨⟨y, x % y, HN.out.below hb, hnr, by rw [hly2]; exact hly, by omega, ?_, hB.trans (hb.mono hB.size)⟩, hmod⟩
      rw [← HG.out, Nat.gcd_comm y, ← Nat.gcd_rec, Nat.gcd_comm]
end Go.Proofs.YtgjbaamhpapeeaaGreatDoor
