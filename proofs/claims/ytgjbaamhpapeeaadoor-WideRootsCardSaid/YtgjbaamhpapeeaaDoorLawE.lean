/- The reference: Plus, Minus, Times. -/
import Derived.Test.YtgjbaamhpapeeaaDoorLawD
import Derived.Test.YtgjbaamhpapeeaaDoorLawA
namespace Go.Proofs.YtgjbaamhpapeeaaDoor
set_option linter.unusedSimpArgs false
open Go.RowKit
set_option linter.unusedVariables false

theorem U_int1 (w : World) (x : Nat) (a : Int) (ha : a = x) (hx : x < LB) (t : TypeId) : U (w.alloc (.cells #[.int .u32 a] t)) (some ⟨w.heap.size, 0, none⟩) 1 [x] := by
  subst ha; exact U_one w x hx t
theorem lim_small {l : List Nat} (h : ∀ x ∈ l, x < LB) (i : Nat) : ((lim l i : Nat) : Int) < 4294967296 := by
  have := lim_lt h i; unfold LB at this; omega
theorem one_lv (r : Nat) : ∀ u ∈ [r].map lv, u.oneCell' = true := by intro u hu; simp [lv] at hu; subst hu; rfl
theorem all_snoc {o : List Nat} {r : Nat} (h : ∀ x ∈ o, x < LB) (hr : r < LB) : ∀ x ∈ o ++ [r], x < LB := by
  intro x hx
  rcases List.mem_append.1 hx with h1 | h1
  · exact h x h1
  · simp at h1; omega
theorem Limbs.trim_own {w : World} {base : Nat} {e : TypeId} {v : Value} {n : Nat} {o : List Nat} (h : w.ownsRow base e 1 v n (o.map lv)) (hl : o.length = n) (ho : ∀ x ∈ o, x < LB) (hn : n ≤ 4294967297) : ∃ A c, v = .slice A n c ∧ n ≤ c ∧ c ≤ maxLen ∧ U w A n o := by
  obtain ⟨A, c, he, h1, h2, h3⟩ := Limbs.of_own h hl ho
  rw [hl] at he h1 h3
  injection he with he
  exact ⟨A, c, he, h1, h2, h3⟩

set_option maxHeartbeats 1600000 in
set_option maxRecDepth 100000 in
/-- the reference's Plus -/
theorem rplus_any (A B : Option Addr) (n m c d : Nat) (la lb : List Nat) (w : World) (ha : U w A n la) (hb : U w B m lb) (hn : n ≤ 1000000) (hm : m ≤ 1000000) :
    Calls Tryd.prog 76 #[.slice A n c, .slice B m d] w fun e w' => Limbs (limbs (valOf la + valOf lb)) e w' ∧ Below w.heap.size w w' := by
  obtain ⟨i0, hi0, hz0, hz1, hz2⟩ := info_parts info32
  have HI : Sl _ := ⟨And.intro hi0 (And.intro hz0 (And.intro hz1 hz2))⟩
  clear hi0 hz0 hz1 hz2
  have HA : Sl _ := ⟨ha⟩
  have HB : Sl _ := ⟨hb⟩
  clear ha hb
  obtain ⟨N, hN⟩ : ∃ N : Nat, N = max n m := ⟨_, rfl⟩
  have hmax : max (n : Int) (m : Int) = (N : Int) := by omega
  have h1 : n ≤ N := by omega
  have h2 : m ≤ N := by omega
  have h3 : N ≤ 1000000 := by omega
  clear hN
  go_enter Tryd.func76, Tryd.ntmps76
  go_wp2_with fail
  go_loopw [5, 6, 7] (fun s5 s6 s7 wr => ∃ (i cy : Nat) (o : List Nat), i ≤ N + 1 ∧ s6 = .int .u64 cy ∧ s7 = .int .i64 i ∧ cy ≤ 1 ∧ Sl (o.length = i ∧ valOf o + cy * LB ^ i = valOf (la.take i) + valOf (lb.take i) ∧ (∀ x ∈ o, x < LB) ∧ wr.ownsRow w.heap.size 59 1 s5 i (o.map lv)) ∧ Below w.heap.size w wr) (fun _ _ s7 _ => N + 1 - (intOf s7).toNat)
  case atStart => exact ⟨0, 0, [], Nat.zero_le _, rfl, rfl, by omega, ⟨rfl, by simp [valOf], by simp, World.ownsRow_nil _ _ _ _⟩, Below.refl _ _⟩
  case round =>
    obtain ⟨i, cy, o, hi, rfl, rfl, hcy, HO, hB⟩ := hrel
    by_cases hin : i < N + 1
    · have ca := limb_any A n c la i wr (HA.out.below hB) (by omega) (by omega)
      have cb := limb_any B m d lb i wr (HB.out.below hB) (by omega) (by omega)
      have hx := lim_small HA.out.2 i
      have hy := lim_small HB.out.2 i
      have CA : Sl _ := ⟨ca⟩
      have CB : Sl _ := ⟨cb⟩
      have HX : Sl _ := ⟨hx⟩
      have HY : Sl _ := ⟨hy⟩
      clear ca cb hx hy
      go_wp2_with fail
      refine CA.out.mono ?_; rintro e w' ⟨rfl, rfl⟩
      go_wp2_with fail
      refine CB.out.mono ?_; rintro e w' ⟨rfl, rfl⟩
      have hs := plus_step (x := lim la i) (y := lim lb i) HO.out.2.1
      rw [← valOf_take_lim, ← valOf_take_lim] at hs
      have HS : Sl _ := ⟨hs⟩
      clear hs CA CB
      generalize lim la i = x at *
      generalize lim lb i = y at *
      have hr : (x + y + cy) % LB < LB := Nat.mod_lt _ LB_pos
      have HR : Sl _ := ⟨hr⟩
      clear hr
      have hcr : ((((x : Int) + (y : Int) + (cy : Int)) % 4294967296)) = (((x + y + cy) % LB : Nat) : Int) := by unfold LB; omega
      have hcq : ((((x : Int) + (y : Int) + (cy : Int)) / 4294967296)) = (((x + y + cy) / LB : Nat) : Int) := by unfold LB; omega
      have hq1 : (x + y + cy) / LB ≤ 1 := by have := HX.out; have := HY.out; unfold LB; omega
      generalize (x + y + cy) % LB = r at *
      generalize (x + y + cy) / LB = q at *
      have HOA := HO.out.2.2.2.alloc (.cells #[.int .u32 (r : Int)] 59)
      go_wp2_with (at_builtin; go_loud (refine wpList_append_any _ rfl (.tmp 28) (.tmp 32) _ rfl w.heap.size 59 i0 _ 1 4 Tryd.underlying23 HI.out.1 HI.out.2.1 HI.out.2.2.1 HI.out.2.2.2 rfl (by decide) _ i _ rfl HOA _ (some ⟨wr.heap.size, 0, none⟩) 1 1 ([r].map lv) rfl (U_one wr r HR.out _).1 (one_lv r) (by unfold maxLen; omega) (by omega) (Nat.le_trans hB.size (by simp)) ?_; intro v1 w3 hown1 hg1 hat1))
      have hBa := hB.alloc hB.size (.cells #[.int .u32 (r : Int)] 59)
      have hown := HO.out.2.2.2.lt
      have hB3 := hBa.grown hg1 (Nat.le_trans hB.size (by simp)) (fun k hk => (hown k hk).1)
      refine ⟨⟨i + 1, q, o ++ [r], hin, ?_, by go_num, hq1, ⟨by rw [List.length_append, HO.out.1]; rfl, ?_, all_snoc HO.out.2.2.1 HR.out, ?_⟩, hB3⟩, by simp [intOf]; try omega⟩
      · first | rfl | exact int_eq (by omega)
      · rw [valOf_snoc, HO.out.1]; exact HS.out
      · rw [List.map_append]; exact hown1
    · obtain rfl : i = N + 1 := by omega
      obtain ⟨A', c', rfl, k1, k2, k3⟩ := Limbs.trim_own HO.out.2.2.2 HO.out.1 HO.out.2.2.1 (by omega)
      have hs := plus_end HA.out.2 HB.out.2 (by rw [HA.out.len]; exact h1) (by rw [HB.out.len]; exact h2) HO.out.2.1
      have ht := rtrim_any A' (N+1) c' o wr k3 (by omega) k1 k2
      rw [trimN_limbs HO.out.2.2.1, hs] at ht
      have HT : Sl _ := ⟨ht⟩
      clear hs ht k1 k2 k3
      go_wp2_with fail
      refine HT.out.mono ?_; rintro e w' ⟨⟨A2, c2, rfl, g1, g2, g3⟩, hb⟩
      go_wp2_with fail
      go_ret
      exact ⟨⟨A2, c2, rfl, g1, g2, g3⟩, hB.trans (hb.mono hB.size)⟩
end Go.Proofs.YtgjbaamhpapeeaaDoor
