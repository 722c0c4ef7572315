/- The reference: trim, Minus and double return a new block. -/
import Derived.Test.YtgjbaamhpapeeaaDoorLawK
namespace Go.Proofs.YtgjbaamhpapeeaaDoor
open Go.RowKit
set_option linter.unusedVariables false
set_option linter.unusedSimpArgs false

/-- an address that is nil or lies in a block that is no older -/
def Fresh (B : Nat) (A : Option Addr) : Prop := ∀ ad, A = some ad → B ≤ ad.block
theorem Fresh.mono {B B' : Nat} {A : Option Addr} (h : Fresh B A) (hb : B' ≤ B) : Fresh B' A := fun ad e => Nat.le_trans hb (h ad e)
/-- a result: a new slice of limbs -/
def LimbsF (B : Nat) (l : List Nat) (e : Ending) (w : World) : Prop := ∃ A c, e = .returned (.slice A l.length c) ∧ l.length ≤ c ∧ c ≤ maxLen ∧ U w A l.length l ∧ Fresh B A
theorem LimbsF.of_own {w : World} {base : Nat} {e : TypeId} {v : Value} {n : Nat} {l : List Nat} (h : w.ownsRow base e 1 v n (l.map lv)) (hn : l.length = n) (hl : ∀ x ∈ l, x < LB) : LimbsF base l (.returned v) w := by
  subst hn
  have hr := h
  rcases h.2 with ⟨rfl, h0⟩ | ⟨g, cap, cur, rfl, hb, hh, hc, hm, _⟩
  · have e : l = [] := List.eq_nil_of_length_eq_zero h0
    subst e
    exact ⟨none, 0, rfl, by simp, by decide, ⟨⟨by simp, fun h => absurd h (by simp)⟩, by simp⟩, fun ad he => by cases he⟩
  · exact ⟨_, cap, rfl, hc, hm, ⟨Reads.of_own hr, hl⟩, fun ad he => by cases he; exact hb⟩
/-- a slice of limbs in another block than a cell that is written -/
theorem U.put_ {w : World} {A : Option Addr} {n : Nat} {l : List Nat} (h : U w A n l) {g : Nat} (hf : ∀ ad, A = some ad → ad.block ≠ g) (i : Nat) (u : Value) : U (w.setCell ⟨g, i, none⟩ u) A n l := by
  have hs : (w.setCell ⟨g, i, none⟩ u).heap.size = w.heap.size := by simp [World.setCell]
  refine ⟨⟨h.1.1, fun hn => ?_⟩, h.2⟩
  obtain ⟨ad, e, hb, hc⟩ := h.1.2 hn
  refine ⟨ad, e, by rw [hs]; exact hb, fun j v hv => (World.cell?_setCell_other _ _ _ _ (fun he => ?_)).trans (hc j v hv)⟩
  have := congrArg Addr.block he
  rw [block_of_add] at this
  exact hf ad e this.symm

set_option maxHeartbeats 400000 in
/-- the reference's trim -/
theorem rtrim_fresh (A : Option Addr) (n c : Nat) (l : List Nat) (w : World) (h : U w A n l) (hn : n ≤ 4294967296) (hc : n ≤ c) (hm : c ≤ maxLen) :
    Calls Tryd.prog 73 #[.slice A n c] w fun e w' => LimbsF w.heap.size (trimN l) e w' ∧ Below w.heap.size w w' := by
  obtain ⟨i0, hi0, hz0, hz1, hz2⟩ := info_parts info32
  have hl := h.len
  unfold maxLen at hm
  have HL : Sl _ := ⟨hl⟩
  clear hl
  have HI : Sl _ := ⟨And.intro hi0 (And.intro hz0 (And.intro hz1 hz2))⟩
  clear hi0 hz0 hz1 hz2
  go_enter Tryd.func73, Tryd.ntmps73
  go_wp2
  go_loop [3] (fun v => ∃ k : Nat, k ≤ n ∧ v = .int .i64 k ∧ trimN (l.take k) = trimN l) (fun v => (intOf v).toNat)
  case atStart => exact ⟨n, Nat.le_refl _, rfl, by rw [List.take_of_length_le (by rw [HL.out]; exact Nat.le_refl _)]⟩
  case round =>
    obtain ⟨k, hk, rfl, ht⟩ := hrel
    have HT : Sl _ := ⟨ht⟩
    clear ht
    by_cases hgo : ∃ j, k = j + 1 ∧ l[j]?.getD 0 = 0
    · obtain ⟨j, rfl, hz⟩ := hgo
      obtain ⟨ad, rfl, hb, hcell⟩ := h.cell (k := j) (by omega)
      rw [hz] at hcell
      have HZ : Sl _ := ⟨hz⟩
      clear hz
      have ej : (((j + 1 : Nat) : Int) - 1) = (j : Int) := by omega
      go_wp2
      exact ⟨⟨j, by omega, by first | rfl | exact int_eq (by omega), by rw [← HT.out, take_trim0 l j (by rw [HL.out]; omega) HZ.out]⟩, by simp [intOf]; try omega⟩
    · have hend : trimN l = l.take k := by
        rcases k with _ | j
        · rw [← HT.out]; simp [trimN_nil]
        · rw [← HT.out, take_trim1 l j (by rw [HL.out]; omega) (fun h0 => hgo ⟨j, rfl, h0⟩)]
      have hU := h.take hk
      have HU : Sl _ := ⟨hU⟩
      have HE : Sl _ := ⟨hend⟩
      have hone : ∀ u ∈ (l.take k).map lv, u.oneCell' = true := by intro u hu; obtain ⟨x, _, rfl⟩ := List.mem_map.1 hu; rfl
      have hcon : k = 0 ∨ ∃ j ad, k = j + 1 ∧ A = some ad ∧ w.cell? (ad.add j) = some (.int .u32 (l[j]?.getD 0 : Nat)) ∧ (((l[j]?.getD 0 : Nat) : Int) == 0) = false := by
        rcases k with _ | j
        · exact .inl rfl
        · obtain ⟨ad, rfl, hb, hcell⟩ := h.cell (k := j) (by omega)
          exact .inr ⟨j, ad, rfl, rfl, hcell, by rw [beq_eq_false_iff_ne]; intro h0; exact hgo ⟨j, rfl, by omega⟩⟩
      clear hend hU hgo
      rcases hcon with rfl | ⟨j, ad, rfl, rfl, hcell, hz⟩
      all_goals (
        go_wp2_with (at_builtin; go_loud (refine wpList_append_any _ rfl (.tmp 18) (.tmp 21) _ rfl w.heap.size 59 i0 _ 1 4 Tryd.underlying23 HI.out.1 HI.out.2.1 HI.out.2.2.1 HI.out.2.2.2 rfl (by decide) (.slice (some ⟨w.heap.size, 0, none⟩) 0 0) 0 [] rfl (World.ownsRow_made w #[] 0 (Nat.le_refl _) (by decide) rfl) w.heap.size _ _ c _ rfl (HU.out.1.alloc (Nat.le_refl _) _) hone (by simp only [maxLen]; omega) (by omega) (by simp) ?_; intro v1 w1 hown1 hg1 hat1))
        go_ret
        have hg : Below w.heap.size w w1 := ((Below.refl _ _).alloc (Nat.le_refl _) _).grown hg1 (by simp) (fun k hk => by simp [Value.ownBlock] at hk; omega)
        rw [HE.out]
        exact ⟨LimbsF.of_own (by simpa using hown1) HU.out.len HU.out.2, hg⟩)


set_option maxHeartbeats 1600000 in
set_option maxRecDepth 100000 in
/-- the reference's Minus -/
theorem rminus_fresh (A B : Option Addr) (n m c d : Nat) (la lb : List Nat) (w : World) (ha : U w A n la) (hb : U w B m lb) (hn : n ≤ 1000000) (hm : m ≤ 1000000) (hab : valOf lb ≤ valOf la) :
    Calls Tryd.prog 82 #[.slice A n c, .slice B m d] w fun e w' => LimbsF w.heap.size (limbs (valOf la - valOf lb)) e w' ∧ Below w.heap.size w w' := by
  obtain ⟨i0, hi0, hz0, hz1, hz2⟩ := info_parts info32
  have HI : Sl _ := ⟨And.intro hi0 (And.intro hz0 (And.intro hz1 hz2))⟩
  clear hi0 hz0 hz1 hz2
  have HA : Sl _ := ⟨ha⟩
  have HB : Sl _ := ⟨hb⟩
  have HAB : Sl _ := ⟨hab⟩
  clear ha hb hab
  go_enter Tryd.func82, Tryd.ntmps82
  go_wp2_with fail
  go_loopw [5, 6, 7] (fun s5 s6 s7 wr => ∃ (i cy : Nat) (o : List Nat), i ≤ n ∧ s6 = .int .u64 cy ∧ s7 = .int .i64 i ∧ cy ≤ 1 ∧ Sl (o.length = i ∧ valOf o + valOf (lb.take i) = valOf (la.take i) + cy * LB ^ i ∧ (∀ x ∈ o, x < LB) ∧ wr.ownsRow w.heap.size 59 1 s5 i (o.map lv)) ∧ Below w.heap.size w wr) (fun _ _ s7 _ => n - (intOf s7).toNat)
  case atStart => exact ⟨0, 0, [], Nat.zero_le _, rfl, rfl, by omega, ⟨rfl, by simp [valOf], by simp, World.ownsRow_nil _ _ _ _⟩, Below.refl _ _⟩
  case round =>
    obtain ⟨i, cy, o, hi, rfl, rfl, hcy, HO, hB⟩ := hrel
    by_cases hin : i < n
    · have ca := limb_any A n c la i wr (HA.out.below hB) (by omega) (by omega)
      have cb := limb_any B m d lb i wr (HB.out.below hB) (by omega) (by omega)
      have hx := lim_small HA.out.2 i
      have hy := lim_small HB.out.2 i
      have hs := minus_step' (x := lim la i) (y := lim lb i) HO.out.2.1 hcy (lim_lt HA.out.2 i) (lim_lt HB.out.2 i)
      rw [← valOf_take_lim, ← valOf_take_lim] at hs
      have HS : Sl _ := ⟨hs.1⟩
      clear hs
      generalize lim la i = x at *
      generalize lim lb i = y at *
      have CA : Sl _ := ⟨ca⟩
      have CB : Sl _ := ⟨cb⟩
      clear ca cb
      have hr : (LB + x - y - cy) % LB < LB := Nat.mod_lt _ LB_pos
      have HR : Sl _ := ⟨hr⟩
      clear hr
      have hcr : ((4294967296 + (x : Int) - (y : Int) - (cy : Int)) % 4294967296) = (((LB + x - y - cy) % LB : Nat) : Int) := by unfold LB; omega
      have hcq : ((4294967296 + (x : Int) - (y : Int) - (cy : Int)) / 4294967296) = (((LB + x - y - cy) / LB : Nat) : Int) := by unfold LB; omega
      have hq1 : (LB + x - y - cy) / LB ≤ 1 := by unfold LB; omega
      generalize (LB + x - y - cy) % LB = r at *
      generalize (LB + x - y - cy) / LB = q at *
      go_wp2_with fail
      refine CA.out.mono ?_; rintro e w' ⟨rfl, rfl⟩
      go_wp2_with fail
      refine CB.out.mono ?_; rintro e w' ⟨rfl, rfl⟩
      have HOA := HO.out.2.2.2.alloc (.cells #[.int .u32 (r : Int)] 59)
      go_wp2_with (at_builtin; go_loud (refine wpList_append_any _ rfl (.tmp 25) (.tmp 29) _ rfl w.heap.size 59 i0 _ 1 4 Tryd.underlying23 HI.out.1 HI.out.2.1 HI.out.2.2.1 HI.out.2.2.2 rfl (by decide) _ i _ rfl HOA _ (some ⟨wr.heap.size, 0, none⟩) 1 1 ([r].map lv) rfl (U_one wr r HR.out _).1 (one_lv r) (by unfold maxLen; omega) (by omega) (Nat.le_trans hB.size (by simp)) ?_; intro v1 w3 hown1 hg1 hat1))
      have hBa := hB.alloc hB.size (.cells #[.int .u32 (r : Int)] 59)
      have hown := HO.out.2.2.2.lt
      have hB3 := hBa.grown hg1 (Nat.le_trans hB.size (by simp)) (fun k hk => (hown k hk).1)
      refine ⟨⟨i + 1, 1 - q, o ++ [r], hin, ?_, by go_num, by omega, ⟨by rw [List.length_append, HO.out.1]; rfl, ?_, all_snoc HO.out.2.2.1 HR.out, ?_⟩, hB3⟩, by simp [intOf]; try omega⟩
      · first | rfl | exact int_eq (by omega)
      · rw [valOf_snoc, HO.out.1]; exact HS.out
      · rw [List.map_append]; exact hown1
    · obtain rfl : i = n := by omega
      obtain ⟨A', c', rfl, k1, k2, k3⟩ := Limbs.trim_own HO.out.2.2.2 HO.out.1 HO.out.2.2.1 (by omega)
      have hs := minus_end HA.out.2 HO.out.2.2.1 HA.out.len HO.out.1 HAB.out HO.out.2.1
      have ht := rtrim_fresh A' i c' o wr k3 (by omega) k1 k2
      rw [trimN_limbs HO.out.2.2.1, hs] at ht
      have HT : Sl _ := ⟨ht⟩
      clear hs ht k1 k2 k3
      go_wp2_with fail
      refine HT.out.mono ?_; rintro e w' ⟨⟨A2, c2, rfl, g1, g2, g3, g4⟩, hb⟩
      go_wp2_with fail
      go_ret
      exact ⟨⟨A2, c2, rfl, g1, g2, g3, g4.mono hB.size⟩, hB.trans (hb.mono hB.size)⟩


set_option maxHeartbeats 800000 in
set_option maxRecDepth 100000 in
/-- the reference's double -/
theorem double_fresh (A : Option Addr) (n c : Nat) (l : List Nat) (y : Nat) (w : World) (ha : U w A n l) (hn : n ≤ 1000000) (hy : y ≤ 1) :
    Calls Tryd.prog 100 #[.slice A n c, .int .u32 y] w fun e w' => LimbsF w.heap.size (limbs (2 * valOf l + y)) e w' ∧ Below w.heap.size w w' := by
  have HA : Sl _ := ⟨ha⟩
  have HL : Sl _ := ⟨ha.len⟩
  clear ha
  have hmk := run_make_row' (P := Tryd.prog) 23 59 (.int .u32 0) 4 Tryd.underlying23 info32 rfl .i64 .i64 (n+1) (by omega) (by omega)
  simp only [Int.natCast_add, Int.natCast_one] at hmk
  go_enter Tryd.func100, Tryd.ntmps100
  go_wp2_with fail
  clear hmk
  go_loopw [1, 6] (fun s1 s6 wr => ∃ (i x : Nat) (o : List Nat), i ≤ n ∧ s1 = .int .u32 x ∧ s6 = .int .i64 i ∧ x ≤ 1 ∧ Sl (o.length = i ∧ valOf o + x * LB ^ i = 2 * valOf (l.take i) + y ∧ Out wr w.heap.size (n+1) o) ∧ Below w.heap.size w wr) (fun _ s6 _ => n - (intOf s6).toNat)
  case atStart => exact ⟨0, y, [], Nat.zero_le _, rfl, rfl, hy, ⟨rfl, by simp [valOf], Out.made _ _⟩, (Below.refl _ _).alloc (Nat.le_refl _) _⟩
  case round =>
    obtain ⟨i, x, o, hi, rfl, rfl, hx, HO, hB⟩ := hrel
    by_cases hin : i < n
    · obtain ⟨ad, rfl, hbd, hca0⟩ := HA.out.cell (k := i) hin
      have hca : wr.cell? (ad.add i) = some (.int .u32 (l[i]?.getD 0 : Nat)) := (hB.cell (by rw [block_of_add]; exact hbd)).trans hca0
      clear hca0
      have hlt := lim_lt HA.out.2 i
      have e0 : lim l i = l[i]?.getD 0 := rfl
      rw [← e0] at hca
      have hs := dbl_step HO.out.2.1 (lim l i)
      rw [← valOf_take_lim] at hs
      generalize lim l i = z at *
      have HS : Sl _ := ⟨hs⟩
      have HZ : Sl _ := ⟨hlt⟩
      have hc0 := HO.out.2.2.1.cell (i := i) (by omega)
      have hf0 := HO.out.2.2.1.frozen i
      have hca2 : ∀ u, (wr.setCell ⟨w.heap.size, i, none⟩ u).cell? (ad.add i) = some (.int .u32 z) := fun u => by
        refine (World.cell?_setCell_other _ _ _ _ (fun he => ?_)).trans hca
        have := congrArg Addr.block he
        rw [block_of_add] at this
        simp at this
        omega
      clear hs hlt e0
      go_wp2_with fail
      have hz := HZ.out
      have hor := dbl_or z x hz hx
      refine ⟨⟨i + 1, z / 2147483648, o ++ [2 * z % LB + x], hin, int_eq (by omega), by go_num, by unfold LB at hz; omega, ⟨by rw [List.length_append, HO.out.1]; rfl, ?_, HO.out.2.2.setI HO.out.1 hor.1 hor.2⟩, hB.setCell (Nat.le_refl _) _⟩, by simp [intOf]; omega⟩
      rw [valOf_snoc, HO.out.1]
      exact HS.out
    · obtain rfl : i = n := by omega
      have hc0 := HO.out.2.2.1.cell (i := i) (by omega)
      have hf0 := HO.out.2.2.1.frozen i
      have hx' : (x : Int) ≤ 1 := by omega
      have hU : U (wr.setCell ⟨w.heap.size, i, none⟩ (.int .u32 x)) (some ⟨w.heap.size, 0, none⟩) (i+1) (o ++ [x]) :=
        (HO.out.2.2.setI HO.out.1 rfl (by unfold LB; omega)).U (by rw [List.length_append, HO.out.1]; rfl)
      have ht := rtrim_fresh _ _ (i+1) _ _ hU (by omega) (Nat.le_refl _) (by unfold maxLen; omega)
      have e : trimN (o ++ [x]) = limbs (2 * valOf l + y) := by
        rw [trimN_limbs hU.2, valOf_snoc, HO.out.1]
        have := HO.out.2.1
        rw [List.take_of_length_le (by rw [HL.out]; exact Nat.le_refl _)] at this
        rw [Nat.mul_comm, this]
      rw [e] at ht
      have HT : Sl _ := ⟨ht⟩
      clear ht e hU
      go_wp2_with fail
      refine HT.out.mono ?_; rintro e w' ⟨⟨A2, c2, rfl, g1, g2, g3, g4⟩, hb⟩
      go_wp2_with fail
      go_ret
      exact ⟨⟨A2, c2, rfl, g1, g2, g3, g4.mono (hB.setCell (Nat.le_refl _) _).size⟩, (hB.setCell (Nat.le_refl _) _).trans (hb.mono (hB.setCell (Nat.le_refl _) _).size)⟩
end Go.Proofs.YtgjbaamhpapeeaaDoor
