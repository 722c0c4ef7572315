/- The reference of chapter 04: sums, order. -/
import Derived.Test.YtafadpaljanghaaGreatDoorRefE
import Derived.Test.YtafadpaljanghaaGreatDoorRatG
namespace Go.Proofs.YtafadpaljanghaaGreatDoor
set_option linter.unusedSimpArgs false
open Go.RowKit
set_option linter.unusedVariables false

theorem lgr_le {n P : Nat} (hk : Go.Lib.bitLen n - 1 < 64) : (lgr n P).1 ≤ 2 ^ (P + 6) ∧ (lgr n P).2 ≤ 2 ^ (P + 6) := by
  have e : (2 : Nat) ^ (P + 6) = 64 * 2 ^ P := by rw [Nat.pow_add, Nat.mul_comm]
  unfold lgr
  split
  · rw [e]
    exact ⟨Nat.mul_le_mul_right _ (Nat.le_of_lt hk), Nat.mul_le_mul_right _ (Nat.le_of_lt hk)⟩
  · have := lgL_le (D := 2 ^ (2 * P + 60)) P 0 (n * 2 ^ (2 * P + 60 - (Go.Lib.bitLen n - 1))) (n * 2 ^ (2 * P + 60 - (Go.Lib.bitLen n - 1))) (Go.Lib.bitLen n - 1) hk
    rw [Nat.zero_add] at this
    exact this
/-- numbers of which the reference finds the logarithm -/
def r4N (n : Nat) : Prop := 1 ≤ n ∧ n < 2097152
theorem p6_r4 {n : Nat} (h : n ∈ primes6) : r4N n := by
  simp only [primes6, List.mem_cons, List.not_mem_nil, or_false] at h
  unfold r4N
  omega
theorem r4N.len {n : Nat} (h : r4N n) : ∃ k, 2 ^ k ≤ n ∧ n < 2 ^ (k + 1) ∧ k ≤ 20 ∧ Go.Lib.bitLen n - 1 = k := by
  obtain ⟨h1, h2⟩ := h
  obtain ⟨b1, b2⟩ := bitLen_bounds h1 (Nat.lt_trans h2 (by decide))
  refine ⟨_, b1, b2, ?_, rfl⟩
  rcases Nat.lt_or_ge 20 (Go.Lib.bitLen n - 1) with h0 | h0
  · have := Nat.pow_le_pow_right (n := 2) (by decide) (show 21 ≤ Go.Lib.bitLen n - 1 from h0)
    omega
  · exact h0
theorem r4N.short {n : Nat} (h : r4N n) : Go.Lib.bitLen n - 1 < 64 := by
  obtain ⟨k, _, _, h3, h4⟩ := h.len
  omega
theorem lgr_one (P : Nat) : lgr 1 P = (0, 0) := by
  have e : Go.Lib.bitLen 1 = 1 := by decide +kernel
  unfold lgr
  rw [e]
  simp
/-- the logarithm of a number -/
theorem r4log6 {n P t : Nat} (h : r4N n) (hP : P = 15 * t) (ht : t ≤ 40) (w : World) :
    Calls Tryz.prog 85 #[.int .i64 n, .int .i64 P] w fun e w' => (∃ v1 v2, e = .returned (.tuple #[v1, v2]) ∧ LN w' v1 (lgr n P).1 ∧ LN w' v2 (lgr n P).2) ∧ Below w.heap.size w w' := by
  obtain ⟨k, h1, h2, h3, h4⟩ := h.len
  exact r4log_any n P k t w h1 h2 h3 hP ht h4
/-- a number does not lie in a block of other values -/
theorem LN.set {w : World} {v : Value} {a g : Nat} {t : TypeId} {cs : Array Value} (h : LN w v a) (hb : Blk w g t cs) (hx : ∀ (i : Nat) (k : IntKind) (z : Int), cs[i]? ≠ some (.int k z)) (i : Nat) (u : Value) : LN (w.setCell ⟨g, i, none⟩ u) v a := by
  obtain ⟨A, c, rfl, h1, h2, hV⟩ := h
  refine ⟨A, c, rfl, h1, h2, hV.1, fun hn => ?_⟩
  obtain ⟨ad, e, hl, hc⟩ := hV.2 hn
  refine ⟨ad, e, by simpa using hl, fun j x hj => ?_⟩
  have hcj := hc j x hj
  rw [World.cell?_setCell_other w _ _ _ (fun e => ?_)]
  · exact hcj
  · rw [← e, hb.cell] at hcj
    rw [List.getElem?_map] at hj
    cases hl : (C.limbs a)[j]? with
    | none => rw [hl] at hj; cases hj
    | some y =>
      rw [hl] at hj
      injection hj with hj
      rw [← hj] at hcj
      exact hx _ _ _ hcj
theorem LN.slice {w : World} {v : Value} {a : Nat} (h : LN w v a) : ∃ A n c, v = .slice A n c := by
  obtain ⟨A, c, rfl, _⟩ := h; exact ⟨A, _, c, rfl⟩
structure FourLN (w : World) (g : (Nat × Nat) × (Nat × Nat)) (v1 v2 v3 v4 : Value) : Prop where
  a : LN w v1 g.1.1
  b : LN w v2 g.1.2
  c : LN w v3 g.2.1
  d : LN w v4 g.2.2
theorem FourLN.below {w w' : World} {g : (Nat × Nat) × (Nat × Nat)} {v1 v2 v3 v4 : Value} (h : FourLN w g v1 v2 v3 v4) (hb : Below w.heap.size w w') : FourLN w' g v1 v2 v3 v4 := ⟨h.a.below hb, h.b.below hb, h.c.below hb, h.d.below hb⟩
theorem FourLN.set {w : World} {g : (Nat × Nat) × (Nat × Nat)} {v1 v2 v3 v4 x y : Value} {b : Nat} {t : TypeId} (h : FourLN w g v1 v2 v3 v4) (hb : Blk w b t #[x, y]) (hx : ∃ A n c, x = .slice A n c) (hy : ∃ A n c, y = .slice A n c) (i : Nat) (u : Value) : FourLN (w.setCell ⟨b, i, none⟩ u) g v1 v2 v3 v4 :=
  ⟨h.a.set hb (pair_not_int x y hx hy) i u, h.b.set hb (pair_not_int x y hx hy) i u, h.c.set hb (pair_not_int x y hx hy) i u, h.d.set hb (pair_not_int x y hx hy) i u⟩
/-- the reference's numbers are not too long -/
theorem sums_len {l : List (Nat × Int)} {P : Nat} (hn : l.length ≤ 17) (hP : P ≤ 600) (h6 : ∀ x ∈ l, r4N x.1 ∧ x.2.natAbs ≤ 1152921504606846976) :
    ∀ x, (x = (sumB (fun n => lgr n P) l).1.1 ∨ x = (sumB (fun n => lgr n P) l).1.2 ∨ x = (sumB (fun n => lgr n P) l).2.1 ∨ x = (sumB (fun n => lgr n P) l).2.2) → (C.limbs x).length ≤ 100 := by
  have hb : ∀ x ∈ l, (lgr x.1 P).1 ≤ 2 ^ (P + 6) ∧ (lgr x.1 P).2 ≤ 2 ^ (P + 6) ∧ x.2.natAbs ≤ 1152921504606846976 := fun x hx => by
    have h := (h6 x hx).1
    have hk := h.short
    exact ⟨(lgr_le hk).1, (lgr_le hk).2, (h6 x hx).2⟩
  obtain ⟨h1, h2, h3, h4⟩ := sumB_le (B := fun n => lgr n P) l hb
  have hm := Nat.mul_le_mul_right (2 ^ (P + 6) * 1152921504606846976) hn
  have e : (2 : Nat) ^ (P + 6 + 66) = 2 ^ (P + 6) * 1152921504606846976 * 64 := by rw [Nat.pow_add, Nat.mul_assoc]
  have hp : 0 < 2 ^ (P + 6) * 1152921504606846976 := Nat.mul_pos (Nat.pow_pos (by decide)) (by decide)
  generalize 2 ^ (P + 6) * 1152921504606846976 = Z at *
  intro x hx
  refine C.len_le_pow (E := P + 6 + 66) ?_ (by omega)
  rw [e]
  rcases hx with rfl | rfl | rfl | rfl <;> omega
theorem FourLN.put1 {w : World} {g : (Nat × Nat) × (Nat × Nat)} {v1 v2 v3 v4 r : Value} {b x : Nat} {t : TypeId} (h : FourLN w g v1 v2 v3 v4) (hb : Blk w b t #[v1, v2]) (hr : LN w r x) : FourLN (w.setCell ⟨b, 0, none⟩ r) ((x, g.1.2), g.2) r v2 v3 v4 :=
  let n := pair_not_int v1 v2 h.a.slice h.b.slice
  ⟨hr.set hb n 0 r, h.b.set hb n 0 r, h.c.set hb n 0 r, h.d.set hb n 0 r⟩
theorem FourLN.put2 {w : World} {g : (Nat × Nat) × (Nat × Nat)} {v1 v2 v3 v4 r : Value} {b x : Nat} {t : TypeId} (h : FourLN w g v1 v2 v3 v4) (hb : Blk w b t #[v1, v2]) (hr : LN w r x) : FourLN (w.setCell ⟨b, 1, none⟩ r) ((g.1.1, x), g.2) v1 r v3 v4 :=
  let n := pair_not_int v1 v2 h.a.slice h.b.slice
  ⟨h.a.set hb n 1 r, hr.set hb n 1 r, h.c.set hb n 1 r, h.d.set hb n 1 r⟩
theorem FourLN.put3 {w : World} {g : (Nat × Nat) × (Nat × Nat)} {v1 v2 v3 v4 r : Value} {b x : Nat} {t : TypeId} (h : FourLN w g v1 v2 v3 v4) (hb : Blk w b t #[v3, v4]) (hr : LN w r x) : FourLN (w.setCell ⟨b, 0, none⟩ r) (g.1, (x, g.2.2)) v1 v2 r v4 :=
  let n := pair_not_int v3 v4 h.c.slice h.d.slice
  ⟨h.a.set hb n 0 r, h.b.set hb n 0 r, hr.set hb n 0 r, h.d.set hb n 0 r⟩
theorem FourLN.put4 {w : World} {g : (Nat × Nat) × (Nat × Nat)} {v1 v2 v3 v4 r : Value} {b x : Nat} {t : TypeId} (h : FourLN w g v1 v2 v3 v4) (hb : Blk w b t #[v3, v4]) (hr : LN w r x) : FourLN (w.setCell ⟨b, 1, none⟩ r) (g.1, (g.2.1, x)) v1 v2 v3 r :=
  let n := pair_not_int v3 v4 h.c.slice h.d.slice
  ⟨h.a.set hb n 1 r, h.b.set hb n 1 r, h.c.set hb n 1 r, hr.set hb n 1 r⟩
theorem sumB_zero (B : Nat → Nat × Nat) (n : Nat) (l : List (Nat × Int)) : sumB B (l ++ [(n, 0)]) = sumB B l := by
  rw [sumB_snoc, if_pos (Int.le_refl _)]
  simp
/-- what sums returns -/
def SumLN (w : World) (e : Ending) (g : (Nat × Nat) × (Nat × Nat)) : Prop := ∃ v1 v2 v3 v4, e = .returned (.tuple #[.agg #[v1, v2], .agg #[v3, v4]]) ∧ FourLN w g v1 v2 v3 v4
set_option maxHeartbeats 6400000 in
set_option maxRecDepth 100000 in
theorem r4sums_any (A : Option Addr) (n c P t : Nat) (l : List (Nat × Int)) (w : World) (hl : TR w A n l) (hn : n ≤ 17) (hP : P = 15 * t) (ht : t ≤ 40) (h6 : ∀ x ∈ l, r4N x.1 ∧ x.2.natAbs ≤ 1152921504606846976) :
    Calls Tryz.prog 60 #[.slice A n c, .int .i64 P] w fun e w' => SumLN w' e (sumB (fun n => lgr n P) l) ∧ Below w.heap.size w w' := by
  have HL : Sl _ := ⟨hl⟩
  have HK : Sl _ := ⟨And.intro h6 (And.intro hP ht)⟩
  have hP6 : P ≤ 600 := by omega
  clear hl h6 hP ht
  have hu := (((((Below.refl w.heap.size w).alloc (Nat.le_refl _) (.cells #[.slice none 0 0, .slice none 0 0] 104)).alloc (by simp) (.cells #[.slice none 0 0, .slice none 0 0] 104)).alloc (by simp; omega) (.cells #[.slice none 0 0, .slice none 0 0] 104)).alloc (by simp; omega) (.cells #[.slice none 0 0, .slice none 0 0] 104))
  have hb0 := (((Blk.new w 104 #[.slice none 0 0, .slice none 0 0]).alloc (.cells #[.slice none 0 0, .slice none 0 0] 104)).alloc (.cells #[.slice none 0 0, .slice none 0 0] 104)).alloc (.cells #[.slice none 0 0, .slice none 0 0] 104)
  have hb1 := ((Blk.new (w.alloc (.cells #[.slice none 0 0, .slice none 0 0] 104)) 104 #[.slice none 0 0, .slice none 0 0]).alloc (.cells #[.slice none 0 0, .slice none 0 0] 104)).alloc (.cells #[.slice none 0 0, .slice none 0 0] 104)
  have hb2 := (Blk.new ((w.alloc (.cells #[.slice none 0 0, .slice none 0 0] 104)).alloc (.cells #[.slice none 0 0, .slice none 0 0] 104)) 104 #[.slice none 0 0, .slice none 0 0]).alloc (.cells #[.slice none 0 0, .slice none 0 0] 104)
  have hb3 := Blk.new (((w.alloc (.cells #[.slice none 0 0, .slice none 0 0] 104)).alloc (.cells #[.slice none 0 0, .slice none 0 0] 104)).alloc (.cells #[.slice none 0 0, .slice none 0 0] 104)) 104 #[.slice none 0 0, .slice none 0 0]
  have e1 : ∀ (W : World) (ob : Obj), (W.alloc ob).heap.size = W.heap.size + 1 := fun W ob => by simp
  simp only [e1] at hb1 hb2 hb3
  clear e1
  have HB : Sl _ := ⟨And.intro hu (And.intro hb0 (And.intro hb1 (And.intro hb2 hb3)))⟩
  clear hu hb0 hb1 hb2 hb3
  go_enter Tryz.func60, Tryz.ntmps60
  go_wp2_with fail
  generalize (((w.alloc (.cells #[.slice none 0 0, .slice none 0 0] 104)).alloc (.cells #[.slice none 0 0, .slice none 0 0] 104)).alloc (.cells #[.slice none 0 0, .slice none 0 0] 104)).alloc (.cells #[.slice none 0 0, .slice none 0 0] 104) = w0 at *
  go_loopw [8] (fun s8 wr => ∃ (i : Nat) (v1 v2 v3 v4 : Value), i ≤ n ∧ s8 = .int .i64 i ∧ Sl (Below w.heap.size w wr ∧ Blk wr w.heap.size 104 #[.slice none 0 0, .slice none 0 0] ∧ Blk wr (w.heap.size + 1) 104 #[.slice none 0 0, .slice none 0 0] ∧ Blk wr (w.heap.size + 1 + 1) 104 #[v1, v2] ∧ Blk wr (w.heap.size + 1 + 1 + 1) 104 #[v3, v4] ∧ FourLN wr (sumB (fun n => lgr n P) (l.take i)) v1 v2 v3 v4)) (fun s8 _ => n - (RowKit.intOf s8).toNat)
  case atStart => exact ⟨0, _, _, _, _, Nat.zero_le _, rfl, ⟨HB.out.1, HB.out.2.1, HB.out.2.2.1, HB.out.2.2.2.1, HB.out.2.2.2.2, ⟨LN.nil _, LN.nil _, LN.nil _, LN.nil _⟩⟩⟩
  case round =>
    clear HB
    obtain ⟨i, v1, v2, v3, v4, hi, rfl, HR⟩ := hrel
    by_cases hin : i < n
    · obtain ⟨⟨nn, kk⟩, hx⟩ : ∃ x, l[i]? = some x := ⟨_, List.getElem?_eq_getElem (by rw [HL.out.1]; exact hin)⟩
      obtain ⟨ad, rfl, hab, e1, e2⟩ := (HL.out.below HR.out.1).cells hx
      have e3 : (ad.add (i * 2)).add 1 = ⟨(ad.add (i * 2)).block, (ad.add (i * 2)).off + 1, none⟩ := by
        generalize ad.add (i * 2) = a1
        simp [Addr.add]
      rw [← add_of_add, e3] at e2
      have h6 := HK.out.1 _ (List.mem_of_getElem? hx)
      simp only [] at h6 e1 e2
      by_cases hn1 : nn = 1
      · have hone : ((nn : Int) == 1) = true := by rw [hn1]; rfl
        have HX : Sl _ := ⟨And.intro hx hn1⟩
        clear hx e3 h6 hn1
        go_wp2_with fail
        refine ⟨?_, by simp [RowKit.intOf]; omega⟩
        exact ⟨i + 1, _, _, _, _, hin, by go_num, ⟨HR.out.1, HR.out.2.1, HR.out.2.2.1, HR.out.2.2.2.1, HR.out.2.2.2.2.1, by
          rw [show l.take (i + 1) = l.take i ++ [(nn, kk)] by rw [List.take_add_one, HX.out.1]; rfl, sumB_snoc, HX.out.2, lgr_one]
          simp only [Nat.zero_mul, Nat.add_zero, ite_self]
          exact HR.out.2.2.2.2.2⟩⟩
      have hne1 : ((nn : Int) == 1) = false := by
        rw [beq_eq_false_iff_ne]
        omega
      have HLOG : Sl _ := ⟨r4log6 h6.1 HK.out.2.1 HK.out.2.2 wr⟩
      have hkk := h6.2
      have HX : Sl _ := ⟨And.intro hx h6⟩
      clear hx h6 e3
      by_cases hk0 : kk = 0
      · subst hk0
        go_wp2_with fail
        refine ⟨?_, by simp [RowKit.intOf]; omega⟩
        exact ⟨i + 1, _, _, _, _, hin, by go_num, ⟨HR.out.1, HR.out.2.1, HR.out.2.2.1, HR.out.2.2.2.1, HR.out.2.2.2.2.1, by
          rw [show l.take (i + 1) = l.take i ++ [(nn, (0 : Int))] by rw [List.take_add_one, HX.out.1]; rfl, sumB_zero]
          exact HR.out.2.2.2.2.2⟩⟩
      · have hkz : (kk == 0) = false := by rw [beq_eq_false_iff_ne]; exact hk0
        go_wp2_with fail
        refine HLOG.out.mono ?_; rintro e w1 ⟨⟨lo, hi', rfl, hlo, hhi⟩, hb1⟩
        have HE2 : Sl (∀ W : World, RowKit.Below wr.heap.size wr W → W.cell? ⟨(ad.add (i * 2)).block, (ad.add (i * 2)).off + 1, none⟩ = some (.int .i64 kk)) := ⟨fun W h => (h.cell (p := ⟨(ad.add (i * 2)).block, (ad.add (i * 2)).off + 1, none⟩) (by show (ad.add (i * 2)).block < _; rw [block_of_add]; exact hab)).trans e2⟩
        have e2b := HE2.out _ hb1
        have hB1 := HR.out.1.trans (hb1.mono HR.out.1.size)
        obtain ⟨x1, hx1⟩ : ∃ x, (lgr nn P).1 = x := ⟨_, rfl⟩
        obtain ⟨x2, hx2⟩ : ∃ x, (lgr nn P).2 = x := ⟨_, rfl⟩
        have hxl : x1 ≤ 2 ^ (P + 6) ∧ x2 ≤ 2 ^ (P + 6) := by
          have h := HX.out.2.1
          have hk := h.short
          rw [← hx1, ← hx2]
          exact lgr_le hk
        have hxl1 : (C.limbs x1).length ≤ 100 := C.len_le_pow (E := P + 6 + 1) (Nat.lt_of_le_of_lt hxl.1 (Nat.pow_lt_pow_right (by decide) (by omega))) (by omega)
        have hxl2 : (C.limbs x2).length ≤ 100 := C.len_le_pow (E := P + 6 + 1) (Nat.lt_of_le_of_lt hxl.2 (Nat.pow_lt_pow_right (by decide) (by omega))) (by omega)
        rw [hx1] at hlo
        rw [hx2] at hhi
        obtain ⟨S, hS⟩ : ∃ S, sumB (fun n => lgr n P) (l.take i) = S := ⟨_, rfl⟩
        have hSl := sums_len (l := l.take i) (P := P) (Nat.le_trans (List.length_take_le' _ _) (by rw [HL.out.1]; exact hn)) hP6 (fun x hx => HK.out.1 x (List.mem_of_mem_take hx))
        have hFF := HR.out.2.2.2.2.2
        rw [hS] at hFF hSl
        have HF1 : Sl _ := ⟨And.intro hB1 (And.intro hlo (And.intro hhi (And.intro (HR.out.2.1.below hb1 HR.out.2.1.lt) (And.intro (HR.out.2.2.1.below hb1 HR.out.2.2.1.lt) (And.intro (HR.out.2.2.2.1.below hb1 HR.out.2.2.2.1.lt) (And.intro (HR.out.2.2.2.2.1.below hb1 HR.out.2.2.2.2.1.lt) (hFF.below hb1)))))))⟩
        have HSX : Sl _ := ⟨And.intro hS (And.intro hx1 hx2)⟩
        have hLS : (C.limbs S.1.1).length ≤ 100 ∧ (C.limbs S.1.2).length ≤ 100 ∧ (C.limbs S.2.1).length ≤ 100 ∧ (C.limbs S.2.2).length ≤ 100 := ⟨hSl _ (.inl rfl), hSl _ (.inr (.inl rfl)), hSl _ (.inr (.inr (.inl rfl))), hSl _ (.inr (.inr (.inr rfl)))⟩
        have HLS : Sl _ := ⟨And.intro hxl1 (And.intro hxl2 hLS)⟩
        have HBB : Sl _ := ⟨hb1⟩
        clear hb1 hB1 hlo hhi hFF hSl hS hx1 hx2 hxl hxl1 hxl2 hLS HR e1 e2 HLOG
        rcases Int.lt_or_le 0 kk with hsg | hsg
        · obtain ⟨kn, rfl⟩ : ∃ kn : Nat, kk = (kn : Int) := ⟨kk.natAbs, by omega⟩
          have hkn : 0 < kn ∧ kn ≤ 1152921504606846976 := by omega
          obtain ⟨hkn0, hkn1⟩ := hkn
          have hmx1 : max (kn : Int) (-(kn : Int)) = (kn : Int) := by omega
          have hmx2 : -(kn : Int) ≤ (kn : Int) := by omega
          have hmx3 : ¬ (kn : Int) < -(kn : Int) := by omega
          have hgt : 0 < (kn : Int) := by omega
          have hw : IntKind.i64.wrap (-(kn : Int)) = -(kn : Int) := by rw [IntKind.wrap_i64]; omega
          have HLIM : Sl _ := ⟨fun W : World => r4limbs_any kn W (by omega)⟩
          have HLEN : Sl ((C.limbs kn).length ≤ 10 ∧ (C.limbs x1).length ≤ 100 ∧ (C.limbs x2).length ≤ 100 ∧ (C.limbs S.1.1).length ≤ 100 ∧ (C.limbs S.1.2).length ≤ 100 ∧ (C.limbs S.2.1).length ≤ 100 ∧ (C.limbs S.2.2).length ≤ 100) := ⟨C.len_pow (Nat.lt_of_le_of_lt hkn1 (by decide)), HLS.out⟩
          have HSN : Sl (sumB (fun n => lgr n P) (l.take (i + 1)) = ((S.1.1 + kn * x1, S.1.2 + kn * x2), S.2)) := ⟨by
            rw [show l.take (i + 1) = l.take i ++ [(nn, (kn : Int))] by rw [List.take_add_one, HX.out.1]; rfl, sumB_snoc, HSX.out.1, HSX.out.2.1, HSX.out.2.2, if_pos (by omega)]
            rw [show (((kn : Int))).natAbs = kn by omega, Nat.mul_comm x1, Nat.mul_comm x2]⟩
          clear hkk HLS
          go_wp2_with fail
          go_region_with (first
            | (go_at_call 86; (with_reducible refine (HLIM.out _).mono ?_); rintro e wy ⟨⟨vn, rfl, hvn⟩, hb⟩)
            | fail)
          all_goals (
            have hs0 : RowKit.Below w1.heap.size w1 wy := (below_drewN (Below.refl w1.heap.size w1) 1).trans hb
            have e2c := HE2.out _ (HBB.out.trans (hs0.mono HBB.out.size))
            have HY1 : Sl _ := ⟨And.intro (HF1.out.1.trans (hs0.mono HF1.out.1.size)) (And.intro (HF1.out.2.2.2.1.below hs0 HF1.out.2.2.2.1.lt) (And.intro (HF1.out.2.2.2.2.1.below hs0 HF1.out.2.2.2.2.1.lt) (And.intro (HF1.out.2.2.2.2.2.1.below hs0 HF1.out.2.2.2.2.2.1.lt) (And.intro (HF1.out.2.2.2.2.2.2.1.below hs0 HF1.out.2.2.2.2.2.2.1.lt) (And.intro (HF1.out.2.2.2.2.2.2.2.below hs0) (And.intro (HF1.out.2.1.below hs0) (And.intro (HF1.out.2.2.1.below hs0) hvn)))))))⟩
            clear hs0 hvn hb HF1 e2b HE2 HBB HLIM
            go_wp2_with fail
            clear e2c
            have HCF : Sl (∀ W : World, RowKit.Below wy.heap.size wy W → W.cell? ⟨w.heap.size + 1 + 1, 0, none⟩ = some v1 ∧ W.cell? ⟨w.heap.size + 1 + 1, 1, none⟩ = some v2 ∧ W.frozen? ⟨w.heap.size + 1 + 1, 0, none⟩ = false ∧ W.frozen? ⟨w.heap.size + 1 + 1, 1, none⟩ = false) := ⟨fun W h => by
              have e := HY1.out.2.2.2.1.below h HY1.out.2.2.2.1.lt
              exact ⟨e.cell 0, e.cell 1, e.frozen 0, e.frozen 1⟩⟩
            have HMUL : Sl _ := ⟨fun (W : World) (h : RowKit.Below wy.heap.size wy W) => r4mul_any vn lo kn x1 W (HY1.out.2.2.2.2.2.2.2.2.below h) (HY1.out.2.2.2.2.2.2.1.below h) (by have := HLEN.out.1; omega) (by have := HLEN.out.2.1; omega)⟩
            have HADD : Sl _ := ⟨fun (W : World) (vm : Value) (h : RowKit.Below wy.heap.size wy W) (hm : LN W vm (kn * x1)) => r4add_any v1 vm (S.1.1) (kn * x1) W (HY1.out.2.2.2.2.2.1.a.below h) hm (by have := HLEN.out.2.2.2.1; omega) (by have := C.len_mul kn x1; have := HLEN.out.1; have := HLEN.out.2.1; omega)⟩
            have hs : RowKit.Below wy.heap.size wy wy.drew := below_drewN (Below.refl _ _) 1
            obtain ⟨c0, c1, f0, f1⟩ := HCF.out _ hs
            go_region_with (first
              | (go_at_call 88; have hh := HMUL.out _ hs; (with_reducible refine hh.mono ?_); rintro e wz ⟨⟨vm, rfl, hm⟩, hb⟩; have hs := hs.trans (hb.mono hs.size); obtain ⟨c0, c1, f0, f1⟩ := HCF.out _ hs)
              | (go_at_call 87; have hh := HADD.out _ _ hs hm; (with_reducible refine hh.mono ?_); rintro e wz ⟨⟨rr, rfl, hr⟩, hb⟩; have hs := hs.trans (hb.mono hs.size); obtain ⟨c0, c1, f0, f1⟩ := HCF.out _ hs; obtain ⟨Ar1, nr1, cr1, rfl⟩ := hr.slice)
              | fail)
            all_goals (
              have hF := (HY1.out.2.2.2.2.2.1.below hs).put1 (HY1.out.2.2.2.1.below hs HY1.out.2.2.2.1.lt) hr
              have HY2 : Sl _ := ⟨And.intro ((HY1.out.1.trans (hs.mono HY1.out.1.size)).setCell (p := ⟨w.heap.size + 1 + 1, 0, none⟩) (by show w.heap.size ≤ w.heap.size + 1 + 1; omega) (.slice Ar1 nr1 cr1)) (And.intro ((HY1.out.2.1.below hs HY1.out.2.1.lt).far (p := ⟨w.heap.size + 1 + 1, 0, none⟩) (by show w.heap.size ≠ w.heap.size + 1 + 1; omega) (.slice Ar1 nr1 cr1)) (And.intro ((HY1.out.2.2.1.below hs HY1.out.2.2.1.lt).far (p := ⟨w.heap.size + 1 + 1, 0, none⟩) (by show w.heap.size + 1 ≠ w.heap.size + 1 + 1; omega) (.slice Ar1 nr1 cr1)) (And.intro ((HY1.out.2.2.2.1.below hs HY1.out.2.2.2.1.lt).set_ 0 (.slice Ar1 nr1 cr1)) (And.intro ((HY1.out.2.2.2.2.1.below hs HY1.out.2.2.2.2.1.lt).far (p := ⟨w.heap.size + 1 + 1, 0, none⟩) (by show w.heap.size + 1 + 1 + 1 ≠ w.heap.size + 1 + 1; omega) (.slice Ar1 nr1 cr1)) (And.intro hF (And.intro ((HY1.out.2.2.2.2.2.2.1.below hs).set (HY1.out.2.2.2.1.below hs HY1.out.2.2.2.1.lt) (pair_not_int _ _ HY1.out.2.2.2.2.2.1.a.slice HY1.out.2.2.2.2.2.1.b.slice) 0 (.slice Ar1 nr1 cr1)) (And.intro ((HY1.out.2.2.2.2.2.2.2.1.below hs).set (HY1.out.2.2.2.1.below hs HY1.out.2.2.2.1.lt) (pair_not_int _ _ HY1.out.2.2.2.2.2.1.a.slice HY1.out.2.2.2.2.2.1.b.slice) 0 (.slice Ar1 nr1 cr1)) ((HY1.out.2.2.2.2.2.2.2.2.below hs).set (HY1.out.2.2.2.1.below hs HY1.out.2.2.2.1.lt) (pair_not_int _ _ HY1.out.2.2.2.2.2.1.a.slice HY1.out.2.2.2.2.2.1.b.slice) 0 (.slice Ar1 nr1 cr1)))))))))⟩
              clear HCF HMUL HADD hs c0 c1 f0 f1 hF hm hr HY1
              generalize wz.setCell ⟨w.heap.size + 1 + 1, 0, none⟩ (.slice Ar1 nr1 cr1) = wv at *
              go_wp2_with fail
              have HCF : Sl (∀ W : World, RowKit.Below wv.heap.size wv W → W.cell? ⟨w.heap.size + 1 + 1, 0, none⟩ = some (.slice Ar1 nr1 cr1) ∧ W.cell? ⟨w.heap.size + 1 + 1, 1, none⟩ = some v2 ∧ W.frozen? ⟨w.heap.size + 1 + 1, 0, none⟩ = false ∧ W.frozen? ⟨w.heap.size + 1 + 1, 1, none⟩ = false) := ⟨fun W h => by
                have e := HY2.out.2.2.2.1.below h HY2.out.2.2.2.1.lt
                exact ⟨e.cell 0, e.cell 1, e.frozen 0, e.frozen 1⟩⟩
              have HMUL : Sl _ := ⟨fun (W : World) (h : RowKit.Below wv.heap.size wv W) => r4mul_any vn hi' kn x2 W (HY2.out.2.2.2.2.2.2.2.2.below h) (HY2.out.2.2.2.2.2.2.2.1.below h) (by have := HLEN.out.1; omega) (by have := HLEN.out.2.2.1; omega)⟩
              have HADD : Sl _ := ⟨fun (W : World) (vm : Value) (h : RowKit.Below wv.heap.size wv W) (hm : LN W vm (kn * x2)) => r4add_any v2 vm (S.1.2) (kn * x2) W (HY2.out.2.2.2.2.2.1.b.below h) hm (by have := HLEN.out.2.2.2.2.1; omega) (by have := C.len_mul kn x2; have := HLEN.out.1; have := HLEN.out.2.2.1; omega)⟩
              have hs : RowKit.Below wv.heap.size wv wv.drew := below_drewN (Below.refl _ _) 1
              obtain ⟨c0, c1, f0, f1⟩ := HCF.out _ hs
              go_region_with (first
                | (go_at_call 88; have hh := HMUL.out _ hs; (with_reducible refine hh.mono ?_); rintro e wz ⟨⟨vm, rfl, hm⟩, hb⟩; have hs := hs.trans (hb.mono hs.size); obtain ⟨c0, c1, f0, f1⟩ := HCF.out _ hs)
                | (go_at_call 87; have hh := HADD.out _ _ hs hm; (with_reducible refine hh.mono ?_); rintro e wz ⟨⟨rr, rfl, hr⟩, hb⟩; have hs := hs.trans (hb.mono hs.size); obtain ⟨c0, c1, f0, f1⟩ := HCF.out _ hs; obtain ⟨Ar2, nr2, cr2, rfl⟩ := hr.slice)
                | fail)
              all_goals (
                have hF := (HY2.out.2.2.2.2.2.1.below hs).put2 (HY2.out.2.2.2.1.below hs HY2.out.2.2.2.1.lt) hr
                have HY3 : Sl _ := ⟨And.intro ((HY2.out.1.trans (hs.mono HY2.out.1.size)).setCell (p := ⟨w.heap.size + 1 + 1, 1, none⟩) (by show w.heap.size ≤ w.heap.size + 1 + 1; omega) (.slice Ar2 nr2 cr2)) (And.intro ((HY2.out.2.1.below hs HY2.out.2.1.lt).far (p := ⟨w.heap.size + 1 + 1, 1, none⟩) (by show w.heap.size ≠ w.heap.size + 1 + 1; omega) (.slice Ar2 nr2 cr2)) (And.intro ((HY2.out.2.2.1.below hs HY2.out.2.2.1.lt).far (p := ⟨w.heap.size + 1 + 1, 1, none⟩) (by show w.heap.size + 1 ≠ w.heap.size + 1 + 1; omega) (.slice Ar2 nr2 cr2)) (And.intro ((HY2.out.2.2.2.1.below hs HY2.out.2.2.2.1.lt).set_ 1 (.slice Ar2 nr2 cr2)) (And.intro ((HY2.out.2.2.2.2.1.below hs HY2.out.2.2.2.2.1.lt).far (p := ⟨w.heap.size + 1 + 1, 1, none⟩) (by show w.heap.size + 1 + 1 + 1 ≠ w.heap.size + 1 + 1; omega) (.slice Ar2 nr2 cr2)) (And.intro hF (And.intro ((HY2.out.2.2.2.2.2.2.1.below hs).set (HY2.out.2.2.2.1.below hs HY2.out.2.2.2.1.lt) (pair_not_int _ _ HY2.out.2.2.2.2.2.1.a.slice HY2.out.2.2.2.2.2.1.b.slice) 1 (.slice Ar2 nr2 cr2)) (And.intro ((HY2.out.2.2.2.2.2.2.2.1.below hs).set (HY2.out.2.2.2.1.below hs HY2.out.2.2.2.1.lt) (pair_not_int _ _ HY2.out.2.2.2.2.2.1.a.slice HY2.out.2.2.2.2.2.1.b.slice) 1 (.slice Ar2 nr2 cr2)) ((HY2.out.2.2.2.2.2.2.2.2.below hs).set (HY2.out.2.2.2.1.below hs HY2.out.2.2.2.1.lt) (pair_not_int _ _ HY2.out.2.2.2.2.2.1.a.slice HY2.out.2.2.2.2.2.1.b.slice) 1 (.slice Ar2 nr2 cr2)))))))))⟩
                clear HCF HMUL HADD hs c0 c1 f0 f1 hF hm hr HY2
                go_wp2_with fail
                refine ⟨?_, by simp [RowKit.intOf]; omega⟩
                exact ⟨i + 1, _, _, _, _, hin, by go_num, ⟨HY3.out.1, HY3.out.2.1, HY3.out.2.2.1, HY3.out.2.2.2.1, HY3.out.2.2.2.2.1, by rw [HSN.out]; exact HY3.out.2.2.2.2.2.1⟩⟩)))
        · obtain ⟨kn, rfl⟩ : ∃ kn : Nat, kk = -(kn : Int) := ⟨kk.natAbs, by omega⟩
          have hkn : 0 < kn ∧ kn ≤ 1152921504606846976 := by omega
          obtain ⟨hkn0, hkn1⟩ := hkn
          have hmx1 : max (-(kn : Int)) (kn : Int) = (kn : Int) := by omega
          have hmx2 : -(kn : Int) ≤ (kn : Int) := by omega
          have hmx3 : -(kn : Int) < (kn : Int) := by omega
          have hgt : ¬ 0 < -(kn : Int) := by omega
          have hw : IntKind.i64.wrap (kn : Int) = (kn : Int) := by rw [IntKind.wrap_i64]; omega
          have HLIM : Sl _ := ⟨fun W : World => r4limbs_any kn W (by omega)⟩
          have HLEN : Sl ((C.limbs kn).length ≤ 10 ∧ (C.limbs x1).length ≤ 100 ∧ (C.limbs x2).length ≤ 100 ∧ (C.limbs S.1.1).length ≤ 100 ∧ (C.limbs S.1.2).length ≤ 100 ∧ (C.limbs S.2.1).length ≤ 100 ∧ (C.limbs S.2.2).length ≤ 100) := ⟨C.len_pow (Nat.lt_of_le_of_lt hkn1 (by decide)), HLS.out⟩
          have HSN : Sl (sumB (fun n => lgr n P) (l.take (i + 1)) = (S.1, (S.2.1 + kn * x1, S.2.2 + kn * x2))) := ⟨by
            rw [show l.take (i + 1) = l.take i ++ [(nn, (-(kn : Int)))] by rw [List.take_add_one, HX.out.1]; rfl, sumB_snoc, HSX.out.1, HSX.out.2.1, HSX.out.2.2, if_neg (by omega)]
            rw [show ((-(kn : Int))).natAbs = kn by omega, Nat.mul_comm x1, Nat.mul_comm x2]⟩
          clear hkk HLS
          go_wp2_with fail
          go_region_with (first
            | (go_at_call 86; (with_reducible refine (HLIM.out _).mono ?_); rintro e wy ⟨⟨vn, rfl, hvn⟩, hb⟩)
            | fail)
          all_goals (
            have hs0 : RowKit.Below w1.heap.size w1 wy := (below_drewN (Below.refl w1.heap.size w1) 1).trans hb
            have e2c := HE2.out _ (HBB.out.trans (hs0.mono HBB.out.size))
            have HY1 : Sl _ := ⟨And.intro (HF1.out.1.trans (hs0.mono HF1.out.1.size)) (And.intro (HF1.out.2.2.2.1.below hs0 HF1.out.2.2.2.1.lt) (And.intro (HF1.out.2.2.2.2.1.below hs0 HF1.out.2.2.2.2.1.lt) (And.intro (HF1.out.2.2.2.2.2.1.below hs0 HF1.out.2.2.2.2.2.1.lt) (And.intro (HF1.out.2.2.2.2.2.2.1.below hs0 HF1.out.2.2.2.2.2.2.1.lt) (And.intro (HF1.out.2.2.2.2.2.2.2.below hs0) (And.intro (HF1.out.2.1.below hs0) (And.intro (HF1.out.2.2.1.below hs0) hvn)))))))⟩
            clear hs0 hvn hb HF1 e2b HE2 HBB HLIM
            go_wp2_with fail
            clear e2c
            have HCF : Sl (∀ W : World, RowKit.Below wy.heap.size wy W → W.cell? ⟨w.heap.size + 1 + 1 + 1, 0, none⟩ = some v3 ∧ W.cell? ⟨w.heap.size + 1 + 1 + 1, 1, none⟩ = some v4 ∧ W.frozen? ⟨w.heap.size + 1 + 1 + 1, 0, none⟩ = false ∧ W.frozen? ⟨w.heap.size + 1 + 1 + 1, 1, none⟩ = false) := ⟨fun W h => by
              have e := HY1.out.2.2.2.2.1.below h HY1.out.2.2.2.2.1.lt
              exact ⟨e.cell 0, e.cell 1, e.frozen 0, e.frozen 1⟩⟩
            have HMUL : Sl _ := ⟨fun (W : World) (h : RowKit.Below wy.heap.size wy W) => r4mul_any vn lo kn x1 W (HY1.out.2.2.2.2.2.2.2.2.below h) (HY1.out.2.2.2.2.2.2.1.below h) (by have := HLEN.out.1; omega) (by have := HLEN.out.2.1; omega)⟩
            have HADD : Sl _ := ⟨fun (W : World) (vm : Value) (h : RowKit.Below wy.heap.size wy W) (hm : LN W vm (kn * x1)) => r4add_any v3 vm (S.2.1) (kn * x1) W (HY1.out.2.2.2.2.2.1.c.below h) hm (by have := HLEN.out.2.2.2.2.2.1; omega) (by have := C.len_mul kn x1; have := HLEN.out.1; have := HLEN.out.2.1; omega)⟩
            have hs : RowKit.Below wy.heap.size wy wy.drew := below_drewN (Below.refl _ _) 1
            obtain ⟨c0, c1, f0, f1⟩ := HCF.out _ hs
            go_region_with (first
              | (go_at_call 88; have hh := HMUL.out _ hs; (with_reducible refine hh.mono ?_); rintro e wz ⟨⟨vm, rfl, hm⟩, hb⟩; have hs := hs.trans (hb.mono hs.size); obtain ⟨c0, c1, f0, f1⟩ := HCF.out _ hs)
              | (go_at_call 87; have hh := HADD.out _ _ hs hm; (with_reducible refine hh.mono ?_); rintro e wz ⟨⟨rr, rfl, hr⟩, hb⟩; have hs := hs.trans (hb.mono hs.size); obtain ⟨c0, c1, f0, f1⟩ := HCF.out _ hs; obtain ⟨Ar1, nr1, cr1, rfl⟩ := hr.slice)
              | fail)
            all_goals (
              have hF := (HY1.out.2.2.2.2.2.1.below hs).put3 (HY1.out.2.2.2.2.1.below hs HY1.out.2.2.2.2.1.lt) hr
              have HY2 : Sl _ := ⟨And.intro ((HY1.out.1.trans (hs.mono HY1.out.1.size)).setCell (p := ⟨w.heap.size + 1 + 1 + 1, 0, none⟩) (by show w.heap.size ≤ w.heap.size + 1 + 1 + 1; omega) (.slice Ar1 nr1 cr1)) (And.intro ((HY1.out.2.1.below hs HY1.out.2.1.lt).far (p := ⟨w.heap.size + 1 + 1 + 1, 0, none⟩) (by show w.heap.size ≠ w.heap.size + 1 + 1 + 1; omega) (.slice Ar1 nr1 cr1)) (And.intro ((HY1.out.2.2.1.below hs HY1.out.2.2.1.lt).far (p := ⟨w.heap.size + 1 + 1 + 1, 0, none⟩) (by show w.heap.size + 1 ≠ w.heap.size + 1 + 1 + 1; omega) (.slice Ar1 nr1 cr1)) (And.intro ((HY1.out.2.2.2.1.below hs HY1.out.2.2.2.1.lt).far (p := ⟨w.heap.size + 1 + 1 + 1, 0, none⟩) (by show w.heap.size + 1 + 1 ≠ w.heap.size + 1 + 1 + 1; omega) (.slice Ar1 nr1 cr1)) (And.intro ((HY1.out.2.2.2.2.1.below hs HY1.out.2.2.2.2.1.lt).set_ 0 (.slice Ar1 nr1 cr1)) (And.intro hF (And.intro ((HY1.out.2.2.2.2.2.2.1.below hs).set (HY1.out.2.2.2.2.1.below hs HY1.out.2.2.2.2.1.lt) (pair_not_int _ _ HY1.out.2.2.2.2.2.1.c.slice HY1.out.2.2.2.2.2.1.d.slice) 0 (.slice Ar1 nr1 cr1)) (And.intro ((HY1.out.2.2.2.2.2.2.2.1.below hs).set (HY1.out.2.2.2.2.1.below hs HY1.out.2.2.2.2.1.lt) (pair_not_int _ _ HY1.out.2.2.2.2.2.1.c.slice HY1.out.2.2.2.2.2.1.d.slice) 0 (.slice Ar1 nr1 cr1)) ((HY1.out.2.2.2.2.2.2.2.2.below hs).set (HY1.out.2.2.2.2.1.below hs HY1.out.2.2.2.2.1.lt) (pair_not_int _ _ HY1.out.2.2.2.2.2.1.c.slice HY1.out.2.2.2.2.2.1.d.slice) 0 (.slice Ar1 nr1 cr1)))))))))⟩
              clear HCF HMUL HADD hs c0 c1 f0 f1 hF hm hr HY1
              generalize wz.setCell ⟨w.heap.size + 1 + 1 + 1, 0, none⟩ (.slice Ar1 nr1 cr1) = wv at *
              go_wp2_with fail
              have HCF : Sl (∀ W : World, RowKit.Below wv.heap.size wv W → W.cell? ⟨w.heap.size + 1 + 1 + 1, 0, none⟩ = some (.slice Ar1 nr1 cr1) ∧ W.cell? ⟨w.heap.size + 1 + 1 + 1, 1, none⟩ = some v4 ∧ W.frozen? ⟨w.heap.size + 1 + 1 + 1, 0, none⟩ = false ∧ W.frozen? ⟨w.heap.size + 1 + 1 + 1, 1, none⟩ = false) := ⟨fun W h => by
                have e := HY2.out.2.2.2.2.1.below h HY2.out.2.2.2.2.1.lt
                exact ⟨e.cell 0, e.cell 1, e.frozen 0, e.frozen 1⟩⟩
              have HMUL : Sl _ := ⟨fun (W : World) (h : RowKit.Below wv.heap.size wv W) => r4mul_any vn hi' kn x2 W (HY2.out.2.2.2.2.2.2.2.2.below h) (HY2.out.2.2.2.2.2.2.2.1.below h) (by have := HLEN.out.1; omega) (by have := HLEN.out.2.2.1; omega)⟩
              have HADD : Sl _ := ⟨fun (W : World) (vm : Value) (h : RowKit.Below wv.heap.size wv W) (hm : LN W vm (kn * x2)) => r4add_any v4 vm (S.2.2) (kn * x2) W (HY2.out.2.2.2.2.2.1.d.below h) hm (by have := HLEN.out.2.2.2.2.2.2; omega) (by have := C.len_mul kn x2; have := HLEN.out.1; have := HLEN.out.2.2.1; omega)⟩
              have hs : RowKit.Below wv.heap.size wv wv.drew := below_drewN (Below.refl _ _) 1
              obtain ⟨c0, c1, f0, f1⟩ := HCF.out _ hs
              go_region_with (first
                | (go_at_call 88; have hh := HMUL.out _ hs; (with_reducible refine hh.mono ?_); rintro e wz ⟨⟨vm, rfl, hm⟩, hb⟩; have hs := hs.trans (hb.mono hs.size); obtain ⟨c0, c1, f0, f1⟩ := HCF.out _ hs)
                | (go_at_call 87; have hh := HADD.out _ _ hs hm; (with_reducible refine hh.mono ?_); rintro e wz ⟨⟨rr, rfl, hr⟩, hb⟩; have hs := hs.trans (hb.mono hs.size); obtain ⟨c0, c1, f0, f1⟩ := HCF.out _ hs; obtain ⟨Ar2, nr2, cr2, rfl⟩ := hr.slice)
                | fail)
              all_goals (
                have hF := (HY2.out.2.2.2.2.2.1.below hs).put4 (HY2.out.2.2.2.2.1.below hs HY2.out.2.2.2.2.1.lt) hr
                have HY3 : Sl _ := ⟨And.intro ((HY2.out.1.trans (hs.mono HY2.out.1.size)).setCell (p := ⟨w.heap.size + 1 + 1 + 1, 1, none⟩) (by show w.heap.size ≤ w.heap.size + 1 + 1 + 1; omega) (.slice Ar2 nr2 cr2)) (And.intro ((HY2.out.2.1.below hs HY2.out.2.1.lt).far (p := ⟨w.heap.size + 1 + 1 + 1, 1, none⟩) (by show w.heap.size ≠ w.heap.size + 1 + 1 + 1; omega) (.slice Ar2 nr2 cr2)) (And.intro ((HY2.out.2.2.1.below hs HY2.out.2.2.1.lt).far (p := ⟨w.heap.size + 1 + 1 + 1, 1, none⟩) (by show w.heap.size + 1 ≠ w.heap.size + 1 + 1 + 1; omega) (.slice Ar2 nr2 cr2)) (And.intro ((HY2.out.2.2.2.1.below hs HY2.out.2.2.2.1.lt).far (p := ⟨w.heap.size + 1 + 1 + 1, 1, none⟩) (by show w.heap.size + 1 + 1 ≠ w.heap.size + 1 + 1 + 1; omega) (.slice Ar2 nr2 cr2)) (And.intro ((HY2.out.2.2.2.2.1.below hs HY2.out.2.2.2.2.1.lt).set_ 1 (.slice Ar2 nr2 cr2)) (And.intro hF (And.intro ((HY2.out.2.2.2.2.2.2.1.below hs).set (HY2.out.2.2.2.2.1.below hs HY2.out.2.2.2.2.1.lt) (pair_not_int _ _ HY2.out.2.2.2.2.2.1.c.slice HY2.out.2.2.2.2.2.1.d.slice) 1 (.slice Ar2 nr2 cr2)) (And.intro ((HY2.out.2.2.2.2.2.2.2.1.below hs).set (HY2.out.2.2.2.2.1.below hs HY2.out.2.2.2.2.1.lt) (pair_not_int _ _ HY2.out.2.2.2.2.2.1.c.slice HY2.out.2.2.2.2.2.1.d.slice) 1 (.slice Ar2 nr2 cr2)) ((HY2.out.2.2.2.2.2.2.2.2.below hs).set (HY2.out.2.2.2.2.1.below hs HY2.out.2.2.2.2.1.lt) (pair_not_int _ _ HY2.out.2.2.2.2.2.1.c.slice HY2.out.2.2.2.2.2.1.d.slice) 1 (.slice Ar2 nr2 cr2)))))))))⟩
                clear HCF HMUL HADD hs c0 c1 f0 f1 hF hm hr HY2
                go_wp2_with fail
                refine ⟨?_, by simp [RowKit.intOf]; omega⟩
                exact ⟨i + 1, _, _, _, _, hin, by go_num, ⟨HY3.out.1, HY3.out.2.1, HY3.out.2.2.1, HY3.out.2.2.2.1, HY3.out.2.2.2.2.1, by rw [HSN.out]; exact HY3.out.2.2.2.2.2.1⟩⟩)))
    · obtain rfl : n = i := by omega
      rw [List.take_of_length_le (by rw [HL.out.1]; exact Nat.le_refl _)] at HR
      obtain ⟨A1, n1, c1, rfl⟩ := HR.out.2.2.2.2.2.a.slice
      obtain ⟨A2, n2, c2, rfl⟩ := HR.out.2.2.2.2.2.b.slice
      obtain ⟨A3, n3, c3, rfl⟩ := HR.out.2.2.2.2.2.c.slice
      obtain ⟨A4, n4, c4, rfl⟩ := HR.out.2.2.2.2.2.d.slice
      have p0 := HR.out.2.2.2.1.cell 0
      have p1 := HR.out.2.2.2.1.cell 1
      have q0 := HR.out.2.2.2.2.1.cell 0
      have q1 := HR.out.2.2.2.2.1.cell 1
      have a0 := HR.out.2.1.cell 0
      have a1 := HR.out.2.1.cell 1
      have b0 := HR.out.2.2.1.cell 0
      have b1 := HR.out.2.2.1.cell 1
      simp at p0 p1 q0 q1 a0 a1 b0 b1
      have a2 := HR.out.2.1.frozen 0
      have a3 := HR.out.2.1.frozen 1
      have b2 := HR.out.2.2.1.frozen 0
      have b3 := HR.out.2.2.1.frozen 1
      have hP1 := HR.out.2.1.set_ 0 (.slice A1 n1 c1)
      have hP2 := hP1.set_ 1 (.slice A2 n2 c2)
      have hne : w.heap.size ≠ w.heap.size + 1 := by omega
      have hne2 : w.heap.size + 1 ≠ w.heap.size := by omega
      have hQ0 := (HR.out.2.2.1.far (p := ⟨w.heap.size, 0, none⟩) hne2 (.slice A1 n1 c1)).far (p := ⟨w.heap.size, 1, none⟩) hne2 (.slice A2 n2 c2)
      have hQ1 := hQ0.set_ 0 (.slice A3 n3 c3)
      have hQ2 := hQ1.set_ 1 (.slice A4 n4 c4)
      have hP4 := (hP2.far (p := ⟨w.heap.size + 1, 0, none⟩) hne (.slice A3 n3 c3)).far (p := ⟨w.heap.size + 1, 1, none⟩) hne (.slice A4 n4 c4)
      have hz : ∀ (i : Nat) (k : IntKind) (z : Int), (#[Value.slice none 0 0, Value.slice none 0 0] : Array Value)[i]? ≠ some (.int k z) := pair_not_int _ _ ⟨none, 0, 0, rfl⟩ ⟨none, 0, 0, rfl⟩
      have hz1 : ∀ (i : Nat) (k : IntKind) (z : Int), (#[Value.slice none 0 0, Value.slice none 0 0] : Array Value).setIfInBounds 0 (.slice A1 n1 c1) ≠ #[] → ((#[Value.slice none 0 0, Value.slice none 0 0] : Array Value).setIfInBounds 0 (.slice A1 n1 c1))[i]? ≠ some (.int k z) := fun i k z _ => pair_not_int (.slice A1 n1 c1) (.slice none 0 0) ⟨_, _, _, rfl⟩ ⟨_, _, _, rfl⟩ i k z
      have hz3 : ∀ (i : Nat) (k : IntKind) (z : Int), ((#[Value.slice none 0 0, Value.slice none 0 0] : Array Value).setIfInBounds 0 (.slice A3 n3 c3))[i]? ≠ some (.int k z) := pair_not_int (.slice A3 n3 c3) (.slice none 0 0) ⟨_, _, _, rfl⟩ ⟨_, _, _, rfl⟩
      have hset : ∀ {v : Value} {a : Nat}, LN wr v a → LN ((((wr.setCell ⟨w.heap.size, 0, none⟩ (.slice A1 n1 c1)).setCell ⟨w.heap.size, 1, none⟩ (.slice A2 n2 c2)).setCell ⟨w.heap.size + 1, 0, none⟩ (.slice A3 n3 c3)).setCell ⟨w.heap.size + 1, 1, none⟩ (.slice A4 n4 c4)) v a := fun h => (((h.set HR.out.2.1 hz 0 _).set hP1 (fun i k z => hz1 i k z (by simp)) 1 _).set hQ0 hz 0 _).set hQ1 hz3 1 _
      have hB4 := (((HR.out.1.setCell (p := ⟨w.heap.size, 0, none⟩) (Nat.le_refl _) (.slice A1 n1 c1)).setCell (p := ⟨w.heap.size, 1, none⟩) (Nat.le_refl _) (.slice A2 n2 c2)).setCell (p := ⟨w.heap.size + 1, 0, none⟩) (Nat.le_succ _) (.slice A3 n3 c3)).setCell (p := ⟨w.heap.size + 1, 1, none⟩) (Nat.le_succ _) (.slice A4 n4 c4)
      have HE : Sl _ := ⟨And.intro hP4 (And.intro hQ2 (And.intro hB4 (And.intro (hset HR.out.2.2.2.2.2.a) (And.intro (hset HR.out.2.2.2.2.2.b) (And.intro (hset HR.out.2.2.2.2.2.c) (hset HR.out.2.2.2.2.2.d))))))⟩
      clear hP1 hP2 hQ0 hQ1 hQ2 hP4 hB4 hset hz hz1 hz3
      go_wp2_with fail
      go_region
      all_goals (
        have HE2 : Sl _ := ⟨fun (v : Value) (a : Nat) (h : LN _ v a) => h.below (below_drewN (Below.refl _ _) 1 : RowKit.Below _ ((((wr.setCell ⟨w.heap.size, 0, none⟩ (.slice A1 n1 c1)).setCell ⟨w.heap.size, 1, none⟩ (.slice A2 n2 c2)).setCell ⟨w.heap.size + 1, 0, none⟩ (.slice A3 n3 c3)).setCell ⟨w.heap.size + 1, 1, none⟩ (.slice A4 n4 c4)) ((((wr.setCell ⟨w.heap.size, 0, none⟩ (.slice A1 n1 c1)).setCell ⟨w.heap.size, 1, none⟩ (.slice A2 n2 c2)).setCell ⟨w.heap.size + 1, 0, none⟩ (.slice A3 n3 c3)).setCell ⟨w.heap.size + 1, 1, none⟩ (.slice A4 n4 c4)).drew)⟩
        go_wp2_with fail
        refine bodyPost_ret (results_cells2 rfl _ _ w.heap.size (w.heap.size + 1) _ _ _ _ _ rfl rfl HE.out.1.drew HE.out.2.1.drew Tryz.underlying104 rfl (by kernel_rfl) (by kernel_rfl)) rfl ?_
        exact ⟨⟨_, _, _, _, rfl, HE2.out _ _ HE.out.2.2.2.1, HE2.out _ _ HE.out.2.2.2.2.1, HE2.out _ _ HE.out.2.2.2.2.2.1, HE2.out _ _ HE.out.2.2.2.2.2.2⟩, below_drewN HE.out.2.2.1 1⟩)
end Go.Proofs.YtafadpaljanghaaGreatDoor
