/- slices.SortStableFunc of the indices in a row, by their weights. (Printed by gensi.py.) -/
import Derived.Test.YtbaojmfkjpnfhaaGreatDoorSiD
namespace Go.Proofs.YtbaojmfkjpnfhaaGreatDoor
set_option linter.unusedSimpArgs false
open Go.RowKit
set_option linter.unusedVariables false

/-- from a on every index lies at its place -/
def Idt (e : Nat → Int) (a N : Nat) : Prop := ∀ k, a ≤ k → k < N → e k = (k : Int)
/-- from lo on the blocks of s hold their own indices -/
def Cbk (e : Nat → Int) (N s lo : Nat) : Prop := ∀ k, lo ≤ k → k < N → (e k).toNat / s = k / s
theorem div_in {k s t : Nat} (h1 : t * s ≤ k) (h2 : k < t * s + s) : k / s = t := by
  refine Nat.div_eq_of_lt_le h1 ?_
  rw [Nat.succ_mul]; exact h2
theorem cb_step {e e2 : Nat → Int} {a b N s t : Nat} (h : Cbk e N s 0) (hp : Pm a b e e2) (ha : a = t * s) (hb : b ≤ a + s) (hN : b ≤ N) : Cbk e2 N s 0 := fun k _ hk => by
  by_cases hab : a ≤ k ∧ k < b
  · have := hp.all (P := fun x => x.toNat / s = t) (fun q q1 q2 => by
      rw [h q (Nat.zero_le _) (by omega)]
      exact div_in (by omega) (by omega)) k hab.1 hab.2
    rw [this, div_in (k := k) (s := s) (t := t) (by omega) (by omega)]
  · rw [hp.far (by omega)]
    exact h k (Nat.zero_le _) hk
theorem cb_far {e e2 : Nat → Int} {a b N s lo : Nat} (h : Cbk e N s lo) (hp : Pm a b e e2) (hl : lo ≤ b) : Cbk e2 N s b := fun k h1 hk => by
  rw [hp.far (.inr h1)]
  exact h k (by omega) hk
theorem cb_dbl {e : Nat → Int} {N s s2 : Nat} (h : Cbk e N s 0) (h2 : s + s = s2) : Cbk e N s2 0 := fun k h1 hk => by
  have := h k h1 hk
  rw [← h2, show s + s = s * 2 by omega, ← Nat.div_div_eq_div_mul, ← Nat.div_div_eq_div_mul, this]
theorem cb_crs {e : Nat → Int} {N s s2 lo a m b t : Nat} (h : Cbk e N s lo) (hl : lo ≤ a) (ha : a = t * s2) (h2 : s + s = s2) (hm : a + s = m) (hb : b ≤ a + s2) (hN : b ≤ N) : Crs e a m b := fun i j i1 i2 j1 j2 => by
  have e0 : a = (t * 2) * s := by rw [ha, ← h2, Nat.mul_assoc, show 2 * s = s + s by omega]
  have d1 := h i (by omega) (by omega)
  have d2 := h j (by omega) (by omega)
  rw [div_in (k := i) (s := s) (t := t * 2) (by omega) (by omega)] at d1
  rw [div_in (k := j) (s := s) (t := t * 2 + 1) (by rw [Nat.succ_mul]; omega) (by rw [Nat.succ_mul]; omega)] at d2
  rcases Nat.lt_or_ge (e i).toNat (e j).toNat with h3 | h3
  · omega
  · have := Nat.div_le_div_right (c := s) h3
    omega
section
variable {α : Type} {κ : α → Int}
/-- the first t blocks of s are sorted -/
def LftI (κ : α → Int) (d : Nat → α) (s t : Nat) : Prop := ∀ v, v < t → Srt κ d (v * s) (v * s + s)
theorem LftI.far {d e : Nat → α} {s t b : Nat} (h : LftI κ d s t) (hp : Pm (t * s) b d e) : LftI κ e s t := fun v hv => (h v hv).congr fun k k1 k2 => hp.far (.inl (by
  have := Nat.mul_le_mul_right s (show v + 1 ≤ t from hv)
  rw [Nat.succ_mul] at this
  omega))
theorem LftI.succ {d e : Nat → α} {s t b : Nat} (h : LftI κ d s t) (hp : Pm (t * s) b d e) (hs : Srt κ e (t * s) (t * s + s)) : LftI κ e s (t + 1) := fun v hv => by
  rcases Nat.lt_or_ge v t with h1 | h1
  · exact h.far hp v h1
  · rw [show v = t by omega]; exact hs
theorem LftI.bks {d : Nat → α} {n s t : Nat} (h : LftI κ d s t) (hl : Srt κ d (t * s) n) (hn : n < t * s + s) : Bks κ d n s 0 := fun v hv => by
  rw [Nat.zero_add] at *
  rcases Nat.lt_trichotomy v t with h1 | h1 | h1
  · exact (h v h1).sub (Nat.le_refl _) (Nat.min_le_left _ _)
  · subst h1; exact hl.sub (Nat.le_refl _) (Nat.min_le_right _ _)
  · have := Nat.mul_le_mul_right s (show t + 1 ≤ v from h1)
    rw [Nat.succ_mul] at this
    omega
theorem Bks.fstI {d : Nat → α} {n s lo : Nat} (h : Bks κ d n s lo) (hl : lo + s ≤ n) (hs : 0 < s) : Srt κ d lo (lo + s) := by
  have := h.at0 (by omega)
  rwa [Nat.min_eq_left hl] at this
theorem Bks.lstI {d : Nat → α} {n s lo : Nat} (h : Bks κ d n s lo) (hl : n ≤ lo + s) : Srt κ d lo n := by
  rcases Nat.lt_or_ge lo n with h1 | h1
  · have := h.at0 h1
    rwa [Nat.min_eq_right hl] at this
  · exact .one (by omega)
end
set_option maxHeartbeats 12800000 in
set_option maxRecDepth 100000 in
theorem lwStableI_any (ws : List Int) (g gf N cap : Nat) (d : Nat → Int) (w : World) (h : PBI ws w g N d) (hf : KeyI ws w gf g) (hN : N ≤ 100000) (hid : ∀ k, k < N → d k = (k : Int)) :
    Calls Tryz.prog 124 #[.slice (some ⟨g, 0, none⟩) N cap, .int .i64 N, .func (.func 72) #[] #[.pointer (some ⟨gf, 0, none⟩)]] w fun e w' => e = .returned (.tuple #[]) ∧ Mv g w w' ∧ ∃ d', PBI ws w' g N d' ∧ Pm 0 N d d' ∧ Srt (dueI ws) d' 0 N := by
  have HP : Sl _ := ⟨h⟩
  have HF : Sl (∀ W, Mv g w W → KeyI ws W gf g) := ⟨fun W hm => KeyI.mv hf hm⟩
  have HAB : Sl (N ≤ 100000) := ⟨hN⟩
  have HID : Sl _ := ⟨hid⟩
  have hN6 : (N : Int) ≤ 100000 := by omega
  clear h hf hid hN
  go_enter Tryz.func124, Tryz.ntmps124
  go_wp2_with fail
  go_loopw [7, 8] (fun s7 s8 wr => ∃ (a : Nat) (e : Nat → Int), a ≤ N ∧ s7 = .int .i64 a ∧ s8 = .int .i64 ((a : Int) + 20) ∧ Sl (Mv g w wr ∧ PBI ws wr g N e ∧ Pm 0 N d e) ∧ Sl (∃ t, a = t * 20 ∧ LftI (dueI ws) e 20 t) ∧ Sl (Idt e a N ∧ Cbk e N 20 0)) (fun s7 _ _ => N - (RowKit.intOf s7).toNat)
  case atStart => exact ⟨0, d, Nat.zero_le _, by go_num, by go_num, ⟨Mv.refl _ _, HP.out, .refl⟩, ⟨0, rfl, fun v hv => by omega⟩, ⟨fun k _ h => HID.out k h, fun k _ h => by rw [HID.out k h]; rfl⟩⟩
  case round =>
    clear HP
    obtain ⟨a, e, haN, rfl, rfl, HK, HB, HC⟩ := hrel
    by_cases hb : a + 20 ≤ N
    · have hbI : (a : Int) + 20 ≤ (N : Int) := by omega
      obtain ⟨b, hbb⟩ : ∃ b, a + 20 = b := ⟨_, rfl⟩
      have hbbI : (a : Int) + 20 = (b : Int) := by omega
      have HBB : Sl _ := ⟨hbb⟩
      have HI : Sl _ := ⟨insSortI_any ws g gf N cap a b e wr HK.out.2.1 (HF.out wr HK.out.1) (by omega) (by omega) (by have := HAB.out; omega) (fun p q h1 h2 h3 => by rw [HC.out.1 p h1 (by omega), HC.out.1 q (by omega) (by omega)]; omega)⟩
      rw [hbbI]
      have hbN : (b : Int) ≤ (N : Int) := by omega
      clear hbb hbbI hbI hb
      go_wp2_with fail
      refine HI.out.mono ?_; rintro ee w2 ⟨rfl, hm2, e2, hp2, hq2, hs2⟩
      have HW : Sl (Mv g w w2 ∧ PBI ws w2 g N e2 ∧ Pm 0 N d e2) := ⟨Mv.trans HK.out.1 hm2, hp2, HK.out.2.2.trans (hq2.mono (Nat.zero_le _) (by omega))⟩
      have HB2 : Sl (∃ t, b = t * 20 ∧ LftI (dueI ws) e2 20 t) := ⟨by
        obtain ⟨t, e1, h1⟩ := HB.out
        have h2 := HBB.out
        refine ⟨t + 1, by rw [Nat.succ_mul]; omega, ?_⟩
        refine h1.succ (b := b) (by rw [← e1]; exact hq2) (by rw [← e1, h2]; exact hs2)⟩
      have HC2 : Sl (Idt e2 b N ∧ Cbk e2 N 20 0) := ⟨by
        obtain ⟨t, e1, _⟩ := HB.out
        have h2 := HBB.out
        exact ⟨fun k k1 k2 => by rw [hq2.far (.inr k1)]; exact HC.out.1 k (by omega) k2, cb_step HC.out.2 hq2 e1 (by omega) (by omega)⟩⟩
      clear hm2 hp2 hq2 hs2 HI HK HB HC
      go_wp2_with fail
      exact ⟨⟨b, e2, by omega, rfl, by go_num, HW, HB2, HC2⟩, by have := HBB.out; simp [RowKit.intOf]; omega⟩
    · have hbI : ¬ (a : Int) + 20 ≤ (N : Int) := by omega
      have hbd : decide ((a : Int) + 20 ≤ (N : Int)) = false := decide_eq_false hbI
      have HI : Sl _ := ⟨insSortI_any ws g gf N cap a N e wr HK.out.2.1 (HF.out wr HK.out.1) haN (Nat.le_refl _) (by have := HAB.out; omega) (fun p q h1 h2 h3 => by rw [HC.out.1 p h1 (by omega), HC.out.1 q (by omega) (by omega)]; omega)⟩
      go_wp2_with fail
      refine HI.out.mono ?_; rintro ee w2 ⟨rfl, hm2, e2, hp2, hq2, hs2⟩
      have HW : Sl (Mv g w w2 ∧ PBI ws w2 g N e2 ∧ Pm 0 N d e2 ∧ Bks (dueI ws) e2 N 20 0) := ⟨Mv.trans HK.out.1 hm2, hp2, HK.out.2.2.trans (hq2.mono (Nat.zero_le _) (Nat.le_refl _)), by
        obtain ⟨t, e1, h1⟩ := HB.out
        rw [e1] at hq2 hs2
        exact (h1.far hq2).bks hs2 (by omega)⟩
      have HC2 : Sl (Cbk e2 N 20 0) := ⟨by
        obtain ⟨t, e1, _⟩ := HB.out
        exact cb_step HC.out.2 hq2 e1 (by omega) (Nat.le_refl _)⟩
      clear hm2 hp2 hq2 hs2 HI HK HB hbd hbI hb HC
      go_wp2_with fail
      go_loopw [6, 7, 8, 9] (fun s6 s7 s8 s9 wr => ∃ (s : Nat) (v7 v8 v9 : Value) (e : Nat → Int), 0 < s ∧ s ≤ 2 * N + 20 ∧ s6 = .int .i64 s ∧ s7 = v7 ∧ s8 = v8 ∧ s9 = v9 ∧ Sl (Mv g w wr ∧ PBI ws wr g N e ∧ Pm 0 N d e ∧ Bks (dueI ws) e N s 0) ∧ Sl (Cbk e N s 0)) (fun s6 _ _ _ _ => N - (RowKit.intOf s6).toNat)
      case atStart => exact ⟨20, _, _, _, e2, by decide, by omega, by go_num, rfl, rfl, rfl, HW, HC2⟩
      case round =>
        clear HW HC2
        obtain ⟨s, v7, v8, v9, e3, hs0, hsN, rfl, rfl, rfl, rfl, HW, HC⟩ := hrel
        by_cases hs : s < N
        · have hsI : (s : Int) < (N : Int) := by omega
          obtain ⟨s2, hs2⟩ : ∃ s2, s + s = s2 := ⟨_, rfl⟩
          have hs2I : 2 * (s : Int) = (s2 : Int) := by omega
          have hs2J : (s : Int) * 2 = (s2 : Int) := by omega
          have hs2w : IntKind.i64.wrap (s2 : Int) = (s2 : Int) := by rw [IntKind.wrap_i64]; omega
          have hs26 : (s2 : Int) ≤ 200000 := by omega
          have HS2 : Sl (s + s = s2 ∧ 0 < s ∧ s < N) := ⟨hs2, hs0, hs⟩
          clear hs2
          go_wp2_with fail
          go_loopw [7, 8] (fun s7 s8 wr => ∃ (a : Nat) (e : Nat → Int), a ≤ N ∧ s7 = .int .i64 a ∧ s8 = .int .i64 ((a : Int) + (s2 : Int)) ∧ Sl (Mv g w wr ∧ PBI ws wr g N e ∧ Pm 0 N d e ∧ Bks (dueI ws) e N s a) ∧ Sl (∃ t, a = t * s2 ∧ LftI (dueI ws) e s2 t) ∧ Sl (Cbk e N s2 0 ∧ Cbk e N s a)) (fun s7 _ _ => N - (RowKit.intOf s7).toNat)
          case atStart => exact ⟨0, e3, Nat.zero_le _, by go_num, by go_num, HW, ⟨0, by omega, fun v hv => by omega⟩, ⟨cb_dbl HC.out HS2.out.1, HC.out⟩⟩
          case round =>
            clear HW HC
            obtain ⟨a, e4, haN4, rfl, rfl, HK, HB, HC⟩ := hrel
            by_cases hb : a + s2 ≤ N
            · obtain ⟨b, hbb⟩ : ∃ b, a + s2 = b := ⟨_, rfl⟩
              have hbbI : (a : Int) + (s2 : Int) = (b : Int) := by omega
              obtain ⟨m, hm⟩ : ∃ m, a + s = m := ⟨_, rfl⟩
              have hmI : (a : Int) + (s : Int) = (m : Int) := by omega
              have hmw : IntKind.i64.wrap (m : Int) = (m : Int) := by rw [IntKind.wrap_i64]; omega
              have HBB : Sl (a + s2 = b ∧ a + s = m) := ⟨hbb, hm⟩
              have hss := HS2.out
              have HI : Sl _ := ⟨symMergeI_any ws g gf N cap (b - a) a m b (Nat.le_refl _) e4 wr HK.out.2.1 (HF.out wr HK.out.1) (by omega) (by omega) (by omega) (by have := HAB.out; omega)
                (by rw [← hm]; exact HK.out.2.2.2.fstI (by omega) hs0) (by rw [show b = m + s by omega, ← hm]; exact HK.out.2.2.2.next.fstI (by omega) hs0) (by obtain ⟨t, e1, _⟩ := HB.out; exact cb_crs HC.out.2 (Nat.le_refl _) e1 hss.1 hm (by omega) (by omega))⟩
              rw [hbbI]
              have hbN : (b : Int) ≤ (N : Int) := by omega
              clear hbb hm hbbI hss hb
              go_wp2_with fail
              refine HI.out.mono ?_; rintro ee w5 ⟨rfl, hm5, e5, hp5, hq5, hs5⟩
              have HW : Sl (Mv g w w5 ∧ PBI ws w5 g N e5 ∧ Pm 0 N d e5 ∧ Bks (dueI ws) e5 N s b) := ⟨Mv.trans HK.out.1 hm5, hp5, HK.out.2.2.1.trans (hq5.mono (Nat.zero_le _) (by omega)), by
                have h1 := HK.out.2.2.2.next.next
                have h2 := HBB.out
                have h3 := HS2.out
                rw [show a + s + s = b by omega] at h1
                exact h1.congr fun k k1 k2 => hq5.far (.inr k1)⟩
              have HB2 : Sl (∃ t, b = t * s2 ∧ LftI (dueI ws) e5 s2 t) := ⟨by
                obtain ⟨t, e1, h1⟩ := HB.out
                have h2 := HBB.out.1
                refine ⟨t + 1, by rw [Nat.succ_mul]; omega, ?_⟩
                refine h1.succ (b := b) (by rw [← e1]; exact hq5) (by rw [← e1, h2]; exact hs5)⟩
              have HC2 : Sl (Cbk e5 N s2 0 ∧ Cbk e5 N s b) := ⟨by
                obtain ⟨t, e1, _⟩ := HB.out
                have h2 := HBB.out
                exact ⟨cb_step HC.out.1 hq5 e1 (by omega) (by omega), cb_far HC.out.2 hq5 (by omega)⟩⟩
              clear hm5 hp5 hq5 hs5 HI HK HB HC
              go_wp2_with fail
              exact ⟨⟨b, e5, by omega, rfl, by go_num, HW, HB2, HC2⟩, by have := HBB.out; have := HS2.out; simp [RowKit.intOf]; omega⟩
            · have hbI : ¬ (a : Int) + (s2 : Int) ≤ (N : Int) := by omega
              have hbd : decide ((a : Int) + (s2 : Int) ≤ (N : Int)) = false := decide_eq_false hbI
              obtain ⟨m, hm⟩ : ∃ m, a + s = m := ⟨_, rfl⟩
              have hmI : (a : Int) + (s : Int) = (m : Int) := by omega
              have hmw : IntKind.i64.wrap (m : Int) = (m : Int) := by rw [IntKind.wrap_i64]; omega
              have hss := HS2.out
              by_cases hmN : m < N
              · have hmNI : (m : Int) < (N : Int) := by omega
                have hmNd : decide ((m : Int) < (N : Int)) = true := decide_eq_true hmNI
                have HI : Sl _ := ⟨symMergeI_any ws g gf N cap (N - a) a m N (Nat.le_refl _) e4 wr HK.out.2.1 (HF.out wr HK.out.1) (by omega) hmN (Nat.le_refl _) (by have := HAB.out; omega)
                  (by rw [← hm]; exact HK.out.2.2.2.fstI (by omega) hs0) (by rw [← hm]; exact HK.out.2.2.2.next.lstI (by omega)) (by obtain ⟨t, e1, _⟩ := HB.out; exact cb_crs HC.out.2 (Nat.le_refl _) e1 hss.1 hm (by omega) (Nat.le_refl _))⟩
                have HNS : Sl (N < a + s2) := ⟨by omega⟩
                clear hm hss hmN hb
                go_wp2_with fail
                refine HI.out.mono ?_; rintro ee w5 ⟨rfl, hm5, e5, hp5, hq5, hs5⟩
                have HW : Sl (Mv g w w5 ∧ PBI ws w5 g N e5 ∧ Pm 0 N d e5 ∧ Bks (dueI ws) e5 N s2 0) := ⟨Mv.trans HK.out.1 hm5, hp5, HK.out.2.2.1.trans (hq5.mono (Nat.zero_le _) (Nat.le_refl _)), by
                  obtain ⟨t, e1, h1⟩ := HB.out
                  have h2 := HNS.out
                  rw [e1] at hq5 hs5 h2
                  exact (h1.far hq5).bks hs5 h2⟩
                have HC2 : Sl (Cbk e5 N s2 0) := ⟨by
                  obtain ⟨t, e1, _⟩ := HB.out
                  have h2 := HNS.out
                  exact cb_step HC.out.1 hq5 e1 (by omega) (Nat.le_refl _)⟩
                clear hm5 hp5 hq5 hs5 HI HK HB HC hbd hbI hmI hmNd hmNI
                go_wp2_with fail
                exact ⟨⟨s2, _, _, _, e5, by have := HS2.out; omega, by have := HS2.out; omega, by go_num, rfl, rfl, rfl, HW, HC2⟩, by have := HS2.out; simp [RowKit.intOf]; omega⟩
              · have hmNI : ¬ (m : Int) < (N : Int) := by omega
                have hmNd : decide ((m : Int) < (N : Int)) = false := decide_eq_false hmNI
                have HW : Sl (Mv g w wr ∧ PBI ws wr g N e4 ∧ Pm 0 N d e4 ∧ Bks (dueI ws) e4 N s2 0) := ⟨HK.out.1, HK.out.2.1, HK.out.2.2.1, by
                  obtain ⟨t, e1, h1⟩ := HB.out
                  have h2 := HK.out.2.2.2.lstI (by omega)
                  have h3 : N < a + s2 := by omega
                  rw [e1] at h2 h3
                  exact h1.bks h2 h3⟩
                have HC2 : Sl (Cbk e4 N s2 0) := ⟨HC.out.1⟩
                clear hm hss hmN hb HK HB HC
                go_wp2_with fail
                exact ⟨⟨s2, _, _, _, e4, by have := HS2.out; omega, by have := HS2.out; omega, by go_num, rfl, rfl, rfl, HW, HC2⟩, by have := HS2.out; simp [RowKit.intOf]; omega⟩
        · have hsI : ¬ (s : Int) < (N : Int) := by omega
          have hsd : decide ((s : Int) < (N : Int)) = false := decide_eq_false hsI
          have HFN : Sl (Srt (dueI ws) e3 0 N) := ⟨HW.out.2.2.2.lstI (by omega)⟩
          go_wp2_with fail
          go_end0
          exact ⟨rfl, HW.out.1, e3, HW.out.2.1, HW.out.2.2.1, HFN.out⟩
set_option maxHeartbeats 3200000 in
set_option maxRecDepth 100000 in
theorem lwSortStableI_any (ws : List Int) (g gf N cap : Nat) (d : Nat → Int) (w : World) (h : PBI ws w g N d) (hf : KeyI ws w gf g) (hN : N ≤ 100000) (hid : ∀ k, k < N → d k = (k : Int)) :
    Calls Tryz.prog 71 #[.slice (some ⟨g, 0, none⟩) N cap, .func (.func 72) #[] #[.pointer (some ⟨gf, 0, none⟩)]] w fun e w' => e = .returned (.tuple #[]) ∧ Mv g w w' ∧ ∃ d', PBI ws w' g N d' ∧ Pm 0 N d d' ∧ Srt (dueI ws) d' 0 N := by
  have HI : Sl _ := ⟨lwStableI_any ws g gf N cap d w h hf hN hid⟩
  clear h hf hid hN
  go_enter Tryz.func71, Tryz.ntmps71
  go_wp2_with fail
  refine HI.out.mono ?_; rintro e w2 ⟨rfl, h1, h2⟩
  have HM : Sl _ := ⟨And.intro h1 h2⟩
  clear h1 h2 HI
  go_wp2_with fail
  go_end0
  exact ⟨rfl, HM.out⟩
end Go.Proofs.YtbaojmfkjpnfhaaGreatDoor
