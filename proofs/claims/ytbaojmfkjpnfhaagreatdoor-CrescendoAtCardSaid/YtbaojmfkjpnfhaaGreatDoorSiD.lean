/- slices.symMergeCmpFunc of indices. (Printed by gensi.py.) -/
import Derived.Test.YtbaojmfkjpnfhaaGreatDoorSiC
namespace Go.Proofs.YtbaojmfkjpnfhaaGreatDoor
set_option linter.unusedSimpArgs false
open Go.RowKit
set_option linter.unusedVariables false

theorem crs_rot {d : Nat → Int} {a m b st mid en : Nat} (h : Crs d a m b) (h1 : a ≤ st) (h2 : st ≤ m) (h3 : m ≤ en) (h4 : en ≤ b) (h5 : st ≤ mid) (h6 : mid ≤ en) (h7 : en + st = mid + m) : Crs (rot d st m en) a st mid ∧ Crs (rot d st m en) mid en b := by
  have e : ∀ k, rot d st m en k = if st ≤ k ∧ k < mid then d (k - st + m) else if mid ≤ k ∧ k < en then d (k - (en - m)) else d k := fun k => by
    unfold rot
    rw [show st + (en - m) = mid by omega]
  refine ⟨fun i j i1 i2 j1 j2 => ?_, fun i j i1 i2 j1 j2 => ?_⟩
  · rw [e, e, if_neg (show ¬ (st ≤ i ∧ i < mid) by omega), if_neg (show ¬ (mid ≤ i ∧ i < en) by omega), if_pos (show st ≤ j ∧ j < mid by omega)]
    exact h i _ i1 (by omega) (by omega) (by omega)
  · rw [e, e, if_neg (show ¬ (st ≤ i ∧ i < mid) by omega), if_pos (show mid ≤ i ∧ i < en by omega), if_neg (show ¬ (st ≤ j ∧ j < mid) by omega), if_neg (show ¬ (mid ≤ j ∧ j < en) by omega)]
    exact h _ j (by omega) (by omega) (by omega) j2
theorem rot_idI {α : Type} (d : Nat → α) {s m e : Nat} (h : s = m ∨ e = m) (hs : s ≤ m) (he : m ≤ e) : rot d s m e = d := by
  funext k
  unfold rot
  split
  · next h1 => congr 1; omega
  · split
    · next h2 => congr 1; omega
    · rfl
theorem sym_endI {α : Type} {κ : α → Int} {d1 d2 d3 : Nat → α} {a mid b : Nat} (cross : ∀ i j, a ≤ i → i < mid → mid ≤ j → j < b → κ (d1 i) ≤ κ (d1 j)) (p2 : Pm a mid d1 d2) (s2 : Srt κ d2 a mid) (p3 : Pm mid b d2 d3) (s3 : Srt κ d3 mid b) : Srt κ d3 a b := by
  refine Srt.join (m := mid) (s2.congr fun k k1 k2 => p3.far (.inl k2)) s3 fun i j i1 i2 j1 j2 => ?_
  rw [p3.far (.inl i2)]
  have c2 : ∀ k, a ≤ k → k < mid → ∀ l, mid ≤ l → l < b → κ (d2 k) ≤ κ (d2 l) := fun k k1 k2 l l1 l2 => by
    rw [p2.far (k := l) (.inr l1)]
    exact p2.all (P := fun x => κ x ≤ κ (d1 l)) (fun q q1 q2 => cross q l q1 q2 l1 l2) k k1 k2
  exact p3.all (P := fun x => κ (d2 i) ≤ κ x) (fun q q1 q2 => c2 i i1 i2 q q1 q2) j j1 j2
/-- what the merge of any two parts does -/
def MergesI (ws : List Int) (g gf N cap : Nat) (a m b : Nat) : Prop := ∀ (d : Nat → Int) (w : World), PBI ws w g N d → KeyI ws w gf g → a < m → m < b → b ≤ N → N ≤ 1000000 → Srt (dueI ws) d a m → Srt (dueI ws) d m b → Crs d a m b →
    Calls Tryz.prog 166 #[.slice (some ⟨g, 0, none⟩) N cap, .int .i64 a, .int .i64 m, .int .i64 b, .func (.func 72) #[] #[.pointer (some ⟨gf, 0, none⟩)]] w fun e w' => e = .returned (.tuple #[]) ∧ Mv g w w' ∧ ∃ d', PBI ws w' g N d' ∧ Pm a b d d' ∧ Srt (dueI ws) d' a b
set_option maxHeartbeats 12800000 in
set_option maxRecDepth 100000 in
theorem smMidI_any (ws : List Int) (g gf N cap a m b : Nat) (d : Nat → Int) (w : World) (h : PBI ws w g N d) (hf : KeyI ws w gf g) (ham : a < m) (hmb : m < b) (hb : b ≤ N) (hN : N ≤ 1000000) (hs1 : Srt (dueI ws) d a m) (hs2 : Srt (dueI ws) d m b) (hcr : Crs d a m b) (h0 : m ≠ a + 1) (h1 : b ≠ m + 1) (ih : ∀ a' m' b', b' - a' < b - a → MergesI ws g gf N cap a' m' b') :
    Calls Tryz.prog 166 #[.slice (some ⟨g, 0, none⟩) N cap, .int .i64 a, .int .i64 m, .int .i64 b, .func (.func 72) #[] #[.pointer (some ⟨gf, 0, none⟩)]] w fun e w' => e = .returned (.tuple #[]) ∧ Mv g w w' ∧ ∃ d', PBI ws w' g N d' ∧ Pm a b d d' ∧ Srt (dueI ws) d' a b := by
  have hrun : ∀ (args : Array Value) (w : World), (callFunc 72 args).run Tryz.prog w = .ok (.enter 72 args) w := fun a w => by go_simp
  have HP : Sl _ := ⟨h⟩
  have HF : Sl _ := ⟨hf⟩
  have HAB : Sl (a < m ∧ m < b ∧ b ≤ N ∧ N ≤ 1000000) := ⟨ham, hmb, hb, hN⟩
  have HCR : Sl _ := ⟨hcr⟩
  have HS : Sl _ := ⟨And.intro hs1 hs2⟩
  have hb6 : (b : Int) ≤ 1000000 := by omega
  have hbN : (b : Int) ≤ (N : Int) := by omega
  have hab0 : (a : Int) < (m : Int) := by omega
  have hmb0 : (m : Int) < (b : Int) := by omega
  have hma : ((m : Int) - (a : Int) == 1) = false := by simp; omega
  have hbm : ((b : Int) - (m : Int) == 1) = false := by simp; omega
  have HIH : Sl _ := ⟨ih⟩
  obtain ⟨mid, hmid⟩ : ∃ mid, (a + b) / 2 = mid := ⟨_, rfl⟩
  have hmidI : ((a : Int) + (b : Int)) / 2 = (mid : Int) := by omega
  obtain ⟨nn, hnn⟩ : ∃ nn, mid + m = nn := ⟨_, rfl⟩
  have hnnI : (mid : Int) + (m : Int) = (nn : Int) := by omega
  obtain ⟨pp, hpp⟩ : ∃ pp, nn - 1 = pp := ⟨_, rfl⟩
  have hppI : (nn : Int) - 1 = (pp : Int) := by omega
  have hnnw : IntKind.i64.wrap (nn : Int) = (nn : Int) := by rw [IntKind.wrap_i64]; omega
  have hppw : IntKind.i64.wrap (pp : Int) = (pp : Int) := by rw [IntKind.wrap_i64]; omega
  have hmd6 : (mid : Int) ≤ 1000000 := by omega
  have hlay : mid = (a + b) / 2 ∧ nn = mid + m ∧ pp + 1 = nn := by omega
  have hall : a < m ∧ m < b ∧ m ≠ a + 1 ∧ b ≠ m + 1 := ⟨ham, hmb, h0, h1⟩
  clear h1 h0 ih
  by_cases hmm : mid < m
  · have hgt : decide ((mid : Int) < (m : Int)) = true := decide_eq_true (by omega)
    obtain ⟨s0, hs0⟩ : ∃ s0, nn - b = s0 := ⟨_, rfl⟩
    have hs0I : (nn : Int) - (b : Int) = (s0 : Int) := by omega
    have hs0w : IntKind.i64.wrap (s0 : Int) = (s0 : Int) := by rw [IntKind.wrap_i64]; omega
    have HG : Sl (a ≤ s0 ∧ s0 ≤ mid ∧ mid < m ∧ s0 + b = nn ∧ nn = mid + m ∧ pp + 1 = nn ∧ a < mid ∧ mid < b ∧ mid = (a + b) / 2) := ⟨by omega⟩
    clear hs0
    clear hmid hnn hpp hlay hall h hf hcr ham hmb hb hN hs1 hs2
    go_enter Tryz.func166, Tryz.ntmps166
    go_wp2_with fail
    go_loopw [20, 21, 23] (fun s20 s21 s23 wr => ∃ (i j : Nat) (v23 : Value), s20 = .int .i64 i ∧ s21 = .int .i64 j ∧ s23 = v23 ∧ s0 ≤ i ∧ i ≤ j ∧ j ≤ mid ∧ Sl (Mv g w wr ∧ PBI ws wr g N d) ∧ Sl ((∀ c, s0 ≤ c → c < i → (dueI ws) (d c) ≤ (dueI ws) (d (pp - c))) ∧ (∀ c, j ≤ c → c < mid → (dueI ws) (d (pp - c)) < (dueI ws) (d c)))) (fun s20 s21 _ _ => (RowKit.intOf s21 - RowKit.intOf s20).toNat)
    case atStart => exact ⟨s0, mid, _, rfl, rfl, rfl, Nat.le_refl _, by have := HG.out; omega, Nat.le_refl _, ⟨Mv.refl _ _, HP.out⟩, ⟨fun c h1 h2 => by omega, fun c h1 h2 => by omega⟩⟩
    case round =>
      clear HP
      obtain ⟨i, j, v23, rfl, rfl, rfl, hsi, hij, hjr, HW, HC⟩ := hrel
      obtain ⟨ham, hmb, hbN', hN⟩ := HAB.out
      by_cases hlt : i < j
      · obtain ⟨h, hh⟩ : ∃ h, (i + j) / 2 = h := ⟨_, rfl⟩
        have hG := HG.out
        have hhi : i ≤ h ∧ h < j := by omega
        have hhI : ((i : Int) + (j : Int)) / 2 = (h : Int) := by omega
        have hltI : (i : Int) < (j : Int) := by omega
        have hj6 : (j : Int) ≤ 1000000 := by omega
        have hhN : (h : Int) < (N : Int) := by omega
        have hhN' : h < N := by omega
        have hh6 : (h : Int) ≤ 1000000 := by omega
        obtain ⟨k, hk⟩ : ∃ k, pp - h = k := ⟨_, rfl⟩
        have hkI : (pp : Int) - (h : Int) = (k : Int) := by omega
        have hkw : IntKind.i64.wrap (k : Int) = (k : Int) := by rw [IntKind.wrap_i64]; omega
        have hkm : m ≤ k := by omega
        have hkb : k < b := by omega
        have hkN : (k : Int) < (N : Int) := by omega
        have hkN' : k < N := by omega
        have HKH : Sl (k + h = pp) := ⟨by omega⟩
        obtain ⟨x, hp⟩ : ∃ p, d k = p := ⟨_, rfl⟩
        obtain ⟨u, hq⟩ : ∃ q, d h = q := ⟨_, rfl⟩
        have HPQ : Sl (d k = x ∧ d h = u) := ⟨hp, hq⟩
        have HRA : Sl ((∀ w' : World, Mv wr.heap.size wr w' → w'.cell? ⟨g, k, none⟩ = some (.int .i64 x)) ∧ (∀ w' : World, Mv wr.heap.size wr w' → w'.cell? ⟨g, h, none⟩ = some (.int .i64 u))) := ⟨by
          refine ⟨fun w' hm' => ?_, fun w' hm' => ?_⟩
          · have := (HW.out.2.mv hm' (by have := HW.out.2.lt; omega)).cell (j := k) (by omega)
            rw [hp] at this; exact this
          · have := (HW.out.2.mv hm' (by have := HW.out.2.lt; omega)).cell (j := h) (by omega)
            rw [hq] at this; exact this⟩
        obtain ⟨c, hc⟩ : ∃ c, cmpD (gt ws x.toNat) (gt ws u.toNat) = c := ⟨_, rfl⟩
        have hux : u < x := by
          have := HCR.out h k (by omega) (by omega) (by omega) (by omega)
          rw [hp, hq] at this; exact this
        have hxb := HW.out.2.2 k (by omega)
        have hub := HW.out.2.2 h (by omega)
        rw [hp] at hxb
        rw [hq] at hub
        have HCC : Sl (c < 0 ↔ (dueI ws) (d k) < (dueI ws) (d h)) := ⟨by rw [← hc, hp, hq]; exact cmpD_due HF.out.2.2 hub.1 hxb.2 hux⟩
        have HCM : Sl (∀ (W : World), RowKit.Below wr.heap.size wr W → Calls Tryz.prog 72 #[.int .i64 x, .int .i64 u, .pointer (some ⟨gf, 0, none⟩)] W fun e w' => e = .returned (.int .i64 c) ∧ RowKit.Below wr.heap.size wr w') := ⟨fun W hW => by
          have := plan1I_any x u W ((KeyI.mv HF.out HW.out.1).below hW) hxb hub
          rw [hc] at this
          exact this.mono fun e w' g => ⟨g.1, hW.trans (g.2.mono hW.size)⟩⟩
        clear hc hp hq hux hxb hub
        clear hh hk ham hmb hbN' hN hG
        by_cases hyv : (dueI ws) (d k) < (dueI ws) (d h)
        · have hcd : decide (c < 0) = true := decide_eq_true (HCC.out.2 hyv)
          have HLT : Sl _ := ⟨hyv⟩
          clear hyv
          go_wp2_with fail
          have hm : Mv wr.heap.size wr wr.drew := Mv.drew _ _
          have HSW : Sl (RowKit.Below wr.heap.size wr wr.drew) := ⟨below_drewN (Below.refl _ _) 1⟩
          refine wp_region_held_drew (S := fun w' => Mv wr.heap.size wr w') (by kernel_rfl) hm (fun hHeld => ?_)
          clear hm
          refine wpAnyH_pure 0 (v := .func (.func 72) #[] #[.pointer (some ⟨gf, 0, none⟩)]) rfl (by kernel_rfl) (by kernel_rfl) (by kernel_rfl) (fun _ _ _ h => h) rfl (fun _ => rfl) (by assumption) ?_
          simp only [Act.put, sS0, sS1, sS2]
          refine wpAnyH_pure 1 (v := .slice (some ⟨g, 0, none⟩) N cap) rfl (by kernel_rfl) (by kernel_rfl) (by kernel_rfl) (fun _ _ _ h => h) rfl (fun _ => rfl) (by assumption) ?_
          simp only [Act.put, sS0, sS1, sS2]
          refine wpAnyH_pure 2 (v := .int .i64 (pp : Int)) rfl (by kernel_rfl) (by kernel_rfl) (by kernel_rfl) (fun _ _ _ h => h) rfl (fun _ => rfl) (by assumption) ?_
          simp only [Act.put, sS0, sS1, sS2]
          refine wpAnyH_pure 3 (v := .int .i64 (h : Int)) rfl (by kernel_rfl) (by kernel_rfl) (by kernel_rfl) (fun _ _ _ h => h) rfl (fun _ => rfl) (by assumption) ?_
          simp only [Act.put, sS0, sS1, sS2]
          refine wpAnyH_pure 4 (v := .int .i64 (k : Int)) rfl (by kernel_rfl) (by kernel_rfl) (by kernel_rfl) (fun _ _ _ h => h) rfl (fun _ => by go_simp) (by assumption) ?_
          simp only [Act.put, sS0, sS1, sS2]
          refine wpAnyH_pure 5 (v := .pointer (some ⟨g, k, none⟩)) rfl (by kernel_rfl) (by kernel_rfl) (by kernel_rfl) (fun _ _ _ h => h) rfl (fun _ => by go_simp) (by assumption) ?_
          simp only [Act.put, sS0, sS1, sS2]
          refine wpAnyH_cell 6 (v := .int .i64 x) rfl rfl (fun w' h => by have hc := HRA.out.1 w' h; go_simp) (by kernel_rfl) (by kernel_rfl) (by kernel_rfl) (fun _ _ _ h => h) (by assumption) ?_
          simp only [Act.put, sS0, sS1, sS2]
          refine wpAnyH_pure 7 (v := .slice (some ⟨g, 0, none⟩) N cap) rfl (by kernel_rfl) (by kernel_rfl) (by kernel_rfl) (fun _ _ _ h => h) rfl (fun _ => rfl) (by assumption) ?_
          simp only [Act.put, sS0, sS1, sS2]
          refine wpAnyH_pure 8 (v := .int .i64 (h : Int)) rfl (by kernel_rfl) (by kernel_rfl) (by kernel_rfl) (fun _ _ _ h => h) rfl (fun _ => rfl) (by assumption) ?_
          simp only [Act.put, sS0, sS1, sS2]
          refine wpAnyH_pure 9 (v := .pointer (some ⟨g, h, none⟩)) rfl (by kernel_rfl) (by kernel_rfl) (by kernel_rfl) (fun _ _ _ h => h) rfl (fun _ => by go_simp) (by assumption) ?_
          simp only [Act.put, sS0, sS1, sS2]
          refine wpAnyH_cell 10 (v := .int .i64 u) rfl rfl (fun w' h => by have hc := HRA.out.2 w' h; go_simp) (by kernel_rfl) (by kernel_rfl) (by kernel_rfl) (fun _ _ _ h => h) (by assumption) ?_
          simp only [Act.put, sS0, sS1, sS2]
          refine wpAnyH_one 11 rfl (by kernel_rfl) rfl (fun K hK => ?_)
          go_simp
          go_at_call 72
          (with_reducible refine (HCM.out _ HSW.out).mono ?_)
          rintro ee w2 ⟨rfl, hb⟩
          replace HSW : Sl (RowKit.Below wr.heap.size wr w2) := ⟨hb⟩
          refine hK.out _ _ (Mv.below HSW.out) (fun hHeld => ?_)
          clear hK K hb
          (try simp only [Act.put, sS0, sS1, sS2])
          refine wpAnyH_pure 12 (v := .bool true) rfl (by kernel_rfl) (by kernel_rfl) (by kernel_rfl) (fun _ _ _ h => h) rfl (fun _ => by go_simp) (by assumption) ?_
          simp only [Act.put, sS0, sS1, sS2]
          refine wpAnyH_pure 13 (v := .bool false) rfl (by kernel_rfl) (by kernel_rfl) (by kernel_rfl) (fun _ _ _ h => h) rfl (fun _ => by go_simp) (by assumption) ?_
          simp only [Act.put, sS0, sS1, sS2]
          refine wpAnyH_done (by kernel_rfl) ?_ _
          clear hHeld
          have HW2 : Sl (Mv g w w2 ∧ PBI ws w2 g N d) := ⟨Mv.trans HW.out.1 (Mv.below HSW.out), HW.out.2.below HSW.out HW.out.2.lt⟩
          clear HRA HCM HSW HW
          go_wp2_with fail
          refine ⟨⟨i, h, _, rfl, rfl, rfl, hsi, hhi.1, by omega, HW2, ⟨HC.out.1, fun c' h1 h2 => ?_⟩⟩, by simp [RowKit.intOf]; omega⟩
          have e1 := HKH.out
          have hG := HG.out
          have ham := HAB.out
          exact Int.lt_of_le_of_lt (HS.out.2 (pp - c') k (by omega) (by omega) (by omega)) (Int.lt_of_lt_of_le HLT.out (HS.out.1 h c' (by omega) h1 (by omega)))
        · have hcd : decide (c < 0) = false := decide_eq_false (fun h => hyv (HCC.out.1 h))
          have HLT : Sl ((dueI ws) (d h) ≤ (dueI ws) (d k)) := ⟨by omega⟩
          clear hyv
          go_wp2_with fail
          have hm : Mv wr.heap.size wr wr.drew := Mv.drew _ _
          have HSW : Sl (RowKit.Below wr.heap.size wr wr.drew) := ⟨below_drewN (Below.refl _ _) 1⟩
          refine wp_region_held_drew (S := fun w' => Mv wr.heap.size wr w') (by kernel_rfl) hm (fun hHeld => ?_)
          clear hm
          refine wpAnyH_pure 0 (v := .func (.func 72) #[] #[.pointer (some ⟨gf, 0, none⟩)]) rfl (by kernel_rfl) (by kernel_rfl) (by kernel_rfl) (fun _ _ _ h => h) rfl (fun _ => rfl) (by assumption) ?_
          simp only [Act.put, sS0, sS1, sS2]
          refine wpAnyH_pure 1 (v := .slice (some ⟨g, 0, none⟩) N cap) rfl (by kernel_rfl) (by kernel_rfl) (by kernel_rfl) (fun _ _ _ h => h) rfl (fun _ => rfl) (by assumption) ?_
          simp only [Act.put, sS0, sS1, sS2]
          refine wpAnyH_pure 2 (v := .int .i64 (pp : Int)) rfl (by kernel_rfl) (by kernel_rfl) (by kernel_rfl) (fun _ _ _ h => h) rfl (fun _ => rfl) (by assumption) ?_
          simp only [Act.put, sS0, sS1, sS2]
          refine wpAnyH_pure 3 (v := .int .i64 (h : Int)) rfl (by kernel_rfl) (by kernel_rfl) (by kernel_rfl) (fun _ _ _ h => h) rfl (fun _ => rfl) (by assumption) ?_
          simp only [Act.put, sS0, sS1, sS2]
          refine wpAnyH_pure 4 (v := .int .i64 (k : Int)) rfl (by kernel_rfl) (by kernel_rfl) (by kernel_rfl) (fun _ _ _ h => h) rfl (fun _ => by go_simp) (by assumption) ?_
          simp only [Act.put, sS0, sS1, sS2]
          refine wpAnyH_pure 5 (v := .pointer (some ⟨g, k, none⟩)) rfl (by kernel_rfl) (by kernel_rfl) (by kernel_rfl) (fun _ _ _ h => h) rfl (fun _ => by go_simp) (by assumption) ?_
          simp only [Act.put, sS0, sS1, sS2]
          refine wpAnyH_cell 6 (v := .int .i64 x) rfl rfl (fun w' h => by have hc := HRA.out.1 w' h; go_simp) (by kernel_rfl) (by kernel_rfl) (by kernel_rfl) (fun _ _ _ h => h) (by assumption) ?_
          simp only [Act.put, sS0, sS1, sS2]
          refine wpAnyH_pure 7 (v := .slice (some ⟨g, 0, none⟩) N cap) rfl (by kernel_rfl) (by kernel_rfl) (by kernel_rfl) (fun _ _ _ h => h) rfl (fun _ => rfl) (by assumption) ?_
          simp only [Act.put, sS0, sS1, sS2]
          refine wpAnyH_pure 8 (v := .int .i64 (h : Int)) rfl (by kernel_rfl) (by kernel_rfl) (by kernel_rfl) (fun _ _ _ h => h) rfl (fun _ => rfl) (by assumption) ?_
          simp only [Act.put, sS0, sS1, sS2]
          refine wpAnyH_pure 9 (v := .pointer (some ⟨g, h, none⟩)) rfl (by kernel_rfl) (by kernel_rfl) (by kernel_rfl) (fun _ _ _ h => h) rfl (fun _ => by go_simp) (by assumption) ?_
          simp only [Act.put, sS0, sS1, sS2]
          refine wpAnyH_cell 10 (v := .int .i64 u) rfl rfl (fun w' h => by have hc := HRA.out.2 w' h; go_simp) (by kernel_rfl) (by kernel_rfl) (by kernel_rfl) (fun _ _ _ h => h) (by assumption) ?_
          simp only [Act.put, sS0, sS1, sS2]
          refine wpAnyH_one 11 rfl (by kernel_rfl) rfl (fun K hK => ?_)
          go_simp
          go_at_call 72
          (with_reducible refine (HCM.out _ HSW.out).mono ?_)
          rintro ee w2 ⟨rfl, hb⟩
          replace HSW : Sl (RowKit.Below wr.heap.size wr w2) := ⟨hb⟩
          refine hK.out _ _ (Mv.below HSW.out) (fun hHeld => ?_)
          clear hK K hb
          (try simp only [Act.put, sS0, sS1, sS2])
          refine wpAnyH_pure 12 (v := .bool false) rfl (by kernel_rfl) (by kernel_rfl) (by kernel_rfl) (fun _ _ _ h => h) rfl (fun _ => by go_simp) (by assumption) ?_
          simp only [Act.put, sS0, sS1, sS2]
          refine wpAnyH_pure 13 (v := .bool true) rfl (by kernel_rfl) (by kernel_rfl) (by kernel_rfl) (fun _ _ _ h => h) rfl (fun _ => by go_simp) (by assumption) ?_
          simp only [Act.put, sS0, sS1, sS2]
          refine wpAnyH_done (by kernel_rfl) ?_ _
          clear hHeld
          have HW2 : Sl (Mv g w w2 ∧ PBI ws w2 g N d) := ⟨Mv.trans HW.out.1 (Mv.below HSW.out), HW.out.2.below HSW.out HW.out.2.lt⟩
          clear HRA HCM HSW HW
          go_wp2_with fail
          refine ⟨⟨h + 1, j, _, by go_num, rfl, rfl, by omega, by omega, hjr, HW2, ⟨fun c' h1 h2 => ?_, HC.out.2⟩⟩, by simp [RowKit.intOf]; omega⟩
          have e1 := HKH.out
          have hG := HG.out
          have ham := HAB.out
          exact Int.le_trans (HS.out.1 c' h (by omega) (by omega) (by omega)) (Int.le_trans HLT.out (HS.out.2 k (pp - c') hkm (by omega) (by omega)))
      · obtain rfl : i = j := by omega
        obtain ⟨en, hen⟩ : ∃ en, nn - i = en := ⟨_, rfl⟩
        have henI : (nn : Int) - (i : Int) = (en : Int) := by omega
        have henw : IntKind.i64.wrap (en : Int) = (en : Int) := by rw [IntKind.wrap_i64]; omega
        have hG := HG.out
        have hen2 : mid + m - i = en := by omega
        obtain ⟨d1, hd1⟩ : ∃ d1, rot d i m en = d1 := ⟨_, rfl⟩
        have HSP : Sl (Srt (dueI ws) d1 a i ∧ Srt (dueI ws) d1 i mid ∧ Srt (dueI ws) d1 mid en ∧ Srt (dueI ws) d1 en b ∧ ∀ x y, a ≤ x → x < mid → mid ≤ y → y < b → (dueI ws) (d1 x) ≤ (dueI ws) (d1 y)) := ⟨by
          have := sym_parts (κ := dueI ws) (d := d) (a := a) (m := m) (b := b) (mid := mid) (st := i) ham hmb (by omega) HS.out.1 HS.out.2 (by omega) (by omega) (by omega) (by omega) (by omega) (fun c h1 h2 h3 => by
              have := HC.out.1 c (by omega) h2
              rw [show mid + m - 1 - c = pp - c by omega]; exact this) (fun c h1 h2 h3 => by
              have := HC.out.2 c h1 (by omega)
              rw [show mid + m - 1 - c = pp - c by omega]; exact this)
          rw [hen2, hd1] at this
          exact this⟩
        have HCX : Sl (Crs d1 a i mid ∧ Crs d1 mid en b) := ⟨by rw [← hd1]; exact crs_rot HCR.out (by omega) (by omega) (by omega) (by omega) (by omega) (by omega) (by omega)⟩
        have HPM : Sl (Pm a b d d1) := ⟨by
          rw [← hd1]
          by_cases hid : i = m ∨ en = m
          · rw [rot_idI d hid (by omega) (by omega)]; exact .refl
          · have := rot_pmI (m := m) ((m - i) + (en - m)) (m - i) (en - m) d (Nat.le_refl _) (by omega) (by omega) (by omega)
            rw [show m - (m - i) = i by omega, show m + (en - m) = en by omega] at this
            exact this.mono (by omega) (by omega)⟩
        replace HG : Sl (a ≤ i ∧ i ≤ m ∧ i ≤ mid ∧ en + i = mid + m ∧ m ≤ en ∧ en ≤ b ∧ mid ≤ en ∧ a < mid ∧ mid < b ∧ mid = (a + b) / 2) := ⟨by omega⟩
        clear HC hen hen2 hG hij hsi hjr
        by_cases hr : i < mid
        · by_cases ha : a < i
          · by_cases hb2 : en < b
            · skip
              have hG := HG.out
              have t1aI : (i : Int) < (m : Int) := by omega
              have t1a : decide ((i : Int) < (m : Int)) = true := decide_eq_true t1aI
              have t1bI : (m : Int) < (en : Int) := by omega
              have t1b : decide ((m : Int) < (en : Int)) = true := decide_eq_true t1bI
              have t2aI : (a : Int) < (i : Int) := by omega
              have t2a : decide ((a : Int) < (i : Int)) = true := decide_eq_true t2aI
              have t2bI : (i : Int) < (mid : Int) := by omega
              have t2b : decide ((i : Int) < (mid : Int)) = true := decide_eq_true t2bI
              have t3aI : (mid : Int) < (en : Int) := by omega
              have t3a : decide ((mid : Int) < (en : Int)) = true := decide_eq_true t3aI
              have t3bI : (en : Int) < (b : Int) := by omega
              have t3b : decide ((en : Int) < (b : Int)) = true := decide_eq_true t3bI
              have HRO : Sl _ := ⟨rotateI_any ws g N cap i m en d (.func (.func 72) #[] #[.pointer (some ⟨gf, 0, none⟩)]) wr HW.out.2 (by omega) (by omega) (by omega) HAB.out.2.2.2⟩
              rw [hd1] at HRO
              clear hG hd1
              go_wp2_with fail
              refine HRO.out.mono ?_; rintro ee w3 ⟨rfl, hm3, hp3⟩
              have HW1 : Sl (Mv g w w3 ∧ PBI ws w3 g N d1) := ⟨Mv.trans HW.out.1 hm3, hp3⟩
              clear hm3 hp3 HRO HW
              have HC2 : Sl _ := ⟨HIH.out a i mid (by have := HG.out; omega) d1 w3 HW1.out.2 (KeyI.mv HF.out HW1.out.1) (by have := HG.out; omega) (by have := HG.out; omega) (by have := HG.out; have := HAB.out; omega) HAB.out.2.2.2 HSP.out.1 HSP.out.2.1 HCX.out.1⟩
              go_wp2_with fail
              refine HC2.out.mono ?_; rintro ee w4 ⟨rfl, hm4, d2, hp4, hq4, hs4⟩
              have HW2 : Sl (Mv g w w4 ∧ PBI ws w4 g N d2) := ⟨Mv.trans HW1.out.1 hm4, hp4⟩
              have HD2 : Sl (Pm a mid d1 d2 ∧ Srt (dueI ws) d2 a mid) := ⟨hq4, hs4⟩
              clear hm4 hp4 hq4 hs4 HC2 HW1
              have HE2 : Sl (Srt (dueI ws) d2 mid en ∧ Srt (dueI ws) d2 en b) := ⟨HSP.out.2.2.1.congr fun k k1 k2 => HD2.out.1.far (.inr k1), HSP.out.2.2.2.1.congr fun k k1 k2 => HD2.out.1.far (.inr (by have := HG.out; omega))⟩
              have HC3 : Sl _ := ⟨HIH.out mid en b (by have := HG.out; omega) d2 w4 HW2.out.2 (KeyI.mv HF.out HW2.out.1) (by have := HG.out; omega) (by have := HG.out; omega) HAB.out.2.2.1 HAB.out.2.2.2 HE2.out.1 HE2.out.2 (fun p q h1 h2 h3 h4 => by rw [HD2.out.1.far (.inr h1), HD2.out.1.far (.inr (by omega))]; exact HCX.out.2 p q h1 h2 h3 h4)⟩
              go_wp2_with fail
              refine HC3.out.mono ?_; rintro ee w5 ⟨rfl, hm5, d3, hp5, hq5, hs5⟩
              have HW3 : Sl (Mv g w w5 ∧ PBI ws w5 g N d3) := ⟨Mv.trans HW2.out.1 hm5, hp5⟩
              have HD3 : Sl (Pm mid b d2 d3 ∧ Srt (dueI ws) d3 mid b) := ⟨hq5, hs5⟩
              clear hm5 hp5 hq5 hs5 HC3 HW2
              go_wp2_with fail
              ((try simp only [Exit.inBlock, Exit.then]); refine bodyPost_end (results_none rfl _ _ _) rfl ?_)
              exact ⟨rfl, HW3.out.1, d3, HW3.out.2, ((HPM.out.trans (HD2.out.1.mono (Nat.le_refl _) (by have := HG.out; omega))).trans (HD3.out.1.mono (by have := HG.out; omega) (Nat.le_refl _))), sym_endI HSP.out.2.2.2.2 HD2.out.1 HD2.out.2 HD3.out.1 HD3.out.2⟩
            · skip
              have hG := HG.out
              have t1aI : (i : Int) < (m : Int) := by omega
              have t1a : decide ((i : Int) < (m : Int)) = true := decide_eq_true t1aI
              have t1bI : (m : Int) < (en : Int) := by omega
              have t1b : decide ((m : Int) < (en : Int)) = true := decide_eq_true t1bI
              have t2aI : (a : Int) < (i : Int) := by omega
              have t2a : decide ((a : Int) < (i : Int)) = true := decide_eq_true t2aI
              have t2bI : (i : Int) < (mid : Int) := by omega
              have t2b : decide ((i : Int) < (mid : Int)) = true := decide_eq_true t2bI
              have t3aI : (mid : Int) < (en : Int) := by omega
              have t3a : decide ((mid : Int) < (en : Int)) = true := decide_eq_true t3aI
              have t3bI : ¬ (en : Int) < (b : Int) := by omega
              have t3b : decide ((en : Int) < (b : Int)) = false := decide_eq_false t3bI
              have HRO : Sl _ := ⟨rotateI_any ws g N cap i m en d (.func (.func 72) #[] #[.pointer (some ⟨gf, 0, none⟩)]) wr HW.out.2 (by omega) (by omega) (by omega) HAB.out.2.2.2⟩
              rw [hd1] at HRO
              clear hG hd1
              go_wp2_with fail
              refine HRO.out.mono ?_; rintro ee w3 ⟨rfl, hm3, hp3⟩
              have HW1 : Sl (Mv g w w3 ∧ PBI ws w3 g N d1) := ⟨Mv.trans HW.out.1 hm3, hp3⟩
              clear hm3 hp3 HRO HW
              have HC2 : Sl _ := ⟨HIH.out a i mid (by have := HG.out; omega) d1 w3 HW1.out.2 (KeyI.mv HF.out HW1.out.1) (by have := HG.out; omega) (by have := HG.out; omega) (by have := HG.out; have := HAB.out; omega) HAB.out.2.2.2 HSP.out.1 HSP.out.2.1 HCX.out.1⟩
              go_wp2_with fail
              refine HC2.out.mono ?_; rintro ee w4 ⟨rfl, hm4, d2, hp4, hq4, hs4⟩
              have HW2 : Sl (Mv g w w4 ∧ PBI ws w4 g N d2) := ⟨Mv.trans HW1.out.1 hm4, hp4⟩
              have HD2 : Sl (Pm a mid d1 d2 ∧ Srt (dueI ws) d2 a mid) := ⟨hq4, hs4⟩
              clear hm4 hp4 hq4 hs4 HC2 HW1
              have HE2 : Sl (Srt (dueI ws) d2 mid en ∧ Srt (dueI ws) d2 en b) := ⟨HSP.out.2.2.1.congr fun k k1 k2 => HD2.out.1.far (.inr k1), HSP.out.2.2.2.1.congr fun k k1 k2 => HD2.out.1.far (.inr (by have := HG.out; omega))⟩
              obtain ⟨d3, hd3⟩ : ∃ d3, d2 = d3 := ⟨_, rfl⟩
              have HW3 : Sl (Mv g w w4 ∧ PBI ws w4 g N d3) := ⟨by rw [← hd3]; exact HW2.out⟩
              have HD3 : Sl (Pm mid b d2 d3 ∧ Srt (dueI ws) d3 mid b) := ⟨by rw [← hd3]; exact ⟨.refl, by
                exact HE2.out.1.sub (Nat.le_refl _) (by have := HG.out; omega)⟩⟩
              clear HW2 hd3
              go_wp2_with fail
              ((try simp only [Exit.inBlock, Exit.then]); refine bodyPost_end (results_none rfl _ _ _) rfl ?_)
              exact ⟨rfl, HW3.out.1, d3, HW3.out.2, ((HPM.out.trans (HD2.out.1.mono (Nat.le_refl _) (by have := HG.out; omega))).trans (HD3.out.1.mono (by have := HG.out; omega) (Nat.le_refl _))), sym_endI HSP.out.2.2.2.2 HD2.out.1 HD2.out.2 HD3.out.1 HD3.out.2⟩
          · by_cases hb2 : en < b
            · skip
              have hG := HG.out
              have t1aI : (i : Int) < (m : Int) := by omega
              have t1a : decide ((i : Int) < (m : Int)) = true := decide_eq_true t1aI
              have t1bI : (m : Int) < (en : Int) := by omega
              have t1b : decide ((m : Int) < (en : Int)) = true := decide_eq_true t1bI
              have t2aI : ¬ (a : Int) < (i : Int) := by omega
              have t2a : decide ((a : Int) < (i : Int)) = false := decide_eq_false t2aI
              have t3aI : (mid : Int) < (en : Int) := by omega
              have t3a : decide ((mid : Int) < (en : Int)) = true := decide_eq_true t3aI
              have t3bI : (en : Int) < (b : Int) := by omega
              have t3b : decide ((en : Int) < (b : Int)) = true := decide_eq_true t3bI
              have HRO : Sl _ := ⟨rotateI_any ws g N cap i m en d (.func (.func 72) #[] #[.pointer (some ⟨gf, 0, none⟩)]) wr HW.out.2 (by omega) (by omega) (by omega) HAB.out.2.2.2⟩
              rw [hd1] at HRO
              have HL2 : Sl (Srt (dueI ws) d1 a mid) := ⟨by
                obtain ⟨q1, q2, _⟩ := HSP.out
                exact q2.sub (by omega) (Nat.le_refl _)⟩
              clear hG hd1
              go_wp2_with fail
              refine HRO.out.mono ?_; rintro ee w3 ⟨rfl, hm3, hp3⟩
              have HW1 : Sl (Mv g w w3 ∧ PBI ws w3 g N d1) := ⟨Mv.trans HW.out.1 hm3, hp3⟩
              clear hm3 hp3 HRO HW
              obtain ⟨d2, hd2⟩ : ∃ d2, d1 = d2 := ⟨_, rfl⟩
              have HW2 : Sl (Mv g w w3 ∧ PBI ws w3 g N d2) := ⟨by rw [← hd2]; exact HW1.out⟩
              have HD2 : Sl (Pm a mid d1 d2 ∧ Srt (dueI ws) d2 a mid) := ⟨by rw [← hd2]; exact ⟨.refl, HL2.out⟩⟩
              clear HW1 hd2
              have HE2 : Sl (Srt (dueI ws) d2 mid en ∧ Srt (dueI ws) d2 en b) := ⟨HSP.out.2.2.1.congr fun k k1 k2 => HD2.out.1.far (.inr k1), HSP.out.2.2.2.1.congr fun k k1 k2 => HD2.out.1.far (.inr (by have := HG.out; omega))⟩
              have HC3 : Sl _ := ⟨HIH.out mid en b (by have := HG.out; omega) d2 w3 HW2.out.2 (KeyI.mv HF.out HW2.out.1) (by have := HG.out; omega) (by have := HG.out; omega) HAB.out.2.2.1 HAB.out.2.2.2 HE2.out.1 HE2.out.2 (fun p q h1 h2 h3 h4 => by rw [HD2.out.1.far (.inr h1), HD2.out.1.far (.inr (by omega))]; exact HCX.out.2 p q h1 h2 h3 h4)⟩
              go_wp2_with fail
              refine HC3.out.mono ?_; rintro ee w5 ⟨rfl, hm5, d3, hp5, hq5, hs5⟩
              have HW3 : Sl (Mv g w w5 ∧ PBI ws w5 g N d3) := ⟨Mv.trans HW2.out.1 hm5, hp5⟩
              have HD3 : Sl (Pm mid b d2 d3 ∧ Srt (dueI ws) d3 mid b) := ⟨hq5, hs5⟩
              clear hm5 hp5 hq5 hs5 HC3 HW2
              go_wp2_with fail
              ((try simp only [Exit.inBlock, Exit.then]); refine bodyPost_end (results_none rfl _ _ _) rfl ?_)
              exact ⟨rfl, HW3.out.1, d3, HW3.out.2, ((HPM.out.trans (HD2.out.1.mono (Nat.le_refl _) (by have := HG.out; omega))).trans (HD3.out.1.mono (by have := HG.out; omega) (Nat.le_refl _))), sym_endI HSP.out.2.2.2.2 HD2.out.1 HD2.out.2 HD3.out.1 HD3.out.2⟩
            · skip
              have hG := HG.out
              have t1aI : (i : Int) < (m : Int) := by omega
              have t1a : decide ((i : Int) < (m : Int)) = true := decide_eq_true t1aI
              have t1bI : (m : Int) < (en : Int) := by omega
              have t1b : decide ((m : Int) < (en : Int)) = true := decide_eq_true t1bI
              have t2aI : ¬ (a : Int) < (i : Int) := by omega
              have t2a : decide ((a : Int) < (i : Int)) = false := decide_eq_false t2aI
              have t3aI : (mid : Int) < (en : Int) := by omega
              have t3a : decide ((mid : Int) < (en : Int)) = true := decide_eq_true t3aI
              have t3bI : ¬ (en : Int) < (b : Int) := by omega
              have t3b : decide ((en : Int) < (b : Int)) = false := decide_eq_false t3bI
              have HRO : Sl _ := ⟨rotateI_any ws g N cap i m en d (.func (.func 72) #[] #[.pointer (some ⟨gf, 0, none⟩)]) wr HW.out.2 (by omega) (by omega) (by omega) HAB.out.2.2.2⟩
              rw [hd1] at HRO
              have HL2 : Sl (Srt (dueI ws) d1 a mid) := ⟨by
                obtain ⟨q1, q2, _⟩ := HSP.out
                exact q2.sub (by omega) (Nat.le_refl _)⟩
              clear hG hd1
              go_wp2_with fail
              refine HRO.out.mono ?_; rintro ee w3 ⟨rfl, hm3, hp3⟩
              have HW1 : Sl (Mv g w w3 ∧ PBI ws w3 g N d1) := ⟨Mv.trans HW.out.1 hm3, hp3⟩
              clear hm3 hp3 HRO HW
              obtain ⟨d2, hd2⟩ : ∃ d2, d1 = d2 := ⟨_, rfl⟩
              have HW2 : Sl (Mv g w w3 ∧ PBI ws w3 g N d2) := ⟨by rw [← hd2]; exact HW1.out⟩
              have HD2 : Sl (Pm a mid d1 d2 ∧ Srt (dueI ws) d2 a mid) := ⟨by rw [← hd2]; exact ⟨.refl, HL2.out⟩⟩
              clear HW1 hd2
              have HE2 : Sl (Srt (dueI ws) d2 mid en ∧ Srt (dueI ws) d2 en b) := ⟨HSP.out.2.2.1.congr fun k k1 k2 => HD2.out.1.far (.inr k1), HSP.out.2.2.2.1.congr fun k k1 k2 => HD2.out.1.far (.inr (by have := HG.out; omega))⟩
              obtain ⟨d3, hd3⟩ : ∃ d3, d2 = d3 := ⟨_, rfl⟩
              have HW3 : Sl (Mv g w w3 ∧ PBI ws w3 g N d3) := ⟨by rw [← hd3]; exact HW2.out⟩
              have HD3 : Sl (Pm mid b d2 d3 ∧ Srt (dueI ws) d3 mid b) := ⟨by rw [← hd3]; exact ⟨.refl, by
                exact HE2.out.1.sub (Nat.le_refl _) (by have := HG.out; omega)⟩⟩
              clear HW2 hd3
              go_wp2_with fail
              ((try simp only [Exit.inBlock, Exit.then]); refine bodyPost_end (results_none rfl _ _ _) rfl ?_)
              exact ⟨rfl, HW3.out.1, d3, HW3.out.2, ((HPM.out.trans (HD2.out.1.mono (Nat.le_refl _) (by have := HG.out; omega))).trans (HD3.out.1.mono (by have := HG.out; omega) (Nat.le_refl _))), sym_endI HSP.out.2.2.2.2 HD2.out.1 HD2.out.2 HD3.out.1 HD3.out.2⟩
        · skip
          have hG := HG.out
          have t1aI : (i : Int) < (m : Int) := by omega
          have t1a : decide ((i : Int) < (m : Int)) = true := decide_eq_true t1aI
          have t1bI : ¬ (m : Int) < (en : Int) := by omega
          have t1b : decide ((m : Int) < (en : Int)) = false := decide_eq_false t1bI
          have t2aI : (a : Int) < (i : Int) := by omega
          have t2a : decide ((a : Int) < (i : Int)) = true := decide_eq_true t2aI
          have t2bI : ¬ (i : Int) < (mid : Int) := by omega
          have t2b : decide ((i : Int) < (mid : Int)) = false := decide_eq_false t2bI
          have t3aI : (mid : Int) < (en : Int) := by omega
          have t3a : decide ((mid : Int) < (en : Int)) = true := decide_eq_true t3aI
          have t3bI : (en : Int) < (b : Int) := by omega
          have t3b : decide ((en : Int) < (b : Int)) = true := decide_eq_true t3bI
          have HID : Sl (d1 = d) := ⟨by rw [← hd1]; exact rot_idI d (by omega) (by omega) (by omega)⟩
          have HL2 : Sl (Srt (dueI ws) d1 a mid) := ⟨by
            obtain ⟨q1, q2, _⟩ := HSP.out
            exact q1.sub (Nat.le_refl _) (by omega)⟩
          clear hG hd1
          go_wp2_with fail
          have HW1 : Sl (Mv g w wr ∧ PBI ws wr g N d1) := ⟨HW.out.1, by rw [HID.out]; exact HW.out.2⟩
          clear HW
          obtain ⟨d2, hd2⟩ : ∃ d2, d1 = d2 := ⟨_, rfl⟩
          have HW2 : Sl (Mv g w wr ∧ PBI ws wr g N d2) := ⟨by rw [← hd2]; exact HW1.out⟩
          have HD2 : Sl (Pm a mid d1 d2 ∧ Srt (dueI ws) d2 a mid) := ⟨by rw [← hd2]; exact ⟨.refl, HL2.out⟩⟩
          clear HW1 hd2
          have HE2 : Sl (Srt (dueI ws) d2 mid en ∧ Srt (dueI ws) d2 en b) := ⟨HSP.out.2.2.1.congr fun k k1 k2 => HD2.out.1.far (.inr k1), HSP.out.2.2.2.1.congr fun k k1 k2 => HD2.out.1.far (.inr (by have := HG.out; omega))⟩
          have HC3 : Sl _ := ⟨HIH.out mid en b (by have := HG.out; omega) d2 wr HW2.out.2 (KeyI.mv HF.out HW2.out.1) (by have := HG.out; omega) (by have := HG.out; omega) HAB.out.2.2.1 HAB.out.2.2.2 HE2.out.1 HE2.out.2 (fun p q h1 h2 h3 h4 => by rw [HD2.out.1.far (.inr h1), HD2.out.1.far (.inr (by omega))]; exact HCX.out.2 p q h1 h2 h3 h4)⟩
          refine HC3.out.mono ?_; rintro ee w5 ⟨rfl, hm5, d3, hp5, hq5, hs5⟩
          have HW3 : Sl (Mv g w w5 ∧ PBI ws w5 g N d3) := ⟨Mv.trans HW2.out.1 hm5, hp5⟩
          have HD3 : Sl (Pm mid b d2 d3 ∧ Srt (dueI ws) d3 mid b) := ⟨hq5, hs5⟩
          clear hm5 hp5 hq5 hs5 HC3 HW2
          go_wp2_with fail
          ((try simp only [Exit.inBlock, Exit.then]); refine bodyPost_end (results_none rfl _ _ _) rfl ?_)
          exact ⟨rfl, HW3.out.1, d3, HW3.out.2, ((HPM.out.trans (HD2.out.1.mono (Nat.le_refl _) (by have := HG.out; omega))).trans (HD3.out.1.mono (by have := HG.out; omega) (Nat.le_refl _))), sym_endI HSP.out.2.2.2.2 HD2.out.1 HD2.out.2 HD3.out.1 HD3.out.2⟩
  · have hgt : decide ((mid : Int) < (m : Int)) = false := decide_eq_false (by omega)
    have HG : Sl (a < m ∧ m ≤ mid ∧ nn = mid + m ∧ pp + 1 = nn ∧ a < mid ∧ mid < b ∧ mid = (a + b) / 2) := ⟨by omega⟩
    clear hmid hnn hpp hlay hall h hf hcr ham hmb hb hN hs1 hs2
    go_enter Tryz.func166, Tryz.ntmps166
    go_wp2_with fail
    go_loopw [20, 21, 23] (fun s20 s21 s23 wr => ∃ (i j : Nat) (v23 : Value), s20 = .int .i64 i ∧ s21 = .int .i64 j ∧ s23 = v23 ∧ a ≤ i ∧ i ≤ j ∧ j ≤ m ∧ Sl (Mv g w wr ∧ PBI ws wr g N d) ∧ Sl ((∀ c, a ≤ c → c < i → (dueI ws) (d c) ≤ (dueI ws) (d (pp - c))) ∧ (∀ c, j ≤ c → c < m → (dueI ws) (d (pp - c)) < (dueI ws) (d c)))) (fun s20 s21 _ _ => (RowKit.intOf s21 - RowKit.intOf s20).toNat)
    case atStart => exact ⟨a, m, _, rfl, rfl, rfl, Nat.le_refl _, by have := HG.out; omega, Nat.le_refl _, ⟨Mv.refl _ _, HP.out⟩, ⟨fun c h1 h2 => by omega, fun c h1 h2 => by omega⟩⟩
    case round =>
      clear HP
      obtain ⟨i, j, v23, rfl, rfl, rfl, hsi, hij, hjr, HW, HC⟩ := hrel
      obtain ⟨ham, hmb, hbN', hN⟩ := HAB.out
      by_cases hlt : i < j
      · obtain ⟨h, hh⟩ : ∃ h, (i + j) / 2 = h := ⟨_, rfl⟩
        have hG := HG.out
        have hhi : i ≤ h ∧ h < j := by omega
        have hhI : ((i : Int) + (j : Int)) / 2 = (h : Int) := by omega
        have hltI : (i : Int) < (j : Int) := by omega
        have hj6 : (j : Int) ≤ 1000000 := by omega
        have hhN : (h : Int) < (N : Int) := by omega
        have hhN' : h < N := by omega
        have hh6 : (h : Int) ≤ 1000000 := by omega
        obtain ⟨k, hk⟩ : ∃ k, pp - h = k := ⟨_, rfl⟩
        have hkI : (pp : Int) - (h : Int) = (k : Int) := by omega
        have hkw : IntKind.i64.wrap (k : Int) = (k : Int) := by rw [IntKind.wrap_i64]; omega
        have hkm : m ≤ k := by omega
        have hkb : k < b := by omega
        have hkN : (k : Int) < (N : Int) := by omega
        have hkN' : k < N := by omega
        have HKH : Sl (k + h = pp) := ⟨by omega⟩
        obtain ⟨x, hp⟩ : ∃ p, d k = p := ⟨_, rfl⟩
        obtain ⟨u, hq⟩ : ∃ q, d h = q := ⟨_, rfl⟩
        have HPQ : Sl (d k = x ∧ d h = u) := ⟨hp, hq⟩
        have HRA : Sl ((∀ w' : World, Mv wr.heap.size wr w' → w'.cell? ⟨g, k, none⟩ = some (.int .i64 x)) ∧ (∀ w' : World, Mv wr.heap.size wr w' → w'.cell? ⟨g, h, none⟩ = some (.int .i64 u))) := ⟨by
          refine ⟨fun w' hm' => ?_, fun w' hm' => ?_⟩
          · have := (HW.out.2.mv hm' (by have := HW.out.2.lt; omega)).cell (j := k) (by omega)
            rw [hp] at this; exact this
          · have := (HW.out.2.mv hm' (by have := HW.out.2.lt; omega)).cell (j := h) (by omega)
            rw [hq] at this; exact this⟩
        obtain ⟨c, hc⟩ : ∃ c, cmpD (gt ws x.toNat) (gt ws u.toNat) = c := ⟨_, rfl⟩
        have hux : u < x := by
          have := HCR.out h k (by omega) (by omega) (by omega) (by omega)
          rw [hp, hq] at this; exact this
        have hxb := HW.out.2.2 k (by omega)
        have hub := HW.out.2.2 h (by omega)
        rw [hp] at hxb
        rw [hq] at hub
        have HCC : Sl (c < 0 ↔ (dueI ws) (d k) < (dueI ws) (d h)) := ⟨by rw [← hc, hp, hq]; exact cmpD_due HF.out.2.2 hub.1 hxb.2 hux⟩
        have HCM : Sl (∀ (W : World), RowKit.Below wr.heap.size wr W → Calls Tryz.prog 72 #[.int .i64 x, .int .i64 u, .pointer (some ⟨gf, 0, none⟩)] W fun e w' => e = .returned (.int .i64 c) ∧ RowKit.Below wr.heap.size wr w') := ⟨fun W hW => by
          have := plan1I_any x u W ((KeyI.mv HF.out HW.out.1).below hW) hxb hub
          rw [hc] at this
          exact this.mono fun e w' g => ⟨g.1, hW.trans (g.2.mono hW.size)⟩⟩
        clear hc hp hq hux hxb hub
        clear hh hk ham hmb hbN' hN hG
        by_cases hyv : (dueI ws) (d k) < (dueI ws) (d h)
        · have hcd : decide (c < 0) = true := decide_eq_true (HCC.out.2 hyv)
          have HLT : Sl _ := ⟨hyv⟩
          clear hyv
          go_wp2_with fail
          have hm : Mv wr.heap.size wr wr.drew := Mv.drew _ _
          have HSW : Sl (RowKit.Below wr.heap.size wr wr.drew) := ⟨below_drewN (Below.refl _ _) 1⟩
          refine wp_region_held_drew (S := fun w' => Mv wr.heap.size wr w') (by kernel_rfl) hm (fun hHeld => ?_)
          clear hm
          refine wpAnyH_pure 0 (v := .func (.func 72) #[] #[.pointer (some ⟨gf, 0, none⟩)]) rfl (by kernel_rfl) (by kernel_rfl) (by kernel_rfl) (fun _ _ _ h => h) rfl (fun _ => rfl) (by assumption) ?_
          simp only [Act.put, sS0, sS1, sS2]
          refine wpAnyH_pure 1 (v := .slice (some ⟨g, 0, none⟩) N cap) rfl (by kernel_rfl) (by kernel_rfl) (by kernel_rfl) (fun _ _ _ h => h) rfl (fun _ => rfl) (by assumption) ?_
          simp only [Act.put, sS0, sS1, sS2]
          refine wpAnyH_pure 2 (v := .int .i64 (pp : Int)) rfl (by kernel_rfl) (by kernel_rfl) (by kernel_rfl) (fun _ _ _ h => h) rfl (fun _ => rfl) (by assumption) ?_
          simp only [Act.put, sS0, sS1, sS2]
          refine wpAnyH_pure 3 (v := .int .i64 (h : Int)) rfl (by kernel_rfl) (by kernel_rfl) (by kernel_rfl) (fun _ _ _ h => h) rfl (fun _ => rfl) (by assumption) ?_
          simp only [Act.put, sS0, sS1, sS2]
          refine wpAnyH_pure 4 (v := .int .i64 (k : Int)) rfl (by kernel_rfl) (by kernel_rfl) (by kernel_rfl) (fun _ _ _ h => h) rfl (fun _ => by go_simp) (by assumption) ?_
          simp only [Act.put, sS0, sS1, sS2]
          refine wpAnyH_pure 5 (v := .pointer (some ⟨g, k, none⟩)) rfl (by kernel_rfl) (by kernel_rfl) (by kernel_rfl) (fun _ _ _ h => h) rfl (fun _ => by go_simp) (by assumption) ?_
          simp only [Act.put, sS0, sS1, sS2]
          refine wpAnyH_cell 6 (v := .int .i64 x) rfl rfl (fun w' h => by have hc := HRA.out.1 w' h; go_simp) (by kernel_rfl) (by kernel_rfl) (by kernel_rfl) (fun _ _ _ h => h) (by assumption) ?_
          simp only [Act.put, sS0, sS1, sS2]
          refine wpAnyH_pure 7 (v := .slice (some ⟨g, 0, none⟩) N cap) rfl (by kernel_rfl) (by kernel_rfl) (by kernel_rfl) (fun _ _ _ h => h) rfl (fun _ => rfl) (by assumption) ?_
          simp only [Act.put, sS0, sS1, sS2]
          refine wpAnyH_pure 8 (v := .int .i64 (h : Int)) rfl (by kernel_rfl) (by kernel_rfl) (by kernel_rfl) (fun _ _ _ h => h) rfl (fun _ => rfl) (by assumption) ?_
          simp only [Act.put, sS0, sS1, sS2]
          refine wpAnyH_pure 9 (v := .pointer (some ⟨g, h, none⟩)) rfl (by kernel_rfl) (by kernel_rfl) (by kernel_rfl) (fun _ _ _ h => h) rfl (fun _ => by go_simp) (by assumption) ?_
          simp only [Act.put, sS0, sS1, sS2]
          refine wpAnyH_cell 10 (v := .int .i64 u) rfl rfl (fun w' h => by have hc := HRA.out.2 w' h; go_simp) (by kernel_rfl) (by kernel_rfl) (by kernel_rfl) (fun _ _ _ h => h) (by assumption) ?_
          simp only [Act.put, sS0, sS1, sS2]
          refine wpAnyH_one 11 rfl (by kernel_rfl) rfl (fun K hK => ?_)
          go_simp
          go_at_call 72
          (with_reducible refine (HCM.out _ HSW.out).mono ?_)
          rintro ee w2 ⟨rfl, hb⟩
          replace HSW : Sl (RowKit.Below wr.heap.size wr w2) := ⟨hb⟩
          refine hK.out _ _ (Mv.below HSW.out) (fun hHeld => ?_)
          clear hK K hb
          (try simp only [Act.put, sS0, sS1, sS2])
          refine wpAnyH_pure 12 (v := .bool true) rfl (by kernel_rfl) (by kernel_rfl) (by kernel_rfl) (fun _ _ _ h => h) rfl (fun _ => by go_simp) (by assumption) ?_
          simp only [Act.put, sS0, sS1, sS2]
          refine wpAnyH_pure 13 (v := .bool false) rfl (by kernel_rfl) (by kernel_rfl) (by kernel_rfl) (fun _ _ _ h => h) rfl (fun _ => by go_simp) (by assumption) ?_
          simp only [Act.put, sS0, sS1, sS2]
          refine wpAnyH_done (by kernel_rfl) ?_ _
          clear hHeld
          have HW2 : Sl (Mv g w w2 ∧ PBI ws w2 g N d) := ⟨Mv.trans HW.out.1 (Mv.below HSW.out), HW.out.2.below HSW.out HW.out.2.lt⟩
          clear HRA HCM HSW HW
          go_wp2_with fail
          refine ⟨⟨i, h, _, rfl, rfl, rfl, hsi, hhi.1, by omega, HW2, ⟨HC.out.1, fun c' h1 h2 => ?_⟩⟩, by simp [RowKit.intOf]; omega⟩
          have e1 := HKH.out
          have hG := HG.out
          have ham := HAB.out
          exact Int.lt_of_le_of_lt (HS.out.2 (pp - c') k (by omega) (by omega) (by omega)) (Int.lt_of_lt_of_le HLT.out (HS.out.1 h c' (by omega) h1 (by omega)))
        · have hcd : decide (c < 0) = false := decide_eq_false (fun h => hyv (HCC.out.1 h))
          have HLT : Sl ((dueI ws) (d h) ≤ (dueI ws) (d k)) := ⟨by omega⟩
          clear hyv
          go_wp2_with fail
          have hm : Mv wr.heap.size wr wr.drew := Mv.drew _ _
          have HSW : Sl (RowKit.Below wr.heap.size wr wr.drew) := ⟨below_drewN (Below.refl _ _) 1⟩
          refine wp_region_held_drew (S := fun w' => Mv wr.heap.size wr w') (by kernel_rfl) hm (fun hHeld => ?_)
          clear hm
          refine wpAnyH_pure 0 (v := .func (.func 72) #[] #[.pointer (some ⟨gf, 0, none⟩)]) rfl (by kernel_rfl) (by kernel_rfl) (by kernel_rfl) (fun _ _ _ h => h) rfl (fun _ => rfl) (by assumption) ?_
          simp only [Act.put, sS0, sS1, sS2]
          refine wpAnyH_pure 1 (v := .slice (some ⟨g, 0, none⟩) N cap) rfl (by kernel_rfl) (by kernel_rfl) (by kernel_rfl) (fun _ _ _ h => h) rfl (fun _ => rfl) (by assumption) ?_
          simp only [Act.put, sS0, sS1, sS2]
          refine wpAnyH_pure 2 (v := .int .i64 (pp : Int)) rfl (by kernel_rfl) (by kernel_rfl) (by kernel_rfl) (fun _ _ _ h => h) rfl (fun _ => rfl) (by assumption) ?_
          simp only [Act.put, sS0, sS1, sS2]
          refine wpAnyH_pure 3 (v := .int .i64 (h : Int)) rfl (by kernel_rfl) (by kernel_rfl) (by kernel_rfl) (fun _ _ _ h => h) rfl (fun _ => rfl) (by assumption) ?_
          simp only [Act.put, sS0, sS1, sS2]
          refine wpAnyH_pure 4 (v := .int .i64 (k : Int)) rfl (by kernel_rfl) (by kernel_rfl) (by kernel_rfl) (fun _ _ _ h => h) rfl (fun _ => by go_simp) (by assumption) ?_
          simp only [Act.put, sS0, sS1, sS2]
          refine wpAnyH_pure 5 (v := .pointer (some ⟨g, k, none⟩)) rfl (by kernel_rfl) (by kernel_rfl) (by kernel_rfl) (fun _ _ _ h => h) rfl (fun _ => by go_simp) (by assumption) ?_
          simp only [Act.put, sS0, sS1, sS2]
          refine wpAnyH_cell 6 (v := .int .i64 x) rfl rfl (fun w' h => by have hc := HRA.out.1 w' h; go_simp) (by kernel_rfl) (by kernel_rfl) (by kernel_rfl) (fun _ _ _ h => h) (by assumption) ?_
          simp only [Act.put, sS0, sS1, sS2]
          refine wpAnyH_pure 7 (v := .slice (some ⟨g, 0, none⟩) N cap) rfl (by kernel_rfl) (by kernel_rfl) (by kernel_rfl) (fun _ _ _ h => h) rfl (fun _ => rfl) (by assumption) ?_
          simp only [Act.put, sS0, sS1, sS2]
          refine wpAnyH_pure 8 (v := .int .i64 (h : Int)) rfl (by kernel_rfl) (by kernel_rfl) (by kernel_rfl) (fun _ _ _ h => h) rfl (fun _ => rfl) (by assumption) ?_
          simp only [Act.put, sS0, sS1, sS2]
          refine wpAnyH_pure 9 (v := .pointer (some ⟨g, h, none⟩)) rfl (by kernel_rfl) (by kernel_rfl) (by kernel_rfl) (fun _ _ _ h => h) rfl (fun _ => by go_simp) (by assumption) ?_
          simp only [Act.put, sS0, sS1, sS2]
          refine wpAnyH_cell 10 (v := .int .i64 u) rfl rfl (fun w' h => by have hc := HRA.out.2 w' h; go_simp) (by kernel_rfl) (by kernel_rfl) (by kernel_rfl) (fun _ _ _ h => h) (by assumption) ?_
          simp only [Act.put, sS0, sS1, sS2]
          refine wpAnyH_one 11 rfl (by kernel_rfl) rfl (fun K hK => ?_)
          go_simp
          go_at_call 72
          (with_reducible refine (HCM.out _ HSW.out).mono ?_)
          rintro ee w2 ⟨rfl, hb⟩
          replace HSW : Sl (RowKit.Below wr.heap.size wr w2) := ⟨hb⟩
          refine hK.out _ _ (Mv.below HSW.out) (fun hHeld => ?_)
          clear hK K hb
          (try simp only [Act.put, sS0, sS1, sS2])
          refine wpAnyH_pure 12 (v := .bool false) rfl (by kernel_rfl) (by kernel_rfl) (by kernel_rfl) (fun _ _ _ h => h) rfl (fun _ => by go_simp) (by assumption) ?_
          simp only [Act.put, sS0, sS1, sS2]
          refine wpAnyH_pure 13 (v := .bool true) rfl (by kernel_rfl) (by kernel_rfl) (by kernel_rfl) (fun _ _ _ h => h) rfl (fun _ => by go_simp) (by assumption) ?_
          simp only [Act.put, sS0, sS1, sS2]
          refine wpAnyH_done (by kernel_rfl) ?_ _
          clear hHeld
          have HW2 : Sl (Mv g w w2 ∧ PBI ws w2 g N d) := ⟨Mv.trans HW.out.1 (Mv.below HSW.out), HW.out.2.below HSW.out HW.out.2.lt⟩
          clear HRA HCM HSW HW
          go_wp2_with fail
          refine ⟨⟨h + 1, j, _, by go_num, rfl, rfl, by omega, by omega, hjr, HW2, ⟨fun c' h1 h2 => ?_, HC.out.2⟩⟩, by simp [RowKit.intOf]; omega⟩
          have e1 := HKH.out
          have hG := HG.out
          have ham := HAB.out
          exact Int.le_trans (HS.out.1 c' h (by omega) (by omega) (by omega)) (Int.le_trans HLT.out (HS.out.2 k (pp - c') hkm (by omega) (by omega)))
      · obtain rfl : i = j := by omega
        obtain ⟨en, hen⟩ : ∃ en, nn - i = en := ⟨_, rfl⟩
        have henI : (nn : Int) - (i : Int) = (en : Int) := by omega
        have henw : IntKind.i64.wrap (en : Int) = (en : Int) := by rw [IntKind.wrap_i64]; omega
        have hG := HG.out
        have hen2 : mid + m - i = en := by omega
        obtain ⟨d1, hd1⟩ : ∃ d1, rot d i m en = d1 := ⟨_, rfl⟩
        have HSP : Sl (Srt (dueI ws) d1 a i ∧ Srt (dueI ws) d1 i mid ∧ Srt (dueI ws) d1 mid en ∧ Srt (dueI ws) d1 en b ∧ ∀ x y, a ≤ x → x < mid → mid ≤ y → y < b → (dueI ws) (d1 x) ≤ (dueI ws) (d1 y)) := ⟨by
          have := sym_parts (κ := dueI ws) (d := d) (a := a) (m := m) (b := b) (mid := mid) (st := i) ham hmb (by omega) HS.out.1 HS.out.2 (by omega) (by omega) (by omega) (by omega) (by omega) (fun c h1 h2 h3 => by
              have := HC.out.1 c (by omega) h2
              rw [show mid + m - 1 - c = pp - c by omega]; exact this) (fun c h1 h2 h3 => by
              have := HC.out.2 c h1 (by omega)
              rw [show mid + m - 1 - c = pp - c by omega]; exact this)
          rw [hen2, hd1] at this
          exact this⟩
        have HCX : Sl (Crs d1 a i mid ∧ Crs d1 mid en b) := ⟨by rw [← hd1]; exact crs_rot HCR.out (by omega) (by omega) (by omega) (by omega) (by omega) (by omega) (by omega)⟩
        have HPM : Sl (Pm a b d d1) := ⟨by
          rw [← hd1]
          by_cases hid : i = m ∨ en = m
          · rw [rot_idI d hid (by omega) (by omega)]; exact .refl
          · have := rot_pmI (m := m) ((m - i) + (en - m)) (m - i) (en - m) d (Nat.le_refl _) (by omega) (by omega) (by omega)
            rw [show m - (m - i) = i by omega, show m + (en - m) = en by omega] at this
            exact this.mono (by omega) (by omega)⟩
        replace HG : Sl (a ≤ i ∧ i ≤ m ∧ i ≤ mid ∧ en + i = mid + m ∧ m ≤ en ∧ en ≤ b ∧ mid ≤ en ∧ a < mid ∧ mid < b ∧ mid = (a + b) / 2) := ⟨by omega⟩
        clear HC hen hen2 hG hij hsi hjr
        by_cases hr : i < m
        · by_cases ha : a < i
          · by_cases hb2 : en < b
            · skip
              have hG := HG.out
              have t1aI : (i : Int) < (m : Int) := by omega
              have t1a : decide ((i : Int) < (m : Int)) = true := decide_eq_true t1aI
              have t1bI : (m : Int) < (en : Int) := by omega
              have t1b : decide ((m : Int) < (en : Int)) = true := decide_eq_true t1bI
              have t2aI : (a : Int) < (i : Int) := by omega
              have t2a : decide ((a : Int) < (i : Int)) = true := decide_eq_true t2aI
              have t2bI : (i : Int) < (mid : Int) := by omega
              have t2b : decide ((i : Int) < (mid : Int)) = true := decide_eq_true t2bI
              have t3aI : (mid : Int) < (en : Int) := by omega
              have t3a : decide ((mid : Int) < (en : Int)) = true := decide_eq_true t3aI
              have t3bI : (en : Int) < (b : Int) := by omega
              have t3b : decide ((en : Int) < (b : Int)) = true := decide_eq_true t3bI
              have HRO : Sl _ := ⟨rotateI_any ws g N cap i m en d (.func (.func 72) #[] #[.pointer (some ⟨gf, 0, none⟩)]) wr HW.out.2 (by omega) (by omega) (by omega) HAB.out.2.2.2⟩
              rw [hd1] at HRO
              clear hG hd1
              go_wp2_with fail
              refine HRO.out.mono ?_; rintro ee w3 ⟨rfl, hm3, hp3⟩
              have HW1 : Sl (Mv g w w3 ∧ PBI ws w3 g N d1) := ⟨Mv.trans HW.out.1 hm3, hp3⟩
              clear hm3 hp3 HRO HW
              have HC2 : Sl _ := ⟨HIH.out a i mid (by have := HG.out; omega) d1 w3 HW1.out.2 (KeyI.mv HF.out HW1.out.1) (by have := HG.out; omega) (by have := HG.out; omega) (by have := HG.out; have := HAB.out; omega) HAB.out.2.2.2 HSP.out.1 HSP.out.2.1 HCX.out.1⟩
              go_wp2_with fail
              refine HC2.out.mono ?_; rintro ee w4 ⟨rfl, hm4, d2, hp4, hq4, hs4⟩
              have HW2 : Sl (Mv g w w4 ∧ PBI ws w4 g N d2) := ⟨Mv.trans HW1.out.1 hm4, hp4⟩
              have HD2 : Sl (Pm a mid d1 d2 ∧ Srt (dueI ws) d2 a mid) := ⟨hq4, hs4⟩
              clear hm4 hp4 hq4 hs4 HC2 HW1
              have HE2 : Sl (Srt (dueI ws) d2 mid en ∧ Srt (dueI ws) d2 en b) := ⟨HSP.out.2.2.1.congr fun k k1 k2 => HD2.out.1.far (.inr k1), HSP.out.2.2.2.1.congr fun k k1 k2 => HD2.out.1.far (.inr (by have := HG.out; omega))⟩
              have HC3 : Sl _ := ⟨HIH.out mid en b (by have := HG.out; omega) d2 w4 HW2.out.2 (KeyI.mv HF.out HW2.out.1) (by have := HG.out; omega) (by have := HG.out; omega) HAB.out.2.2.1 HAB.out.2.2.2 HE2.out.1 HE2.out.2 (fun p q h1 h2 h3 h4 => by rw [HD2.out.1.far (.inr h1), HD2.out.1.far (.inr (by omega))]; exact HCX.out.2 p q h1 h2 h3 h4)⟩
              go_wp2_with fail
              refine HC3.out.mono ?_; rintro ee w5 ⟨rfl, hm5, d3, hp5, hq5, hs5⟩
              have HW3 : Sl (Mv g w w5 ∧ PBI ws w5 g N d3) := ⟨Mv.trans HW2.out.1 hm5, hp5⟩
              have HD3 : Sl (Pm mid b d2 d3 ∧ Srt (dueI ws) d3 mid b) := ⟨hq5, hs5⟩
              clear hm5 hp5 hq5 hs5 HC3 HW2
              go_wp2_with fail
              ((try simp only [Exit.inBlock, Exit.then]); refine bodyPost_end (results_none rfl _ _ _) rfl ?_)
              exact ⟨rfl, HW3.out.1, d3, HW3.out.2, ((HPM.out.trans (HD2.out.1.mono (Nat.le_refl _) (by have := HG.out; omega))).trans (HD3.out.1.mono (by have := HG.out; omega) (Nat.le_refl _))), sym_endI HSP.out.2.2.2.2 HD2.out.1 HD2.out.2 HD3.out.1 HD3.out.2⟩
            · skip
              have hG := HG.out
              have t1aI : (i : Int) < (m : Int) := by omega
              have t1a : decide ((i : Int) < (m : Int)) = true := decide_eq_true t1aI
              have t1bI : (m : Int) < (en : Int) := by omega
              have t1b : decide ((m : Int) < (en : Int)) = true := decide_eq_true t1bI
              have t2aI : (a : Int) < (i : Int) := by omega
              have t2a : decide ((a : Int) < (i : Int)) = true := decide_eq_true t2aI
              have t2bI : (i : Int) < (mid : Int) := by omega
              have t2b : decide ((i : Int) < (mid : Int)) = true := decide_eq_true t2bI
              have t3aI : (mid : Int) < (en : Int) := by omega
              have t3a : decide ((mid : Int) < (en : Int)) = true := decide_eq_true t3aI
              have t3bI : ¬ (en : Int) < (b : Int) := by omega
              have t3b : decide ((en : Int) < (b : Int)) = false := decide_eq_false t3bI
              have HRO : Sl _ := ⟨rotateI_any ws g N cap i m en d (.func (.func 72) #[] #[.pointer (some ⟨gf, 0, none⟩)]) wr HW.out.2 (by omega) (by omega) (by omega) HAB.out.2.2.2⟩
              rw [hd1] at HRO
              clear hG hd1
              go_wp2_with fail
              refine HRO.out.mono ?_; rintro ee w3 ⟨rfl, hm3, hp3⟩
              have HW1 : Sl (Mv g w w3 ∧ PBI ws w3 g N d1) := ⟨Mv.trans HW.out.1 hm3, hp3⟩
              clear hm3 hp3 HRO HW
              have HC2 : Sl _ := ⟨HIH.out a i mid (by have := HG.out; omega) d1 w3 HW1.out.2 (KeyI.mv HF.out HW1.out.1) (by have := HG.out; omega) (by have := HG.out; omega) (by have := HG.out; have := HAB.out; omega) HAB.out.2.2.2 HSP.out.1 HSP.out.2.1 HCX.out.1⟩
              go_wp2_with fail
              refine HC2.out.mono ?_; rintro ee w4 ⟨rfl, hm4, d2, hp4, hq4, hs4⟩
              have HW2 : Sl (Mv g w w4 ∧ PBI ws w4 g N d2) := ⟨Mv.trans HW1.out.1 hm4, hp4⟩
              have HD2 : Sl (Pm a mid d1 d2 ∧ Srt (dueI ws) d2 a mid) := ⟨hq4, hs4⟩
              clear hm4 hp4 hq4 hs4 HC2 HW1
              have HE2 : Sl (Srt (dueI ws) d2 mid en ∧ Srt (dueI ws) d2 en b) := ⟨HSP.out.2.2.1.congr fun k k1 k2 => HD2.out.1.far (.inr k1), HSP.out.2.2.2.1.congr fun k k1 k2 => HD2.out.1.far (.inr (by have := HG.out; omega))⟩
              obtain ⟨d3, hd3⟩ : ∃ d3, d2 = d3 := ⟨_, rfl⟩
              have HW3 : Sl (Mv g w w4 ∧ PBI ws w4 g N d3) := ⟨by rw [← hd3]; exact HW2.out⟩
              have HD3 : Sl (Pm mid b d2 d3 ∧ Srt (dueI ws) d3 mid b) := ⟨by rw [← hd3]; exact ⟨.refl, by
                exact HE2.out.1.sub (Nat.le_refl _) (by have := HG.out; omega)⟩⟩
              clear HW2 hd3
              go_wp2_with fail
              ((try simp only [Exit.inBlock, Exit.then]); refine bodyPost_end (results_none rfl _ _ _) rfl ?_)
              exact ⟨rfl, HW3.out.1, d3, HW3.out.2, ((HPM.out.trans (HD2.out.1.mono (Nat.le_refl _) (by have := HG.out; omega))).trans (HD3.out.1.mono (by have := HG.out; omega) (Nat.le_refl _))), sym_endI HSP.out.2.2.2.2 HD2.out.1 HD2.out.2 HD3.out.1 HD3.out.2⟩
          · by_cases hb2 : en < b
            · skip
              have hG := HG.out
              have t1aI : (i : Int) < (m : Int) := by omega
              have t1a : decide ((i : Int) < (m : Int)) = true := decide_eq_true t1aI
              have t1bI : (m : Int) < (en : Int) := by omega
              have t1b : decide ((m : Int) < (en : Int)) = true := decide_eq_true t1bI
              have t2aI : ¬ (a : Int) < (i : Int) := by omega
              have t2a : decide ((a : Int) < (i : Int)) = false := decide_eq_false t2aI
              have t3aI : (mid : Int) < (en : Int) := by omega
              have t3a : decide ((mid : Int) < (en : Int)) = true := decide_eq_true t3aI
              have t3bI : (en : Int) < (b : Int) := by omega
              have t3b : decide ((en : Int) < (b : Int)) = true := decide_eq_true t3bI
              have HRO : Sl _ := ⟨rotateI_any ws g N cap i m en d (.func (.func 72) #[] #[.pointer (some ⟨gf, 0, none⟩)]) wr HW.out.2 (by omega) (by omega) (by omega) HAB.out.2.2.2⟩
              rw [hd1] at HRO
              have HL2 : Sl (Srt (dueI ws) d1 a mid) := ⟨by
                obtain ⟨q1, q2, _⟩ := HSP.out
                exact q2.sub (by omega) (Nat.le_refl _)⟩
              clear hG hd1
              go_wp2_with fail
              refine HRO.out.mono ?_; rintro ee w3 ⟨rfl, hm3, hp3⟩
              have HW1 : Sl (Mv g w w3 ∧ PBI ws w3 g N d1) := ⟨Mv.trans HW.out.1 hm3, hp3⟩
              clear hm3 hp3 HRO HW
              obtain ⟨d2, hd2⟩ : ∃ d2, d1 = d2 := ⟨_, rfl⟩
              have HW2 : Sl (Mv g w w3 ∧ PBI ws w3 g N d2) := ⟨by rw [← hd2]; exact HW1.out⟩
              have HD2 : Sl (Pm a mid d1 d2 ∧ Srt (dueI ws) d2 a mid) := ⟨by rw [← hd2]; exact ⟨.refl, HL2.out⟩⟩
              clear HW1 hd2
              have HE2 : Sl (Srt (dueI ws) d2 mid en ∧ Srt (dueI ws) d2 en b) := ⟨HSP.out.2.2.1.congr fun k k1 k2 => HD2.out.1.far (.inr k1), HSP.out.2.2.2.1.congr fun k k1 k2 => HD2.out.1.far (.inr (by have := HG.out; omega))⟩
              have HC3 : Sl _ := ⟨HIH.out mid en b (by have := HG.out; omega) d2 w3 HW2.out.2 (KeyI.mv HF.out HW2.out.1) (by have := HG.out; omega) (by have := HG.out; omega) HAB.out.2.2.1 HAB.out.2.2.2 HE2.out.1 HE2.out.2 (fun p q h1 h2 h3 h4 => by rw [HD2.out.1.far (.inr h1), HD2.out.1.far (.inr (by omega))]; exact HCX.out.2 p q h1 h2 h3 h4)⟩
              go_wp2_with fail
              refine HC3.out.mono ?_; rintro ee w5 ⟨rfl, hm5, d3, hp5, hq5, hs5⟩
              have HW3 : Sl (Mv g w w5 ∧ PBI ws w5 g N d3) := ⟨Mv.trans HW2.out.1 hm5, hp5⟩
              have HD3 : Sl (Pm mid b d2 d3 ∧ Srt (dueI ws) d3 mid b) := ⟨hq5, hs5⟩
              clear hm5 hp5 hq5 hs5 HC3 HW2
              go_wp2_with fail
              ((try simp only [Exit.inBlock, Exit.then]); refine bodyPost_end (results_none rfl _ _ _) rfl ?_)
              exact ⟨rfl, HW3.out.1, d3, HW3.out.2, ((HPM.out.trans (HD2.out.1.mono (Nat.le_refl _) (by have := HG.out; omega))).trans (HD3.out.1.mono (by have := HG.out; omega) (Nat.le_refl _))), sym_endI HSP.out.2.2.2.2 HD2.out.1 HD2.out.2 HD3.out.1 HD3.out.2⟩
            · skip
              have hG := HG.out
              have t1aI : (i : Int) < (m : Int) := by omega
              have t1a : decide ((i : Int) < (m : Int)) = true := decide_eq_true t1aI
              have t1bI : (m : Int) < (en : Int) := by omega
              have t1b : decide ((m : Int) < (en : Int)) = true := decide_eq_true t1bI
              have t2aI : ¬ (a : Int) < (i : Int) := by omega
              have t2a : decide ((a : Int) < (i : Int)) = false := decide_eq_false t2aI
              have t3aI : (mid : Int) < (en : Int) := by omega
              have t3a : decide ((mid : Int) < (en : Int)) = true := decide_eq_true t3aI
              have t3bI : ¬ (en : Int) < (b : Int) := by omega
              have t3b : decide ((en : Int) < (b : Int)) = false := decide_eq_false t3bI
              have HRO : Sl _ := ⟨rotateI_any ws g N cap i m en d (.func (.func 72) #[] #[.pointer (some ⟨gf, 0, none⟩)]) wr HW.out.2 (by omega) (by omega) (by omega) HAB.out.2.2.2⟩
              rw [hd1] at HRO
              have HL2 : Sl (Srt (dueI ws) d1 a mid) := ⟨by
                obtain ⟨q1, q2, _⟩ := HSP.out
                exact q2.sub (by omega) (Nat.le_refl _)⟩
              clear hG hd1
              go_wp2_with fail
              refine HRO.out.mono ?_; rintro ee w3 ⟨rfl, hm3, hp3⟩
              have HW1 : Sl (Mv g w w3 ∧ PBI ws w3 g N d1) := ⟨Mv.trans HW.out.1 hm3, hp3⟩
              clear hm3 hp3 HRO HW
              obtain ⟨d2, hd2⟩ : ∃ d2, d1 = d2 := ⟨_, rfl⟩
              have HW2 : Sl (Mv g w w3 ∧ PBI ws w3 g N d2) := ⟨by rw [← hd2]; exact HW1.out⟩
              have HD2 : Sl (Pm a mid d1 d2 ∧ Srt (dueI ws) d2 a mid) := ⟨by rw [← hd2]; exact ⟨.refl, HL2.out⟩⟩
              clear HW1 hd2
              have HE2 : Sl (Srt (dueI ws) d2 mid en ∧ Srt (dueI ws) d2 en b) := ⟨HSP.out.2.2.1.congr fun k k1 k2 => HD2.out.1.far (.inr k1), HSP.out.2.2.2.1.congr fun k k1 k2 => HD2.out.1.far (.inr (by have := HG.out; omega))⟩
              obtain ⟨d3, hd3⟩ : ∃ d3, d2 = d3 := ⟨_, rfl⟩
              have HW3 : Sl (Mv g w w3 ∧ PBI ws w3 g N d3) := ⟨by rw [← hd3]; exact HW2.out⟩
              have HD3 : Sl (Pm mid b d2 d3 ∧ Srt (dueI ws) d3 mid b) := ⟨by rw [← hd3]; exact ⟨.refl, by
                exact HE2.out.1.sub (Nat.le_refl _) (by have := HG.out; omega)⟩⟩
              clear HW2 hd3
              go_wp2_with fail
              ((try simp only [Exit.inBlock, Exit.then]); refine bodyPost_end (results_none rfl _ _ _) rfl ?_)
              exact ⟨rfl, HW3.out.1, d3, HW3.out.2, ((HPM.out.trans (HD2.out.1.mono (Nat.le_refl _) (by have := HG.out; omega))).trans (HD3.out.1.mono (by have := HG.out; omega) (Nat.le_refl _))), sym_endI HSP.out.2.2.2.2 HD2.out.1 HD2.out.2 HD3.out.1 HD3.out.2⟩
        · by_cases ha : i < mid
          · skip
            have hG := HG.out
            have t1aI : ¬ (i : Int) < (m : Int) := by omega
            have t1a : decide ((i : Int) < (m : Int)) = false := decide_eq_false t1aI
            have t2aI : (a : Int) < (i : Int) := by omega
            have t2a : decide ((a : Int) < (i : Int)) = true := decide_eq_true t2aI
            have t2bI : (i : Int) < (mid : Int) := by omega
            have t2b : decide ((i : Int) < (mid : Int)) = true := decide_eq_true t2bI
            have t3aI : ¬ (mid : Int) < (en : Int) := by omega
            have t3a : decide ((mid : Int) < (en : Int)) = false := decide_eq_false t3aI
            have HID : Sl (d1 = d) := ⟨by rw [← hd1]; exact rot_idI d (by omega) (by omega) (by omega)⟩
            clear hG hd1
            go_wp2_with fail
            have HW1 : Sl (Mv g w wr ∧ PBI ws wr g N d1) := ⟨HW.out.1, by rw [HID.out]; exact HW.out.2⟩
            clear HW
            have HC2 : Sl _ := ⟨HIH.out a i mid (by have := HG.out; omega) d1 wr HW1.out.2 (KeyI.mv HF.out HW1.out.1) (by have := HG.out; omega) (by have := HG.out; omega) (by have := HG.out; have := HAB.out; omega) HAB.out.2.2.2 HSP.out.1 HSP.out.2.1 HCX.out.1⟩
            refine HC2.out.mono ?_; rintro ee w4 ⟨rfl, hm4, d2, hp4, hq4, hs4⟩
            have HW2 : Sl (Mv g w w4 ∧ PBI ws w4 g N d2) := ⟨Mv.trans HW1.out.1 hm4, hp4⟩
            have HD2 : Sl (Pm a mid d1 d2 ∧ Srt (dueI ws) d2 a mid) := ⟨hq4, hs4⟩
            clear hm4 hp4 hq4 hs4 HC2 HW1
            have HE2 : Sl (Srt (dueI ws) d2 mid en ∧ Srt (dueI ws) d2 en b) := ⟨HSP.out.2.2.1.congr fun k k1 k2 => HD2.out.1.far (.inr k1), HSP.out.2.2.2.1.congr fun k k1 k2 => HD2.out.1.far (.inr (by have := HG.out; omega))⟩
            obtain ⟨d3, hd3⟩ : ∃ d3, d2 = d3 := ⟨_, rfl⟩
            have HW3 : Sl (Mv g w w4 ∧ PBI ws w4 g N d3) := ⟨by rw [← hd3]; exact HW2.out⟩
            have HD3 : Sl (Pm mid b d2 d3 ∧ Srt (dueI ws) d3 mid b) := ⟨by rw [← hd3]; exact ⟨.refl, by
              exact HE2.out.2.sub (by have := HG.out; omega) (Nat.le_refl _)⟩⟩
            clear HW2 hd3
            go_wp2_with fail
            ((try simp only [Exit.inBlock, Exit.then]); refine bodyPost_end (results_none rfl _ _ _) rfl ?_)
            exact ⟨rfl, HW3.out.1, d3, HW3.out.2, ((HPM.out.trans (HD2.out.1.mono (Nat.le_refl _) (by have := HG.out; omega))).trans (HD3.out.1.mono (by have := HG.out; omega) (Nat.le_refl _))), sym_endI HSP.out.2.2.2.2 HD2.out.1 HD2.out.2 HD3.out.1 HD3.out.2⟩
          · skip
            have hG := HG.out
            have t1aI : ¬ (i : Int) < (m : Int) := by omega
            have t1a : decide ((i : Int) < (m : Int)) = false := decide_eq_false t1aI
            have t2aI : (a : Int) < (i : Int) := by omega
            have t2a : decide ((a : Int) < (i : Int)) = true := decide_eq_true t2aI
            have t2bI : ¬ (i : Int) < (mid : Int) := by omega
            have t2b : decide ((i : Int) < (mid : Int)) = false := decide_eq_false t2bI
            have t3aI : ¬ (mid : Int) < (en : Int) := by omega
            have t3a : decide ((mid : Int) < (en : Int)) = false := decide_eq_false t3aI
            have HID : Sl (d1 = d) := ⟨by rw [← hd1]; exact rot_idI d (by omega) (by omega) (by omega)⟩
            have HL2 : Sl (Srt (dueI ws) d1 a mid) := ⟨by
              obtain ⟨q1, q2, _⟩ := HSP.out
              exact q1.sub (Nat.le_refl _) (by omega)⟩
            clear hG hd1
            go_wp2_with fail
            have HW1 : Sl (Mv g w wr ∧ PBI ws wr g N d1) := ⟨HW.out.1, by rw [HID.out]; exact HW.out.2⟩
            clear HW
            obtain ⟨d2, hd2⟩ : ∃ d2, d1 = d2 := ⟨_, rfl⟩
            have HW2 : Sl (Mv g w wr ∧ PBI ws wr g N d2) := ⟨by rw [← hd2]; exact HW1.out⟩
            have HD2 : Sl (Pm a mid d1 d2 ∧ Srt (dueI ws) d2 a mid) := ⟨by rw [← hd2]; exact ⟨.refl, HL2.out⟩⟩
            clear HW1 hd2
            have HE2 : Sl (Srt (dueI ws) d2 mid en ∧ Srt (dueI ws) d2 en b) := ⟨HSP.out.2.2.1.congr fun k k1 k2 => HD2.out.1.far (.inr k1), HSP.out.2.2.2.1.congr fun k k1 k2 => HD2.out.1.far (.inr (by have := HG.out; omega))⟩
            obtain ⟨d3, hd3⟩ : ∃ d3, d2 = d3 := ⟨_, rfl⟩
            have HW3 : Sl (Mv g w wr ∧ PBI ws wr g N d3) := ⟨by rw [← hd3]; exact HW2.out⟩
            have HD3 : Sl (Pm mid b d2 d3 ∧ Srt (dueI ws) d3 mid b) := ⟨by rw [← hd3]; exact ⟨.refl, by
              exact HE2.out.2.sub (by have := HG.out; omega) (Nat.le_refl _)⟩⟩
            clear HW2 hd3
            ((try simp only [Exit.inBlock, Exit.then]); refine bodyPost_end (results_none rfl _ _ _) rfl ?_)
            exact ⟨rfl, HW3.out.1, d3, HW3.out.2, ((HPM.out.trans (HD2.out.1.mono (Nat.le_refl _) (by have := HG.out; omega))).trans (HD3.out.1.mono (by have := HG.out; omega) (Nat.le_refl _))), sym_endI HSP.out.2.2.2.2 HD2.out.1 HD2.out.2 HD3.out.1 HD3.out.2⟩
set_option maxHeartbeats 3200000 in
theorem symMergeI_any (ws : List Int) (g gf N cap : Nat) : ∀ (s a m b : Nat), b - a ≤ s → MergesI ws g gf N cap a m b
  | 0, a, m, b, hs => fun d w _ _ h1 h2 => by omega
  | s+1, a, m, b, hs => fun d w hp hf h1 h2 h3 h4 h5 h6 h7 => by
    by_cases hl : m = a + 1
    · exact smLeftI_any ws g gf N cap a m b d w hp hf h1 h2 h3 h4 h5 h6 h7 hl
    · by_cases hr : b = m + 1
      · exact smRightI_any ws g gf N cap a m b d w hp hf h1 h2 h3 h4 h5 h6 h7 hl hr
      · exact smMidI_any ws g gf N cap a m b d w hp hf h1 h2 h3 h4 h5 h6 h7 hl hr fun a' m' b' h => symMergeI_any ws g gf N cap s a' m' b' (by omega)
end Go.Proofs.YtbaojmfkjpnfhaaGreatDoor
