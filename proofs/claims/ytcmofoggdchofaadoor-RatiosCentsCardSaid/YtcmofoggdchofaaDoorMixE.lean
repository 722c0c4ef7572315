/- Package ratios: one: is a product of powers 1? -/
import Derived.Test.YtcmofoggdchofaaDoorMixD
import Derived.Deep.RegionWith
namespace Go.Proofs.YtcmofoggdchofaaDoor
set_option linter.unusedSimpArgs false
open Go.RowKit
set_option linter.unusedVariables false

theorem vb_le {b n : Nat} (hb : 2 ≤ b) (hn : 0 < n) (h : n ≤ 1000000000000) : vb b n ≤ 40 := by
  have key : ∀ f n, 0 < n → 2 ^ mult b f n ≤ n := by
    intro f
    induction f with
    | zero => intro n h; simp [mult]; omega
    | succ f ih =>
      intro n h
      rw [mult]
      split
      · rename_i hm
        obtain ⟨c, rfl⟩ := Nat.dvd_of_mod_eq_zero hm
        have hc : 0 < c := Nat.pos_of_ne_zero fun h0 => by subst h0; simp at h
        rw [Nat.mul_div_cancel_left _ (by omega), Nat.pow_succ]
        have h1 := ih c hc
        have h2 := Nat.mul_le_mul_right c hb
        omega
      · simp; omega
  have h1 := key n n hn
  rcases Nat.lt_or_ge 40 (mult b n n) with h2 | h2
  · have := Nat.pow_le_pow_right (n := 2) (by decide) h2
    have e : 2 ^ (40 + 1) = 2199023255552 := by decide
    omega
  · exact h2
/-- terms of which the exponents fit -/
def okE (l : List (Nat × Int)) : Prop := l.length ≤ 17 ∧ ∀ x ∈ l, 0 < x.1 ∧ x.1 ≤ 1000000000000 ∧ x.2.natAbs ≤ 10000000000000000
theorem expo_le {b : Nat} (hb : 2 ≤ b) : ∀ l : List (Nat × Int), (∀ x ∈ l, 0 < x.1 ∧ x.1 ≤ 1000000000000 ∧ x.2.natAbs ≤ 10000000000000000) → (expo b l).natAbs ≤ l.length * 400000000000000000
  | [], _ => by simp [expo]
  | (n, k) :: l, h => by
    have h1 := h _ List.mem_cons_self
    have h2 := expo_le hb l fun x hx => h x (List.mem_cons_of_mem _ hx)
    simp only [] at h1
    have h3 := vb_le hb h1.1 h1.2.1
    rw [expo, List.length_cons]
    have h4 : (k * (vb b n : Int)).natAbs ≤ 10000000000000000 * 40 := by
      rw [Int.natAbs_mul]
      exact Nat.mul_le_mul h1.2.2 (by simpa using h3)
    omega
set_option maxHeartbeats 6400000 in
set_option maxRecDepth 100000 in
theorem one_any (A : Option Addr) (n c : Nat) (l : List (Nat × Int)) (w : World) (hl : TR w A n l) (hok : okE l) :
    Calls Tryd.prog 45 #[.slice A n c] w fun e w' => e = .returned (.bool (decide (up l = down l))) ∧ Below w.heap.size w w' := by
  have hn : n ≤ 17 := by rw [← hl.1]; exact hok.1
  have HBS : Sl _ := ⟨base_any A n c l w hl hn (fun x hx => ⟨(hok.2 x hx).1, (hok.2 x hx).2.1⟩)⟩
  have HL : Sl _ := ⟨hl⟩
  have HK : Sl _ := ⟨hok⟩
  clear hl hok
  go_enter Tryd.func45, Tryd.ntmps45
  go_wp2_with fail
  refine HBS.out.mono ?_; rintro e w1 ⟨⟨A1, c1, o, rfl, hI, hO⟩, hB⟩
  have hol : o.length ≤ 2100 := by
    have h1 := mz_len o [] hO.cop.two
    have h2 := hO.mz
    simp at h1
    omega
  have HO : Sl _ := ⟨And.intro hI hO⟩
  have HU : Sl _ := ⟨hB⟩
  have HL1 : Sl _ := ⟨HL.out.below hB⟩
  clear hI hO hB HBS
  have hiff : (∀ b ∈ o, expo b l = 0) ↔ up l = down l := HO.out.2.cop.one_iff fun x hx => by
    have := HO.out.2.gen x.1 (List.mem_map.2 ⟨x, hx, rfl⟩)
    simpa using this
  have HIF : Sl _ := ⟨hiff⟩
  clear hiff
  go_wp2_with fail
  go_loopw [12] (fun s12 wr => ∃ i : Nat, i ≤ o.length ∧ s12 = .int .i64 i ∧ Sl (Below w1.heap.size w1 wr ∧ ∀ b ∈ o.take i, expo b l = 0)) (fun s12 _ => o.length - (RowKit.intOf s12).toNat)
  case atStart => exact ⟨0, Nat.zero_le _, rfl, ⟨Below.refl _ _, fun b hb => by simp at hb⟩⟩
  case round =>
    obtain ⟨i, hi, rfl, HR⟩ := hrel
    by_cases hin : i < o.length
    · obtain ⟨b, hb⟩ : ∃ b, o[i]? = some b := ⟨_, List.getElem?_eq_getElem hin⟩
      have hb2 : 2 ≤ b := HO.out.2.cop.two b (List.mem_of_getElem? hb)
      obtain ⟨g, rfl, _, _, hgl⟩ := HO.out.1.form (by omega)
      have hcb : wr.cell? ⟨g, i, none⟩ = some (.int .i64 (b : Int)) := by
        rw [HR.out.1.cell (p := ⟨g, i, none⟩) hgl]
        exact HO.out.1.cell hb
      have HBB : Sl _ := ⟨hb⟩
      have hbl : b ≤ 1000000000000 := HO.out.2.le b (by simp [List.mem_of_getElem? hb])
      clear hb
      go_wp2_with fail
      go_loopw [5, 18] (fun s5 s18 wq => ∃ (j : Nat) (z : Int), j ≤ n ∧ s5 = .int .i64 z ∧ s18 = .int .i64 j ∧ Sl (Below w1.heap.size w1 wq ∧ expo b (l.take j) = z)) (fun _ s18 _ => n - (RowKit.intOf s18).toNat)
      case atStart => exact ⟨0, 0, Nat.zero_le _, rfl, rfl, ⟨HR.out.1, by simp [expo]⟩⟩
      case round =>
        obtain ⟨j, z, hj, rfl, rfl, HZ⟩ := hrel
        by_cases hjn : j < n
        · obtain ⟨⟨nn, kk⟩, hx⟩ : ∃ x, l[j]? = some x := ⟨_, List.getElem?_eq_getElem (by rw [HL1.out.1]; exact hjn)⟩
          obtain ⟨ad, rfl, hab, e1, e2⟩ := (HL1.out.below HZ.out.1).cells hx
          have e3 : (ad.add (j * 2)).add 1 = ⟨(ad.add (j * 2)).block, (ad.add (j * 2)).off + 1, none⟩ := by
            generalize ad.add (j * 2) = a1
            simp [Addr.add]
          rw [← add_of_add, e3] at e2
          have hnn := HK.out.2 _ (List.mem_of_getElem? hx)
          simp only [] at hnn e1 e2
          have hvb := vb_le hb2 hnn.1 hnn.2.1
          have hzl := expo_le hb2 (l.take j) (fun x hx => HK.out.2 x (List.mem_of_mem_take hx))
          rw [HZ.out.2, List.length_take] at hzl
          have hz2 : z.natAbs ≤ 16 * 400000000000000000 := Nat.le_trans hzl (Nat.mul_le_mul_right _ (by omega))
          have HZ2 : Sl _ := ⟨hz2⟩
          have HX : Sl _ := ⟨And.intro hx (And.intro hnn hvb)⟩
          have HBW := HZ.out.1.alloc HZ.out.1.size (.cells #[.int .i64 (nn : Int), .int .i64 kk] 51)
          have HBX : Sl _ := ⟨HBW⟩
          clear hx hnn hvb hzl hz2 e3 HBW
          go_wp2_with fail
          go_loopw [5, 8] (fun s5 s8 wx => ∃ (m t : Nat), 0 < m ∧ m ≤ 1000000000000 ∧ wx = wr.alloc (.cells #[.int .i64 (nn : Int), .int .i64 kk] 51) ∧ s8 = .int .i64 m ∧ s5 = .int .i64 (z + kk * t) ∧ Sl (t + vb b m = vb b nn)) (fun _ s8 _ => (RowKit.intOf s8).toNat)
          case atStart => exact ⟨nn, 0, HX.out.2.1.1, HX.out.2.1.2.1, rfl, rfl, by simp, ⟨by omega⟩⟩
          case round =>
            obtain ⟨m, t, hm0, hm1, rfl, rfl, rfl, HV⟩ := hrel
            have hmod : (m : Int).tmod (b : Int) = ((m % b : Nat) : Int) := by rw [Int.tmod_eq_emod_of_nonneg (by omega)]; omega
            have hbz : ¬ (b = 0) := by omega
            have hd := vb_div hb2 hm0
            by_cases hmb : m % b = 0
            · rw [if_pos hmb] at hd
              rw [hmb] at hmod
              have hdiv : (m : Int).tdiv (b : Int) = ((m / b : Nat) : Int) := by rw [Int.tdiv_eq_ediv_of_nonneg (by omega)]; rfl
              have hq0 : 0 < m / b := Nat.div_pos (Nat.le_of_dvd hm0 (Nat.dvd_of_mod_eq_zero hmb)) (by omega)
              have hq1 : m / b < m := Nat.div_lt_self hm0 (by omega)
              have hV := HV.out
              have ht : t + 1 ≤ 40 := by have := HX.out.2.2; omega
              have hnew : Sl (t + 1 + vb b (m / b) = vb b nn) := ⟨by omega⟩
              have hkt : (kk * ((t : Int) + 1)).natAbs ≤ 10000000000000000 * 40 := by
                rw [Int.natAbs_mul]
                exact Nat.mul_le_mul HX.out.2.1.2.2 (by omega)
              have hadd : z + kk * (t : Int) + kk = z + kk * ((t : Int) + 1) := by rw [Int.mul_add, Int.mul_one]; omega
              have hwr : IntKind.i64.wrap (z + kk * (t : Int) + kk) = z + kk * ((t : Int) + 1) := by
                rw [hadd]
                have := HZ2.out
                generalize kk * ((t : Int) + 1) = y at *
                rw [IntKind.wrap_i64]; omega
              obtain ⟨zn, hzn⟩ : ∃ zn, z + kk * ((t : Int) + 1) = zn := ⟨_, rfl⟩
              rw [hzn] at hwr
              have HZN : Sl _ := ⟨hzn⟩
              clear hd hV hkt hadd hmb hzn
              generalize m / b = q at *
              generalize z + kk * (t : Int) = zc at *
              go_wp2_with fail
              refine ⟨⟨q, t + 1, hq0, by omega, by first | rfl | trivial, by first | rfl | trivial, ?_, hnew⟩, by simp [RowKit.intOf]; omega⟩
              rw [← HZN.out]
              rfl
            · rw [if_neg hmb] at hd
              have hne : ((m % b : Nat) : Int) ≠ 0 := by omega
              have hbq : (((m % b : Nat) : Int) == 0) = false := by rw [beq_eq_false_iff_ne]; exact hne
              have hfin : Sl (expo b (l.take (j + 1)) = z + kk * (t : Int)) := ⟨by
                have hV := HV.out
                rw [hd, Nat.add_zero] at hV
                rw [List.take_add_one, HX.out.1]
                show expo b (l.take j ++ [(nn, kk)]) = _
                rw [expo_snoc, HZ.out.2, hV]⟩
              clear hd hmb
              generalize m % b = q at *
              generalize z + kk * (t : Int) = zc at *
              go_wp2_with fail
              exact ⟨⟨j + 1, zc, hjn, rfl, by go_num, ⟨HBX.out, hfin.out⟩⟩, by simp [RowKit.intOf]; omega⟩
        · obtain rfl : j = n := by omega
          have hz : expo b l = z := by
            have h := HZ.out.2
            rw [List.take_of_length_le (by rw [HL1.out.1]; exact Nat.le_refl _)] at h
            exact h
          by_cases h0 : z = 0
          · subst h0
            have HZ0 : Sl _ := ⟨hz⟩
            clear hz
            go_wp2_with fail
            refine ⟨⟨i + 1, hin, by go_num, ⟨HZ.out.1, fun y hy => ?_⟩⟩, by simp [RowKit.intOf]; omega⟩
            rw [List.take_add_one, HBB.out, List.mem_append] at hy
            rcases hy with hy | hy
            · exact HR.out.2 y hy
            · simp at hy; rw [hy]; exact HZ0.out
          · have hd : decide (up l = down l) = false := by
              rw [decide_eq_false_iff_not, ← HIF.out]
              intro h
              rw [h b (List.mem_of_getElem? HBB.out)] at hz
              exact h0 hz.symm
            have HD : Sl _ := ⟨hd⟩
            clear hd hz
            go_wp2_with fail
            go_ret
            exact ⟨by rw [HD.out]; rfl, HU.out.trans (HZ.out.1.mono HU.out.size)⟩
    · obtain rfl : i = o.length := by omega
      have hd : decide (up l = down l) = true := by
        rw [decide_eq_true_iff, ← HIF.out]
        intro b hb
        have h := HR.out.2
        rw [List.take_of_length_le (Nat.le_refl _)] at h
        exact h b hb
      have HD : Sl _ := ⟨hd⟩
      clear hd hin
      go_wp2_with fail
      go_ret
      exact ⟨by rw [HD.out]; rfl, HU.out.trans (HR.out.1.mono HU.out.size)⟩
end Go.Proofs.YtcmofoggdchofaaDoor
