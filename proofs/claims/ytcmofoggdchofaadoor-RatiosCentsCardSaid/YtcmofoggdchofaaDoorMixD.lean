/- Package ratios: base, the walk. -/
import Derived.Test.YtcmofoggdchofaaDoorMixC
import Derived.Test.YtcmofoggdchofaaDoorMixJ
import Derived.Deep.RegionLaw
namespace Go.Proofs.YtcmofoggdchofaaDoor
set_option linter.unusedSimpArgs false
open Go.RowKit
set_option linter.unusedVariables false

/-- base's result -/
def BaseRes (l : List Nat) (e : Ending) (w : World) (B : Nat) : Prop := ∃ A c o, e = .returned (.slice A (o.length) c) ∧ IR w B A o.length c o ∧ BInv o [] l 2100
set_option maxHeartbeats 6400000 in
set_option maxRecDepth 100000 in
theorem base_any (A : Option Addr) (n c : Nat) (l : List (Nat × Int)) (w : World) (hl : TR w A n l) (hn : n ≤ 17) (hN : ∀ x ∈ l, 0 < x.1 ∧ x.1 ≤ 1000000000000) :
    Calls Tryd.prog 60 #[.slice A n c] w fun e w' => BaseRes (l.map (·.1)) e w' w.heap.size ∧ Below w.heap.size w w' := by
  have HL : Sl _ := ⟨hl⟩
  have HN : Sl _ := ⟨hN⟩
  clear hl hN
  obtain ⟨i0, hi0, hz0, hz1, hz2⟩ := info_i64
  have HI64 : Sl _ := ⟨And.intro hi0 (And.intro hz0 (And.intro hz1 hz2))⟩
  clear hi0 hz0 hz1 hz2
  go_enter Tryd.func60, Tryd.ntmps60
  go_wp2_with fail
  go_loopg [3, 13] (n + 1) (fun k s3 s13 wr => ∃ (i : Nat) (A' : Option Addr) (c' : Nat) (o : List Nat), i ≤ n ∧ k = n - i + 1 ∧ s13 = .int .i64 i ∧ s3 = .slice A' o.length c' ∧ Below w.heap.size w wr ∧ Sl (IR wr w.heap.size A' o.length c' o ∧ BInv o [] ((l.map (·.1)).take i) (121 * i)))
  case atStart => exact ⟨0, none, 0, [], Nat.zero_le _, rfl, rfl, rfl, Below.refl _ _, ⟨IR.nil _ _, BInv.nil _⟩⟩
  case round =>
    obtain ⟨i, A1, c1, o, hi, hgk, rfl, rfl, hB, HI⟩ := hrel
    by_cases hin : i < n
    · obtain ⟨⟨nn, kk⟩, hx⟩ : ∃ x, l[i]? = some x := ⟨_, List.getElem?_eq_getElem (by rw [HL.out.1]; exact hin)⟩
      obtain ⟨ad, rfl, hab, e1, e2⟩ := (HL.out.below hB).cells hx
      have e3 : (ad.add (i * 2)).add 1 = ⟨(ad.add (i * 2)).block, (ad.add (i * 2)).off + 1, none⟩ := by
        generalize ad.add (i * 2) = a1
        simp [Addr.add]
      rw [← add_of_add, e3] at e2
      have hnn := HN.out _ (List.mem_of_getElem? hx)
      simp only [] at hnn e1 e2
      have HX : Sl _ := ⟨And.intro hx hnn⟩
      have HU : Sl _ := ⟨hB⟩
      clear hx hnn hB e3
      go_wp2_with fail
      go_step3
      go_wp2_with fail
      have hW2 := (HU.out.alloc HU.out.size (.cells #[.int .i64 (nn : Int), .int .i64 kk] 51)).alloc (Nat.le_trans HU.out.size (by simp)) (.cells #[.int .i64 (nn : Int)] 2)
      have HT := Two.start (HI.out.1.alloc (.cells #[.int .i64 (nn : Int), .int .i64 kk] 51)) (Nat.le_trans HU.out.size (by simp)) nn
      have HI2 : BInv o [nn] ((l.map (·.1)).take (i + 1)) (121 * (i + 1)) := by
        have h := HI.out.2.start HX.out.2.1 HX.out.2.2
        rw [List.take_add_one, List.getElem?_map, HX.out.1]
        exact h
      have es : (wr.alloc (.cells #[.int .i64 (nn : Int), .int .i64 kk] 51)).heap.size = wr.heap.size + 1 := by simp
      rw [es] at HT
      have HS : Sl _ := ⟨And.intro hW2 (And.intro HT HI2)⟩
      clear hW2 HT HI2 es HI
      go_step3
      go_wp2_with fail
      go_loopg [3, 6] (mz o [nn]) (fun k s3 s6 wl => ∃ (A2 : Option Addr) (c2 : Nat) (p : List Nat) (A3 : Option Addr) (n3 c3 : Nat) (wt : List Nat), s3 = .slice A2 p.length c2 ∧ s6 = .slice A3 n3 c3 ∧ Sl (Below w.heap.size w wl ∧ Two wl w.heap.size A2 p.length c2 p A3 n3 c3 wt ∧ BInv p wt ((l.map (·.1)).take (i + 1)) (121 * (i + 1)) ∧ mz p wt = k))
      case atStart => exact ⟨A1, c1, o, _, 1, 1, [nn], rfl, rfl, ⟨HS.out.1, HS.out.2.1, HS.out.2.2, rfl⟩⟩
      case round =>
        clear HS
        obtain ⟨A2, c2, p, A3, n3, c3, wt, rfl, rfl, HS⟩ := hrel
        obtain ⟨hbw, htw, hiv, hmz⟩ := HS.out
        rcases Nat.eq_zero_or_pos n3 with h0 | h0
        · subst h0
          clear hbw htw hiv hmz
          go_wp2_with fail
          rw [Exit.noGoto_normal]
          go_wp2_with fail
          obtain ⟨hbw, htw, hiv, hmz⟩ := HS.out
          obtain rfl : wt = [] := List.eq_nil_of_length_eq_zero htw.b.1
          go_roundg (n - (i + 1) + 1)
          case measure => rw [hgk]; omega
          case rel => exact ⟨i + 1, A2, c2, p, hin, rfl, by go_num, rfl, hbw, ⟨htw.a, hiv⟩⟩
        · obtain ⟨m, rfl⟩ : ∃ m, n3 = m + 1 := ⟨n3 - 1, by omega⟩
          obtain ⟨wt', x, rfl⟩ : ∃ wt' x, wt = wt' ++ [x] := by
            rcases List.eq_nil_or_concat wt with e | ⟨a, b, e⟩
            · have := htw.b.1; rw [e] at this; simp at this
            · exact ⟨a, b, by simpa using e⟩
          have hm : wt'.length = m := by have := htw.b.1; simp at this; omega
          obtain ⟨g3, rfl, hcc, hgb, hgl⟩ := htw.b.form (Nat.succ_pos _)
          have hcx := htw.b.cell (i := m) (x := x) (by rw [← hm]; simp)
          have hx0 := hiv.pos x (by simp)
          have hx1 := hiv.le x (by simp)
          have hpop := htw.pop
          rw [hm] at hpop
          have HS2 : Sl _ := ⟨And.intro hbw (And.intro hpop (And.intro hiv (And.intro hmz hm)))⟩
          have hml := mz_len p (wt' ++ [x]) hiv.cop.two
          have hbound : mz p (wt' ++ [x]) ≤ 2200 := Nat.le_trans hiv.mz (by omega)
          have hmb : m ≤ 2200 := by simp at hml; omega
          have hpb : p.length ≤ 2200 := by simp at hml; omega
          clear hbw htw hiv hmz HS hml hbound h0 hgb hgl hm hpop
          by_cases hx2 : x = 1
          · subst hx2
            go_wp2_with fail
            obtain ⟨hbw, htw, hiv, hmz, hm⟩ := HS2.out
            go_roundg (mz p wt')
            case measure => rw [← hmz]; exact mz_one p wt'
            case rel => exact ⟨A2, c2, p, _, m, c3, wt', rfl, rfl, ⟨hbw, htw, hiv.one, rfl⟩⟩
          · have hx3 : ((x : Int) == 1) = false := by rw [beq_eq_false_iff_ne]; omega
            go_wp2_with fail
            go_loopw [3, 6, 38] (fun s3 s6 s38 wq => ∃ j : Nat, j ≤ p.length ∧ s3 = .slice A2 p.length c2 ∧ s6 = .slice (some ⟨g3, 0, none⟩) m c3 ∧ s38 = .int .i64 j ∧ Sl ((∃ d, wq = wr.drewN d) ∧ ∀ b ∈ p.take j, Nat.gcd b x = 1)) (fun _ _ s38 _ => p.length - (RowKit.intOf s38).toNat)
            case atStart => exact ⟨0, Nat.zero_le _, rfl, rfl, rfl, ⟨⟨0, rfl⟩, fun b hb => by simp at hb⟩⟩
            case round =>
              obtain ⟨j, hj, rfl, rfl, rfl, HQ⟩ := hrel
              obtain ⟨d, rfl⟩ := HQ.out.1
              by_cases hjp : j < p.length
              · obtain ⟨b, hb⟩ : ∃ b, p[j]? = some b := ⟨_, List.getElem?_eq_getElem hjp⟩
                obtain ⟨g2, rfl, hcc2, _, hgl2⟩ := HS2.out.2.1.a.form (by omega)
                have hcb : (wr.drewN d).cell? ⟨g2, j, none⟩ = some (.int .i64 (b : Int)) := (HS2.out.2.1.a.drewN d).cell hb
                have hble : b ≤ 1000000000000 := HS2.out.2.2.1.le b (by simp [List.mem_of_getElem? hb])
                have hb2 : 2 ≤ b := HS2.out.2.2.1.cop.two b (List.mem_of_getElem? hb)
                have hG := fun W : World => rgcd_any b x W (by omega) (by omega)
                obtain ⟨g, hgd⟩ : ∃ g, Nat.gcd b x = g := ⟨_, rfl⟩
                rw [hgd] at hG
                have hg0 : 0 < g := by rw [← hgd]; exact Nat.gcd_pos_of_pos_right _ hx0
                have hgx : g ≤ x := by rw [← hgd]; exact Nat.gcd_le_right _ hx0
                have HGD : Sl _ := ⟨And.intro hgd hb⟩
                have HG : Sl (∀ W : World, Calls Tryd.prog 29 #[.int .i64 b, .int .i64 x] W fun e w' => e = .returned (.int .i64 g) ∧ ∃ m, w' = W.drewN m) := ⟨hG⟩
                clear hG hgd hb
                by_cases hg1 : 1 < g
                · go_wp2_with fail
                  refine (HG.out _).mono ?_; rintro e w1 ⟨rfl, d2, rfl⟩
                  rw [drew2]
                  go_wp2_with fail
                  have hj1 : IntKind.i64.wrap ((j : Int) + 1) = (j : Int) + 1 := by rw [IntKind.wrap_i64]; omega
                  have hjl : j + 1 ≤ p.length := hjp
                  have hjc : j ≤ c2 := by omega
                  have ha := HS2.out.2.1.a.drewN (d + d2 + 1)
                  obtain ⟨XA, hsl, hrd⟩ := ha.behind hjl hcc2
                  rw [show ((j + 1 : Nat) : Int) = (j : Int) + 1 by omega] at hsl
                  have hsplit : p = p.take j ++ b :: p.drop (j + 1) := by
                    have e1 := List.getElem?_eq_some_iff.1 HGD.out.2
                    obtain ⟨e1, e2⟩ := e1
                    rw [← e2, ← List.drop_eq_getElem_cons, List.take_append_drop]
                  have hfr : IR (wr.drewN (d + d2 + 1)) w.heap.size (some ⟨g2, 0, none⟩) j c2 (p.take j) := by
                    have h := ha
                    rw [← List.take_append_drop j p] at h
                    have h2 := h.front
                    rw [List.length_take, Nat.min_eq_left hj] at h2
                    exact h2
                  have HFR : Sl _ := ⟨And.intro hfr (And.intro hrd hsplit)⟩
                  have HBZ : Sl (w.heap.size ≤ (wr.drewN (d + d2 + 1)).heap.size) := ⟨(below_drewN HS2.out.1 (d + d2 + 1)).size⟩
                  clear ha hfr hrd hsplit
                  go_region_held3 (fun _ => True)
                      (trivial)
                      (first
                        | (refine step_append_any _ rfl (.tmp 50) (.tmp 54) _ rfl w.heap.size 2 i0 _ 1 8 Tryd.underlying48 HI64.out.1 HI64.out.2.1 HI64.out.2.2.1 HI64.out.2.2.2 rfl (by decide) (.slice (some ⟨g2, 0, none⟩) j c2) j _ (by simp [Act.eval, Act.put]) HFR.out.1.2 _ XA (p.length - (j + 1)) (c2 - (j + 1)) _ (by simp [Act.eval, Act.put]) HFR.out.2.1 (news_one _) (by unfold maxLen; omega) (by omega) HBZ.out ?_; intro v1 w1 hown1 hgr1 hat1)
                        | fail)
                  have htw0 : Two (wr.drewN (d + d2 + 1)) w.heap.size (some ⟨g2, 0, none⟩) j c2 (p.take j) (some ⟨g3, 0, none⟩) m c3 wt' := ⟨HFR.out.1, HS2.out.2.1.b.drewN _, HS2.out.2.1.ne⟩
                  have hbw1 := htw0.below (below_drewN HS2.out.1 (d + d2 + 1)) HBZ.out hgr1
                  obtain ⟨A4, c4, rfl, htw1⟩ := htw0.push hown1 hgr1 hat1
                  have en : j + (p.length - (j + 1)) = p.length - 1 := by omega
                  rw [en] at htw1
                  rw [en]
                  obtain ⟨bq, hbq⟩ : ∃ bq, b / g = bq := ⟨_, rfl⟩
                  obtain ⟨xq, hxq⟩ : ∃ xq, x / g = xq := ⟨_, rfl⟩
                  have hbl : bq ≤ b := by rw [← hbq]; exact Nat.div_le_self _ _
                  have hxl : xq ≤ x := by rw [← hxq]; exact Nat.div_le_self _ _
                  have ht1 : (b : Int).tdiv (g : Int) = (bq : Int) := by rw [Int.tdiv_eq_ediv_of_nonneg (by omega), ← hbq]; rfl
                  have ht2 : (x : Int).tdiv (g : Int) = (xq : Int) := by rw [Int.tdiv_eq_ediv_of_nonneg (by omega), ← hxq]; rfl
                  have hw1 : IntKind.i64.wrap (bq : Int) = (bq : Int) := by rw [IntKind.wrap_i64]; omega
                  have hw2 : IntKind.i64.wrap (xq : Int) = (xq : Int) := by rw [IntKind.wrap_i64]; omega
                  have hgz : ¬ (g = 0) := by omega
                  have hgne : ((g : Int) == 0) = false := by rw [beq_eq_false_iff_ne]; omega
                  have HQB : Sl _ := ⟨And.intro hbq hxq⟩
                  have htw3 : Two ((w1.drewN 1).alloc (.cells ([g, bq, xq].map fun x : Nat => Value.int .i64 (x : Int)).toArray 2)) w.heap.size A4 (p.length - 1) c4 (p.take j ++ p.drop (j + 1)) (some ⟨g3, 0, none⟩) m c3 wt' := (htw1.drewN 1).allocd _
                  have hbw3 : Below w.heap.size w ((w1.drewN 1).alloc (.cells ([g, bq, xq].map fun x : Nat => Value.int .i64 (x : Int)).toArray 2)) := (below_drewN hbw1 1).alloc hbw1.size _
                  have HT3 : Sl _ := ⟨And.intro htw3 hbw3⟩
                  have HZ3 : Sl (w.heap.size ≤ ((w1.drewN 1).alloc (.cells ([g, bq, xq].map fun x : Nat => Value.int .i64 (x : Int)).toArray 2)).heap.size) := ⟨hbw3.size⟩
                  clear htw3 hbw3 htw0 htw1 hbw1 hown1 hgr1 hat1 hbq hxq en HBZ hsl hj1
                  go_wp2_with fail
                  go_region_law (refine step_append_any _ rfl (.tmp 56) (.tmp 64) _ rfl w.heap.size 2 i0 _ 1 8 Tryd.underlying48 HI64.out.1 HI64.out.2.1 HI64.out.2.2.1 HI64.out.2.2.2 rfl (by decide) (.slice (some ⟨g3, 0, none⟩) m c3) m _ (by simp [Act.eval, Act.put]) HT3.out.1.b.2 _ (some ⟨w1.heap.size, 0, none⟩) 3 3 ([g, bq, xq].map fun x : Nat => .int .i64 (x : Int)) (by simp [Act.eval, Act.put]) (news_reads (w1.drewN 1) [g, bq, xq]) (news_one _) (by unfold maxLen; omega) (by omega) HZ3.out ?_; intro v1 w3 hown1 hgr1 hat1)
                  all_goals (
                    obtain ⟨A5, c5, rfl, htw5⟩ := HT3.out.1.symm.push hown1 hgr1 hat1
                    have hbw5 := HT3.out.1.symm.below HT3.out.2 HZ3.out hgr1
                    have HT5 : Sl _ := ⟨And.intro htw5.symm hbw5⟩
                    clear htw5 hbw5 hown1 hgr1 hat1 HZ3 HT3
                    go_wp2_with fail
                    obtain ⟨hbw, htw, hiv, hmz, hm⟩ := HS2.out
                    obtain ⟨e1, e2⟩ := HQB.out
                    subst e1 e2
                    have hlen : (p.take j ++ p.drop (j + 1)).length = p.length - 1 := by simp; omega
                    have d1 : g ∣ b := by rw [← HGD.out.1]; exact Nat.gcd_dvd_left _ _
                    have d3 : g ∣ x := by rw [← HGD.out.1]; exact Nat.gcd_dvd_right _ _
                    have hiv2 := hiv
                    have hmz2 := hmz
                    rw [HFR.out.2.2] at hiv2 hmz2
                    have hne0 := hiv2.cop.two b (by simp)
                    go_roundg (mz (p.take j ++ p.drop (j + 1)) (wt' ++ [g, b / g, x / g]))
                    case measure => rw [← hmz2]; exact mz_split _ _ _ (by omega) (by omega) hg1 d1 d3
                    case rel => exact ⟨A4, c4, p.take j ++ p.drop (j + 1), A5, m + 3, c5, _, by rw [hlen], rfl, ⟨HT5.out.2, by rw [hlen]; exact HT5.out.1, hiv2.split hg1 d1 d3, rfl⟩⟩)
                · obtain rfl : g = 1 := by omega
                  go_wp2_with fail
                  refine (HG.out _).mono ?_; rintro e w1 ⟨rfl, d2, rfl⟩
                  rw [drew2]
                  go_wp2_with fail
                  refine ⟨⟨j + 1, hjp, rfl, rfl, by go_num, ⟨⟨d + d2, rfl⟩, fun y hy => ?_⟩⟩, by simp [RowKit.intOf]; omega⟩
                  rw [List.take_add_one, HGD.out.2, List.mem_append] at hy
                  rcases hy with hy | hy
                  · exact HQ.out.2 y hy
                  · simp at hy; rw [hy]; exact HGD.out.1
              · obtain rfl : j = p.length := by omega
                have HTW : Sl _ := ⟨(HS2.out.2.1.drewN d).allocd (.cells #[.int .i64 (x : Int)] 2)⟩
                have HBW : Sl _ := ⟨(below_drewN HS2.out.1 d).alloc HS2.out.1.size (.cells #[.int .i64 (x : Int)] 2)⟩
                have HSZ : Sl (w.heap.size ≤ ((wr.drewN d).alloc (.cells #[.int .i64 (x : Int)] 2)).heap.size) := ⟨HBW.out.size⟩
                clear hjp
                go_wp2_with (at_builtin; go_loud (refine wpList_append_any _ rfl (.tmp 67) (.tmp 69) _ rfl w.heap.size 2 i0 _ 1 8 Tryd.underlying48 HI64.out.1 HI64.out.2.1 HI64.out.2.2.1 HI64.out.2.2.2 rfl (by decide) _ p.length _ rfl HTW.out.a.2 _ (some ⟨wr.heap.size, 0, none⟩) 1 1 ([x].map fun x : Nat => .int .i64 (x : Int)) rfl (news_reads (wr.drewN d) [x]) (news_one [x]) (by unfold maxLen; omega) (by omega) HSZ.out ?_; intro v1 w3 hown1 hg1 hat1))
                obtain ⟨hbw, htw, hiv, hmz, hm⟩ := HS2.out
                obtain ⟨A4, c', rfl, htw2⟩ := HTW.out.push hown1 hg1 hat1
                have hq := HQ.out.2
                rw [List.take_of_length_le (Nat.le_refl _)] at hq
                have hx4 : 2 ≤ x := by omega
                go_roundg (mz (p ++ [x]) wt')
                case measure => rw [← hmz]; exact mz_move p wt' x
                case rel => exact ⟨A4, c', p ++ [x], _, m, c3, wt', by rw [List.length_append]; rfl, rfl, ⟨HTW.out.below HBW.out HSZ.out hg1, by rw [List.length_append]; exact htw2, hiv.move hx4 hq, rfl⟩⟩
    · obtain rfl : i = n := by omega
      clear hin
      go_wp2_with fail
      go_ret
      have h := HI.out
      rw [List.take_of_length_le (by rw [List.length_map, HL.out.1]; exact Nat.le_refl _)] at h
      exact ⟨⟨A1, c1, o, rfl, h.1, ⟨h.2.cop, h.2.pos, h.2.le, h.2.gen, Nat.le_trans h.2.mz (by omega)⟩⟩, hB⟩
end Go.Proofs.YtcmofoggdchofaaDoor
