/- Package spec: (*checker).named, division, rank of any elements. -/
import Derived.Test.YtbaojmfkjpnfhaaGreatDoorCkA
namespace Go.Proofs.YtbaojmfkjpnfhaaGreatDoor
set_option linter.unusedSimpArgs false
open Go.RowKit
set_option linter.unusedVariables false

theorem wi_any (a b c : Int) (w : World) : Calls Tryz.prog 159 #[.int .i64 a, .int .i64 b, .int .i64 c] w fun e w' => e = .returned (.bool (wiB a b c)) ∧ w' = w := within_any a b c w
/-- the checker lies in block g, its names in block b -/
structure CK (w : World) (g b : Nat) (o : SpO) (l : Keys) : Prop where
  blk : Blk w g 179 #[.slice o.A1 o.n1 o.c1, .slice o.A2 o.n2 o.c2, .slice o.A3 o.n3 o.c3, .slice o.A4 o.n4 o.c4, .map (some b)]
  nm : NM w b l.length l
  ne : g ≠ b
theorem CK.below {w w' : World} {g b : Nat} {o : SpO} {l : Keys} (h : CK w g b o l) (hb : Below w.heap.size w w') : CK w' g b o l :=
  ⟨h.blk.below hb h.blk.lt, h.nm.kept (hb.block b h.nm.lt), h.ne⟩
theorem CK.alloc {w : World} {g b : Nat} {o : SpO} {l : Keys} (h : CK w g b o l) (ob : Obj) : CK (w.alloc ob) g b o l := h.below ((Below.refl w.heap.size w).alloc (Nat.le_refl _) ob)
theorem named_all {w : World} {g b : Nat} {o : SpO} {l : Keys} (h : CK w g b o l) (ks nm : ByteArray) (hks : ks.size ≤ 100) (hn : l.length ≤ 1000000) (hnm : nm.size ≤ maxLen) :
    Calls Tryz.prog 158 #[.pointer (some ⟨g, 0, none⟩), .string ks, .string nm] w fun e w' => e = .returned (.int .i64 (nmdE l ks nm)) ∧ CK w' g b o (nmdL l ks nm) ∧ Mv b w w' :=
  (cnamed_any g b l.length l ks nm w ((h.blk.cell 4).trans rfl) h.nm hks hn hnm).mono fun e w' hh => by
    obtain ⟨h1, h2, h3⟩ := hh
    unfold nmdE nmdL
    by_cases hb : nmB nm = true
    · by_cases hk : (keyN ks nm).data.toList ∈ l
      · obtain ⟨rfl, rfl⟩ := h2 hb hk
        rw [if_pos hb, if_pos hk, if_neg (fun hh => hh.2 hk)]
        exact ⟨rfl, h, Mv.refl _ _⟩
      · obtain ⟨rfl, h5, h6⟩ := h3 hb hk
        rw [if_pos hb, if_neg hk, if_pos ⟨hb, hk⟩]
        have hm : Mv b w w' := Mv.of_grown h6 (fun k hk => by injection hk with hk; exact hk.symm)
        exact ⟨rfl, ⟨h.blk.mv hm h.ne, h5, h.ne⟩, hm⟩
    · obtain ⟨rfl, rfl⟩ := h1 (by simpa using hb)
      rw [if_neg hb, if_neg (fun hh => hb hh.1)]
      exact ⟨rfl, h, Mv.refl _ _⟩
set_option maxHeartbeats 1600000 in
set_option maxRecDepth 100000 in
theorem division_any {w : World} {g b : Nat} {o : SpO} {l : Keys} (h : CK w g b o l) (x : DvV) (hn : l.length ≤ 1000000) (hnm : x.nm.size ≤ maxLen) :
    Calls Tryz.prog 110 #[.pointer (some ⟨g, 0, none⟩), .agg #[.string x.nm, .int .i64 x.lo, .int .i64 x.hi]] w fun e w' =>
      e = .returned (.int .i64 (divE l x)) ∧ CK w' g b o (divL l x) ∧ Mv b w w' := by
  have HE : Sl (divE l x = if nmdE l kDv x.nm = 0 then (if wiB x.lo 0 127 && wiB x.hi x.lo (min 127 (x.lo + 60)) then 0 else 7) else nmdE l kDv x.nm) := ⟨rfl⟩
  have HL : Sl (divL l x = nmdL l kDv x.nm) := ⟨rfl⟩
  rw [HL.out]
  obtain ⟨r, hr⟩ : ∃ r, divE l x = r := ⟨_, rfl⟩
  rw [hr] at HE ⊢
  obtain ⟨nm, lo, hi⟩ := x
  simp only [] at HE HL hnm ⊢
  have X0 := Blk.new w 93 #[.string nm, .int .i64 lo, .int .i64 hi]
  have hbl := (Below.refl w.heap.size w).alloc (Nat.le_refl _) (.cells #[.string nm, .int .i64 lo, .int .i64 hi] 93)
  have hC := h.alloc (.cells #[.string nm, .int .i64 lo, .int .i64 hi] 93)
  have hlt := h.nm.lt
  have HX : Sl _ := ⟨X0⟩
  have HBL : Sl _ := ⟨hbl⟩
  have HLT : Sl _ := ⟨hlt⟩
  have HN : Sl _ := ⟨named_all hC kDv nm (by decide) hn hnm⟩
  clear X0 hbl hC hlt h hnm hr HL
  obtain ⟨z, hz⟩ : ∃ z, nmdE l kDv nm = z := ⟨_, rfl⟩
  rw [hz] at HE HN
  clear hz
  unfold kDv at HN ⊢
  by_cases hz0 : z = 0
  · subst hz0
    rw [if_pos rfl] at HE
    obtain ⟨b1, hb1⟩ : ∃ b1, wiB lo 0 127 = b1 := ⟨_, rfl⟩
    rw [hb1] at HE
    have HB1 : Sl _ := ⟨hb1⟩
    have HLO : Sl (b1 = true → 0 ≤ lo ∧ lo ≤ 127) := ⟨fun h => by rw [← hb1] at h; unfold wiB at h; simpa using h⟩
    clear hb1
    go_enter Tryz.func110, Tryz.ntmps110
    go_wp2_with fail
    refine HN.out.mono ?_; rintro e w1 ⟨rfl, hC1, hm1⟩
    have HC1 : Sl _ := ⟨hC1⟩
    have HM1 : Sl _ := ⟨hm1⟩
    have X1 := HX.out.mv hm1 (by have := HLT.out; omega)
    have x1 := X1.cell 1
    have x2 := X1.cell 2
    simp at x1 x2
    clear hC1 hm1 X1
    go_wp2_with fail
    refine (wi_any lo 0 127 w1).mono ?_; rintro e w2 ⟨rfl, rfl⟩
    rw [HB1.out]
    cases b1 with
    | false =>
      go_wp2_with fail
      go_ret
      exact ⟨by rw [HE.out]; rfl, HC1.out, Mv.trans (Mv.below HBL.out) HM1.out⟩
    | true =>
      obtain ⟨h1, h2⟩ := HLO.out rfl
      have HMN : Sl (min (127 : Int) (lo + 60) = min 127 (lo + 61 - 1)) := ⟨by omega⟩
      obtain ⟨b2, hb2⟩ : ∃ b2, wiB hi lo (min 127 (lo + 60)) = b2 := ⟨_, rfl⟩
      rw [hb2] at HE
      have HB2 : Sl (∀ z, z = min (127 : Int) (lo + 60) → wiB hi lo z = b2) := ⟨fun z hz => by rw [hz]; exact hb2⟩
      clear hb2
      go_wp2_with fail
      refine (wi_any hi lo _ _).mono ?_; rintro e w3 ⟨rfl, rfl⟩
      rw [HB2.out _ (by omega)]
      cases b2 with
      | false =>
        go_wp2_with fail
        go_ret
        exact ⟨by rw [HE.out]; rfl, HC1.out, Mv.trans (Mv.below HBL.out) HM1.out⟩
      | true =>
        go_wp2_with fail
        go_ret
        exact ⟨by rw [HE.out]; rfl, HC1.out, Mv.trans (Mv.below HBL.out) HM1.out⟩
  · rw [if_neg hz0] at HE
    have q0 : (z != 0) = true := by rw [bne_iff_ne]; exact hz0
    clear hz0
    go_enter Tryz.func110, Tryz.ntmps110
    go_wp2_with fail
    refine HN.out.mono ?_; rintro e w1 ⟨rfl, hC1, hm1⟩
    have HC1 : Sl _ := ⟨hC1⟩
    have HM1 : Sl _ := ⟨hm1⟩
    clear hC1 hm1
    go_wp2_with fail
    go_ret
    exact ⟨by rw [HE.out]; rfl, HC1.out, Mv.trans (Mv.below HBL.out) HM1.out⟩
set_option maxHeartbeats 1600000 in
set_option maxRecDepth 100000 in
theorem rank_any {w : World} {g b : Nat} {o : SpO} {l : Keys} (h : CK w g b o l) (x : RnV) (hn : l.length ≤ 1000000) (hnm : x.nm.size ≤ maxLen) (hct : i64 x.ct) :
    Calls Tryz.prog 112 #[.pointer (some ⟨g, 0, none⟩), .agg #[.string x.nm, .int .i64 x.kd, .int .i64 x.fn, .int .i64 x.fd, .int .i64 x.lo, .int .i64 x.ct]] w fun e w' =>
      e = .returned (.int .i64 (rnkE l x)) ∧ CK w' g b o (rnkL l x) ∧ Mv b w w' := by
  have HE : Sl (rnkE l x = if nmdE l kRn x.nm = 0 then (if wiB x.kd 1 4 && decide (vF x.fn x.fd) then (if wiB x.ct 1 97 && wiB x.lo 0 (128 - x.ct) then 0 else 7) else 2) else nmdE l kRn x.nm) := ⟨rfl⟩
  have HL : Sl (rnkL l x = nmdL l kRn x.nm) := ⟨rfl⟩
  rw [HL.out]
  obtain ⟨r, hr⟩ : ∃ r, rnkE l x = r := ⟨_, rfl⟩
  rw [hr] at HE ⊢
  obtain ⟨nm, kd, fn, fd, lo, ct⟩ := x
  simp only [] at HE HL hnm ⊢
  have X0 := Blk.new w 97 #[.string nm, .int .i64 kd, .int .i64 fn, .int .i64 fd, .int .i64 lo, .int .i64 ct]
  have hbl := (Below.refl w.heap.size w).alloc (Nat.le_refl _) (.cells #[.string nm, .int .i64 kd, .int .i64 fn, .int .i64 fd, .int .i64 lo, .int .i64 ct] 97)
  have hC := h.alloc (.cells #[.string nm, .int .i64 kd, .int .i64 fn, .int .i64 fd, .int .i64 lo, .int .i64 ct] 97)
  have hlt := h.nm.lt
  have HX : Sl _ := ⟨X0⟩
  have HBL : Sl _ := ⟨hbl⟩
  have HLT : Sl _ := ⟨hlt⟩
  have HN : Sl _ := ⟨named_all hC kRn nm (by decide) hn hnm⟩
  have HF : Sl _ := ⟨fun W : World => footage_any fn fd W⟩
  clear X0 hbl hC hlt h hnm hr HL hct
  obtain ⟨z, hz⟩ : ∃ z, nmdE l kRn nm = z := ⟨_, rfl⟩
  rw [hz] at HE HN
  clear hz
  obtain ⟨f, hf⟩ : ∃ f, decide (vF fn fd) = f := ⟨_, rfl⟩
  rw [hf] at HE HF
  clear hf
  unfold kRn at HN ⊢
  by_cases hz0 : z = 0
  · subst hz0
    rw [if_pos rfl] at HE
    obtain ⟨b1, hb1⟩ : ∃ b1, wiB kd 1 4 = b1 := ⟨_, rfl⟩
    rw [hb1] at HE
    have HB1 : Sl _ := ⟨hb1⟩
    clear hb1
    obtain ⟨b2, hb2⟩ : ∃ b2, wiB ct 1 97 = b2 := ⟨_, rfl⟩
    rw [hb2] at HE
    have HB2 : Sl _ := ⟨hb2⟩
    have HCT : Sl (b2 = true → 1 ≤ ct ∧ ct ≤ 97) := ⟨fun h => by rw [← hb2] at h; unfold wiB at h; simpa using h⟩
    clear hb2
    go_enter Tryz.func112, Tryz.ntmps112
    go_wp2_with fail
    refine HN.out.mono ?_; rintro e w1 ⟨rfl, hC1, hm1⟩
    have HC1 : Sl _ := ⟨hC1⟩
    have HM1 : Sl _ := ⟨hm1⟩
    have X1 : Sl (Blk w1 w.heap.size 97 #[.string nm, .int .i64 kd, .int .i64 fn, .int .i64 fd, .int .i64 lo, .int .i64 ct]) := ⟨HX.out.mv hm1 (by have := HLT.out; omega)⟩
    have x1 := X1.out.cell 1
    have x2 := X1.out.cell 2
    have x3 := X1.out.cell 3
    simp at x1 x2 x3
    clear hC1 hm1
    go_wp2_with fail
    refine (wi_any kd 1 4 w1).mono ?_; rintro e w2 ⟨rfl, rfl⟩
    rw [HB1.out]
    cases b1 with
    | false =>
      go_wp2_with fail
      go_ret
      exact ⟨by rw [HE.out]; rfl, HC1.out, Mv.trans (Mv.below HBL.out) HM1.out⟩
    | true =>
      go_wp2_with fail
      refine (HF.out _).mono ?_; rintro e w3 ⟨rfl, hb3⟩
      have HB3 : Sl _ := ⟨hb3⟩
      have X3 := X1.out.below hb3 X1.out.lt
      clear x1 x2 x3
      have x4 := X3.cell 4
      have x5 := X3.cell 5
      simp at x4 x5
      clear hb3 X3
      cases f with
      | false =>
        go_wp2_with fail
        go_ret
        exact ⟨by rw [HE.out]; rfl, HC1.out.below HB3.out, Mv.trans (Mv.trans (Mv.below HBL.out) HM1.out) (Mv.below HB3.out)⟩
      | true =>
        go_wp2_with fail
        refine (wi_any ct 1 97 _).mono ?_; rintro e w4 ⟨rfl, rfl⟩
        rw [HB2.out]
        cases b2 with
        | false =>
          go_wp2_with fail
          go_ret
          exact ⟨by rw [HE.out]; rfl, HC1.out.below HB3.out, Mv.trans (Mv.trans (Mv.below HBL.out) HM1.out) (Mv.below HB3.out)⟩
        | true =>
          obtain ⟨h3, h4⟩ := HCT.out rfl
          obtain ⟨b4, hb4⟩ : ∃ b4, wiB lo 0 (128 - ct) = b4 := ⟨_, rfl⟩
          rw [hb4] at HE
          have HB4 : Sl (∀ z, z = 128 - ct → wiB lo 0 z = b4) := ⟨fun z hz => by rw [hz]; exact hb4⟩
          clear hb4
          go_wp2_with fail
          refine (wi_any lo 0 _ _).mono ?_; rintro e w5 ⟨rfl, rfl⟩
          rw [HB4.out _ (by omega)]
          cases b4 with
          | false =>
            go_wp2_with fail
            go_ret
            exact ⟨by rw [HE.out]; rfl, HC1.out.below HB3.out, Mv.trans (Mv.trans (Mv.below HBL.out) HM1.out) (Mv.below HB3.out)⟩
          | true =>
            go_wp2_with fail
            go_ret
            exact ⟨by rw [HE.out]; rfl, HC1.out.below HB3.out, Mv.trans (Mv.trans (Mv.below HBL.out) HM1.out) (Mv.below HB3.out)⟩
  · rw [if_neg hz0] at HE
    have q0 : (z != 0) = true := by rw [bne_iff_ne]; exact hz0
    clear hz0
    go_enter Tryz.func112, Tryz.ntmps112
    go_wp2_with fail
    refine HN.out.mono ?_; rintro e w1 ⟨rfl, hC1, hm1⟩
    have HC1 : Sl _ := ⟨hC1⟩
    have HM1 : Sl _ := ⟨hm1⟩
    clear hC1 hm1
    go_wp2_with fail
    go_ret
    exact ⟨by rw [HE.out]; rfl, HC1.out, Mv.trans (Mv.below HBL.out) HM1.out⟩
end Go.Proofs.YtbaojmfkjpnfhaaGreatDoor
