/- Package ratios: Text. -/
import Derived.Test.YtalodfjplegibaaGreatDoorRxD
import Derived.Test.YtalodfjplegibaaGreatDoorStrA
import Derived.Test.YtalodfjplegibaaGreatDoorShelB
import Derived.Test.YtalodfjplegibaaGreatDoorHlb
import Derived.Laws.OwnMore
namespace Go.Proofs.YtalodfjplegibaaGreatDoor
set_option linter.unusedSimpArgs false
open Go.RowKit
set_option linter.unusedVariables false

/-- strconv.FormatInt of small numbers, from a world on -/
def FmtOK (w : World) : Prop := ∀ (z : Int) (W : World), -1000000 ≤ z → z ≤ 1000000 → Below w.heap.size w W → Calls Tryz.prog 20 #[.int .i64 z, .int .i64 10] W fun e w' => e = .returned (.string (xB (Lib.itoa z))) ∧ Below W.heap.size W w'
theorem FmtOK.below {w w' : World} (h : FmtOK w) (hb : Below w.heap.size w w') : FmtOK w' := fun z W h1 h2 hW => h z W h1 h2 (hb.trans (hW.mono hb.size))
/-- the words of a ratio as strings -/
def wdsB (r : RV) : List ByteArray := (wdsR r).map xB
theorem wdsB_len (r : RV) : (wdsB r).length = (termsN r 6).length := by unfold wdsB; rw [List.length_map, wds_len]
theorem wdsB_at {r : RV} {j i : Nat} (h : (termsN r 6)[j]? = some (prime i, r.num i)) : (wdsB r)[j]? = some (xB (wrR (prime i) (r.num i) r.d)) := by
  unfold wdsB wdsR; rw [List.getElem?_map, List.getElem?_map, h]; rfl
theorem wdsB_data (r : RV) : (wdsB r).map (·.data.toList) = wdsR r := by
  unfold wdsB
  rw [List.map_map]
  conv => rhs; rw [← List.map_id (wdsR r)]
  exact List.map_congr_left (fun b _ => xB_list b)
theorem xwr_one {p : Nat} {k d : Int} (h : ¬ ((gR k d : Nat) : Int) < d) : xB (wrR p k d) = xB (Lib.itoa (p : Int)) ++ ⟨#[94]⟩ ++ xB (Lib.itoa (k.tdiv (gR k d : Nat))) := by
  unfold wrR exR
  rw [if_neg h, List.append_nil, show (94 :: Lib.itoa (k.tdiv (gR k d : Nat))) = [94] ++ Lib.itoa (k.tdiv (gR k d : Nat)) from rfl, xB_app, xB_app, ← ByteArray.append_assoc]
  rfl
theorem xwr_two {p : Nat} {k d : Int} (h : ((gR k d : Nat) : Int) < d) : xB (wrR p k d) = xB (Lib.itoa (p : Int)) ++ ⟨#[94]⟩ ++ xB (Lib.itoa (k.tdiv (gR k d : Nat))) ++ (⟨#[47]⟩ ++ xB (Lib.itoa (d.tdiv (gR k d : Nat)))) := by
  unfold wrR exR
  rw [if_pos h, show (94 :: (Lib.itoa (k.tdiv (gR k d : Nat)) ++ 47 :: Lib.itoa (d.tdiv (gR k d : Nat)))) = [94] ++ (Lib.itoa (k.tdiv (gR k d : Nat)) ++ ([47] ++ Lib.itoa (d.tdiv (gR k d : Nat)))) from rfl, xB_app, xB_app, xB_app, xB_app, ← ByteArray.append_assoc, ← ByteArray.append_assoc]
  rfl
theorem rown_slice {w : World} {base size n : Nat} {e : TypeId} {v : Value} {xs : List Value} (h : w.ownsRow base e size v n xs) : ∃ A c, v = .slice A n c := by
  rcases h.2 with ⟨rfl, rfl⟩ | ⟨g, cap, cur, rfl, _⟩
  · exact ⟨none, 0, rfl⟩
  · exact ⟨_, _, rfl⟩
theorem rbelow_grown {w w1 w' : World} {B sz : Nat} {ob : Obj} {v : Value} {e : TypeId} {n : Nat} {xs : List Value} (hB : Below B w w1) (hs : B ≤ w1.heap.size) (ho : w1.ownsRow B e sz v n xs) (hg : (w1.alloc ob).grownBy w' v.ownBlock) : Below B w w' :=
  (hB.alloc hs ob).grown hg (by simp; omega) (fun k hk => (ho.lt k hk).1)
theorem strs_at {l : List ByteArray} {k : Nat} {s : ByteArray} (h : l[k]? = some s) : strs (l.take (k + 1)) = strs (l.take k) ++ [.string s] := by
  rw [List.take_add_one, h]; exact strs_snoc _ _
theorem txR_join {r : RV} (h : termsN r 6 ≠ []) : xB (Lib.join (wdsR r) [32]) = xB (txR r) := by rw [(txR_some h).1]
theorem txR_none {r : RV} (h : (termsN r 6).length = 0) : xB (txR r) = ⟨#[49]⟩ := by
  have e : termsN r 6 = [] := List.eq_nil_of_length_eq_zero h
  unfold txR; rw [if_pos e]; rfl
/-- what Text returns -/
def TxtRes (r : RV) (e : Ending) : Prop := (checkS r ≠ 0 → e = .returned (.tuple #[.string ⟨#[]⟩, .int .i64 (checkS r)])) ∧ (checkS r = 0 → e = .returned (.tuple #[.string (xB (txR r)), .int .i64 0]))
set_option maxHeartbeats 6400000 in
set_option maxRecDepth 100000 in
theorem xText_any (r : RV) (w : World) (hT : PrT w) (hF : FmtOK w) : Calls Tryz.prog 5 #[.agg r.cells] w fun e w' => TxtRes r e ∧ Below w.heap.size w w' := by
  have hu := (Below.refl w.heap.size w).alloc (Nat.le_refl _) (.cells r.cells 24)
  have HC : Sl _ := ⟨fun W : World => fun h : PrT W => Terms_any r W h⟩
  have HT : Sl _ := ⟨hT.below hu⟩
  have HF : Sl _ := ⟨hF.below hu⟩
  have HU : Sl _ := ⟨hu⟩
  unfold RV.cells at HC HT HF HU ⊢
  clear hu hT hF
  obtain ⟨i0, hi0, hz0, hz1, hz2⟩ := info_str
  have HI : Sl _ := ⟨And.intro hi0 (And.intro hz0 (And.intro hz1 hz2))⟩
  clear hi0 hz0 hz1 hz2
  go_enter Tryz.func5, Tryz.ntmps5
  go_wp2_with fail
  generalize w.alloc (.cells #[.int .i64 r.n0, .int .i64 r.n1, .int .i64 r.n2, .int .i64 r.n3, .int .i64 r.n4, .int .i64 r.n5, .int .i64 r.d] 24) = w0 at *
  refine (HC.out w0 HT.out).mono ?_; rintro e w1 ⟨⟨ht1, ht2⟩, hb⟩
  have HB1 : Sl (Below w.heap.size w w1) := ⟨HU.out.trans (hb.mono HU.out.size)⟩
  have HF1 : Sl (FmtOK w1) := ⟨HF.out.below hb⟩
  clear hb HF HT HU HC
  by_cases h0 : checkS r = 0
  · obtain ⟨A, n, c, rfl, htr⟩ := ht2 h0
    have HTR : Sl _ := ⟨htr⟩
    have HOK : Sl _ := ⟨checkS_ok h0⟩
    have HN : Sl ((termsN r 6).length = n) := ⟨htr.1⟩
    have hn6 : n ≤ 6 := by rw [← HN.out]; exact termsN_len r 6
    have HTX : Sl (TxtRes r (.returned (.tuple #[.string (xB (txR r)), .int .i64 0]))) := ⟨fun h => absurd h0 h, fun _ => rfl⟩
    have HCK : Sl (checkS r = 0) := ⟨h0⟩
    have hd := HOK.out.1
    obtain ⟨D, hD⟩ := Int.eq_ofNat_of_zero_le (show 0 ≤ r.d by omega)
    rw [hD] at hd
    have HD : Sl (r.d = (D : Int)) := ⟨hD⟩
    rw [hD]
    clear ht1 ht2 htr h0 hD
    go_wp2_with fail
    go_loopw [7, 9, 10, 11, 23] (fun s7 s9 s10 s11 s23 wr => ∃ (k : Nat) (v v9 v10 v11 : Value), k ≤ n ∧ s23 = .int .i64 k ∧ v = s7 ∧ s9 = v9 ∧ s10 = v10 ∧ s11 = v11 ∧ Sl (wr.ownsRow w1.heap.size 9 1 v k (strs ((wdsB r).take k))) ∧ Sl (Below w1.heap.size w1 wr)) (fun _ _ _ _ s23 _ => n - (RowKit.intOf s23).toNat)
    case atStart => exact ⟨0, _, _, _, _, Nat.zero_le _, rfl, rfl, rfl, rfl, rfl, ⟨World.ownsRow_nil _ _ _ _⟩, ⟨Below.refl _ _⟩⟩
    case round =>
      obtain ⟨k, v, v9, v10, v11, hk, rfl, rfl, rfl, rfl, rfl, HO, HB⟩ := hrel
      by_cases hkn : k < n
      · have hkI : (k : Int) < (n : Int) := by omega
        have hkd : decide ((k : Int) < (n : Int)) = true := decide_eq_true hkI
        obtain ⟨i, hi6, hne, _, hat⟩ := term_at r 6 k (by rw [HN.out]; exact hkn)
        obtain ⟨ad, hA, hab, c0, c1'⟩ := (HTR.out.below HB.out).cells hat
        subst hA
        have HWA : Sl _ := ⟨wdsB_at hat⟩
        have hin := HOK.out.2.1 i hi6
        have hp13 := prime_le hi6
        obtain ⟨p, hp⟩ : ∃ p, prime i = p := ⟨_, rfl⟩
        obtain ⟨kk, hkk⟩ : ∃ z, r.num i = z := ⟨_, rfl⟩
        simp only [hp, hkk] at c0 c1' hin hp13 HWA
        rw [HD.out] at HWA
        have e3 : (ad.add (k * 2)).add 1 = ⟨(ad.add (k * 2)).block, (ad.add (k * 2)).off + 1, none⟩ := by
          generalize ad.add (k * 2) = a1
          simp [Addr.add]
        rw [← add_of_add, e3] at c1'
        have hgb := gR_bd (k := kk) hd.1
        have hgp := gR_pos (k := kk) hd.1
        have HG : Sl (Nat.gcd D kk.natAbs = gR kk (D : Int)) := ⟨by unfold gR; rw [Int.natAbs_natCast]⟩
        have HX1 : Sl _ := ⟨xwr_one (p := p) (k := kk) (d := (D : Int))⟩
        have HX2 : Sl _ := ⟨xwr_two (p := p) (k := kk) (d := (D : Int))⟩
        have hkk1 := hin.1
        have hkk2 := hin.2
        have hmx : max kk (-kk) = (kk.natAbs : Int) := by omega
        have hnw : IntKind.i64.wrap (-kk) = -kk := by rw [IntKind.wrap_i64]; omega
        have HGC : Sl _ := ⟨fun W : World => rgcd_any D kk.natAbs W (by omega) (by omega)⟩
        rw [HG.out] at HGC
        obtain ⟨g, hg⟩ : ∃ g, gR kk (D : Int) = g := ⟨_, rfl⟩
        rw [hg] at HGC hgb hgp HX1 HX2
        have hg0 : (g : Int) ≠ 0 := by omega
        have hg0N : ¬ g = 0 := by omega
        obtain ⟨e, he⟩ : ∃ e, kk.tdiv (g : Int) = e := ⟨_, rfl⟩
        obtain ⟨f, hf⟩ : ∃ f, (D : Int).tdiv (g : Int) = f := ⟨_, rfl⟩
        rw [he, hf] at hgb HX2
        rw [he] at HX1
        have hew : IntKind.i64.wrap e = e := by rw [IntKind.wrap_i64]; omega
        have hfw : IntKind.i64.wrap f = f := by rw [IntKind.wrap_i64]; omega
        have HBX : Sl (Blk (wr.alloc (.cells #[.int .i64 (p : Int), .int .i64 kk] 35)) wr.heap.size 35 #[.int .i64 (p : Int), .int .i64 kk]) := ⟨Blk.new _ _ _⟩
        have HB2 : Sl (Below w1.heap.size w1 (wr.alloc (.cells #[.int .i64 (p : Int), .int .i64 kk] 35))) := ⟨HB.out.alloc HB.out.size _⟩
        have HO2 : Sl ((wr.alloc (.cells #[.int .i64 (p : Int), .int .i64 kk] 35)).ownsRow w1.heap.size 9 1 v k (strs ((wdsB r).take k))) := ⟨own_alloc HO.out _⟩
        have hl1 := xit_len (z := (p : Int)) (by omega)
        have hl2 := xit_len (z := e) (by omega)
        have hl3 := xit_len (z := f) (by omega)
        have HZB : Sl ((-1000000 ≤ (p : Int) ∧ (p : Int) ≤ 1000000) ∧ (-1000000 ≤ e ∧ e ≤ 1000000) ∧ (-1000000 ≤ f ∧ f ≤ 1000000)) := ⟨by omega⟩
        have HHE : Sl _ := ⟨And.intro he hf⟩
        clear hat hp hkk hg hin HO HB hab HG
        go_wp2_with fail
        obtain ⟨g9, hg9⟩ : ∃ g, wr.heap.size = g := ⟨_, rfl⟩
        rw [hg9] at HBX ⊢
        clear hg9 c0 c1'
        generalize wr.alloc (.cells #[.int .i64 (p : Int), .int .i64 kk] 35) = w2 at *
        refine (HGC.out w2).mono ?_; rintro e w3 ⟨rfl, m3, rfl⟩
        replace HBX : Sl (Blk (w2.drewN m3) g9 35 #[.int .i64 (p : Int), .int .i64 kk]) := ⟨HBX.out.drewN m3⟩
        replace HB2 : Sl (Below w1.heap.size w1 (w2.drewN m3)) := ⟨below_drewN HB2.out m3⟩
        replace HO2 : Sl ((w2.drewN m3).ownsRow w1.heap.size 9 1 v k (strs ((wdsB r).take k))) := ⟨HO2.out⟩
        generalize w2.drewN m3 = w4 at *
        go_wp2_with fail
        have HFM : Sl (∀ (z : Int) (W : World), -1000000 ≤ z → z ≤ 1000000 → RowKit.Below w4.heap.size w4 W → Calls Tryz.prog 20 #[.int .i64 z, .int .i64 10] W fun e w' => e = .returned (.string (xB (Lib.itoa z))) ∧ RowKit.Below w4.heap.size w4 w') := ⟨fun z W h1 h2 hW => (HF1.out z W h1 h2 (HB2.out.trans (hW.mono HB2.out.size))).mono fun e w' h => ⟨h.1, hW.trans (h.2.mono hW.size)⟩⟩
        have F1 : Sl _ := ⟨fun (W : World) (h : RowKit.Below w4.heap.size w4 W) => HFM.out (p : Int) W HZB.out.1.1 HZB.out.1.2 h⟩
        have F2 : Sl _ := ⟨fun (W : World) (h : RowKit.Below w4.heap.size w4 W) => HFM.out e W HZB.out.2.1.1 HZB.out.2.1.2 h⟩
        have F3 : Sl _ := ⟨fun (W : World) (h : RowKit.Below w4.heap.size w4 W) => HFM.out f W HZB.out.2.2.1 HZB.out.2.2.2 h⟩
        obtain ⟨s1, hs1⟩ : ∃ s, xB (Lib.itoa (p : Int)) = s := ⟨_, rfl⟩
        obtain ⟨s2, hs2⟩ : ∃ s, xB (Lib.itoa e) = s := ⟨_, rfl⟩
        obtain ⟨s3, hs3⟩ : ∃ s, xB (Lib.itoa f) = s := ⟨_, rfl⟩
        rw [hs1] at F1 HX1 HX2 hl1
        rw [hs2] at F2 HX1 HX2 hl2
        rw [hs3] at F3 HX2 hl3
        have he := HHE.out.1
        have hf := HHE.out.2
        clear hs1 hs2 hs3 HHE
        have hS : Sl (∀ w' : World, RowKit.Below w4.heap.size w4 w' → w'.cell? ⟨g9, 0, none⟩ = some (.int .i64 (p : Int)) ∧ w'.cell? ⟨g9, 1, none⟩ = some (.int .i64 kk) ∧ RowKit.Below w4.heap.size w4 w') := ⟨fun w' h => by
          have e0 := HBX.out.below h HBX.out.lt
          exact ⟨by rw [e0.cell]; rfl, by rw [e0.cell]; rfl, h⟩⟩
        obtain ⟨q1, q2, q3⟩ := hS.out w4 (RowKit.Below.refl _ _)
        have q3d : RowKit.Below w4.heap.size w4 w4.drew := below_drewN q3 1
        refine' wp_branchm (fun gn w' => gn = g9 ∧ RowKit.Below w4.heap.size w4 w') ?hreg ?hrest
        case hreg =>
          have hm : RowKit.Below w4.heap.size w4 w4.drew := below_drewN (RowKit.Below.refl _ _) 1
          have HSW : Sl _ := ⟨hm⟩
          refine wp_region_held_drew (S := fun w' => RowKit.Below w4.heap.size w4 w') (by kernel_rfl) hm (fun hHeld => ?_)
          clear hm
          refine wpAnyH_pure 0 (v := .pointer (some ⟨g9, 0, none⟩)) rfl (by kernel_rfl) (by kernel_rfl) (by kernel_rfl) (fun _ _ _ h => h) rfl (fun _ => by go_simp) (by assumption) ?_
          simp only [Act.put, sS0, sS1, sS2]
          refine wpAnyH_cell 1 (v := .int .i64 (p : Int)) rfl rfl (fun w' h => by
            have hc := (hS.out w' h).1
            go_simp) (by kernel_rfl) (by kernel_rfl) (by kernel_rfl) (fun _ _ _ h => h) (by assumption) ?_
          simp only [Act.put, sS0, sS1, sS2]
          refine wpAnyH_pure 4 (v := .pointer (some ⟨g9, 1, none⟩)) rfl (by kernel_rfl) (by kernel_rfl) (by kernel_rfl) (fun _ _ _ h => h) rfl (fun _ => by go_simp) (by assumption) ?_
          simp only [Act.put, sS0, sS1, sS2]
          refine wpAnyH_cell 5 (v := .int .i64 kk) rfl rfl (fun w' h => by
            have hc := (hS.out w' h).2.1
            go_simp) (by kernel_rfl) (by kernel_rfl) (by kernel_rfl) (fun _ _ _ h => h) (by assumption) ?_
          simp only [Act.put, sS0, sS1, sS2]
          refine wpAnyH_pure 6 (v := .int .i64 (g : Int)) rfl (by kernel_rfl) (by kernel_rfl) (by kernel_rfl) (fun _ _ _ h => h) rfl (fun _ => rfl) (by assumption) ?_
          simp only [Act.put, sS0, sS1, sS2]
          refine wpAnyH_pure 7 (v := .int .i64 e) rfl (by kernel_rfl) (by kernel_rfl) (by kernel_rfl) (fun _ _ _ h => h) rfl (fun _ => by go_simp) (by assumption) ?_
          simp only [Act.put, sS0, sS1, sS2]
          refine wpAnyH_one 2 rfl (by kernel_rfl) rfl (fun K hK => ?_)
          go_simp
          go_at_call 20
          (with_reducible refine (F1.out _ HSW.out).mono ?_)
          rintro e1 z1 ⟨rfl, hb⟩
          replace HSW : Sl (RowKit.Below w4.heap.size w4 z1) := ⟨hb⟩
          refine hK.out _ _ HSW.out (fun hHeld => ?_)
          clear hK K hb
          (try simp only [Act.put, sS0, sS1, sS2])
          refine wpAnyH_pure 3 (v := .string (s1 ++ ⟨#[94]⟩)) rfl (by kernel_rfl) (by kernel_rfl) (by kernel_rfl) (fun _ _ _ h => h) rfl (fun _ => by go_simp; omega) (by assumption) ?_
          simp only [Act.put, sS0, sS1, sS2]
          refine wpAnyH_one 8 rfl (by kernel_rfl) rfl (fun K hK => ?_)
          go_simp
          go_at_call 20
          (with_reducible refine (F2.out _ HSW.out).mono ?_)
          rintro e2 z2 ⟨rfl, hb⟩
          replace HSW : Sl (RowKit.Below w4.heap.size w4 z2) := ⟨hb⟩
          refine hK.out _ _ HSW.out (fun hHeld => ?_)
          clear hK K hb
          (try simp only [Act.put, sS0, sS1, sS2])
          refine wpAnyH_pure 9 (v := .string (s1 ++ ⟨#[94]⟩ ++ s2)) rfl (by kernel_rfl) (by kernel_rfl) (by kernel_rfl) (fun _ _ _ h => h) rfl (fun _ => by go_simp; omega) (by assumption) ?_
          simp only [Act.put, sS0, sS1, sS2]
          refine wpAnyH_pure 10 (v := .string (s1 ++ ⟨#[94]⟩ ++ s2)) rfl (by kernel_rfl) (by kernel_rfl) (by kernel_rfl) (fun _ _ _ h => h) rfl (fun _ => rfl) (by assumption) ?_
          simp only [Act.put, sS0, sS1, sS2]
          obtain ⟨gx, hgx⟩ : ∃ x, g9 = x := ⟨_, rfl⟩
          exact wpAnyH_done (by kernel_rfl) ⟨gx, rfl, hgx.symm, HSW.out⟩ _
        case hrest =>
          rintro gn w6 ⟨rfl, hb6⟩
          have HB6 : Sl (Below w1.heap.size w1 w6) := ⟨HB2.out.trans (hb6.mono HB2.out.size)⟩
          have HO6 : Sl (w6.ownsRow w1.heap.size 9 1 v k (strs ((wdsB r).take k))) := ⟨own_mv HO2.out (Mv.of_below hb6) (fun z hz => by have := (HO2.out.lt z hz).2; omega)⟩
          have HW6 : Sl (RowKit.Below w4.heap.size w4 w6) := ⟨hb6⟩
          have HO2' := HO2
          clear hb6 HO2 hS q1 q2 q3 q3d F1 F2
          by_cases hgd : (g : Int) < (D : Int)
          · have hgdd : decide ((g : Int) < (D : Int)) = true := decide_eq_true hgd
            have HW : Sl _ := ⟨HX2.out hgd⟩
            go_wp2_with fail
            refine (F3.out w6 HW6.out).mono ?_; rintro e7 w7 ⟨rfl, hb7⟩
            have HB7 : Sl (Below w1.heap.size w1 w7) := ⟨HB2.out.trans (hb7.mono HB2.out.size)⟩
            have HO7 : Sl (w7.ownsRow w1.heap.size 9 1 v k (strs ((wdsB r).take k))) := ⟨own_mv HO2'.out (Mv.of_below hb7) (fun z hz => by have := (HO2'.out.lt z hz).2; omega)⟩
            clear hb7
            go_wp2_with (at_builtin; go_loud (refine wpList_append_any _ rfl (.tmp 55) (.tmp 57) _ rfl w1.heap.size 9 i0 _ 1 16 Tryz.underlying46 HI.out.1 HI.out.2.1 HI.out.2.2.1 HI.out.2.2.2 rfl (by decide) v k _ rfl (own_alloc HO7.out _) _ (some ⟨w7.heap.size, 0, none⟩) 1 1 [.string (s1 ++ ⟨#[94]⟩ ++ s2 ++ (⟨#[47]⟩ ++ s3))] rfl (reads_s1 _ _ _) (by intro u hu; simp at hu; subst hu; rfl) (by unfold maxLen; omega) (by omega) (by have := HB7.out.size; simp; omega) ?_; rintro v6 w8 hown hg hat; have XS : Sl _ := ⟨And.intro hown hg⟩; clear hown hg hat))
            have XQ : Sl (w8.ownsRow w1.heap.size 9 1 v6 (k + 1) (strs ((wdsB r).take (k + 1)))) := ⟨by rw [strs_at HWA.out, HW.out]; exact XS.out.1⟩
            have XB : Sl (Below w1.heap.size w1 w8) := ⟨rbelow_grown HB7.out HB7.out.size HO7.out XS.out.2⟩
            exact ⟨⟨k + 1, v6, _, _, _, hkn, by go_num, rfl, rfl, rfl, rfl, XQ, XB⟩, by simp [RowKit.intOf]; omega⟩
          · have hgdd : decide ((g : Int) < (D : Int)) = false := decide_eq_false hgd
            have HW : Sl _ := ⟨HX1.out (by omega)⟩
            go_wp2_with (at_builtin; go_loud (refine wpList_append_any _ rfl (.tmp 55) (.tmp 57) _ rfl w1.heap.size 9 i0 _ 1 16 Tryz.underlying46 HI.out.1 HI.out.2.1 HI.out.2.2.1 HI.out.2.2.2 rfl (by decide) v k _ rfl (own_alloc HO6.out _) _ (some ⟨w6.heap.size, 0, none⟩) 1 1 [.string (s1 ++ ⟨#[94]⟩ ++ s2)] rfl (reads_s1 _ _ _) (by intro u hu; simp at hu; subst hu; rfl) (by unfold maxLen; omega) (by omega) (by have := HB6.out.size; simp; omega) ?_; rintro v6 w8 hown hg hat; have XS : Sl _ := ⟨And.intro hown hg⟩; clear hown hg hat))
            have XQ : Sl (w8.ownsRow w1.heap.size 9 1 v6 (k + 1) (strs ((wdsB r).take (k + 1)))) := ⟨by rw [strs_at HWA.out, HW.out]; exact XS.out.1⟩
            have XB : Sl (Below w1.heap.size w1 w8) := ⟨rbelow_grown HB6.out HB6.out.size HO6.out XS.out.2⟩
            exact ⟨⟨k + 1, v6, _, _, _, hkn, by go_num, rfl, rfl, rfl, rfl, XQ, XB⟩, by simp [RowKit.intOf]; omega⟩
      · obtain rfl : k = n := by omega
        have hkd : decide ((k : Int) < (k : Int)) = false := decide_eq_false (by omega)
        have hkI : ¬ (k : Int) < (k : Int) := by omega
        have HOK2 : Sl (checkS r = 0) := HCK
        obtain ⟨A7, c7, e7⟩ := rown_slice HO.out
        subst e7
        have HOF : Sl (wr.ownsRow w1.heap.size 9 1 (.slice A7 k c7) k (strs (wdsB r))) := ⟨by
          have h := HO.out
          rw [List.take_of_length_le (by rw [wdsB_len, HN.out]; exact Nat.le_refl _)] at h
          exact h⟩
        by_cases hk0 : k = 0
        · subst hk0
          have HZ : Sl (xB (txR r) = ⟨#[49]⟩) := ⟨txR_none HN.out⟩
          rw [HZ.out] at HTX
          go_wp2_with fail
          go_ret2
          exact ⟨HTX.out, HB1.out.trans (HB.out.mono HB1.out.size)⟩
        · have hkb : ((k : Int) == 0) = false := by rw [beq_eq_false_iff_ne]; omega
          obtain ⟨g7, cap7, e7, _, hg7⟩ := own_some HOF.out (by omega)
          have hroom := HOF.out
          injection e7 with e71 e72 e73
          subst e71 e73
          have hcap := own_room hroom
          have hne : termsN r 6 ≠ [] := fun h => hk0 (by rw [← HN.out, h]; rfl)
          have hxl : (wdsB r).length = k := by rw [wdsB_len, HN.out]
          have HJ := Tryz.strings_Join g7 0 c7 (wdsB r) ⟨#[32]⟩ wr (fun j x hx => by
            have hj : j < k := by rw [← hxl]; exact (List.getElem?_eq_some_iff.1 hx).1
            have h := hroom.cellAt j (by rw [Nat.mul_one]; exact hj)
            unfold strs at h
            rw [List.getElem?_map, hx] at h
            rw [Nat.zero_add]
            exact h) hg7 (by rw [hxl]; omega) (by rw [hxl]; exact hcap) (by
            rw [wdsB_data]
            have h1 := txR_len HOK2.out
            rw [(txR_some hne).1] at h1
            show (Lib.join (wdsR r) [32]).length ≤ _
            omega)
          rw [hxl, wdsB_data] at HJ
          have HJJ : Sl (Calls Tryz.prog 21 #[.slice (some ⟨g7, 0, none⟩) k c7, .string ⟨#[32]⟩] wr fun e w' => e = .returned (.string (xB (txR r))) ∧ Below wr.heap.size wr w') := ⟨by
            refine HJ.mono fun e w' h => ⟨?_, h.2⟩
            rw [h.1, ← txR_join hne]; rfl⟩
          clear HJ hxl hcap hroom hg7 hne
          go_wp2_with fail
          refine HJJ.out.mono ?_; rintro e w9 ⟨rfl, hb9⟩
          have HB9 : Sl (Below w1.heap.size w1 w9) := ⟨HB.out.trans (hb9.mono HB.out.size)⟩
          clear hb9
          go_wp2_with fail
          go_ret2
          exact ⟨HTX.out, HB1.out.trans (HB9.out.mono HB1.out.size)⟩
  · have hec := ht1 h0
    subst hec
    obtain ⟨er, her⟩ : ∃ er, checkS r = er := ⟨_, rfl⟩
    have HTX : Sl (TxtRes r (.returned (.tuple #[.string ⟨#[]⟩, .int .i64 er]))) := ⟨fun _ => by rw [her], fun h => absurd h h0⟩
    rw [her] at h0 ⊢
    have h0b : (er != 0) = true := by rw [bne_iff_ne]; exact h0
    clear ht1 ht2 her
    go_wp2_with fail
    go_ret2
    exact ⟨HTX.out, HB1.out⟩
end Go.Proofs.YtalodfjplegibaaGreatDoor
