/- Rows of the laws of package ratios that list eight variables: the list, a world for the witness. -/
import Derived.Test.YtalodfjplegibaaGreatDoorRowF
import Derived.Test.YtalodfjplegibaaGreatDoorRxB
import Derived.Test.YtalodfjplegibaaGreatDoorRxP
import Derived.Lib.ItoaNum
import Derived.Lib.LaidU8
import Derived.Lay
import Derived.ChangeMaps5
import Derived.Shelf.Vars
import Derived.Lib.AppendIntMem
import Derived.Test.YtalodfjplegibaaGreatDoorRatO
import Derived.Laws.Strings
namespace Go.Proofs.YtalodfjplegibaaGreatDoor
open Go.ChangeShapes Go.WideShapes Go.ChangeAt Go.RowKit
set_option linter.unusedVariables false
set_option linter.unusedSimpArgs false
theorem tabZ_eq : (Rows.laid_internal_strconv_uint64pow10 : DataW Unit) = Lib.tabData .u64 Lib.pow10Tab := by kernel_rfl
theorem gTabZ : Tryz.prog.globalNamed "internal/strconv.uint64pow10" = some 1 := by kernel_rfl
theorem gErrSZ : Tryz.prog.globalNamed "strconv.ErrSyntax" = some 3 := by kernel_rfl
theorem gErrRZ : Tryz.prog.globalNamed "strconv.ErrRange" = some 4 := by kernel_rfl
def laidLZ : List (String × DataW Unit) := [("math/bits.deBruijn32tab", Rows.laid_math_bits_deBruijn32tab), ("math/bits.deBruijn64tab", Rows.laid_math_bits_deBruijn64tab), ("internal/strconv.uint64pow10", Rows.laid_internal_strconv_uint64pow10), ("unicode/utf8.acceptRanges", Rows.laid_unicode_utf8_acceptRanges), ("strconv.ErrRange", Rows.laid_strconv_ErrRange), ("strconv.ErrSyntax", Rows.laid_strconv_ErrSyntax), ("quintadena/ratios.primes", Rows.laid_quintadena_ratios_primes), ("unicode/utf8.first", Rows.laid_unicode_utf8_first)]
theorem laidLZ_pr {W : World} (h : laidMetH Tryz.prog laidLZ W) : PrT W := by
  have h1 : laidMet Tryz.prog laidLZ W := h; have h2 := h1.tail.tail.tail.tail.tail.tail; rw [tabR_eq] at h2
  obtain ⟨t, e, n, hty, ht, he, hce, hct⟩ : ∃ t e n, (Tryz.prog.globals[0]?).map (·.type) = some t ∧ Tryz.prog.underlying t = some (.array n e) ∧ Tryz.prog.underlying e = some (.int .i64) ∧ Tryz.prog.cellsOf e = 1 ∧ Tryz.prog.cellsOf t = n :=
    ⟨67, 2, 6, by kernel_rfl, by kernel_rfl, by kernel_rfl, by kernel_rfl, by kernel_rfl⟩
  exact Lib.tabIs_of_head gPr hty ht he hce hct h2
theorem laidLZ_tab {W : World} (h : laidMetH Tryz.prog laidLZ W) : Lib.TabIs Tryz.prog W "internal/strconv.uint64pow10" .u64 Lib.pow10Tab := by
  have h1 : laidMet Tryz.prog laidLZ W := h; have h2 := h1.tail.tail; rw [tabZ_eq] at h2
  obtain ⟨t, e, n, hty, ht, he, hce, hct⟩ : ∃ t e n, (Tryz.prog.globals[1]?).map (·.type) = some t ∧ Tryz.prog.underlying t = some (.array n e) ∧ Tryz.prog.underlying e = some (.int .u64) ∧ Tryz.prog.cellsOf e = 1 ∧ Tryz.prog.cellsOf t = n :=
    ⟨127, 102, 20, by kernel_rfl, by kernel_rfl, by kernel_rfl, by kernel_rfl, by kernel_rfl⟩
  exact Lib.tabIs_of_head gTabZ hty ht he hce hct h2
theorem iface_trodZ {P : Program} {w : World} {fuel : Nat} {t : TypeId} {cs : List Value} {x : DataW Unit × List MemPlace} (hu : ∃ ms, P.underlying t = some (.interface ms))
    (h : DataW.trod (fun _ => ()) P w 0 (fun _ => true) false fuel t cs = some x) : cs = [.nilIface] ∨ ∃ u v, cs = [.iface u v] := by
  obtain ⟨ms, hu⟩ := hu
  cases fuel with
  | zero => cases h
  | succ fuel =>
    unfold DataW.trod at h; rw [hu] at h; rcases cs with _ | ⟨c, _ | ⟨c2, cs⟩⟩
    · simp at h
    · cases c <;> first | exact .inl rfl | exact .inr ⟨_, _, rfl⟩ | simp at h
    · simp at h
theorem err_cellZ {W : World} (h : laidMet Tryz.prog laidLZ W) {n : String} {d : DataW Unit} {g : Nat} {t : TypeId} (hm : (n, d) ∈ laidLZ) (hg : Tryz.prog.globalNamed n = some g) (ht : (Tryz.prog.globals[g]?).map (·.type) = some t) (hu : ∃ ms, Tryz.prog.underlying t = some (.interface ms)) :
    ∃ ev, W.cell? ⟨g, 0, none⟩ = some ev ∧ (ev = .nilIface ∨ ∃ te pe, ev = .iface te pe) := by
  obtain ⟨g', t', cs, fuel, p, hg', ht', hvar, hd⟩ := Lib.laidMet.reads h hm; obtain rfl := Option.some.inj (hg.symm.trans hg'); obtain rfl := Option.some.inj (ht.symm.trans ht'); have hc := World.var?_cell hg hvar 0; rcases iface_trodZ hu hd with e | ⟨u, v, e⟩
  · have e2 : cs[0]? = some .nilIface := (by rw [← Array.getElem?_toList, e]; rfl); exact ⟨_, hc.trans e2, .inl rfl⟩
  · have e2 : cs[0]? = some (.iface u v) := (by rw [← Array.getElem?_toList, e]; rfl); exact ⟨_, hc.trans e2, .inr ⟨_, _, rfl⟩⟩
theorem laidLZ_par {W : World} (h : laidMetH Tryz.prog laidLZ W) (hs : W.ShapedOpen Tryz.prog) (h8 : 8 < W.heap.size) : ParX W := by
  have h1 : laidMet Tryz.prog laidLZ W := h; refine ⟨⟨Go.Proofs.cell_of_shapedOpen_int (zero := #[.int .i64 0]) (t := 3) hs (of_decide_eq_true (by kernel_rfl)) (by kernel_rfl) rfl (by kernel_rfl) (by kernel_rfl) Tryz.underlying3, ?_, ?_⟩, h8⟩
  · exact err_cellZ h1 (n := "strconv.ErrSyntax") (d := Rows.laid_strconv_ErrSyntax) (t := 76) (by unfold laidLZ; simp) gErrSZ (by kernel_rfl) ⟨_, Tryz.underlying76⟩
  · exact err_cellZ h1 (n := "strconv.ErrRange") (d := Rows.laid_strconv_ErrRange) (t := 76) (by unfold laidLZ; simp) gErrRZ (by kernel_rfl) ⟨_, Tryz.underlying76⟩
theorem laidLZ_size {W : World} (h : laidMetH Tryz.prog laidLZ W) : 8 < W.heap.size := by
  have h1 : laidMet Tryz.prog laidLZ W := h; obtain ⟨g', t', cs, fuel, p, hg', ht', hvar, hd⟩ := Lib.laidMet.reads h1 (n := "unicode/utf8.acceptRanges") (d := Rows.laid_unicode_utf8_acceptRanges) (by unfold laidLZ; simp); have hg : Tryz.prog.globalNamed "unicode/utf8.acceptRanges" = some 8 := (by kernel_rfl)
  unfold World.var? at hvar; rw [hg] at hvar; simp only [Option.bind_some] at hvar; rcases Nat.lt_or_ge 8 W.heap.size with h | h
  · exact Nat.lt_of_le_of_lt (by decide) h
  · rw [Array.getElem?_eq_none h] at hvar; cases hvar
theorem tabZ_below {w w' : World} (h : Lib.TabIs Tryz.prog w "internal/strconv.uint64pow10" .u64 Lib.pow10Tab) (hb : Below w.heap.size w w') : Lib.TabIs Tryz.prog w' "internal/strconv.uint64pow10" .u64 Lib.pow10Tab := by
  unfold Lib.TabIs World.var? at h ⊢; rcases hg : Tryz.prog.globalNamed "internal/strconv.uint64pow10" with _ | g
  · rw [hg] at h; cases h
  · rw [hg] at h; simp only [Option.bind_some] at h ⊢
    have hlt : g < w.heap.size := by
      rcases Nat.lt_or_ge g w.heap.size with h' | h'
      · exact h'
      · rw [Array.getElem?_eq_none h'] at h; cases h
    rw [hb.block g hlt]; exact h
theorem fmt_okZ {w : World} (h : Lib.TabIs Tryz.prog w "internal/strconv.uint64pow10" .u64 Lib.pow10Tab) : FmtOK w := fun z W h1 h2 hb => by
  refine (Tryz.strconv_FormatInt_10 z (by omega) (by omega) W (tabZ_below h hb)).mono ?_; rintro e w2 ⟨rfl, kk, os, rfl⟩; exact ⟨rfl, Lib.below_grow _ W (Nat.le_refl _) kk os⟩
noncomputable def laidWorldZ (os : Os) : World := World.laidAll Tryz.prog os laidLZ
theorem laid_metZ (os : Os) (args : Array Value) : laidMet Tryz.prog laidLZ ((laidWorldZ os).forCall (fun _ _ => 0) ⟨#[], args, []⟩).memory :=
  laidMet_laidAll args (by kernel_rfl) (by kernel_rfl)
end Go.Proofs.YtalodfjplegibaaGreatDoor
namespace Go.Proofs.YtalodfjplegibaaGreatDoor
set_option linter.unusedSimpArgs false
open Go.RowKit
set_option linter.unusedVariables false
theorem xjoin_snoc (x : List UInt8) : ∀ (ws : List (List UInt8)), ws ≠ [] → Lib.join (ws ++ [x]) [32] = Lib.join ws [32] ++ 32 :: x
  | [], h => absurd rfl h
  | [a], _ => by
    have e : Lib.join ([a] ++ [x]) [32] = a ++ 32 :: Lib.join [x] [32] := (by simp [Lib.join]); rw [e, Lib.join_one, Lib.join_one]
  | a :: b :: l, _ => by
    have e1 : Lib.join (a :: b :: l ++ [x]) [32] = a ++ 32 :: Lib.join (b :: l ++ [x]) [32] := (by simp [Lib.join]); have e2 : Lib.join (a :: b :: l) [32] = a ++ 32 :: Lib.join (b :: l) [32] := (by simp [Lib.join]); rw [e1, e2, xjoin_snoc x (b :: l) (by simp)]; simp
theorem xbytes_eq {a b : ByteArray} (h : a.toList = b.toList) : a = b := by
  have e : ∀ x : ByteArray, x.toList = x.data.toList := fun x => Go.ByteArray.toList_eq x
  rw [e, e] at h
  cases a; cases b
  simpa using h
def txK (r : RV) (k : Nat) : ByteArray := xB (Lib.join ((wdsR r).take k) [32])
theorem txK_one {r : RV} {x : List UInt8} (h : (wdsR r)[0]? = some x) : txK r 1 = txK r 0 ++ xB x := by
  have e : (wdsR r).take 1 = [x] := (by rw [List.take_add_one, h, List.take_zero]; rfl); unfold txK; rw [e, Lib.join_one, List.take_zero]; apply ByteArray.ext; simp [Lib.join, xB]
theorem txK_succ {r : RV} {x : List UInt8} {k : Nat} (hk : 0 < k) (h : (wdsR r)[k]? = some x) : txK r (k + 1) = txK r k ++ ⟨#[32]⟩ ++ xB x := by
  have hl : k < (wdsR r).length := (List.getElem?_eq_some_iff.1 h).1
  have hn : (wdsR r).take k ≠ [] := fun h0 => by
    have h1 := congrArg List.length h0; rw [List.length_take, List.length_nil] at h1; omega
  unfold txK; rw [List.take_add_one, h]; show xB (Lib.join ((wdsR r).take k ++ [x]) [32]) = _; rw [xjoin_snoc _ _ hn]; apply ByteArray.ext; simp [xB]
theorem txK_size {r : RV} (h : checkS r = 0) {k : Nat} (hk : k ≤ 6) : (txK r k).size ≤ 108 := by
  obtain ⟨c1, c2, _⟩ := checkS_ok h
  have := joinX_le (n := 17) ((wdsR r).take k) (fun x hx => by
    obtain ⟨y, hy, rfl⟩ := List.mem_map.1 (List.mem_of_mem_take hx); obtain ⟨j, hj, e⟩ := List.getElem_of_mem hy; obtain ⟨i, i1, i2, i3, i4⟩ := term_at r 6 j hj; rw [List.getElem?_eq_getElem hj, e] at i4; injection i4 with i4
    rw [i4]
    exact wr_len (prime_le i1) (c2 i i1) c1)
  rw [List.length_take] at this; unfold txK; rw [xB_size]; omega
theorem TR.plain {w : World} {A : Option Addr} {n : Nat} {l : List (Nat × Int)} (h : TR w A n l) {i : Nat} {nn : Nat} {kk : Int} (hi : l[i]? = some (nn, kk)) :
    ∃ gb o, A = some ⟨gb, o, none⟩ ∧ gb < w.heap.size ∧ w.cell? ⟨gb, o + i * 2, none⟩ = some (.int .i64 (nn : Int)) ∧ w.cell? ⟨gb, o + i * 2 + 1, none⟩ = some (.int .i64 kk) := by
  obtain ⟨ad, rfl, hab, e1, e2⟩ := h.cells hi; have hl0 : 0 < l.length := Nat.lt_of_le_of_lt (Nat.zero_le i) (List.getElem?_eq_some_iff.1 hi).1; obtain ⟨ad', e0, _, c0, _⟩ := h.cells (List.getElem?_eq_getElem hl0); injection e0 with e0
  subst e0; obtain ⟨gb, o, sp⟩ := ad
  have hsp : sp = none := by
    cases sp with
    | none => rfl
    | some s =>
      have e : (⟨gb, o, some s⟩ : Addr).add (0 * 2) = ⟨gb, o, some s⟩ := (by simp [Addr.add]); rw [e] at c0; unfold World.cell? at c0
      split at c0
      · simp at c0
      · cases c0
  subst hsp
  have e : ∀ k : Nat, (⟨gb, o, none⟩ : Addr).add k = ⟨gb, o + k, none⟩ := fun k => by
    unfold Addr.add
    by_cases h : k = 0
    · subst h; simp
    · simp [h]
  rw [e] at e1 e2; exact ⟨gb, o, rfl, hab, e1, e2⟩
theorem wdsR_at {r : RV} {j i : Nat} (h : (termsN r 6)[j]? = some (prime i, r.num i)) : (wdsR r)[j]? = some (wrR (prime i) (r.num i) r.d) := by
  unfold wdsR; rw [List.getElem?_map, h]; rfl
set_option maxHeartbeats 6400000 in
set_option maxRecDepth 100000 in
theorem r4Text_any (r : RV) (w : World) : Calls Tryz.prog 6 #[.agg r.cells] w fun e w' => TxtRes r e ∧ Below w.heap.size w w' := by
  have hu := (Below.refl w.heap.size w).alloc (Nat.le_refl _) (.cells r.cells 24); have HC : Sl _ := ⟨fun W : World => r4Terms_any r W⟩; have HU : Sl _ := ⟨hu⟩; unfold RV.cells at HC HU ⊢; clear hu; go_enter Tryz.func6, Tryz.ntmps6; go_wp2_with fail; generalize w.alloc (.cells #[.int .i64 r.n0, .int .i64 r.n1, .int .i64 r.n2, .int .i64 r.n3, .int .i64 r.n4, .int .i64 r.n5, .int .i64 r.d] 24) = w0 at *
  refine (HC.out w0).mono ?_; rintro e w1 ⟨⟨ht1, ht2⟩, hb⟩; have HB1 : Sl (Below w.heap.size w w1) := ⟨HU.out.trans (hb.mono HU.out.size)⟩; clear hb HU HC
  by_cases h0 : checkS r = 0
  · obtain ⟨A, n, c, rfl, htr⟩ := ht2 h0; have HTR : Sl _ := ⟨htr⟩; have HOK : Sl _ := ⟨checkS_ok h0⟩; have HN : Sl ((termsN r 6).length = n) := ⟨htr.1⟩; have hn6 : n ≤ 6 := (by rw [← HN.out]; exact termsN_len r 6); have HTX : Sl (TxtRes r (.returned (.tuple #[.string (xB (txR r)), .int .i64 0]))) := ⟨fun h => absurd h0 h, fun _ => rfl⟩; have HCK : Sl (checkS r = 0) := ⟨h0⟩; have hd := HOK.out.1; obtain ⟨D, hD⟩ := Int.eq_ofNat_of_zero_le (show 0 ≤ r.d by omega); rw [hD] at hd; have HD : Sl (r.d = (D : Int)) := ⟨hD⟩; rw [hD]; clear ht1 ht2 htr h0 hD; go_wp2_with fail
    go_loopw [7, 8, 9] (fun s7 s8 s9 wr => ∃ (k : Nat) (v9 : Value), k ≤ n ∧ s8 = .int .i64 k ∧ s7 = .string (txK r k) ∧ s9 = v9 ∧ Sl (Below w1.heap.size w1 wr)) (fun _ s8 _ _ => n - (RowKit.intOf s8).toNat)
    case atStart => exact ⟨0, _, Nat.zero_le _, rfl, rfl, rfl, ⟨Below.refl _ _⟩⟩
    case round =>
      obtain ⟨k, v9, hk, rfl, rfl, rfl, HB⟩ := hrel
      by_cases hkn : k < n
      · have hkI : (k : Int) < (n : Int) := (by omega); have hkd : decide ((k : Int) < (n : Int)) = true := decide_eq_true hkI; obtain ⟨i, hi6, hne, _, hat⟩ := term_at r 6 k (by rw [HN.out]; exact hkn); obtain ⟨gb, o, hA, hab, c0, c1⟩ := (HTR.out.below HB.out).plain hat
        have HCE : Sl (∀ W : World, Below w1.heap.size w1 W → W.cell? ⟨gb, o + k * 2, none⟩ = some (.int .i64 (prime i : Int)) ∧ W.cell? ⟨gb, o + k * 2 + 1, none⟩ = some (.int .i64 (r.num i))) := ⟨fun W h => by
          obtain ⟨gb2, o2, e, _, d0, d1⟩ := (HTR.out.below h).plain hat; rw [hA] at e; injection e with e
          injection e with e1 e2
          subst e1 e2
          exact ⟨d0, d1⟩⟩
        subst hA; have HWA : Sl _ := ⟨wdsR_at hat⟩; have hin := HOK.out.2.1 i hi6; have hp13 := prime_le hi6; obtain ⟨p, hp⟩ : ∃ p, prime i = p := ⟨_, rfl⟩; obtain ⟨kk, hkk⟩ : ∃ z, r.num i = z := ⟨_, rfl⟩; rw [hp, hkk] at HCE; simp only [hp, hkk] at c0 c1 hin hp13 HWA; rw [HD.out] at HWA; have hgb := gR_bd (k := kk) hd.1; have hgp := gR_pos (k := kk) hd.1; have hgd0 := gR_d kk (D : Int); have HG : Sl (Nat.gcd D kk.natAbs = gR kk (D : Int)) := ⟨by unfold gR; rw [Int.natAbs_natCast]⟩; have HX1 : Sl _ := ⟨xwr_one (p := p) (k := kk) (d := (D : Int))⟩; have HX2 : Sl _ := ⟨xwr_two (p := p) (k := kk) (d := (D : Int))⟩; have hkk1 := hin.1; have hkk2 := hin.2; have hmx : max kk (-kk) = (kk.natAbs : Int) := (by omega); have hnw : IntKind.i64.wrap (-kk) = -kk := (by rw [IntKind.wrap_i64]; omega); have HGC : Sl _ := ⟨fun W : World => r4gcd_any D kk.natAbs W (by omega) (by omega)⟩; rw [HG.out] at HGC; obtain ⟨g, hg⟩ : ∃ g, gR kk (D : Int) = g := ⟨_, rfl⟩; rw [hg] at HGC hgb hgp hgd0 HX1 HX2; have hg0 : (g : Int) ≠ 0 := (by omega); have hg0N : ¬ g = 0 := (by omega); obtain ⟨e, he⟩ : ∃ e, kk.tdiv (g : Int) = e := ⟨_, rfl⟩; obtain ⟨f, hf⟩ : ∃ f, (D : Int).tdiv (g : Int) = f := ⟨_, rfl⟩; rw [he, hf] at hgb HX2; rw [he] at HX1; rw [hf] at hgd0
        have HFG : Sl (((g : Int) < (D : Int) → 1 < f) ∧ (¬ (g : Int) < (D : Int) → ¬ 1 < f)) := ⟨by
          refine ⟨fun h => ?_, fun h h2 => ?_⟩
          · rcases Int.lt_or_le 1 f with h2 | h2
            · exact h2
            · exfalso; have h3 : f = 1 := (by omega); rw [h3] at hgd0; omega
          · have h3 : 2 * (g : Int) ≤ f * (g : Int) := Int.mul_le_mul_of_nonneg_right (by omega) (by omega)
            omega⟩
        clear hgd0; have hew : IntKind.i64.wrap e = e := (by rw [IntKind.wrap_i64]; omega); have hfw : IntKind.i64.wrap f = f := (by rw [IntKind.wrap_i64]; omega); have hl1 := xit_len (z := (p : Int)) (by omega); have hl2 := xit_len (z := e) (by omega); have hl3 := xit_len (z := f) (by omega); have HZB : Sl ((-1000000000 < (p : Int) ∧ (p : Int) < 1000000000) ∧ (-1000000000 < e ∧ e < 1000000000) ∧ (-1000000000 < f ∧ f < 1000000000)) := ⟨by omega⟩; have hsz := txK_size HCK.out (k := k) (by omega); have VA : Sl (∀ z, Calls Tryz.prog 23 #[.int .i64 (D : Int), .int .i64 (kk.natAbs : Int)] (wr.drewN z) fun e w'' => e = .returned (.int .i64 (g : Int)) ∧ ∃ k, w'' = wr.drewN k) := ⟨fun z => (HGC.out (wr.drewN z)).mono fun e w'' h => ⟨h.1, by obtain ⟨k, hk⟩ := h.2; exact ⟨z + k, by rw [hk, drew2]⟩⟩⟩
        have HSS : Sl (txK r (k + 1) = (if k = 0 then txK r k else txK r k ++ ⟨#[32]⟩) ++ xB (wrR p kk (D : Int))) := ⟨by
          by_cases h : k = 0
          · subst h; rw [if_pos rfl]; exact txK_one HWA.out
          · rw [if_neg h]; exact txK_succ (by omega) HWA.out⟩
        obtain ⟨sk, hsk⟩ : ∃ s, txK r k = s := ⟨_, rfl⟩; rw [hsk] at HSS hsz ⊢; clear hat hp hkk hg hin hab HG hsk HGC HWA; have hko : o + k * 2 < 9223372036854775807 ∨ True := .inr trivial; clear hko; go_wp2_with fail
        go_quiet ((go_at_call 23; (with_reducible exact VA.out _)))
        have HB2 : Sl (Below w1.heap.size w1 (wr.drewN nq)) := ⟨below_drewN HB.out nq⟩; clear HB c0 c1 VA; generalize wr.drewN nq = w4 at *
        have HFM : Sl (∀ (z : Int) (W : World), -1000000000 < z → z < 1000000000 → RowKit.Below w4.heap.size w4 W → Calls Tryz.prog 24 #[.int .i64 z] W fun e w' => e = .returned (.string (xB (Lib.itoa z))) ∧ RowKit.Below w4.heap.size w4 w') := ⟨fun z W h1 h2 hW => (xdig_any z h1 h2 W).mono fun e w' h => ⟨h.1, hW.trans (h.2.mono hW.size)⟩⟩; have F1 : Sl _ := ⟨fun (W : World) (h : RowKit.Below w4.heap.size w4 W) => HFM.out (p : Int) W HZB.out.1.1 HZB.out.1.2 h⟩; have F2 : Sl _ := ⟨fun (W : World) (h : RowKit.Below w4.heap.size w4 W) => HFM.out e W HZB.out.2.1.1 HZB.out.2.1.2 h⟩; have F3 : Sl _ := ⟨fun (W : World) (h : RowKit.Below w4.heap.size w4 W) => HFM.out f W HZB.out.2.2.1 HZB.out.2.2.2 h⟩
        have hS : Sl (∀ w' : World, RowKit.Below w4.heap.size w4 w' → w'.cell? ⟨gb, o + k * 2, none⟩ = some (.int .i64 (p : Int)) ∧ w'.cell? ⟨gb, o + k * 2 + 1, none⟩ = some (.int .i64 kk) ∧ RowKit.Below w4.heap.size w4 w') := ⟨fun w' h => by
          obtain ⟨d0, d1⟩ := HCE.out w' (HB2.out.trans (h.mono HB2.out.size))
          exact ⟨d0, d1, h⟩⟩
        obtain ⟨s1, hs1⟩ : ∃ s, xB (Lib.itoa (p : Int)) = s := ⟨_, rfl⟩; obtain ⟨s2, hs2⟩ : ∃ s, xB (Lib.itoa e) = s := ⟨_, rfl⟩; obtain ⟨s3, hs3⟩ : ∃ s, xB (Lib.itoa f) = s := ⟨_, rfl⟩; rw [hs1] at F1 HX1 HX2 hl1; rw [hs2] at F2 HX1 HX2 hl2; rw [hs3] at F3 HX2 hl3; clear hs1 hs2 hs3
        by_cases hk0 : k = 0
        · have hk0d : decide ((0 : Int) < (k : Int)) = false := decide_eq_false (by omega); have hk0I : ¬ (0 : Int) < (k : Int) := (by omega); have hk0N : ¬ 0 < k := (by omega); rw [if_pos hk0] at HSS; clear hk0; go_wp2_with fail; generalize sk = s0 at *
          refine' wp_branchm (fun gn w' => gn = gb ∧ RowKit.Below w4.heap.size w4 w') ?hreg ?hrest
          case hreg =>
            have hm : RowKit.Below w4.heap.size w4 w4.drew := below_drewN (RowKit.Below.refl _ _) 1; have HSW : Sl _ := ⟨hm⟩; refine wp_region_held_drew (S := fun w' => RowKit.Below w4.heap.size w4 w') (by kernel_rfl) hm (fun hHeld => ?_); clear hm; refine wpAnyH_pure 0 (v := .string s0) rfl (by kernel_rfl) (by kernel_rfl) (by kernel_rfl) (fun _ _ _ h => h) rfl (fun _ => rfl) (by assumption) ?_; simp only [Act.put, sS0, sS1, sS2]; refine wpAnyH_pure 1 (v := .slice (some ⟨gb, o, none⟩) n c) rfl (by kernel_rfl) (by kernel_rfl) (by kernel_rfl) (fun _ _ _ h => h) rfl (fun _ => rfl) (by assumption) ?_; simp only [Act.put, sS0, sS1, sS2]; refine wpAnyH_pure 2 (v := .int .i64 (k : Int)) rfl (by kernel_rfl) (by kernel_rfl) (by kernel_rfl) (fun _ _ _ h => h) rfl (fun _ => rfl) (by assumption) ?_; simp only [Act.put, sS0, sS1, sS2]; refine wpAnyH_pure 3 (v := .pointer (some ⟨gb, o + k * 2, none⟩)) rfl (by kernel_rfl) (by kernel_rfl) (by kernel_rfl) (fun _ _ _ h => h) rfl (fun _ => by go_simp) (by assumption) ?_; simp only [Act.put, sS0, sS1, sS2]; refine wpAnyH_pure 4 (v := .pointer (some ⟨gb, o + k * 2, none⟩)) rfl (by kernel_rfl) (by kernel_rfl) (by kernel_rfl) (fun _ _ _ h => h) rfl (fun _ => by go_simp) (by assumption) ?_; simp only [Act.put, sS0, sS1, sS2]
            refine wpAnyH_cell 5 (v := .int .i64 (p : Int)) rfl rfl (fun w' h => by
              have hc := (hS.out w' h).1
              go_simp) (by kernel_rfl) (by kernel_rfl) (by kernel_rfl) (fun _ _ _ h => h) (by assumption) ?_
            simp only [Act.put, sS0, sS1, sS2]; refine wpAnyH_pure 9 (v := .slice (some ⟨gb, o, none⟩) n c) rfl (by kernel_rfl) (by kernel_rfl) (by kernel_rfl) (fun _ _ _ h => h) rfl (fun _ => rfl) (by assumption) ?_; simp only [Act.put, sS0, sS1, sS2]; refine wpAnyH_pure 10 (v := .int .i64 (k : Int)) rfl (by kernel_rfl) (by kernel_rfl) (by kernel_rfl) (fun _ _ _ h => h) rfl (fun _ => rfl) (by assumption) ?_; simp only [Act.put, sS0, sS1, sS2]; refine wpAnyH_pure 11 (v := .pointer (some ⟨gb, o + k * 2, none⟩)) rfl (by kernel_rfl) (by kernel_rfl) (by kernel_rfl) (fun _ _ _ h => h) rfl (fun _ => by go_simp) (by assumption) ?_; simp only [Act.put, sS0, sS1, sS2]; refine wpAnyH_pure 12 (v := .pointer (some ⟨gb, o + k * 2 + 1, none⟩)) rfl (by kernel_rfl) (by kernel_rfl) (by kernel_rfl) (fun _ _ _ h => h) rfl (fun _ => by go_simp) (by assumption) ?_; simp only [Act.put, sS0, sS1, sS2]
            refine wpAnyH_cell 13 (v := .int .i64 kk) rfl rfl (fun w' h => by
              have hc := (hS.out w' h).2.1
              go_simp) (by kernel_rfl) (by kernel_rfl) (by kernel_rfl) (fun _ _ _ h => h) (by assumption) ?_
            simp only [Act.put, sS0, sS1, sS2]; refine wpAnyH_pure 14 (v := .int .i64 (g : Int)) rfl (by kernel_rfl) (by kernel_rfl) (by kernel_rfl) (fun _ _ _ h => h) rfl (fun _ => rfl) (by assumption) ?_; simp only [Act.put, sS0, sS1, sS2]; refine wpAnyH_pure 15 (v := .int .i64 e) rfl (by kernel_rfl) (by kernel_rfl) (by kernel_rfl) (fun _ _ _ h => h) rfl (fun _ => by go_simp) (by assumption) ?_; simp only [Act.put, sS0, sS1, sS2]; refine wpAnyH_one 6 rfl (by kernel_rfl) rfl (fun K hK => ?_); go_simp; go_at_call 24
            (with_reducible refine (F1.out _ HSW.out).mono ?_)
            rintro e1 z1 ⟨rfl, hb⟩; replace HSW : Sl (RowKit.Below w4.heap.size w4 z1) := ⟨hb⟩; refine hK.out _ _ HSW.out (fun hHeld => ?_); clear hK K hb
            (try simp only [Act.put, sS0, sS1, sS2])
            refine wpAnyH_pure 7 (v := .string (s0 ++ s1)) rfl (by kernel_rfl) (by kernel_rfl) (by kernel_rfl) (fun _ _ _ h => h) rfl (fun _ => by go_simp; omega) (by assumption) ?_; simp only [Act.put, sS0, sS1, sS2]; refine wpAnyH_pure 8 (v := .string (s0 ++ s1 ++ ⟨#[94]⟩)) rfl (by kernel_rfl) (by kernel_rfl) (by kernel_rfl) (fun _ _ _ h => h) rfl (fun _ => by go_simp; omega) (by assumption) ?_; simp only [Act.put, sS0, sS1, sS2]; refine wpAnyH_one 16 rfl (by kernel_rfl) rfl (fun K hK => ?_); go_simp; go_at_call 24
            (with_reducible refine (F2.out _ HSW.out).mono ?_)
            rintro e2 z2 ⟨rfl, hb⟩; replace HSW : Sl (RowKit.Below w4.heap.size w4 z2) := ⟨hb⟩; refine hK.out _ _ HSW.out (fun hHeld => ?_); clear hK K hb
            (try simp only [Act.put, sS0, sS1, sS2])
            refine wpAnyH_pure 17 (v := .string (s0 ++ s1 ++ ⟨#[94]⟩ ++ s2)) rfl (by kernel_rfl) (by kernel_rfl) (by kernel_rfl) (fun _ _ _ h => h) rfl (fun _ => by go_simp; omega) (by assumption) ?_; simp only [Act.put, sS0, sS1, sS2]; refine wpAnyH_pure 18 (v := .string (s0 ++ s1 ++ ⟨#[94]⟩ ++ s2)) rfl (by kernel_rfl) (by kernel_rfl) (by kernel_rfl) (fun _ _ _ h => h) rfl (fun _ => rfl) (by assumption) ?_; simp only [Act.put, sS0, sS1, sS2]; obtain ⟨gx, hgx⟩ : ∃ x, gb = x := ⟨_, rfl⟩; exact wpAnyH_done (by kernel_rfl) ⟨gx, rfl, hgx.symm, HSW.out⟩ _
          case hrest =>
            rintro gn w6 ⟨rfl, hb6⟩; have HB6 : Sl (Below w1.heap.size w1 w6) := ⟨HB2.out.trans (hb6.mono HB2.out.size)⟩; have HW6 : Sl (RowKit.Below w4.heap.size w4 w6) := ⟨hb6⟩; clear hb6 hS F1 F2
            by_cases hgd : (g : Int) < (D : Int)
            · have hgdd : decide (1 < f) = true := decide_eq_true (HFG.out.1 hgd); have HW : Sl (xB (wrR p kk (D : Int)) = _) := ⟨HX2.out hgd⟩; go_wp2_with fail; refine (F3.out w6 HW6.out).mono ?_; rintro e7 w7 ⟨rfl, hb7⟩; have HB7 : Sl (Below w1.heap.size w1 w7) := ⟨HB2.out.trans (hb7.mono HB2.out.size)⟩; clear hb7; go_wp2_with fail; exact ⟨⟨k + 1, _, hkn, by go_num, by rw [HSS.out, HW.out]; simp only [← ByteArray.append_assoc], rfl, HB7⟩, by simp [RowKit.intOf]; omega⟩
            · have hgdd : decide (1 < f) = false := decide_eq_false (by have := HFG.out.2 (by omega); omega); have HW : Sl (xB (wrR p kk (D : Int)) = _) := ⟨HX1.out (by omega)⟩; go_wp2_with fail; exact ⟨⟨k + 1, _, hkn, by go_num, by rw [HSS.out, HW.out]; simp only [← ByteArray.append_assoc], rfl, HB6⟩, by simp [RowKit.intOf]; omega⟩
        · have hk0d : decide ((0 : Int) < (k : Int)) = true := decide_eq_true (by omega); have hk0I : (0 : Int) < (k : Int) := (by omega); have hk0N : 0 < k := (by omega); rw [if_neg hk0] at HSS; clear hk0; go_wp2_with fail; have hsz2 : (sk ++ ⟨#[32]⟩ : ByteArray).size ≤ 109 := (by rw [ByteArray.size_append]; exact Nat.add_le_add_right hsz 1); generalize (sk ++ ⟨#[32]⟩ : ByteArray) = s0 at *
          refine' wp_branchm (fun gn w' => gn = gb ∧ RowKit.Below w4.heap.size w4 w') ?hreg ?hrest
          case hreg =>
            have hm : RowKit.Below w4.heap.size w4 w4.drew := below_drewN (RowKit.Below.refl _ _) 1; have HSW : Sl _ := ⟨hm⟩; refine wp_region_held_drew (S := fun w' => RowKit.Below w4.heap.size w4 w') (by kernel_rfl) hm (fun hHeld => ?_); clear hm; refine wpAnyH_pure 0 (v := .string s0) rfl (by kernel_rfl) (by kernel_rfl) (by kernel_rfl) (fun _ _ _ h => h) rfl (fun _ => rfl) (by assumption) ?_; simp only [Act.put, sS0, sS1, sS2]; refine wpAnyH_pure 1 (v := .slice (some ⟨gb, o, none⟩) n c) rfl (by kernel_rfl) (by kernel_rfl) (by kernel_rfl) (fun _ _ _ h => h) rfl (fun _ => rfl) (by assumption) ?_; simp only [Act.put, sS0, sS1, sS2]; refine wpAnyH_pure 2 (v := .int .i64 (k : Int)) rfl (by kernel_rfl) (by kernel_rfl) (by kernel_rfl) (fun _ _ _ h => h) rfl (fun _ => rfl) (by assumption) ?_; simp only [Act.put, sS0, sS1, sS2]; refine wpAnyH_pure 3 (v := .pointer (some ⟨gb, o + k * 2, none⟩)) rfl (by kernel_rfl) (by kernel_rfl) (by kernel_rfl) (fun _ _ _ h => h) rfl (fun _ => by go_simp) (by assumption) ?_; simp only [Act.put, sS0, sS1, sS2]; refine wpAnyH_pure 4 (v := .pointer (some ⟨gb, o + k * 2, none⟩)) rfl (by kernel_rfl) (by kernel_rfl) (by kernel_rfl) (fun _ _ _ h => h) rfl (fun _ => by go_simp) (by assumption) ?_; simp only [Act.put, sS0, sS1, sS2]
            refine wpAnyH_cell 5 (v := .int .i64 (p : Int)) rfl rfl (fun w' h => by
              have hc := (hS.out w' h).1
              go_simp) (by kernel_rfl) (by kernel_rfl) (by kernel_rfl) (fun _ _ _ h => h) (by assumption) ?_
            simp only [Act.put, sS0, sS1, sS2]; refine wpAnyH_pure 9 (v := .slice (some ⟨gb, o, none⟩) n c) rfl (by kernel_rfl) (by kernel_rfl) (by kernel_rfl) (fun _ _ _ h => h) rfl (fun _ => rfl) (by assumption) ?_; simp only [Act.put, sS0, sS1, sS2]; refine wpAnyH_pure 10 (v := .int .i64 (k : Int)) rfl (by kernel_rfl) (by kernel_rfl) (by kernel_rfl) (fun _ _ _ h => h) rfl (fun _ => rfl) (by assumption) ?_; simp only [Act.put, sS0, sS1, sS2]; refine wpAnyH_pure 11 (v := .pointer (some ⟨gb, o + k * 2, none⟩)) rfl (by kernel_rfl) (by kernel_rfl) (by kernel_rfl) (fun _ _ _ h => h) rfl (fun _ => by go_simp) (by assumption) ?_; simp only [Act.put, sS0, sS1, sS2]; refine wpAnyH_pure 12 (v := .pointer (some ⟨gb, o + k * 2 + 1, none⟩)) rfl (by kernel_rfl) (by kernel_rfl) (by kernel_rfl) (fun _ _ _ h => h) rfl (fun _ => by go_simp) (by assumption) ?_; simp only [Act.put, sS0, sS1, sS2]
            refine wpAnyH_cell 13 (v := .int .i64 kk) rfl rfl (fun w' h => by
              have hc := (hS.out w' h).2.1
              go_simp) (by kernel_rfl) (by kernel_rfl) (by kernel_rfl) (fun _ _ _ h => h) (by assumption) ?_
            simp only [Act.put, sS0, sS1, sS2]; refine wpAnyH_pure 14 (v := .int .i64 (g : Int)) rfl (by kernel_rfl) (by kernel_rfl) (by kernel_rfl) (fun _ _ _ h => h) rfl (fun _ => rfl) (by assumption) ?_; simp only [Act.put, sS0, sS1, sS2]; refine wpAnyH_pure 15 (v := .int .i64 e) rfl (by kernel_rfl) (by kernel_rfl) (by kernel_rfl) (fun _ _ _ h => h) rfl (fun _ => by go_simp) (by assumption) ?_; simp only [Act.put, sS0, sS1, sS2]; refine wpAnyH_one 6 rfl (by kernel_rfl) rfl (fun K hK => ?_); go_simp; go_at_call 24
            (with_reducible refine (F1.out _ HSW.out).mono ?_)
            rintro e1 z1 ⟨rfl, hb⟩; replace HSW : Sl (RowKit.Below w4.heap.size w4 z1) := ⟨hb⟩; refine hK.out _ _ HSW.out (fun hHeld => ?_); clear hK K hb
            (try simp only [Act.put, sS0, sS1, sS2])
            refine wpAnyH_pure 7 (v := .string (s0 ++ s1)) rfl (by kernel_rfl) (by kernel_rfl) (by kernel_rfl) (fun _ _ _ h => h) rfl (fun _ => by go_simp; omega) (by assumption) ?_; simp only [Act.put, sS0, sS1, sS2]; refine wpAnyH_pure 8 (v := .string (s0 ++ s1 ++ ⟨#[94]⟩)) rfl (by kernel_rfl) (by kernel_rfl) (by kernel_rfl) (fun _ _ _ h => h) rfl (fun _ => by go_simp; omega) (by assumption) ?_; simp only [Act.put, sS0, sS1, sS2]; refine wpAnyH_one 16 rfl (by kernel_rfl) rfl (fun K hK => ?_); go_simp; go_at_call 24
            (with_reducible refine (F2.out _ HSW.out).mono ?_)
            rintro e2 z2 ⟨rfl, hb⟩; replace HSW : Sl (RowKit.Below w4.heap.size w4 z2) := ⟨hb⟩; refine hK.out _ _ HSW.out (fun hHeld => ?_); clear hK K hb
            (try simp only [Act.put, sS0, sS1, sS2])
            refine wpAnyH_pure 17 (v := .string (s0 ++ s1 ++ ⟨#[94]⟩ ++ s2)) rfl (by kernel_rfl) (by kernel_rfl) (by kernel_rfl) (fun _ _ _ h => h) rfl (fun _ => by go_simp; omega) (by assumption) ?_; simp only [Act.put, sS0, sS1, sS2]; refine wpAnyH_pure 18 (v := .string (s0 ++ s1 ++ ⟨#[94]⟩ ++ s2)) rfl (by kernel_rfl) (by kernel_rfl) (by kernel_rfl) (fun _ _ _ h => h) rfl (fun _ => rfl) (by assumption) ?_; simp only [Act.put, sS0, sS1, sS2]; obtain ⟨gx, hgx⟩ : ∃ x, gb = x := ⟨_, rfl⟩; exact wpAnyH_done (by kernel_rfl) ⟨gx, rfl, hgx.symm, HSW.out⟩ _
          case hrest =>
            rintro gn w6 ⟨rfl, hb6⟩; have HB6 : Sl (Below w1.heap.size w1 w6) := ⟨HB2.out.trans (hb6.mono HB2.out.size)⟩; have HW6 : Sl (RowKit.Below w4.heap.size w4 w6) := ⟨hb6⟩; clear hb6 hS F1 F2
            by_cases hgd : (g : Int) < (D : Int)
            · have hgdd : decide (1 < f) = true := decide_eq_true (HFG.out.1 hgd); have HW : Sl (xB (wrR p kk (D : Int)) = _) := ⟨HX2.out hgd⟩; go_wp2_with fail; refine (F3.out w6 HW6.out).mono ?_; rintro e7 w7 ⟨rfl, hb7⟩; have HB7 : Sl (Below w1.heap.size w1 w7) := ⟨HB2.out.trans (hb7.mono HB2.out.size)⟩; clear hb7; go_wp2_with fail; exact ⟨⟨k + 1, _, hkn, by go_num, by rw [HSS.out, HW.out]; simp only [← ByteArray.append_assoc], rfl, HB7⟩, by simp [RowKit.intOf]; omega⟩
            · have hgdd : decide (1 < f) = false := decide_eq_false (by have := HFG.out.2 (by omega); omega); have HW : Sl (xB (wrR p kk (D : Int)) = _) := ⟨HX1.out (by omega)⟩; go_wp2_with fail; exact ⟨⟨k + 1, _, hkn, by go_num, by rw [HSS.out, HW.out]; simp only [← ByteArray.append_assoc], rfl, HB6⟩, by simp [RowKit.intOf]; omega⟩
      · obtain rfl : k = n := (by omega); have hkd : decide ((k : Int) < (k : Int)) = false := decide_eq_false (by omega); have hkI : ¬ (k : Int) < (k : Int) := (by omega)
        have HEK : Sl (txK r k = if k = 0 then ⟨#[]⟩ else xB (txR r)) := ⟨by
          by_cases h : k = 0
          · subst h; rw [if_pos rfl]; rfl
          · rw [if_neg h]; have hne : termsN r 6 ≠ [] := fun h0 => h (by rw [← HN.out, h0]; rfl)
            rw [← txR_join hne]; unfold txK
            rw [List.take_of_length_le (by rw [wds_len, HN.out]; exact Nat.le_refl _)]⟩
        by_cases hk0 : k = 0
        · have HZ : Sl (xB (txR r) = ⟨#[49]⟩) := ⟨txR_none (by rw [HN.out]; exact hk0)⟩; rw [HZ.out] at HTX; rw [HEK.out, if_pos hk0]; go_wp2_with fail; go_ret2; exact ⟨HTX.out, HB1.out.trans (HB.out.mono HB1.out.size)⟩
        · rw [HEK.out, if_neg hk0]; have hne : termsN r 6 ≠ [] := fun h0 => hk0 (by rw [← HN.out, h0]; rfl)
          have HNE : Sl (xB (txR r) ≠ ⟨#[]⟩) := ⟨by
            intro h; have h1 := (txR_some hne).2.2; have h2 : txR r = [] := (by have := congrArg (fun b : ByteArray => b.data.toList) h; simpa [xB] using this); rw [h2] at h1; have h3 := congrArg List.length h1; rw [wds_len, HN.out] at h3; obtain ⟨x, hx⟩ := List.exists_mem_of_length_pos (l := wdsR r) (by rw [wds_len, HN.out]; omega); rw [← h1] at hx; have h4 : x = [] := (by simpa [xspl] using hx); obtain ⟨y, hy, hyx⟩ := List.mem_map.1 (show x ∈ wdsR r by rw [← h1]; exact hx); rw [h4] at hyx; unfold wrR at hyx
            exact absurd hyx (by simp)⟩
          have heq1 : (xB (txR r)).toList.isEmpty = false := by
            cases h : (xB (txR r)).toList.isEmpty with
            | false => rfl
            | true =>
              rw [List.isEmpty_iff] at h; exact absurd (xbytes_eq (h.trans (show ([] : List UInt8) = (⟨#[]⟩ : ByteArray).toList by decide +kernel))) HNE.out
          clear hne hk0; go_wp2_with fail; go_ret2; exact ⟨HTX.out, HB1.out.trans (HB.out.mono HB1.out.size)⟩
  · have hec := ht1 h0; subst hec; obtain ⟨er, her⟩ : ∃ er, checkS r = er := ⟨_, rfl⟩; have HTX : Sl (TxtRes r (.returned (.tuple #[.string ⟨#[]⟩, .int .i64 er]))) := ⟨fun _ => by rw [her], fun h => absurd h h0⟩; rw [her] at h0 ⊢; have h0b : (er != 0) = true := (by rw [bne_iff_ne]; exact h0); clear ht1 ht2 her; go_wp2_with fail; go_ret2; exact ⟨HTX.out, HB1.out⟩
end Go.Proofs.YtalodfjplegibaaGreatDoor
namespace Go.Proofs.YtalodfjplegibaaGreatDoor
set_option linter.unusedSimpArgs false
open Go.RowKit
set_option linter.unusedVariables false
def nmR : Nat → List UInt8 → Nat → Nat × Nat
  | 0, _, n => (n, 0)
  | _+1, [], n => (n, 0)
  | f+1, b :: l, n => if isDig b = true then ((nmR f l (n * 10 + (b.toNat - 48))).1, (nmR f l (n * 10 + (b.toNat - 48))).2 + 1) else (n, 0)
theorem nmR_le : ∀ (f : Nat) (l : List UInt8) (n : Nat), (nmR f l n).2 ≤ f ∧ (nmR f l n).2 ≤ l.length
  | 0, _, _ => ⟨Nat.le_refl _, Nat.zero_le _⟩
  | _+1, [], _ => ⟨Nat.zero_le _, Nat.le_refl _⟩
  | f+1, b :: l, n => by
    rw [nmR]; have ih := nmR_le f l (n * 10 + (b.toNat - 48))
    split
    · simp only [List.length_cons]; omega
    · simp
theorem nmR_lt : ∀ (f : Nat) (l : List UInt8) (n : Nat), (nmR f l n).1 < (n + 1) * 10 ^ f
  | 0, _, n => by rw [nmR]; simp
  | f+1, [], n => by
    rw [nmR]; have : 0 < 10 ^ (f + 1) := Nat.pow_pos (by decide)
    calc n < n + 1 := Nat.lt_succ_self n
      _ ≤ (n + 1) * 10 ^ (f + 1) := Nat.le_mul_of_pos_right _ this
  | f+1, b :: l, n => by
    rw [nmR]; have ih := nmR_lt f l (n * 10 + (b.toNat - 48))
    split
    · rename_i h; have hd := isDig_iff.1 h; have e : (n + 1) * 10 ^ (f + 1) = ((n + 1) * 10) * 10 ^ f := (by rw [Nat.pow_succ, Nat.mul_comm (10 ^ f) 10, Nat.mul_assoc]); rw [e]; exact Nat.lt_of_lt_of_le ih (Nat.mul_le_mul_right _ (by omega))
    · have : 0 < 10 ^ (f + 1) := Nat.pow_pos (by decide)
      calc n < n + 1 := Nat.lt_succ_self n
        _ ≤ (n + 1) * 10 ^ (f + 1) := Nat.le_mul_of_pos_right _ this
theorem nmR_all : ∀ (f : Nat) (ds rest : List UInt8) (n : Nat), ds.all isDig = true → ds.length ≤ f → (∀ b, rest.head? = some b → isDig b = false) → nmR f (ds ++ rest) n = (numV n ds, ds.length)
  | 0, [], rest, n, _, _, _ => rfl
  | 0, d :: ds, rest, n, _, h, _ => absurd h (by simp)
  | f+1, [], rest, n, _, _, hr => by
    cases rest with
    | nil => rfl
    | cons b r =>
      have := hr b rfl; rw [List.nil_append, nmR, if_neg (by rw [this]; decide)]; rfl
  | f+1, d :: ds, rest, n, ha, hl, hr => by
    rw [List.all_cons, Bool.and_eq_true] at ha; rw [List.cons_append, nmR, if_pos ha.1, nmR_all f ds rest _ ha.2 (by simpa using hl) hr, numV_cons]; rfl
def nmV (l : List UInt8) : Int := if (nmR 6 l 0).2 = 0 then -1 else ((nmR 6 l 0).1 : Int)
theorem nmV_bd (l : List UInt8) : -1 ≤ nmV l ∧ nmV l < 1000000 := by
  have h := nmR_lt 6 l 0; have e : (0 + 1) * 10 ^ 6 = 1000000 := (by decide); rw [e] at h; unfold nmV
  split <;> omega
theorem drop_byte {s : ByteArray} {j : Nat} (h : j < s.size) : s.data.toList.drop j = s[j] :: s.data.toList.drop (j + 1) := by
  have h2 : j < s.data.toList.length := (by rw [Array.length_toList]; exact h); rw [List.drop_eq_getElem_cons h2, Array.getElem_toList]; rfl
theorem drop_end {s : ByteArray} {j : Nat} (h : s.size ≤ j) : s.data.toList.drop j = [] := List.drop_eq_nil_of_le (by rw [Array.length_toList]; exact h)
structure NmK (L : List UInt8) (D : List UInt8) (k n : Nat) : Prop where
  eq : nmR 6 L 0 = ((nmR (6 - k) D n).1, (nmR (6 - k) D n).2 + k)
  le : k ≤ 6
  lt : n < 10 ^ k
theorem NmK.start (L : List UInt8) : NmK L L 0 0 := ⟨rfl, by decide, by decide⟩
theorem NmK.next {L D : List UInt8} {k n : Nat} {b : UInt8} (h : NmK L (b :: D) k n) (hk : k < 6) (hb : isDig b = true) : NmK L D (k + 1) (10 * n + (b.toNat - 48)) := by
  refine ⟨?_, hk, ?_⟩
  · rw [h.eq, show 6 - k = (6 - (k + 1)) + 1 by omega, nmR, if_pos hb, Nat.mul_comm n 10]; simp only [Nat.add_assoc, Nat.add_comm 1 k]
  · have hd := isDig_iff.1 hb; have := h.lt; rw [Nat.pow_succ]; omega
theorem NmK.stop {L D : List UInt8} {k n : Nat} (h : NmK L D k n) (hs : k = 6 ∨ D = [] ∨ ∃ b r, D = b :: r ∧ isDig b = false) : nmR 6 L 0 = (n, k) := by
  rw [h.eq]; rcases hs with rfl | rfl | ⟨b, r, rfl, hb⟩
  · rw [Nat.sub_self, nmR, Nat.zero_add]
  · rcases hk : 6 - k with _ | f
    · rw [nmR, Nat.zero_add]
    · rw [nmR, Nat.zero_add]
  · rcases hk : 6 - k with _ | f
    · rw [nmR, Nat.zero_add]
    · rw [nmR, if_neg (by rw [hb]; decide), Nat.zero_add]
theorem NmK.small {L D : List UInt8} {k n : Nat} (h : NmK L D k n) : n < 1000000 := by
  have h1 := Nat.pow_le_pow_right (show 0 < 10 by decide) h.le; have e : 10 ^ 6 = 1000000 := (by decide); have := h.lt; omega
set_option maxHeartbeats 1600000 in
set_option maxRecDepth 100000 in
theorem xnumber_any (s : ByteArray) (a : Nat) (ha : a ≤ s.size) (hs : s.size ≤ 200) (w : World) : Calls Tryz.prog 54 #[.string s, .int .i64 (a : Int)] w fun e w' => e = .returned (.tuple #[.int .i64 (nmV (s.data.toList.drop a)), .int .i64 ((a + (nmR 6 (s.data.toList.drop a) 0).2 : Nat) : Int)]) ∧ w' = w := by
  obtain ⟨L, hL⟩ : ∃ L, s.data.toList.drop a = L := ⟨_, rfl⟩; rw [hL]; have HL : Sl _ := ⟨hL⟩; obtain ⟨V, hV⟩ : ∃ V, nmV L = V := ⟨_, rfl⟩; obtain ⟨C, hC⟩ : ∃ C, ((a + (nmR 6 L 0).2 : Nat) : Int) = C := ⟨_, rfl⟩; rw [hV, hC]; have HVC : Sl _ := ⟨And.intro hV hC⟩; clear hL hV hC; go_enter Tryz.func54, Tryz.ntmps54; go_wp2_with fail
  go_loopw [1, 6, 7] (fun s1 s6 s7 wr => ∃ (j k n : Nat), j ≤ s.size ∧ s1 = .int .i64 j ∧ s6 = .int .i64 n ∧ s7 = .int .i64 k ∧ Sl (j = a + k) ∧ Sl (NmK L (s.data.toList.drop j) k n) ∧ Sl (w = wr)) (fun s1 _ _ _ => s.size - (RowKit.intOf s1).toNat)
  case atStart => exact ⟨a, 0, 0, ha, rfl, rfl, rfl, ⟨rfl⟩, ⟨by rw [HL.out]; exact NmK.start L⟩, ⟨rfl⟩⟩
  case round =>
    obtain ⟨j, k, n, hj, rfl, rfl, rfl, HJ, HK, HW⟩ := hrel; have hww := HW.out; subst hww; have hn6 := HK.out.small; have hk6 := HK.out.le; have hj200 : j ≤ 200 := (by omega)
    have HEND : Sl (nmR 6 L 0 = (n, k) → C = (j : Int) ∧ (k = 0 → V = -1) ∧ (k ≠ 0 → V = (n : Int))) := ⟨fun h => by
      have h1 := HVC.out.1; have h2 := HVC.out.2; unfold nmV at h1; rw [h] at h1 h2; refine ⟨by rw [← h2, HJ.out], fun h0 => ?_, fun h0 => ?_⟩
      · rw [if_pos h0] at h1; exact h1.symm
      · rw [if_neg h0] at h1; exact h1.symm⟩
    by_cases hlt : j < s.size
    · have HDR : Sl _ := ⟨drop_byte hlt⟩; have hb8 : (s[j].toNat : Int) < 256 := (by have := s[j].toNat_lt; omega); have hjI : (j : Int) < (s.size : Int) := (by omega); have hjd : decide ((j : Int) < (s.size : Int)) = true := decide_eq_true hjI
      by_cases g : isDig s[j] = true
      · have hg := isDig_iff.1 g; have e1 : decide ((48 : Int) ≤ (s[j].toNat : Int)) = true := decide_eq_true (by omega); have e2 : decide ((s[j].toNat : Int) ≤ 57) = true := decide_eq_true (by omega)
        by_cases hk : k < 6
        · have hkd : decide ((k : Int) < 6) = true := decide_eq_true (by omega); have HNX : Sl (NmK L (s.data.toList.drop (j + 1)) (k + 1) (10 * n + (s[j].toNat - 48))) := ⟨NmK.next (by rw [← HDR.out]; exact HK.out) hk g⟩; have HJ1 : Sl (j + 1 = a + (k + 1)) := ⟨by have := HJ.out; omega⟩; have g1' : 48 ≤ s[j].toNat := hg.1; have g2' : s[j].toNat ≤ 57 := hg.2; clear hg g; go_wp2_with fail; exact ⟨⟨j + 1, k + 1, 10 * n + (s[j].toNat - 48), hlt, by go_num, by congr 1; omega, by go_num, HJ1, HNX, ⟨by first | rfl | trivial⟩⟩, by simp [RowKit.intOf]; omega⟩
        · have hkd : decide ((k : Int) < 6) = false := decide_eq_false (by omega); have HE : Sl _ := ⟨HEND.out (HK.out.stop (.inl (by omega)))⟩; have hk0 : ((k : Int) == 0) = false := (by rw [beq_eq_false_iff_ne]; omega); have hk0N : k ≠ 0 := (by omega); go_wp2_with fail; go_ret2; exact ⟨by rw [HE.out.1, HE.out.2.2 hk0N]; rfl, rfl⟩
      · have g' : isDig s[j] = false := (by simpa using g); have HE : Sl _ := ⟨HEND.out (HK.out.stop (.inr (.inr ⟨_, _, HDR.out, g'⟩)))⟩
        have hg : s[j].toNat < 48 ∨ (48 ≤ s[j].toNat ∧ 57 < s[j].toNat) := by
          rcases Nat.lt_or_ge s[j].toNat 48 with h | h
          · exact .inl h
          · refine .inr ⟨h, ?_⟩; rcases Nat.lt_or_ge 57 s[j].toNat with h2 | h2
            · exact h2
            · exact absurd (isDig_iff.2 ⟨h, h2⟩) g
        clear g g'; rcases hg with hg | ⟨hg1, hg2⟩
        · have e1 : decide ((48 : Int) ≤ (s[j].toNat : Int)) = false := decide_eq_false (by omega)
          by_cases hk0 : k = 0
          · have hk0b : ((k : Int) == 0) = true := (by rw [beq_iff_eq]; omega); have HV : Sl _ := ⟨HE.out.2.1 hk0⟩; go_wp2_with fail; go_ret2; exact ⟨by rw [HE.out.1, HV.out]; rfl, rfl⟩
          · have hk0b : ((k : Int) == 0) = false := (by rw [beq_eq_false_iff_ne]; omega); go_wp2_with fail; go_ret2; exact ⟨by rw [HE.out.1, HE.out.2.2 hk0]; rfl, rfl⟩
        · have e1 : decide ((48 : Int) ≤ (s[j].toNat : Int)) = true := decide_eq_true (by omega); have e2 : decide ((s[j].toNat : Int) ≤ 57) = false := decide_eq_false (by omega)
          by_cases hk0 : k = 0
          · have hk0b : ((k : Int) == 0) = true := (by rw [beq_iff_eq]; omega); have HV : Sl _ := ⟨HE.out.2.1 hk0⟩; go_wp2_with fail; go_ret2; exact ⟨by rw [HE.out.1, HV.out]; rfl, rfl⟩
          · have hk0b : ((k : Int) == 0) = false := (by rw [beq_eq_false_iff_ne]; omega); go_wp2_with fail; go_ret2; exact ⟨by rw [HE.out.1, HE.out.2.2 hk0]; rfl, rfl⟩
    · have hjd : decide ((j : Int) < (s.size : Int)) = false := decide_eq_false (by omega); have HE : Sl _ := ⟨HEND.out (HK.out.stop (.inr (.inl (drop_end (by omega)))))⟩
      by_cases hk0 : k = 0
      · have hk0b : ((k : Int) == 0) = true := (by rw [beq_iff_eq]; omega); have HV : Sl _ := ⟨HE.out.2.1 hk0⟩; go_wp2_with fail; go_ret2; exact ⟨by rw [HE.out.1, HV.out]; rfl, rfl⟩
      · have hk0b : ((k : Int) == 0) = false := (by rw [beq_eq_false_iff_ne]; omega); go_wp2_with fail; go_ret2; exact ⟨by rw [HE.out.1, HE.out.2.2 hk0]; rfl, rfl⟩
end Go.Proofs.YtalodfjplegibaaGreatDoor
namespace Go.Proofs.YtalodfjplegibaaGreatDoor
set_option linter.unusedSimpArgs false
open Go.RowKit
set_option linter.unusedVariables false
def pK (n : Int) : Nat → Int
  | 0 => -1
  | i+1 => if (prime i : Int) = n then (i : Int) else pK n i
theorem pK_bd (n : Int) : ∀ i, -1 ≤ pK n i ∧ pK n i < (i : Int)
  | 0 => ⟨Int.le_refl _, by show (-1 : Int) < ((0 : Nat) : Int); decide⟩
  | i+1 => by
    rw [pK]; have := pK_bd n i
    split <;> omega
def termL (L : List UInt8) : Option (Int × Bool × Int × Int × Nat) :=
  if pK (nmV L) 6 < 0 then none else match L.drop (nmR 6 L 0).2 with
  | [] => none
  | b :: L2 => if b.toNat = 94 then
      (match L2 with
      | [] => some (pK (nmV L) 6, false, nmV [], 1, (nmR 6 L 0).2 + 1 + (nmR 6 [] 0).2)
      | d :: L3 => if d.toNat = 45 then
          (match L3.drop (nmR 6 L3 0).2 with
          | [] => some (pK (nmV L) 6, true, nmV L3, 1, (nmR 6 L 0).2 + 2 + (nmR 6 L3 0).2)
          | f :: L5 => if f.toNat = 47 then some (pK (nmV L) 6, true, nmV L3, nmV L5, (nmR 6 L 0).2 + 2 + (nmR 6 L3 0).2 + 1 + (nmR 6 L5 0).2)
            else some (pK (nmV L) 6, true, nmV L3, 1, (nmR 6 L 0).2 + 2 + (nmR 6 L3 0).2))
        else (match (d :: L3).drop (nmR 6 (d :: L3) 0).2 with
          | [] => some (pK (nmV L) 6, false, nmV (d :: L3), 1, (nmR 6 L 0).2 + 1 + (nmR 6 (d :: L3) 0).2)
          | f :: L5 => if f.toNat = 47 then some (pK (nmV L) 6, false, nmV (d :: L3), nmV L5, (nmR 6 L 0).2 + 1 + (nmR 6 (d :: L3) 0).2 + 1 + (nmR 6 L5 0).2)
            else some (pK (nmV L) 6, false, nmV (d :: L3), 1, (nmR 6 L 0).2 + 1 + (nmR 6 (d :: L3) 0).2)))
    else none
def termV (a : Nat) : Option (Int × Bool × Int × Int × Nat) → Value
  | none => .tuple #[.int .i64 0, .int .i64 0, .int .i64 0, .int .i64 0, .bool false]
  | some (k, ng, n, d, c) => .tuple #[.int .i64 k, .int .i64 (if ng = true then -n else n), .int .i64 d, .int .i64 ((a + c : Nat) : Int), .bool (decide (0 < n) && decide (0 < d))]
theorem termL_a {L : List UInt8} (h : pK (nmV L) 6 < 0) : termL L = none := by unfold termL; rw [if_pos h]
theorem termL_b {L : List UInt8} (h : L.drop (nmR 6 L 0).2 = []) : termL L = none := by
  unfold termL
  split
  · rfl
  · rw [h]
theorem termL_c {L L2 : List UInt8} {b : UInt8} (h : L.drop (nmR 6 L 0).2 = b :: L2) (hb : ¬ b.toNat = 94) : termL L = none := by
  unfold termL
  split
  · rfl
  · rw [h]; simp only [if_neg hb]
theorem termL_d {L L2 : List UInt8} {b : UInt8} (h0 : ¬ pK (nmV L) 6 < 0) (h : L.drop (nmR 6 L 0).2 = b :: L2) (hb : b.toNat = 94) (hn : ∀ d r, L2 = d :: r → ¬ d.toNat = 45) (h4 : L2.drop (nmR 6 L2 0).2 = [] ∨ ∃ f r, L2.drop (nmR 6 L2 0).2 = f :: r ∧ ¬ f.toNat = 47) :
    termL L = some (pK (nmV L) 6, false, nmV L2, 1, (nmR 6 L 0).2 + 1 + (nmR 6 L2 0).2) := by
  unfold termL; rw [if_neg h0, h]; simp only [if_pos hb]
  cases L2 with
  | nil => rfl
  | cons d r =>
    simp only [if_neg (hn d r rfl)]; rcases h4 with h4 | ⟨f, r2, h4, h5⟩
    · rw [h4]
    · rw [h4]; simp only [if_neg h5]
theorem termL_e {L L2 : List UInt8} {b : UInt8} (h0 : ¬ pK (nmV L) 6 < 0) (h : L.drop (nmR 6 L 0).2 = b :: L2) (hb : b.toNat = 94) (hn : ∀ d r, L2 = d :: r → ¬ d.toNat = 45) {f : UInt8} {r : List UInt8} (h4 : L2.drop (nmR 6 L2 0).2 = f :: r) (h5 : f.toNat = 47) :
    termL L = some (pK (nmV L) 6, false, nmV L2, nmV r, (nmR 6 L 0).2 + 1 + (nmR 6 L2 0).2 + 1 + (nmR 6 r 0).2) := by
  unfold termL; rw [if_neg h0, h]; simp only [if_pos hb]
  cases L2 with
  | nil => rw [List.drop_nil] at h4; cases h4
  | cons d r2 =>
    simp only [if_neg (hn d r2 rfl)]; rw [h4]; simp only [if_pos h5]
theorem termL_f {L L3 : List UInt8} {b d : UInt8} (h0 : ¬ pK (nmV L) 6 < 0) (h : L.drop (nmR 6 L 0).2 = b :: d :: L3) (hb : b.toNat = 94) (hn : d.toNat = 45) (h4 : L3.drop (nmR 6 L3 0).2 = [] ∨ ∃ f r, L3.drop (nmR 6 L3 0).2 = f :: r ∧ ¬ f.toNat = 47) :
    termL L = some (pK (nmV L) 6, true, nmV L3, 1, (nmR 6 L 0).2 + 2 + (nmR 6 L3 0).2) := by
  unfold termL; rw [if_neg h0, h]; simp only [if_pos hb, if_pos hn]; rcases h4 with h4 | ⟨f, r2, h4, h5⟩
  · rw [h4]
  · rw [h4]; simp only [if_neg h5]
theorem termL_g {L L3 : List UInt8} {b d : UInt8} (h0 : ¬ pK (nmV L) 6 < 0) (h : L.drop (nmR 6 L 0).2 = b :: d :: L3) (hb : b.toNat = 94) (hn : d.toNat = 45) {f : UInt8} {r : List UInt8} (h4 : L3.drop (nmR 6 L3 0).2 = f :: r) (h5 : f.toNat = 47) :
    termL L = some (pK (nmV L) 6, true, nmV L3, nmV r, (nmR 6 L 0).2 + 2 + (nmR 6 L3 0).2 + 1 + (nmR 6 r 0).2) := by
  unfold termL; rw [if_neg h0, h]; simp only [if_pos hb, if_pos hn]; rw [h4]; simp only [if_pos h5]
theorem itoa_nat_head {u : Nat} (x : List UInt8) : ∀ b, ((Lib.decDigits u) ++ x).head? = some b → isDig b = true := fun b hb => by
  obtain ⟨c, r, hc, h1, h2⟩ := dec_cons u; rw [hc] at hb; injection hb with hb
  subst hb; exact isDig_iff.2 ⟨h1, h2⟩
theorem nmR_dec {u : Nat} (hu : u < 1000000) {rest : List UInt8} (hr : ∀ b, rest.head? = some b → isDig b = false) : nmR 6 (Lib.decDigits u ++ rest) 0 = (u, (Lib.decDigits u).length) := by
  have h := nmR_all 6 (Lib.decDigits u) rest 0 (decDigits_all u) (by have := dec_len 6 u (by omega); omega) hr; rw [numV_decDigits] at h; exact h
theorem dec_pos (u : Nat) : 0 < (Lib.decDigits u).length := by
  obtain ⟨c, r, hc, _⟩ := dec_cons u; rw [hc]; simp
theorem nmV_dec {u : Nat} (hu : u < 1000000) {rest : List UInt8} (hr : ∀ b, rest.head? = some b → isDig b = false) : nmV (Lib.decDigits u ++ rest) = (u : Int) := by
  have := dec_pos u; unfold nmV; rw [nmR_dec hu hr, if_neg (by show ¬ (Lib.decDigits u).length = 0; omega)]
theorem pK_prime {i : Nat} (hi : i < 6) : pK (prime i : Int) 6 = (i : Int) := by
  rcases (show i = 0 ∨ i = 1 ∨ i = 2 ∨ i = 3 ∨ i = 4 ∨ i = 5 by omega) with rfl | rfl | rfl | rfl | rfl | rfl <;> decide
def Aft (rest : List UInt8) : Prop := rest = [] ∨ ∃ r, rest = 32 :: r
theorem Aft.dig {rest : List UInt8} (h : Aft rest) : ∀ b, rest.head? = some b → isDig b = false := fun b hb => by
  rcases h with rfl | ⟨r, rfl⟩
  · cases hb
  · injection hb with hb; subst hb; decide
theorem Aft.slash {rest : List UInt8} (h : Aft rest) : rest = [] ∨ ∃ f r, rest = f :: r ∧ ¬ f.toNat = 47 := by
  rcases h with rfl | ⟨r, rfl⟩
  · exact .inl rfl
  · exact .inr ⟨32, r, rfl, by decide⟩
theorem drop_len_append {a b : List UInt8} : (a ++ b).drop a.length = b := List.drop_left
theorem ex_read {d : Int} (hd : 1 ≤ d ∧ d ≤ 1000) {k : Int} {rest : List UInt8} (hr : Aft rest) {u : Nat} (hu : u < 1000000) {f : Int} (hf : d.tdiv (gR k d : Nat) = f) (hf1 : 1 ≤ f) (hf2 : f ≤ 1000) :
    let X := Lib.decDigits u ++ ((if ((gR k d : Nat) : Int) < d then 47 :: Lib.itoa f else []) ++ rest)
    (nmR 6 X 0 = (u, (Lib.decDigits u).length) ∧ nmV X = (u : Int)) ∧
    (¬ ((gR k d : Nat) : Int) < d → (X.drop (Lib.decDigits u).length = [] ∨ ∃ f r, X.drop (Lib.decDigits u).length = f :: r ∧ ¬ f.toNat = 47) ∧ f = 1) ∧
    (((gR k d : Nat) : Int) < d → ∃ r, X.drop (Lib.decDigits u).length = 47 :: r ∧ nmV r = f ∧ (nmR 6 r 0).2 = (Lib.itoa f).length) := by
  intro X
  by_cases h : ((gR k d : Nat) : Int) < d
  · have hh : ∀ b, ((if ((gR k d : Nat) : Int) < d then (47 : UInt8) :: Lib.itoa f else []) ++ rest).head? = some b → isDig b = false := fun b hb => by
      rw [if_pos h] at hb; injection hb with hb; subst hb; decide
    refine ⟨⟨nmR_dec hu hh, nmV_dec hu hh⟩, fun h2 => absurd h h2, fun _ => ⟨Lib.itoa f ++ rest, ?_, ?_, ?_⟩⟩
    · show (Lib.decDigits u ++ _).drop _ = _; rw [drop_len_append, if_pos h]; rfl
    · obtain ⟨v, rfl⟩ := Int.eq_ofNat_of_zero_le (show 0 ≤ f by omega); rw [xit_nat]; exact nmV_dec (by omega) hr.dig
    · obtain ⟨v, rfl⟩ := Int.eq_ofNat_of_zero_le (show 0 ≤ f by omega); rw [xit_nat, nmR_dec (by omega) hr.dig]
  · have hh : ∀ b, ((if ((gR k d : Nat) : Int) < d then (47 : UInt8) :: Lib.itoa f else []) ++ rest).head? = some b → isDig b = false := by
      rw [if_neg h, List.nil_append]; exact hr.dig
    refine ⟨⟨nmR_dec hu hh, nmV_dec hu hh⟩, fun _ => ⟨?_, ?_⟩, fun h2 => absurd h2 h⟩
    · show (Lib.decDigits u ++ _).drop _ = [] ∨ ∃ f r, (Lib.decDigits u ++ _).drop _ = f :: r ∧ _; rw [drop_len_append, if_neg h, List.nil_append]; exact hr.slash
    · have h2 : ((gR k d : Nat) : Int) = d := (by have := (gR_pos hd.1 (k := k)).2; omega); rw [← hf, h2, Int.tdiv_self (by omega)]
theorem termL_word {i : Nat} (hi : i < 6) {k d : Int} (hk : inR k) (hd : 1 ≤ d ∧ d ≤ 1000) {rest : List UInt8} (hr : Aft rest) :
    termL (wrR (prime i) k d ++ rest) = some ((i : Int), decide (k.tdiv (gR k d : Nat) < 0), ((k.tdiv (gR k d : Nat)).natAbs : Int), d.tdiv (gR k d : Nat), (wrR (prime i) k d).length) := by
  have hgb := gR_bd (k := k) hd.1; have hk1 := hk.1; have hk2 := hk.2; have hp := prime_le hi; obtain ⟨e, he⟩ : ∃ e, k.tdiv (gR k d : Nat) = e := ⟨_, rfl⟩; obtain ⟨f, hf⟩ : ∃ f, d.tdiv (gR k d : Nat) = f := ⟨_, rfl⟩; rw [he, hf] at hgb; have hx := fun (u : Nat) (hu : u < 1000000) => ex_read hd (k := k) hr hu hf (by omega) (by omega)
  simp only [] at hx; unfold wrR exR; rw [he, hf]; obtain ⟨T, hT⟩ : ∃ T, (if ((gR k d : Nat) : Int) < d then (47 : UInt8) :: Lib.itoa f else []) = T := ⟨_, rfl⟩
  have hTl : T.length = if ((gR k d : Nat) : Int) < d then 1 + (Lib.itoa f).length else 0 := by
    rw [← hT]
    split
    · rw [List.length_cons]; omega
    · rfl
  rw [hT] at hx ⊢
  have eL : Lib.itoa (prime i : Int) ++ 94 :: (Lib.itoa e ++ T) ++ rest = Lib.decDigits (prime i) ++ 94 :: (Lib.itoa e ++ (T ++ rest)) := by
    rw [xit_nat]; simp
  rw [eL]
  have h94 : ∀ b, ((94 : UInt8) :: (Lib.itoa e ++ (T ++ rest))).head? = some b → isDig b = false := fun b hb => by
    injection hb with hb; subst hb; decide
  have h1 := nmR_dec (u := prime i) (by omega) h94; have h2 := nmV_dec (u := prime i) (by omega) h94; have h3 : ¬ pK (nmV (Lib.decDigits (prime i) ++ 94 :: (Lib.itoa e ++ (T ++ rest)))) 6 < 0 := (by rw [h2, pK_prime hi]; omega)
  have h4 : (Lib.decDigits (prime i) ++ 94 :: (Lib.itoa e ++ (T ++ rest))).drop (nmR 6 (Lib.decDigits (prime i) ++ 94 :: (Lib.itoa e ++ (T ++ rest))) 0).2 = 94 :: (Lib.itoa e ++ (T ++ rest)) := by
    rw [h1]; exact drop_len_append
  have hpl : (Lib.itoa (prime i : Int)).length = (Lib.decDigits (prime i)).length := (by rw [xit_nat])
  by_cases he0 : e < 0
  · obtain ⟨u, hu⟩ : ∃ u : Nat, e = -(u : Int) := ⟨e.natAbs, by omega⟩; have hu6 : u < 1000000 := (by omega); have hue : ((e.natAbs : Nat) : Int) = (u : Int) := (by omega); obtain ⟨⟨x1, x2⟩, x3, x4⟩ := hx u hu6
    have ei : Lib.itoa e = 45 :: Lib.decDigits u := by
      rw [hu]; unfold Lib.itoa; rw [if_pos (by omega)]; have : (-(u : Int)).natAbs = u := (by omega); rw [this]
    rw [ei, List.cons_append] at h3 h4 ⊢; have hul : (Lib.itoa e).length = 1 + (Lib.decDigits u).length := (by rw [ei, List.length_cons]; omega); rw [hue, decide_eq_true he0]; rw [ei, List.cons_append] at h2
    by_cases hg : ((gR k d : Nat) : Int) < d
    · obtain ⟨r, r1, r2, r3⟩ := x4 hg; rw [if_pos hg] at hTl; rw [termL_g h3 h4 (by decide) (by decide) (by rw [x1]; exact r1) (by decide), h2, pK_prime hi, x2, r2, x1, r3]; rw [ei, List.cons_append] at h1; rw [h1]; simp only [List.length_append, List.length_cons, hpl, hTl]; congr 5; clear x1 x2 x3 x4 h1 h2 h3 h4; omega
    · obtain ⟨r1, r2⟩ := x3 hg; rw [if_neg hg] at hTl; rw [termL_f h3 h4 (by decide) (by decide) (by rw [x1]; exact r1), h2, pK_prime hi, x2, x1, r2]; rw [ei, List.cons_append] at h1; rw [h1]; simp only [List.length_append, List.length_cons, hpl, hTl]; congr 5; clear x1 x2 x3 x4 h1 h2 h3 h4; omega
  · obtain ⟨u, hu⟩ := Int.eq_ofNat_of_zero_le (show 0 ≤ e by omega); have hu6 : u < 1000000 := (by omega); have hue : ((e.natAbs : Nat) : Int) = (u : Int) := (by omega); obtain ⟨⟨x1, x2⟩, x3, x4⟩ := hx u hu6; have ei : Lib.itoa e = Lib.decDigits u := (by rw [hu, xit_nat]); rw [ei] at h1 h2 h3 h4 ⊢; rw [hue, decide_eq_false he0]
    have hn : ∀ b r, Lib.decDigits u ++ (T ++ rest) = b :: r → ¬ b.toNat = 45 := fun b r hb => by
      have := itoa_nat_head (u := u) (T ++ rest) b (by rw [hb]; rfl); have := isDig_iff.1 this; omega
    by_cases hg : ((gR k d : Nat) : Int) < d
    · obtain ⟨r, r1, r2, r3⟩ := x4 hg; rw [if_pos hg] at hTl; rw [termL_e h3 h4 (by decide) hn (by rw [x1]; exact r1) (by decide), h2, pK_prime hi, x2, r2, x1, r3, h1]; simp only [List.length_append, List.length_cons, hpl, hTl]; congr 5; clear x1 x2 x3 x4 h1 h2 h3 h4; omega
    · obtain ⟨r1, r2⟩ := x3 hg; rw [if_neg hg] at hTl; rw [termL_d h3 h4 (by decide) hn (by rw [x1]; exact r1), h2, pK_prime hi, x2, x1, r2, h1]; simp only [List.length_append, List.length_cons, hpl, hTl]; congr 5; clear x1 x2 x3 x4 h1 h2 h3 h4; omega
end Go.Proofs.YtalodfjplegibaaGreatDoor
namespace Go.Proofs.YtalodfjplegibaaGreatDoor
set_option linter.unusedSimpArgs false
open Go.RowKit
set_option linter.unusedVariables false
theorem rres5 {fn : Func} {a b c d e : Tmp} (h : fn.results = #[.tmp a, .tmp b, .tmp c, .tmp d, .tmp e]) (tmps : Array Value) (P : Program) (w : World) :
    (results fn tmps).run P w = .ok (.tuple #[tmps.getD a undef, tmps.getD b undef, tmps.getD c undef, tmps.getD d undef, tmps.getD e undef]) w := by
  simp [results, h]
set_option maxHeartbeats 6400000 in
set_option maxRecDepth 100000 in
theorem term_any (s : ByteArray) (a : Nat) (ha : a ≤ s.size) (hs : s.size ≤ 200) (w : World) : Calls Tryz.prog 30 #[.string s, .int .i64 (a : Int)] w fun e w' => e = .returned (termV a (termL (s.data.toList.drop a))) ∧ Below w.heap.size w w' := by
  have HN1 : Sl _ := ⟨xnumber_any s a ha hs w⟩; obtain ⟨L, hL⟩ : ∃ L, s.data.toList.drop a = L := ⟨_, rfl⟩; rw [hL] at HN1 ⊢; have hc1 := (nmR_le 6 L 0).2; have hl1 : L.length = s.size - a := (by rw [← hL, List.length_drop, Array.length_toList]; rfl); have hv1 := nmV_bd L; have hD1 : ∀ t, L.drop t = s.data.toList.drop (a + t) := fun t => by rw [← hL, List.drop_drop]
  obtain ⟨c1, hC1⟩ : ∃ c, (nmR 6 L 0).2 = c := ⟨_, rfl⟩; obtain ⟨v1, hV1⟩ : ∃ v, nmV L = v := ⟨_, rfl⟩; rw [hC1, hV1] at HN1; rw [hC1] at hc1; rw [hV1] at hv1; obtain ⟨j1, hj1⟩ : ∃ j, a + c1 = j := ⟨_, rfl⟩; rw [hj1] at HN1; have hj1s : j1 ≤ s.size := (by omega); have H1 : Sl ((nmR 6 L 0).2 = c1 ∧ nmV L = v1 ∧ a + c1 = j1 ∧ L.drop c1 = s.data.toList.drop j1) := ⟨hC1, hV1, hj1, by rw [hD1, hj1]⟩; have HPR : Sl _ := ⟨Primes_any w⟩; clear hc1 hl1 hD1 hC1 hV1 hj1 hL; go_enter Tryz.func30, Tryz.ntmps30; go_wp2_with fail; refine HN1.out.mono ?_; rintro e w1 ⟨rfl, rfl⟩; go_wp2_with fail; refine HPR.out.mono ?_; rintro e w2 ⟨rfl, hw2⟩; have HB : Sl (Below w1.heap.size w1 w2) := ⟨by rw [hw2]; exact (Below.refl _ _).alloc (Nat.le_refl _) _⟩
  have HPC : Sl (∀ i, i < 6 → w2.cell? ⟨w1.heap.size, i, none⟩ = some (.int .i64 (prime i : Int))) := ⟨fun i hi => by
    have h := (Blk.new w1 2 primeCells).cell i; rw [primeCells_at hi] at h
    rw [hw2]; exact h⟩
  clear hw2 HN1 HPR; go_wp2_with fail
  go_loopw [11, 12] (fun s11 s12 wr => ∃ (i : Nat), i ≤ 6 ∧ s12 = .int .i64 i ∧ s11 = .int .i64 (pK v1 i) ∧ Sl (w2 = wr)) (fun _ s12 _ => 6 - (RowKit.intOf s12).toNat)
  case atStart => exact ⟨0, by decide, rfl, rfl, ⟨rfl⟩⟩
  case round =>
    obtain ⟨i, hi, rfl, rfl, HW⟩ := hrel; have hww := HW.out; subst hww
    by_cases hi6 : i < 6
    · have hid : decide ((i : Int) < 6) = true := decide_eq_true (by omega); have hiI : (i : Int) < 6 := (by omega); have pc := HPC.out i hi6; have HPK : Sl (pK v1 (i + 1) = if (prime i : Int) = v1 then (i : Int) else pK v1 i) := ⟨rfl⟩; have hp13 := prime_le hi6; obtain ⟨p, hp⟩ : ∃ p, prime i = p := ⟨_, rfl⟩; rw [hp] at pc HPK hp13; obtain ⟨k0, hk0⟩ : ∃ k, pK v1 i = k := ⟨_, rfl⟩; rw [hk0] at HPK ⊢; clear hp hk0
      by_cases hpv : (p : Int) = v1
      · have hpb : ((p : Int) == v1) = true := (by rw [beq_iff_eq]; exact hpv); rw [if_pos hpv] at HPK; clear hpv; go_wp2_with fail; exact ⟨⟨i + 1, by omega, by go_num, by rw [HPK.out], ⟨by first | rfl | trivial⟩⟩, by simp [RowKit.intOf]; omega⟩
      · have hpb : ((p : Int) == v1) = false := (by rw [beq_eq_false_iff_ne]; exact hpv); rw [if_neg hpv] at HPK; clear hpv; go_wp2_with fail; exact ⟨⟨i + 1, by omega, by go_num, by rw [HPK.out], ⟨by first | rfl | trivial⟩⟩, by simp [RowKit.intOf]; omega⟩
    · obtain rfl : i = 6 := (by omega); have hkb := pK_bd v1 6; have HKV : Sl (pK (nmV L) 6 = pK v1 6) := ⟨by rw [H1.out.2.1]⟩; obtain ⟨K, hKK⟩ : ∃ K, pK v1 6 = K := ⟨_, rfl⟩; rw [hKK] at hkb HKV ⊢; clear hKK; have hK := HKV.out
      by_cases hk0 : K < 0
      · have hkd : decide (K < 0) = true := decide_eq_true hk0; have HTV : Sl (termV a (termL L) = .tuple #[.int .i64 0, .int .i64 0, .int .i64 0, .int .i64 0, .bool false]) := ⟨by rw [termL_a (by rw [hK]; exact hk0)]; rfl⟩; clear hK; go_wp2_with fail
        (try simp only [Exit.inBlock, Exit.then]); refine bodyPost_ret (rres5 rfl _ _ _) rfl ?_
        exact ⟨by rw [HTV.out]; rfl, HB.out⟩
      have hkd : decide (K < 0) = false := decide_eq_false hk0; have H0 : Sl (¬ pK (nmV L) 6 < 0) := ⟨by rw [hK]; exact hk0⟩; have HKS : Sl (pK (nmV L) 6 = K) := ⟨hK⟩; have hC1 := H1.out.1
      by_cases hlt1 : j1 < s.size
      case neg =>
        have hj1d : decide ((s.size : Int) ≤ (j1 : Int)) = true := decide_eq_true (by omega)
        have HTV : Sl (termV a (termL L) = .tuple #[.int .i64 0, .int .i64 0, .int .i64 0, .int .i64 0, .bool false]) := ⟨by
          rw [termL_b (by rw [hC1, H1.out.2.2.2, drop_end (by omega)])]; rfl⟩
        clear hK hC1; go_wp2_with fail
        (try simp only [Exit.inBlock, Exit.then]); refine bodyPost_ret (rres5 rfl _ _ _) rfl ?_
        exact ⟨by rw [HTV.out]; rfl, HB.out⟩
      have hj1d : decide ((s.size : Int) ≤ (j1 : Int)) = false := decide_eq_false (by omega); have hj1I : (j1 : Int) < (s.size : Int) := (by omega); have HD1 := drop_byte hlt1
      by_cases hb94 : s[j1].toNat = 94
      case neg =>
        have q94 : ((s[j1].toNat : Int) != 94) = true := (by rw [bne_iff_ne]; omega)
        have HTV : Sl (termV a (termL L) = .tuple #[.int .i64 0, .int .i64 0, .int .i64 0, .int .i64 0, .bool false]) := ⟨by
          rw [termL_c (by rw [hC1, H1.out.2.2.2, HD1]) hb94]; rfl⟩
        clear hK hC1 HD1 hb94; go_wp2_with fail
        (try simp only [Exit.inBlock, Exit.then]); refine bodyPost_ret (rres5 rfl _ _ _) rfl ?_
        exact ⟨by rw [HTV.out]; rfl, HB.out⟩
      have q94 : ((s[j1].toNat : Int) != 94) = false := (by rw [bne_eq_false_iff_eq]; omega); obtain ⟨j2, hj2⟩ : ∃ j, j1 + 1 = j := ⟨_, rfl⟩; have hj2I : (j1 : Int) + 1 = (j2 : Int) := (by omega); have hj2s : j2 ≤ s.size := (by omega); rw [hj2] at HD1
      by_cases hlt2 : j2 < s.size
      · have hj2d : decide ((j2 : Int) < (s.size : Int)) = true := decide_eq_true (by omega); have hj2I2 : (j2 : Int) < (s.size : Int) := (by omega); have HD2 := drop_byte hlt2
        by_cases h45 : s[j2].toNat = 45
        · have q45 : ((s[j2].toNat : Int) == 45) = true := (by rw [beq_iff_eq]; omega); obtain ⟨j3, hj3⟩ : ∃ j, j2 + 1 = j := ⟨_, rfl⟩; have hj3I : (j2 : Int) + 1 = (j3 : Int) := (by omega); have hj3s : j3 ≤ s.size := (by omega); have hJ : a + c1 + 2 = j3 := (by have := H1.out.2.2.1; omega); have hL1 : L.drop (nmR 6 L 0).2 = s[j1] :: s[j2] :: s.data.toList.drop j3 := (by rw [hC1, H1.out.2.2.2, HD1, HD2, hj3]); have HN2 : Sl _ := ⟨xnumber_any s j3 (by omega) hs w2⟩; obtain ⟨L3, hL3⟩ : ∃ l, s.data.toList.drop j3 = l := ⟨_, rfl⟩; rw [hL3] at HN2; rw [hL3] at hL1; have HL1 : Sl _ := ⟨hL1⟩; have HB94 : Sl _ := ⟨hb94⟩; have H45 : Sl _ := ⟨h45⟩; have HCC1 : Sl _ := ⟨hC1⟩; clear hL1 hb94 h45 hC1 hK; have hc3 := (nmR_le 6 L3 0).2; have hl3 : L3.length = s.size - j3 := (by rw [← hL3, List.length_drop, Array.length_toList]; rfl); have hv3 := nmV_bd L3; have hD4 : ∀ t, L3.drop t = s.data.toList.drop (j3 + t) := fun t => by rw [← hL3, List.drop_drop]
          obtain ⟨c3, hcc3⟩ : ∃ c, (nmR 6 L3 0).2 = c := ⟨_, rfl⟩; obtain ⟨v3, hvv3⟩ : ∃ v, nmV L3 = v := ⟨_, rfl⟩; rw [hcc3, hvv3] at HN2; rw [hcc3] at hc3; rw [hvv3] at hv3; obtain ⟨j4, hj4⟩ : ∃ j, j3 + c3 = j := ⟨_, rfl⟩; rw [hj4] at HN2; have hj4s : j4 ≤ s.size := (by omega); have HC3 : Sl ((nmR 6 L3 0).2 = c3 ∧ nmV L3 = v3 ∧ j3 + c3 = j4 ∧ L3.drop c3 = s.data.toList.drop j4) := ⟨hcc3, hvv3, hj4, by rw [hD4, hj4]⟩; clear hc3 hl3 hD4 hcc3 hvv3 hj4; go_wp2_with fail; refine HN2.out.mono ?_; rintro e w3 ⟨rfl, rfl⟩
          by_cases hlt4 : j4 < s.size ∧ True
          · obtain ⟨hlt4, _⟩ := hlt4; have hj4d : decide ((j4 : Int) < (s.size : Int)) = true := decide_eq_true (by omega); have hj4I : (j4 : Int) < (s.size : Int) := (by omega); have HD4 := drop_byte hlt4
            by_cases h47 : s[j4].toNat = 47
            · have q47 : ((s[j4].toNat : Int) == 47) = true := (by rw [beq_iff_eq]; omega); obtain ⟨j5, hj5⟩ : ∃ j, j4 + 1 = j := ⟨_, rfl⟩; rw [hj5] at HD4; have HN3 : Sl _ := ⟨xnumber_any s j5 (by omega) hs w3⟩; obtain ⟨L5, hL5⟩ : ∃ l, s.data.toList.drop j5 = l := ⟨_, rfl⟩; rw [hL5] at HN3 HD4; have hc5 := (nmR_le 6 L5 0).2; have hl5 : L5.length = s.size - j5 := (by rw [← hL5, List.length_drop, Array.length_toList]; rfl); have hv5 := nmV_bd L5; have HT : termL L = _ := termL_g (by have := H0.out; omega) HL1.out HB94.out H45.out (f := s[j4]) (r := L5) (by rw [HC3.out.1, HC3.out.2.2.2, HD4]) h47; obtain ⟨c5, hcc5⟩ : ∃ c, (nmR 6 L5 0).2 = c := ⟨_, rfl⟩; obtain ⟨v5, hvv5⟩ : ∃ v, nmV L5 = v := ⟨_, rfl⟩; rw [hcc5, hvv5] at HN3; rw [hcc5] at hc5; rw [hvv5] at hv5; rw [HC3.out.1, HC3.out.2.1, hcc5, hvv5, HKS.out, HCC1.out] at HT; obtain ⟨j6, hj6⟩ : ∃ j, j5 + c5 = j := ⟨_, rfl⟩; rw [hj6] at HN3; have hj5I : (j4 : Int) + 1 = (j5 : Int) := (by omega); have hz : a + (c1 + 2 + c3 + 1 + c5) = j6 := (by have := HC3.out.2.2.1; omega); have HTV : Sl (termV a (termL L) = .tuple #[.int .i64 K, .int .i64 (if true = true then -v3 else v3), .int .i64 v5, .int .i64 (j6 : Int), .bool (decide (0 < v3) && decide (0 < v5))]) := ⟨by rw [HT]; unfold termV; simp only [hz]⟩; clear hc5 hl5 HT hcc5 hvv5 hj6 HD4 hL5 h47 hj5 hz; have hvw : IntKind.i64.wrap (-1 * v3) = -v3 := (by rw [IntKind.wrap_i64]; omega); have hvw2 : IntKind.i64.wrap (-v3) = -v3 := (by rw [IntKind.wrap_i64]; omega); go_wp2_with fail; refine HN3.out.mono ?_; rintro e w4 ⟨rfl, rfl⟩
              by_cases hp3 : 0 < v3
              · have p3 : decide (0 < v3) = true := decide_eq_true hp3
                by_cases hp5 : 0 < v5
                · have p5 : decide (0 < v5) = true := decide_eq_true hp5; rw [p3, p5] at HTV; go_wp2_with fail
                  (try simp only [Exit.inBlock, Exit.then]); refine bodyPost_ret (rres5 rfl _ _ _) rfl ?_
                  exact ⟨by rw [HTV.out]; rfl, HB.out⟩
                · have p5 : decide (0 < v5) = false := decide_eq_false hp5; rw [p3, p5] at HTV; go_wp2_with fail
                  (try simp only [Exit.inBlock, Exit.then]); refine bodyPost_ret (rres5 rfl _ _ _) rfl ?_
                  exact ⟨by rw [HTV.out]; rfl, HB.out⟩
              · have p3 : decide (0 < v3) = false := decide_eq_false hp3; rw [p3] at HTV; go_wp2_with fail
                (try simp only [Exit.inBlock, Exit.then]); refine bodyPost_ret (rres5 rfl _ _ _) rfl ?_
                exact ⟨by rw [HTV.out]; rfl, HB.out⟩
            · have q47 : ((s[j4].toNat : Int) == 47) = false := (by rw [beq_eq_false_iff_ne]; omega); have HT : termL L = _ := termL_f (by have := H0.out; omega) HL1.out HB94.out H45.out (.inr ⟨s[j4], s.data.toList.drop (j4 + 1), by rw [HC3.out.1, HC3.out.2.2.2, HD4], h47⟩); rw [HC3.out.1, HC3.out.2.1, HKS.out, HCC1.out] at HT; have hz : a + (c1 + 2 + c3) = j4 := (by have := HC3.out.2.2.1; omega); have HTV : Sl (termV a (termL L) = .tuple #[.int .i64 K, .int .i64 (if true = true then -v3 else v3), .int .i64 1, .int .i64 (j4 : Int), .bool (decide (0 < v3) && decide ((0 : Int) < 1))]) := ⟨by rw [HT]; unfold termV; simp only [hz]⟩; clear HT HD4 h47 hz; have hvw : IntKind.i64.wrap (-1 * v3) = -v3 := (by rw [IntKind.wrap_i64]; omega); have hvw2 : IntKind.i64.wrap (-v3) = -v3 := (by rw [IntKind.wrap_i64]; omega)
              by_cases hp3 : 0 < v3
              · have p3 : decide (0 < v3) = true := decide_eq_true hp3; rw [p3] at HTV; go_wp2_with fail
                (try simp only [Exit.inBlock, Exit.then]); refine bodyPost_ret (rres5 rfl _ _ _) rfl ?_
                exact ⟨by rw [HTV.out]; rfl, HB.out⟩
              · have p3 : decide (0 < v3) = false := decide_eq_false hp3; rw [p3] at HTV; go_wp2_with fail
                (try simp only [Exit.inBlock, Exit.then]); refine bodyPost_ret (rres5 rfl _ _ _) rfl ?_
                exact ⟨by rw [HTV.out]; rfl, HB.out⟩
          · have hlt4' : ¬ j4 < s.size := fun h => hlt4 ⟨h, trivial⟩
            have hj4d : decide ((j4 : Int) < (s.size : Int)) = false := decide_eq_false (by omega); have HT : termL L = _ := termL_f (by have := H0.out; omega) HL1.out HB94.out H45.out (.inl (by rw [HC3.out.1, HC3.out.2.2.2, drop_end (by omega)])); rw [HC3.out.1, HC3.out.2.1, HKS.out, HCC1.out] at HT; have hz : a + (c1 + 2 + c3) = j4 := (by have := HC3.out.2.2.1; omega); have HTV : Sl (termV a (termL L) = .tuple #[.int .i64 K, .int .i64 (if true = true then -v3 else v3), .int .i64 1, .int .i64 (j4 : Int), .bool (decide (0 < v3) && decide ((0 : Int) < 1))]) := ⟨by rw [HT]; unfold termV; simp only [hz]⟩; have hj4I : ¬ (j4 : Int) < (s.size : Int) := (by omega); clear HT hlt4 hz; have hvw : IntKind.i64.wrap (-1 * v3) = -v3 := (by rw [IntKind.wrap_i64]; omega); have hvw2 : IntKind.i64.wrap (-v3) = -v3 := (by rw [IntKind.wrap_i64]; omega)
            by_cases hp3 : 0 < v3
            · have p3 : decide (0 < v3) = true := decide_eq_true hp3; rw [p3] at HTV; go_wp2_with fail
              (try simp only [Exit.inBlock, Exit.then]); refine bodyPost_ret (rres5 rfl _ _ _) rfl ?_
              exact ⟨by rw [HTV.out]; rfl, HB.out⟩
            · have p3 : decide (0 < v3) = false := decide_eq_false hp3; rw [p3] at HTV; go_wp2_with fail
              (try simp only [Exit.inBlock, Exit.then]); refine bodyPost_ret (rres5 rfl _ _ _) rfl ?_
              exact ⟨by rw [HTV.out]; rfl, HB.out⟩
        · have q45 : ((s[j2].toNat : Int) == 45) = false := (by rw [beq_eq_false_iff_ne]; omega); have hJ : a + c1 + 1 = j2 := (by have := H1.out.2.2.1; omega); have hL1 : L.drop (nmR 6 L 0).2 = s[j1] :: s.data.toList.drop j2 := (by rw [hC1, H1.out.2.2.2, HD1])
          have hn45 : ∀ d r, s.data.toList.drop j2 = d :: r → ¬ d.toNat = 45 := fun d r h => by
            rw [HD2] at h; injection h with h1 h2
            rw [← h1]; exact h45
          have HN2 : Sl _ := ⟨xnumber_any s j2 (by omega) hs w2⟩; obtain ⟨L3, hL3⟩ : ∃ l, s.data.toList.drop j2 = l := ⟨_, rfl⟩; rw [hL3] at HN2; rw [hL3] at hL1 hn45; have HL1 : Sl _ := ⟨hL1⟩; have HB94 : Sl _ := ⟨hb94⟩; have HN45 : Sl _ := ⟨hn45⟩; have HCC1 : Sl _ := ⟨hC1⟩; clear hL1 hb94 hn45 hC1 hK; have hc3 := (nmR_le 6 L3 0).2; have hl3 : L3.length = s.size - j2 := (by rw [← hL3, List.length_drop, Array.length_toList]; rfl); have hv3 := nmV_bd L3; have hD4 : ∀ t, L3.drop t = s.data.toList.drop (j2 + t) := fun t => by rw [← hL3, List.drop_drop]
          obtain ⟨c3, hcc3⟩ : ∃ c, (nmR 6 L3 0).2 = c := ⟨_, rfl⟩; obtain ⟨v3, hvv3⟩ : ∃ v, nmV L3 = v := ⟨_, rfl⟩; rw [hcc3, hvv3] at HN2; rw [hcc3] at hc3; rw [hvv3] at hv3; obtain ⟨j4, hj4⟩ : ∃ j, j2 + c3 = j := ⟨_, rfl⟩; rw [hj4] at HN2; have hj4s : j4 ≤ s.size := (by omega); have HC3 : Sl ((nmR 6 L3 0).2 = c3 ∧ nmV L3 = v3 ∧ j2 + c3 = j4 ∧ L3.drop c3 = s.data.toList.drop j4) := ⟨hcc3, hvv3, hj4, by rw [hD4, hj4]⟩; clear hc3 hl3 hD4 hcc3 hvv3 hj4; go_wp2_with fail; refine HN2.out.mono ?_; rintro e w3 ⟨rfl, rfl⟩
          by_cases hlt4 : j4 < s.size ∧ True
          · obtain ⟨hlt4, _⟩ := hlt4; have hj4d : decide ((j4 : Int) < (s.size : Int)) = true := decide_eq_true (by omega); have hj4I : (j4 : Int) < (s.size : Int) := (by omega); have HD4 := drop_byte hlt4
            by_cases h47 : s[j4].toNat = 47
            · have q47 : ((s[j4].toNat : Int) == 47) = true := (by rw [beq_iff_eq]; omega); obtain ⟨j5, hj5⟩ : ∃ j, j4 + 1 = j := ⟨_, rfl⟩; rw [hj5] at HD4; have HN3 : Sl _ := ⟨xnumber_any s j5 (by omega) hs w3⟩; obtain ⟨L5, hL5⟩ : ∃ l, s.data.toList.drop j5 = l := ⟨_, rfl⟩; rw [hL5] at HN3 HD4; have hc5 := (nmR_le 6 L5 0).2; have hl5 : L5.length = s.size - j5 := (by rw [← hL5, List.length_drop, Array.length_toList]; rfl); have hv5 := nmV_bd L5; have HT : termL L = _ := termL_e (by have := H0.out; omega) HL1.out HB94.out HN45.out (f := s[j4]) (r := L5) (by rw [HC3.out.1, HC3.out.2.2.2, HD4]) h47; obtain ⟨c5, hcc5⟩ : ∃ c, (nmR 6 L5 0).2 = c := ⟨_, rfl⟩; obtain ⟨v5, hvv5⟩ : ∃ v, nmV L5 = v := ⟨_, rfl⟩; rw [hcc5, hvv5] at HN3; rw [hcc5] at hc5; rw [hvv5] at hv5; rw [HC3.out.1, HC3.out.2.1, hcc5, hvv5, HKS.out, HCC1.out] at HT; obtain ⟨j6, hj6⟩ : ∃ j, j5 + c5 = j := ⟨_, rfl⟩; rw [hj6] at HN3; have hj5I : (j4 : Int) + 1 = (j5 : Int) := (by omega); have hz : a + (c1 + 1 + c3 + 1 + c5) = j6 := (by have := HC3.out.2.2.1; omega); have HTV : Sl (termV a (termL L) = .tuple #[.int .i64 K, .int .i64 (if false = true then -v3 else v3), .int .i64 v5, .int .i64 (j6 : Int), .bool (decide (0 < v3) && decide (0 < v5))]) := ⟨by rw [HT]; unfold termV; simp only [hz]⟩; clear hc5 hl5 HT hcc5 hvv5 hj6 HD4 hL5 h47 hj5 hz; have hvw : IntKind.i64.wrap (1 * v3) = v3 := (by rw [IntKind.wrap_i64]; omega); have hvw2 : IntKind.i64.wrap (v3) = v3 := (by rw [IntKind.wrap_i64]; omega); go_wp2_with fail; refine HN3.out.mono ?_; rintro e w4 ⟨rfl, rfl⟩
              by_cases hp3 : 0 < v3
              · have p3 : decide (0 < v3) = true := decide_eq_true hp3
                by_cases hp5 : 0 < v5
                · have p5 : decide (0 < v5) = true := decide_eq_true hp5; rw [p3, p5] at HTV; go_wp2_with fail
                  (try simp only [Exit.inBlock, Exit.then]); refine bodyPost_ret (rres5 rfl _ _ _) rfl ?_
                  exact ⟨by rw [HTV.out]; rfl, HB.out⟩
                · have p5 : decide (0 < v5) = false := decide_eq_false hp5; rw [p3, p5] at HTV; go_wp2_with fail
                  (try simp only [Exit.inBlock, Exit.then]); refine bodyPost_ret (rres5 rfl _ _ _) rfl ?_
                  exact ⟨by rw [HTV.out]; rfl, HB.out⟩
              · have p3 : decide (0 < v3) = false := decide_eq_false hp3; rw [p3] at HTV; go_wp2_with fail
                (try simp only [Exit.inBlock, Exit.then]); refine bodyPost_ret (rres5 rfl _ _ _) rfl ?_
                exact ⟨by rw [HTV.out]; rfl, HB.out⟩
            · have q47 : ((s[j4].toNat : Int) == 47) = false := (by rw [beq_eq_false_iff_ne]; omega); have HT : termL L = _ := termL_d (by have := H0.out; omega) HL1.out HB94.out HN45.out (.inr ⟨s[j4], s.data.toList.drop (j4 + 1), by rw [HC3.out.1, HC3.out.2.2.2, HD4], h47⟩); rw [HC3.out.1, HC3.out.2.1, HKS.out, HCC1.out] at HT; have hz : a + (c1 + 1 + c3) = j4 := (by have := HC3.out.2.2.1; omega); have HTV : Sl (termV a (termL L) = .tuple #[.int .i64 K, .int .i64 (if false = true then -v3 else v3), .int .i64 1, .int .i64 (j4 : Int), .bool (decide (0 < v3) && decide ((0 : Int) < 1))]) := ⟨by rw [HT]; unfold termV; simp only [hz]⟩; clear HT HD4 h47 hz; have hvw : IntKind.i64.wrap (1 * v3) = v3 := (by rw [IntKind.wrap_i64]; omega); have hvw2 : IntKind.i64.wrap (v3) = v3 := (by rw [IntKind.wrap_i64]; omega)
              by_cases hp3 : 0 < v3
              · have p3 : decide (0 < v3) = true := decide_eq_true hp3; rw [p3] at HTV; go_wp2_with fail
                (try simp only [Exit.inBlock, Exit.then]); refine bodyPost_ret (rres5 rfl _ _ _) rfl ?_
                exact ⟨by rw [HTV.out]; rfl, HB.out⟩
              · have p3 : decide (0 < v3) = false := decide_eq_false hp3; rw [p3] at HTV; go_wp2_with fail
                (try simp only [Exit.inBlock, Exit.then]); refine bodyPost_ret (rres5 rfl _ _ _) rfl ?_
                exact ⟨by rw [HTV.out]; rfl, HB.out⟩
          · have hlt4' : ¬ j4 < s.size := fun h => hlt4 ⟨h, trivial⟩
            have hj4d : decide ((j4 : Int) < (s.size : Int)) = false := decide_eq_false (by omega); have HT : termL L = _ := termL_d (by have := H0.out; omega) HL1.out HB94.out HN45.out (.inl (by rw [HC3.out.1, HC3.out.2.2.2, drop_end (by omega)])); rw [HC3.out.1, HC3.out.2.1, HKS.out, HCC1.out] at HT; have hz : a + (c1 + 1 + c3) = j4 := (by have := HC3.out.2.2.1; omega); have HTV : Sl (termV a (termL L) = .tuple #[.int .i64 K, .int .i64 (if false = true then -v3 else v3), .int .i64 1, .int .i64 (j4 : Int), .bool (decide (0 < v3) && decide ((0 : Int) < 1))]) := ⟨by rw [HT]; unfold termV; simp only [hz]⟩; have hj4I : ¬ (j4 : Int) < (s.size : Int) := (by omega); clear HT hlt4 hz; have hvw : IntKind.i64.wrap (1 * v3) = v3 := (by rw [IntKind.wrap_i64]; omega); have hvw2 : IntKind.i64.wrap (v3) = v3 := (by rw [IntKind.wrap_i64]; omega)
            by_cases hp3 : 0 < v3
            · have p3 : decide (0 < v3) = true := decide_eq_true hp3; rw [p3] at HTV; go_wp2_with fail
              (try simp only [Exit.inBlock, Exit.then]); refine bodyPost_ret (rres5 rfl _ _ _) rfl ?_
              exact ⟨by rw [HTV.out]; rfl, HB.out⟩
            · have p3 : decide (0 < v3) = false := decide_eq_false hp3; rw [p3] at HTV; go_wp2_with fail
              (try simp only [Exit.inBlock, Exit.then]); refine bodyPost_ret (rres5 rfl _ _ _) rfl ?_
              exact ⟨by rw [HTV.out]; rfl, HB.out⟩
      · have hj2d : decide ((j2 : Int) < (s.size : Int)) = false := decide_eq_false (by omega); have hJ : a + c1 + 1 = j2 := (by have := H1.out.2.2.1; omega); have hL1 : L.drop (nmR 6 L 0).2 = s[j1] :: s.data.toList.drop j2 := (by rw [hC1, H1.out.2.2.2, HD1])
        have hn45 : ∀ d r, s.data.toList.drop j2 = d :: r → ¬ d.toNat = 45 := fun d r h => by
          rw [drop_end (by omega)] at h; cases h
        have HN2 : Sl _ := ⟨xnumber_any s j2 (by omega) hs w2⟩; obtain ⟨L3, hL3⟩ : ∃ l, s.data.toList.drop j2 = l := ⟨_, rfl⟩; rw [hL3] at HN2; rw [hL3] at hL1 hn45; have HL1 : Sl _ := ⟨hL1⟩; have HB94 : Sl _ := ⟨hb94⟩; have HN45 : Sl _ := ⟨hn45⟩; have HCC1 : Sl _ := ⟨hC1⟩; clear hL1 hb94 hn45 hC1 hK; have hc3 := (nmR_le 6 L3 0).2; have hl3 : L3.length = s.size - j2 := (by rw [← hL3, List.length_drop, Array.length_toList]; rfl); have hv3 := nmV_bd L3; have hD4 : ∀ t, L3.drop t = s.data.toList.drop (j2 + t) := fun t => by rw [← hL3, List.drop_drop]
        obtain ⟨c3, hcc3⟩ : ∃ c, (nmR 6 L3 0).2 = c := ⟨_, rfl⟩; obtain ⟨v3, hvv3⟩ : ∃ v, nmV L3 = v := ⟨_, rfl⟩; rw [hcc3, hvv3] at HN2; rw [hcc3] at hc3; rw [hvv3] at hv3; obtain ⟨j4, hj4⟩ : ∃ j, j2 + c3 = j := ⟨_, rfl⟩; rw [hj4] at HN2; have hj4s : j4 ≤ s.size := (by omega); have HC3 : Sl ((nmR 6 L3 0).2 = c3 ∧ nmV L3 = v3 ∧ j2 + c3 = j4 ∧ L3.drop c3 = s.data.toList.drop j4) := ⟨hcc3, hvv3, hj4, by rw [hD4, hj4]⟩; clear hc3 hl3 hD4 hcc3 hvv3 hj4; go_wp2_with fail; refine HN2.out.mono ?_; rintro e w3 ⟨rfl, rfl⟩
        by_cases hlt4 : j4 < s.size ∧ True
        · obtain ⟨hlt4, _⟩ := hlt4; have hj4d : decide ((j4 : Int) < (s.size : Int)) = true := decide_eq_true (by omega); have hj4I : (j4 : Int) < (s.size : Int) := (by omega); have HD4 := drop_byte hlt4
          by_cases h47 : s[j4].toNat = 47
          · have q47 : ((s[j4].toNat : Int) == 47) = true := (by rw [beq_iff_eq]; omega); obtain ⟨j5, hj5⟩ : ∃ j, j4 + 1 = j := ⟨_, rfl⟩; rw [hj5] at HD4; have HN3 : Sl _ := ⟨xnumber_any s j5 (by omega) hs w3⟩; obtain ⟨L5, hL5⟩ : ∃ l, s.data.toList.drop j5 = l := ⟨_, rfl⟩; rw [hL5] at HN3 HD4; have hc5 := (nmR_le 6 L5 0).2; have hl5 : L5.length = s.size - j5 := (by rw [← hL5, List.length_drop, Array.length_toList]; rfl); have hv5 := nmV_bd L5; have HT : termL L = _ := termL_e (by have := H0.out; omega) HL1.out HB94.out HN45.out (f := s[j4]) (r := L5) (by rw [HC3.out.1, HC3.out.2.2.2, HD4]) h47; obtain ⟨c5, hcc5⟩ : ∃ c, (nmR 6 L5 0).2 = c := ⟨_, rfl⟩; obtain ⟨v5, hvv5⟩ : ∃ v, nmV L5 = v := ⟨_, rfl⟩; rw [hcc5, hvv5] at HN3; rw [hcc5] at hc5; rw [hvv5] at hv5; rw [HC3.out.1, HC3.out.2.1, hcc5, hvv5, HKS.out, HCC1.out] at HT; obtain ⟨j6, hj6⟩ : ∃ j, j5 + c5 = j := ⟨_, rfl⟩; rw [hj6] at HN3; have hj5I : (j4 : Int) + 1 = (j5 : Int) := (by omega); have hz : a + (c1 + 1 + c3 + 1 + c5) = j6 := (by have := HC3.out.2.2.1; omega); have HTV : Sl (termV a (termL L) = .tuple #[.int .i64 K, .int .i64 (if false = true then -v3 else v3), .int .i64 v5, .int .i64 (j6 : Int), .bool (decide (0 < v3) && decide (0 < v5))]) := ⟨by rw [HT]; unfold termV; simp only [hz]⟩; clear hc5 hl5 HT hcc5 hvv5 hj6 HD4 hL5 h47 hj5 hz; have hvw : IntKind.i64.wrap (1 * v3) = v3 := (by rw [IntKind.wrap_i64]; omega); have hvw2 : IntKind.i64.wrap (v3) = v3 := (by rw [IntKind.wrap_i64]; omega); go_wp2_with fail; refine HN3.out.mono ?_; rintro e w4 ⟨rfl, rfl⟩
            by_cases hp3 : 0 < v3
            · have p3 : decide (0 < v3) = true := decide_eq_true hp3
              by_cases hp5 : 0 < v5
              · have p5 : decide (0 < v5) = true := decide_eq_true hp5; rw [p3, p5] at HTV; go_wp2_with fail
                (try simp only [Exit.inBlock, Exit.then]); refine bodyPost_ret (rres5 rfl _ _ _) rfl ?_
                exact ⟨by rw [HTV.out]; rfl, HB.out⟩
              · have p5 : decide (0 < v5) = false := decide_eq_false hp5; rw [p3, p5] at HTV; go_wp2_with fail
                (try simp only [Exit.inBlock, Exit.then]); refine bodyPost_ret (rres5 rfl _ _ _) rfl ?_
                exact ⟨by rw [HTV.out]; rfl, HB.out⟩
            · have p3 : decide (0 < v3) = false := decide_eq_false hp3; rw [p3] at HTV; go_wp2_with fail
              (try simp only [Exit.inBlock, Exit.then]); refine bodyPost_ret (rres5 rfl _ _ _) rfl ?_
              exact ⟨by rw [HTV.out]; rfl, HB.out⟩
          · have q47 : ((s[j4].toNat : Int) == 47) = false := (by rw [beq_eq_false_iff_ne]; omega); have HT : termL L = _ := termL_d (by have := H0.out; omega) HL1.out HB94.out HN45.out (.inr ⟨s[j4], s.data.toList.drop (j4 + 1), by rw [HC3.out.1, HC3.out.2.2.2, HD4], h47⟩); rw [HC3.out.1, HC3.out.2.1, HKS.out, HCC1.out] at HT; have hz : a + (c1 + 1 + c3) = j4 := (by have := HC3.out.2.2.1; omega); have HTV : Sl (termV a (termL L) = .tuple #[.int .i64 K, .int .i64 (if false = true then -v3 else v3), .int .i64 1, .int .i64 (j4 : Int), .bool (decide (0 < v3) && decide ((0 : Int) < 1))]) := ⟨by rw [HT]; unfold termV; simp only [hz]⟩; clear HT HD4 h47 hz; have hvw : IntKind.i64.wrap (1 * v3) = v3 := (by rw [IntKind.wrap_i64]; omega); have hvw2 : IntKind.i64.wrap (v3) = v3 := (by rw [IntKind.wrap_i64]; omega)
            by_cases hp3 : 0 < v3
            · have p3 : decide (0 < v3) = true := decide_eq_true hp3; rw [p3] at HTV; go_wp2_with fail
              (try simp only [Exit.inBlock, Exit.then]); refine bodyPost_ret (rres5 rfl _ _ _) rfl ?_
              exact ⟨by rw [HTV.out]; rfl, HB.out⟩
            · have p3 : decide (0 < v3) = false := decide_eq_false hp3; rw [p3] at HTV; go_wp2_with fail
              (try simp only [Exit.inBlock, Exit.then]); refine bodyPost_ret (rres5 rfl _ _ _) rfl ?_
              exact ⟨by rw [HTV.out]; rfl, HB.out⟩
        · have hlt4' : ¬ j4 < s.size := fun h => hlt4 ⟨h, trivial⟩
          have hj4d : decide ((j4 : Int) < (s.size : Int)) = false := decide_eq_false (by omega); have HT : termL L = _ := termL_d (by have := H0.out; omega) HL1.out HB94.out HN45.out (.inl (by rw [HC3.out.1, HC3.out.2.2.2, drop_end (by omega)])); rw [HC3.out.1, HC3.out.2.1, HKS.out, HCC1.out] at HT; have hz : a + (c1 + 1 + c3) = j4 := (by have := HC3.out.2.2.1; omega); have HTV : Sl (termV a (termL L) = .tuple #[.int .i64 K, .int .i64 (if false = true then -v3 else v3), .int .i64 1, .int .i64 (j4 : Int), .bool (decide (0 < v3) && decide ((0 : Int) < 1))]) := ⟨by rw [HT]; unfold termV; simp only [hz]⟩; have hj4I : ¬ (j4 : Int) < (s.size : Int) := (by omega); clear HT hlt4 hz; have hvw : IntKind.i64.wrap (1 * v3) = v3 := (by rw [IntKind.wrap_i64]; omega); have hvw2 : IntKind.i64.wrap (v3) = v3 := (by rw [IntKind.wrap_i64]; omega)
          by_cases hp3 : 0 < v3
          · have p3 : decide (0 < v3) = true := decide_eq_true hp3; rw [p3] at HTV; go_wp2_with fail
            (try simp only [Exit.inBlock, Exit.then]); refine bodyPost_ret (rres5 rfl _ _ _) rfl ?_
            exact ⟨by rw [HTV.out]; rfl, HB.out⟩
          · have p3 : decide (0 < v3) = false := decide_eq_false hp3; rw [p3] at HTV; go_wp2_with fail
            (try simp only [Exit.inBlock, Exit.then]); refine bodyPost_ret (rres5 rfl _ _ _) rfl ?_
            exact ⟨by rw [HTV.out]; rfl, HB.out⟩
end Go.Proofs.YtalodfjplegibaaGreatDoor
