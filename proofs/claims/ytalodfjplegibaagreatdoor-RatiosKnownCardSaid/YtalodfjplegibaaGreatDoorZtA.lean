/- What the rows of the laws of package ratios need: their list of tables, a world for the witness, the last step, an argument that is a ratio. Parts began as the given page's toy and as the guide's post_of_below, which its page bids to copy. -/
import Derived.Test.YtalodfjplegibaaGreatDoorCards
import Derived.Test.YtalodfjplegibaaGreatDoorTie
import Derived.Test.YtalodfjplegibaaGreatDoorRatI
import Derived.ProofKit
import Derived.OpenShut
import Derived.Deep.DeepHandedRow
import Derived.Lib.LaidTab
import Derived.Stop.LaidErr
import Derived.ChangeSame
import Derived.ChangeSlices
import Derived.Carry
import Derived.Lay
import Derived.ChangeMaps5
import Derived.Test.YtalodfjplegibaaGreatDoorRxD
import Derived.Test.YtalodfjplegibaaGreatDoorStrA
import Derived.Test.YtalodfjplegibaaGreatDoorShelC
import Derived.Laws.Strings
import Derived.Test.YtalodfjplegibaaGreatDoorRxB
import Derived.Lib.ItoaNum
import Derived.Lib.LaidU8
import Derived.Shelf.Vars
import Derived.Lib.AppendIntMem
import Derived.Test.YtalodfjplegibaaGreatDoorRatE
import Derived.Test.YtalodfjplegibaaGreatDoorRatG
import Derived.Test.YtalodfjplegibaaGreatDoorOrdA
import Derived.Test.YtalodfjplegibaaGreatDoorMixN
import Derived.Test.YtalodfjplegibaaGreatDoorMixK
import Derived.Test.YtalodfjplegibaaGreatDoorHlb
import Derived.Deep.AppendLies
import Derived.Deep.Cut
import Derived.Test.YtalodfjplegibaaGreatDoorMixT
import Derived.Test.YtalodfjplegibaaGreatDoorMixG
import Derived.Test.YtalodfjplegibaaGreatDoorRatK
import Derived.Test.YtalodfjplegibaaGreatDoorRatZ
import Derived.Test.YtalodfjplegibaaGreatDoorRatN
import Derived.Test.YtalodfjplegibaaGreatDoorRxA
namespace Go.Proofs.YtalodfjplegibaaGreatDoor
set_option linter.unusedSimpArgs false
open Go.ChangeShapes Go.WideShapes Go.ChangeAt Go.RowKit
set_option linter.unusedVariables false
section
variable {H : Type} {enc : TypeId × Value → H} {P : Program}
theorem post_of_below {f : Func} {s : ChangeSpec} {apart fresh handsOn again : Bool} {W W' : World} {args : Array Value} {v : Value} {ds gs : List (DataW H)} {before pa pv : List MemPlace}
    (hW : DataW.Whole enc P f.params.toList s.vars apart W args.toList ds gs before)
    (hres : ∀ (b : Nat) (sp : Nat → Bool) (hd : Bool), DataW.TrodAll enc P W' b sp hd f.resultTypes.toList (v.resultList f.resultTypes.size) (s.fn H (ds ++ gs)).results [])
    (hargs : ∀ sp : Nat → Bool, (∀ p ∈ before, sp p.block = true) → DataW.TrodAll enc P W' 0 sp true f.params.toList args.toList (s.fn H (ds ++ gs)).args pa)
    (hvars : ∀ sp : Nat → Bool, (∀ p ∈ before, sp p.block = true) → DataW.TrodVars enc P W' sp s.vars (s.fn H (ds ++ gs)).vars pv)
    (hps : before = pa ++ pv) (hb : Below W.heap.size W W')
    (hok : ∀ (j : Nat) (t : TypeId) (r : Value), f.resultTypes[j]? = some t → (v.resultList f.resultTypes.size)[j]? = some r → Value.okWide P W' .any 0 t r) :
    s.post enc P f apart fresh handsOn again W args v W' := by
  have hlt : ∀ p ∈ before, p.block < W.heap.size := fun p hp => hW.lt p hp
  have hold : ∀ p ∈ before, (fun b => decide (b < W.heap.size)) p.block = true := fun p hp => by simpa using hlt p hp
  refine ⟨ds, gs, before, [], pa, pv, hW, hres _ _ _, hargs _ hold, hvars _ hold, World.keptBut_mono (fun p hp => ⟨hp, ?_⟩) (hb.frame (· ∈ before)), fun _ => ?_⟩
  · rw [hps, List.mem_append] at hp; exact Or.inr hp
  · obtain ⟨_, _, _, _, _, hz, hn⟩ := hW; refine ⟨hok, _, _, ([] ++ pa) ++ pv, ⟨[] ++ pa, pv, trodAll_append (hargs _ (fun _ _ => rfl)) (hres _ _ _), hvars _ (fun _ _ => rfl), rfl, ?_, ?_⟩, ?_⟩
    · intro b off hp; have hin : MemPlace.cell b off ∈ before := (by rw [hps]; simpa using hp); rw [hb.frozen (hlt _ hin)]; exact hz b off hin
    · intro ha; have := hn ha; rw [hps] at this; simpa using this
    · intro p hp _; rw [hps]; simpa using hp
end
theorem ownK : ownKnob Tryz.prog.godebug = none := by kernel_rfl
theorem tabR_eq : (Rows.laid_quintadena_ratios_primes : DataW Unit) = Lib.tabData .i64 [2, 3, 5, 7, 11, 13] := by kernel_rfl
end Go.Proofs.YtalodfjplegibaaGreatDoor
namespace Go.Proofs.YtalodfjplegibaaGreatDoor
set_option linter.unusedSimpArgs false
open Go.ChangeShapes Go.WideShapes Go.ChangeAt Go.RowKit
set_option linter.unusedVariables false
end Go.Proofs.YtalodfjplegibaaGreatDoor
namespace Go.Proofs.YtalodfjplegibaaGreatDoor
set_option linter.unusedSimpArgs false
open Go.RowKit
set_option linter.unusedVariables false
def ParX (w : World) : Prop := ((∃ m : Int, w.cell? ⟨2, 0, none⟩ = some (.int .i64 m)) ∧ (∃ ev, w.cell? ⟨3, 0, none⟩ = some ev ∧ (ev = .nilIface ∨ ∃ te pe, ev = .iface te pe)) ∧ (∃ ev, w.cell? ⟨4, 0, none⟩ = some ev ∧ (ev = .nilIface ∨ ∃ te pe, ev = .iface te pe))) ∧ 8 < w.heap.size
theorem ParX.below {w w' : World} (h : ParX w) (hb : Below w.heap.size w w') : ParX w' := by
  obtain ⟨⟨h1, h2, h3⟩, h4⟩ := h; have hc : ∀ b, b ≤ 8 → w'.cell? ⟨b, 0, none⟩ = w.cell? ⟨b, 0, none⟩ := fun b hx => hb.cell (p := ⟨b, 0, none⟩) (by show b < _; omega)
  refine ⟨⟨?_, ?_, ?_⟩, Nat.lt_of_lt_of_le h4 hb.size⟩
  · rw [hc _ (by decide)]; exact h1
  · rw [hc _ (by decide)]; exact h2
  · rw [hc _ (by decide)]; exact h3
theorem xsplit_any (s : ByteArray) (hs : s.size ≤ 200) (w : World) (hP : ParX w) : Calls Tryz.prog 25 #[.string s, .string ⟨#[32]⟩] w fun e w' => (∃ g n, n = (xwordsB s).length ∧ e = .returned (.slice (some ⟨g, 0, none⟩) n n) ∧ Blk w' g 9 (strs (xwordsB s)).toArray ∧ w.heap.size ≤ g) ∧ Below w.heap.size w w' := by
  obtain ⟨⟨⟨m, hm⟩, _⟩, _⟩ := hP; refine (Tryz.strings_Split s ⟨#[32]⟩ m w (by omega) hm (by decide)).mono ?_; rintro e w' ⟨rfl, rfl⟩; refine ⟨⟨_, _, ?_, rfl, ?_, Nat.le_refl _⟩, (Below.refl _ _).alloc (Nat.le_refl _) _⟩
  · have h := Lib.splitB_all ⟨#[32]⟩ (by decide) 0 _ s rfl; rw [xsplit_words] at h; exact h.symm
  · rw [xsplit_words]; exact Blk.new _ _ _
theorem xcut_any (s : ByteArray) (c : UInt8) (hs : s.size ≤ 200) (w : World) (hP : ParX w) : Calls Tryz.prog 26 #[.string s, .string ⟨#[c]⟩] w fun e w' => e = .returned (.tuple #[.string (xB (Lib.cut s.data.toList [c]).1), .string (xB (Lib.cut s.data.toList [c]).2.1), .bool (Lib.cut s.data.toList [c]).2.2]) ∧ Below w.heap.size w w' := by
  obtain ⟨⟨⟨m, hm⟩, _⟩, _⟩ := hP; refine (Tryz.strings_Cut s ⟨#[c]⟩ m w (by omega) hm).mono ?_; rintro e w' ⟨rfl, n, rfl⟩; exact ⟨rfl, below_drewN (Below.refl _ _) n⟩
set_option maxHeartbeats 1600000 in
set_option maxRecDepth 100000 in
theorem rRead_any (s : ByteArray) (hs : s.size ≤ 200) (w : World) (hP : ParX w) : Calls Tryz.prog 27 #[.string s] w fun e w' => e = .returned (.int .i64 (rdX s.data.toList)) ∧ Below w.heap.size w w' := by
  obtain ⟨⟨_, ⟨ev1, h1, h1'⟩, ⟨ev2, h2, h2'⟩⟩, _⟩ := hP; rcases hp : Lib.parseIntB 32 s.data.toList with z | _ | _
  · have hr : rdX s.data.toList = z := (by unfold rdX; rw [hp])
    have HC : Sl (Calls Tryz.prog 51 #[.string s, .int .i64 10, .int .i64 32] w fun e w' => e = .returned (.tuple #[.int .i64 z, .nilIface]) ∧ Below w.heap.size w w') := ⟨by
      refine (Tryz.strconv_ParseInt_10_at32_ok s (by omega) z hp w).mono ?_; rintro e w' ⟨rfl, hw⟩; refine ⟨rfl, ?_⟩; rcases hw with rfl | ⟨t, rfl⟩
      · exact Below.refl _ _
      · exact Lib.bytesWorld_below _ _ _⟩
    rw [hr]; clear h1 h1' h2 h2' hp hr hs; go_enter Tryz.func27, Tryz.ntmps27; go_wp2_with fail; refine HC.out.mono ?_; rintro e w1 ⟨rfl, hb⟩; go_wp2_with fail; go_ret; exact ⟨rfl, hb⟩
  · have hr : rdX s.data.toList = 0 := (by unfold rdX; rw [hp])
    have HC : Sl (Calls Tryz.prog 51 #[.string s, .int .i64 10, .int .i64 32] w fun e w' => (∃ k te pe, e = .returned (.tuple #[.int .i64 k, .iface te pe])) ∧ Below w.heap.size w w') := ⟨by
      refine (Tryz.strconv_ParseInt_10_at32_syntax s (by omega) hp ev1 w h1 h1').mono ?_; rintro e w' ⟨N, rfl, _, _, hb⟩
      exact ⟨⟨_, _, _, rfl⟩, hb⟩⟩
    rw [hr]; clear h1 h1' h2 h2' hp hr hs; go_enter Tryz.func27, Tryz.ntmps27; go_wp2_with fail; refine HC.out.mono ?_; rintro e w1 ⟨⟨k, te, pe, rfl⟩, hb⟩; go_wp2_with fail; go_ret; exact ⟨rfl, hb⟩
  · have hr : rdX s.data.toList = 0 := (by unfold rdX; rw [hp])
    have HC : Sl (Calls Tryz.prog 51 #[.string s, .int .i64 10, .int .i64 32] w fun e w' => (∃ k te pe, e = .returned (.tuple #[.int .i64 k, .iface te pe])) ∧ Below w.heap.size w w') := ⟨by
      refine (Tryz.strconv_ParseInt_10_at32_range s (by omega) hp ev2 w h2 h2').mono ?_; rintro e w' ⟨N, rfl, _, _, hb⟩
      exact ⟨⟨_, _, _, rfl⟩, hb⟩⟩
    rw [hr]; clear h1 h1' h2 h2' hp hr hs; go_enter Tryz.func27, Tryz.ntmps27; go_wp2_with fail; refine HC.out.mono ?_; rintro e w1 ⟨⟨k, te, pe, rfl⟩, hb⟩; go_wp2_with fail; go_ret; exact ⟨rfl, hb⟩
end Go.Proofs.YtalodfjplegibaaGreatDoor
namespace Go.Proofs.YtalodfjplegibaaGreatDoor
open Go.ChangeShapes Go.WideShapes Go.ChangeAt Go.RowKit
set_option linter.unusedVariables false
set_option linter.unusedSimpArgs false
theorem tabZ_eq : (Rows.laid_internal_strconv_uint64pow10 : DataW Unit) = Lib.tabData .u64 Lib.pow10Tab := by kernel_rfl
theorem gTabZ : Tryz.prog.globalNamed "internal/strconv.uint64pow10" = some 1 := by kernel_rfl
theorem gErrSZ : Tryz.prog.globalNamed "strconv.ErrSyntax" = some 3 := by kernel_rfl
theorem gErrRZ : Tryz.prog.globalNamed "strconv.ErrRange" = some 4 := by kernel_rfl
def laidLZ : List (String × DataW Unit) := [("math/bits.deBruijn32tab", Rows.laid_math_bits_deBruijn32tab), ("math/bits.deBruijn64tab", Rows.laid_math_bits_deBruijn64tab), ("internal/strconv.uint64pow10", Rows.laid_internal_strconv_uint64pow10), ("unicode/utf8.acceptRanges", Rows.laid_unicode_utf8_acceptRanges), ("strconv.ErrRange", Rows.laid_strconv_ErrRange), ("strconv.ErrSyntax", Rows.laid_strconv_ErrSyntax), ("quintadena/ratios.primes", Rows.laid_quintadena_ratios_primes), ("unicode/utf8.first", Rows.laid_unicode_utf8_first)]
theorem laidLZ_pr {W : World} (h : laidMetH Tryz.prog laidLZ W) : PrT W := by
  have h1 : laidMet Tryz.prog laidLZ W := h; have h2 := h1.tail.tail.tail.tail.tail.tail; rw [tabR_eq] at h2
  obtain ⟨t, e, n, hty, ht, he, hce, hct⟩ : ∃ t e n, (Tryz.prog.globals[0]?).map (·.type) = some t ∧ Tryz.prog.underlying t = some (.array n e) ∧ Tryz.prog.underlying e = some (.int .i64) ∧ Tryz.prog.cellsOf e = 1 ∧ Tryz.prog.cellsOf t = n :=
    ⟨67, 2, 6, by kernel_rfl, by kernel_rfl, by kernel_rfl, by kernel_rfl, by kernel_rfl⟩
  exact Lib.tabIs_of_head gPr hty ht he hce hct h2
theorem laidLZ_tab {W : World} (h : laidMetH Tryz.prog laidLZ W) : Lib.TabIs Tryz.prog W "internal/strconv.uint64pow10" .u64 Lib.pow10Tab := by
  have h1 : laidMet Tryz.prog laidLZ W := h; have h2 := h1.tail.tail; rw [tabZ_eq] at h2
  obtain ⟨t, e, n, hty, ht, he, hce, hct⟩ : ∃ t e n, (Tryz.prog.globals[1]?).map (·.type) = some t ∧ Tryz.prog.underlying t = some (.array n e) ∧ Tryz.prog.underlying e = some (.int .u64) ∧ Tryz.prog.cellsOf e = 1 ∧ Tryz.prog.cellsOf t = n :=
    ⟨127, 102, 20, by kernel_rfl, by kernel_rfl, by kernel_rfl, by kernel_rfl, by kernel_rfl⟩
  exact Lib.tabIs_of_head gTabZ hty ht he hce hct h2
theorem iface_trodZ {P : Program} {w : World} {fuel : Nat} {t : TypeId} {cs : List Value} {x : DataW Unit × List MemPlace} (hu : ∃ ms, P.underlying t = some (.interface ms))
    (h : DataW.trod (fun _ => ()) P w 0 (fun _ => true) false fuel t cs = some x) : cs = [.nilIface] ∨ ∃ u v, cs = [.iface u v] := by
  obtain ⟨ms, hu⟩ := hu
  cases fuel with
  | zero => cases h
  | succ fuel =>
    unfold DataW.trod at h; rw [hu] at h; rcases cs with _ | ⟨c, _ | ⟨c2, cs⟩⟩
    · simp at h
    · cases c <;> first | exact .inl rfl | exact .inr ⟨_, _, rfl⟩ | simp at h
    · simp at h
theorem err_cellZ {W : World} (h : laidMet Tryz.prog laidLZ W) {n : String} {d : DataW Unit} {g : Nat} {t : TypeId} (hm : (n, d) ∈ laidLZ) (hg : Tryz.prog.globalNamed n = some g) (ht : (Tryz.prog.globals[g]?).map (·.type) = some t) (hu : ∃ ms, Tryz.prog.underlying t = some (.interface ms)) :
    ∃ ev, W.cell? ⟨g, 0, none⟩ = some ev ∧ (ev = .nilIface ∨ ∃ te pe, ev = .iface te pe) := by
  obtain ⟨g', t', cs, fuel, p, hg', ht', hvar, hd⟩ := Lib.laidMet.reads h hm; obtain rfl := Option.some.inj (hg.symm.trans hg'); obtain rfl := Option.some.inj (ht.symm.trans ht'); have hc := World.var?_cell hg hvar 0; rcases iface_trodZ hu hd with e | ⟨u, v, e⟩
  · have e2 : cs[0]? = some .nilIface := (by rw [← Array.getElem?_toList, e]; rfl); exact ⟨_, hc.trans e2, .inl rfl⟩
  · have e2 : cs[0]? = some (.iface u v) := (by rw [← Array.getElem?_toList, e]; rfl); exact ⟨_, hc.trans e2, .inr ⟨_, _, rfl⟩⟩
theorem laidLZ_par {W : World} (h : laidMetH Tryz.prog laidLZ W) (hs : W.ShapedOpen Tryz.prog) (h8 : 8 < W.heap.size) : ParX W := by
  have h1 : laidMet Tryz.prog laidLZ W := h; refine ⟨⟨Go.Proofs.cell_of_shapedOpen_int (zero := #[.int .i64 0]) (t := 3) hs (of_decide_eq_true (by kernel_rfl)) (by kernel_rfl) rfl (by kernel_rfl) (by kernel_rfl) Tryz.underlying3, ?_, ?_⟩, h8⟩
  · exact err_cellZ h1 (n := "strconv.ErrSyntax") (d := Rows.laid_strconv_ErrSyntax) (t := 76) (by unfold laidLZ; simp) gErrSZ (by kernel_rfl) ⟨_, Tryz.underlying76⟩
  · exact err_cellZ h1 (n := "strconv.ErrRange") (d := Rows.laid_strconv_ErrRange) (t := 76) (by unfold laidLZ; simp) gErrRZ (by kernel_rfl) ⟨_, Tryz.underlying76⟩
theorem laidLZ_size {W : World} (h : laidMetH Tryz.prog laidLZ W) : 8 < W.heap.size := by
  have h1 : laidMet Tryz.prog laidLZ W := h; obtain ⟨g', t', cs, fuel, p, hg', ht', hvar, hd⟩ := Lib.laidMet.reads h1 (n := "unicode/utf8.acceptRanges") (d := Rows.laid_unicode_utf8_acceptRanges) (by unfold laidLZ; simp); have hg : Tryz.prog.globalNamed "unicode/utf8.acceptRanges" = some 8 := (by kernel_rfl)
  unfold World.var? at hvar; rw [hg] at hvar; simp only [Option.bind_some] at hvar; rcases Nat.lt_or_ge 8 W.heap.size with h | h
  · exact Nat.lt_of_le_of_lt (by decide) h
  · rw [Array.getElem?_eq_none h] at hvar; cases hvar
theorem tabZ_below {w w' : World} (h : Lib.TabIs Tryz.prog w "internal/strconv.uint64pow10" .u64 Lib.pow10Tab) (hb : Below w.heap.size w w') : Lib.TabIs Tryz.prog w' "internal/strconv.uint64pow10" .u64 Lib.pow10Tab := by
  unfold Lib.TabIs World.var? at h ⊢; rcases hg : Tryz.prog.globalNamed "internal/strconv.uint64pow10" with _ | g
  · rw [hg] at h; cases h
  · rw [hg] at h; simp only [Option.bind_some] at h ⊢
    have hlt : g < w.heap.size := by
      rcases Nat.lt_or_ge g w.heap.size with h' | h'
      · exact h'
      · rw [Array.getElem?_eq_none h'] at h; cases h
    rw [hb.block g hlt]; exact h
theorem fmt_okZ {w : World} (h : Lib.TabIs Tryz.prog w "internal/strconv.uint64pow10" .u64 Lib.pow10Tab) : FmtOK w := fun z W h1 h2 hb => by
  refine (Tryz.strconv_FormatInt_10 z (by omega) (by omega) W (tabZ_below h hb)).mono ?_; rintro e w2 ⟨rfl, kk, os, rfl⟩; exact ⟨rfl, Lib.below_grow _ W (Nat.le_refl _) kk os⟩
noncomputable def laidWorldZ (os : Os) : World := World.laidAll Tryz.prog os laidLZ
theorem laid_metZ (os : Os) (args : Array Value) : laidMet Tryz.prog laidLZ ((laidWorldZ os).forCall (fun _ _ => 0) ⟨#[], args, []⟩).memory :=
  laidMet_laidAll args (by kernel_rfl) (by kernel_rfl)
end Go.Proofs.YtalodfjplegibaaGreatDoor
namespace Go.Proofs.YtalodfjplegibaaGreatDoor
set_option linter.unusedSimpArgs false
set_option linter.unusedVariables false
theorem bern (u : Nat) : ∀ n : Nat, u ^ n * (u + n) ≤ (u + 1) ^ n * u
  | 0 => by simp
  | n+1 => by
    have ih := bern u n; have e1 : (u + 1) ^ (n + 1) * u = (u + 1) * ((u + 1) ^ n * u) := (by rw [Nat.pow_succ]; ac_rfl); have e2 := Nat.mul_le_mul_left (u + 1) ih; have e3 : (u + 1) * (u ^ n * (u + n)) = u ^ n * ((u + 1) * (u + n)) := (by ac_rfl); have e4 : u ^ (n + 1) * (u + (n + 1)) = u ^ n * (u * (u + (n + 1))) := (by rw [Nat.pow_succ]; ac_rfl)
    have e5 : u * (u + (n + 1)) ≤ (u + 1) * (u + n) := by
      simp only [Nat.mul_add, Nat.add_mul, Nat.one_mul, Nat.mul_one]; omega
    rw [e1, e4]; exact Nat.le_trans (Nat.mul_le_mul_left _ e5) (by rw [← e3]; exact e2)
theorem bern2 {u : Nat} (hu : 1 ≤ u) : 2 * u ^ u ≤ (u + 1) ^ u := by
  have h := bern u u; have e : u ^ u * (u + u) = (2 * u ^ u) * u := (by rw [← Nat.two_mul]; ac_rfl); rw [e] at h; exact Nat.le_of_mul_le_mul_right h hu
theorem apart {u d P t : Nat} (hu : 1 ≤ u) (h : u < d) (hP : u * (t + 1) ≤ 2 ^ P) : u ^ 2 ^ P * 2 ^ t < d ^ 2 ^ P := by
  have hq : t + 1 ≤ 2 ^ P / u := (by rw [Nat.le_div_iff_mul_le hu, Nat.mul_comm]; exact hP); have hm := Nat.div_add_mod (2 ^ P) u; have hp : 0 < u ^ 2 ^ P := Nat.pow_pos hu; generalize 2 ^ P / u = q at *
  generalize 2 ^ P % u = r at *
  generalize 2 ^ P = M at *
  have h1 : (u + 1) ^ M ≤ d ^ M := Nat.pow_le_pow_left h M; have h2 : (u + 1) ^ M = ((u + 1) ^ u) ^ q * (u + 1) ^ r := (by rw [← Nat.pow_mul, ← Nat.pow_add, hm]); have h3 : (2 * u ^ u) ^ q * u ^ r ≤ ((u + 1) ^ u) ^ q * (u + 1) ^ r := Nat.mul_le_mul (Nat.pow_le_pow_left (bern2 hu) q) (Nat.pow_le_pow_left (Nat.le_succ u) r); have h4 : (2 * u ^ u) ^ q * u ^ r = 2 ^ q * u ^ M := (by rw [Nat.mul_pow, ← Nat.pow_mul, Nat.mul_assoc, ← Nat.pow_add, hm]); have h5 : 2 ^ (t + 1) ≤ 2 ^ q := Nat.pow_le_pow_right (by decide) hq; have h6 := Nat.mul_le_mul_right (u ^ M) h5; rw [Nat.pow_succ] at h6; have h7 : 0 < 2 ^ t * u ^ M := Nat.mul_pos (Nat.pow_pos (by decide)) hp; rw [Nat.mul_comm (u ^ M)]; have h8 : 2 ^ t * 2 * u ^ M = 2 ^ t * u ^ M + 2 ^ t * u ^ M := (by rw [Nat.mul_comm (2 ^ t) 2, Nat.mul_assoc, Nat.two_mul]); omega
def tote (e : Nat → Nat) : List (Nat × Int) → Nat
  | [] => 0
  | (n, k) :: l => e n * k.natAbs + tote e l
theorem widthE {B : Nat → Nat × Nat} {e : Nat → Nat} : ∀ {l : List (Nat × Int)}, (∀ x ∈ l, (B x.1).2 ≤ (B x.1).1 + e x.1) → (sumB B l).1.2 ≤ (sumB B l).1.1 + tote e l ∧ (sumB B l).2.2 ≤ (sumB B l).2.1 + tote e l
  | [], _ => by simp [sumB, tote]
  | (n, k) :: l, h => by
    obtain ⟨h1, h2⟩ := widthE (B := B) (e := e) (l := l) fun x hx => h x (List.mem_cons_of_mem _ hx)
    have hn := h _ List.mem_cons_self; simp only [] at hn; have hm := Nat.mul_le_mul_right k.natAbs hn; rw [Nat.add_mul] at hm; rw [sumB, tote]
    split <;> simp only [] <;> omega
theorem decidedE {B : Nat → Nat × Nat} {e : Nat → Nat} {l : List (Nat × Int)} {P T : Nat} (hB : ∀ x ∈ l, Bd x.1 P (B x.1)) (hw : ∀ x ∈ l, (B x.1).2 ≤ (B x.1).1 + e x.1) (hT : tote e l ≤ T) (h0 : 1 ≤ up l ∧ 1 ≤ down l)
    (hs : up l * (2 * T + 1) ≤ 2 ^ P ∨ down l * (2 * T + 1) ≤ 2 ^ P) (hg : guessG (sumB B l) = none) : up l = down l := by
  obtain ⟨w1, w2⟩ := widthE hw; obtain ⟨b1, b2⟩ := sumB_bd hB; unfold guessG at hg
  split at hg
  · cases hg
  · rename_i c1
    split at hg
    · cases hg
    · rename_i c2; unfold Bd at b1 b2
      have key : ∀ {u d : Nat} {x y : Nat × Nat}, (2 ^ x.1 ≤ u ^ 2 ^ P ∧ u ^ 2 ^ P ≤ 2 ^ x.2) → (2 ^ y.1 ≤ d ^ 2 ^ P ∧ d ^ 2 ^ P ≤ 2 ^ y.2) → x.2 ≤ x.1 + T → y.2 ≤ y.1 + T → y.1 ≤ x.2 → 1 ≤ u → (u * (2 * T + 1) ≤ 2 ^ P ∨ d * (2 * T + 1) ≤ 2 ^ P) → ¬ u < d := by
        intro u d x y hx hy wx wy hyx hu hP hlt
        have hP1 : u * (2 * T + 1) ≤ 2 ^ P := by
          rcases hP with h | h
          · exact h
          · exact Nat.le_trans (Nat.mul_le_mul_right _ (Nat.le_of_lt hlt)) h
        have a1 := apart hu hlt hP1; have a2 : d ^ 2 ^ P ≤ 2 ^ (x.1 + 2 * T) := Nat.le_trans hy.2 (Nat.pow_le_pow_right (by decide) (by omega)); rw [Nat.pow_add] at a2; have a3 := Nat.mul_le_mul_right (2 ^ (2 * T)) hx.1; omega
      have n1 := key b1 b2 (by omega) (by omega) (by omega) h0.1 hs; have n2 := key b2 b1 (by omega) (by omega) (by omega) h0.2 hs.symm; omega
theorem upc (v : Nat) : ∃ d, (if 0 < v % W64 then 1 else 0) = d ∧ (d = 0 ∧ v % W64 = 0 ∨ d = 1 ∧ 0 < v % W64) := by
  split
  · exact ⟨1, rfl, .inr ⟨rfl, by assumption⟩⟩
  · exact ⟨0, rfl, .inl ⟨rfl, by omega⟩⟩
theorem W63_pos : 0 < W63 := by unfold W63; omega
theorem qloop_bd {n : Nat} (r : Nat) : ∀ (t a b s : Nat), a * 2 ^ s ≤ n ^ 2 ^ t * W63 → n ^ 2 ^ t * W63 ≤ b * 2 ^ s → W63 ≤ a → b < 2 * W63 → Bd n (t + r) (qloop r a b s) := by
  induction r with
  | zero =>
    intro t a b s h1 h2 h3 h4; unfold qloop Bd; refine ⟨?_, ?_⟩
    · have : 2 ^ s * W63 ≤ n ^ 2 ^ t * W63 := Nat.le_trans (by rw [Nat.mul_comm]; exact Nat.mul_le_mul_right _ h3) h1; exact Nat.le_of_mul_le_mul_right this W63_pos
    · have : n ^ 2 ^ t * W63 ≤ 2 ^ (s + 1) * W63 := Nat.le_trans h2 (by
        rw [Nat.pow_succ, Nat.mul_assoc, Nat.mul_comm b]
        exact Nat.mul_le_mul_left _ (by omega))
      exact Nat.le_of_mul_le_mul_right this W63_pos
  | succ r ih =>
    intro t a b s h1 h2 h3 h4; have hD := W63_pos; have et : t + (r + 1) = t + 1 + r := (by omega); have p2 : (2 : Nat) ^ (2 * s) = 2 ^ s * 2 ^ s := (by rw [Nat.two_mul, Nat.pow_add])
    have e1 : a * a * 2 ^ (2 * s) ≤ n ^ 2 ^ (t + 1) * (W63 * W63) := by
      have := Nat.mul_le_mul h1 h1; rw [pow_two_mul, p2]
      calc a * a * (2 ^ s * 2 ^ s) = (a * 2 ^ s) * (a * 2 ^ s) := by ac_rfl
        _ ≤ _ := this
        _ = _ := by ac_rfl
    have e2 : n ^ 2 ^ (t + 1) * (W63 * W63) ≤ b * b * 2 ^ (2 * s) := by
      have := Nat.mul_le_mul h2 h2; rw [pow_two_mul, p2]
      calc n ^ 2 ^ t * n ^ 2 ^ t * (W63 * W63) = (n ^ 2 ^ t * W63) * (n ^ 2 ^ t * W63) := by ac_rfl
        _ ≤ _ := this
        _ = _ := by ac_rfl
    have la : W63 * W63 ≤ a * a := Nat.mul_le_mul h3 h3; have lb : b * b < 2 * W63 * (2 * W63) := Nat.mul_lt_mul'' h4 h4
    have lab : a * a ≤ b * b := by
      have h5 : a * a * 2 ^ (2 * s) ≤ b * b * 2 ^ (2 * s) := Nat.le_trans e1 e2; exact Nat.le_of_mul_le_mul_right h5 (Nat.pow_pos (by decide))
    have stop : Bd n (t + (r + 1)) (s * 2 ^ (r + 1), (s + 1) * 2 ^ (r + 1)) := by
      unfold Bd
      have l1 : 2 ^ s ≤ n ^ 2 ^ t := by
        have : 2 ^ s * W63 ≤ n ^ 2 ^ t * W63 := Nat.le_trans (by rw [Nat.mul_comm]; exact Nat.mul_le_mul_right _ h3) h1; exact Nat.le_of_mul_le_mul_right this hD
      have l2 : n ^ 2 ^ t ≤ 2 ^ (s + 1) := by
        have : n ^ 2 ^ t * W63 ≤ 2 ^ (s + 1) * W63 := Nat.le_trans h2 (by
          rw [Nat.pow_succ, Nat.mul_assoc, Nat.mul_comm b]
          exact Nat.mul_le_mul_left _ (by omega))
        exact Nat.le_of_mul_le_mul_right this hD
      rw [Nat.pow_add 2 t, Nat.pow_mul n, Nat.pow_mul 2 s, Nat.pow_mul 2 (s + 1)]; exact ⟨Nat.pow_le_pow_left l1 _, Nat.pow_le_pow_left l2 _⟩
    rw [qloop]
    cases hq : qstep a b s with
    | none => exact stop
    | some y =>
      obtain ⟨x, z, s'⟩ := y; rw [et]; unfold qstep at hq; simp only [] at hq; generalize a * a = p at *
      generalize b * b = q at *
      have hb01 : p / W64 / W63 = 0 ∨ p / W64 / W63 = 1 := (by unfold W63 W64 at *; omega); rcases hb01 with h0 | h0
      · rw [h0] at hq; simp only [if_true] at hq; obtain ⟨d, hd, hd2⟩ := upc (2 * q); rw [hd] at hq
        split at hq
        · rename_i hc; injection hq with hq
          injection hq with hx hq
          injection hq with hz hs
          have hx1 : x = p / W63 := (by unfold W63 W64 at *; omega); have hz1 : q ≤ z * W63 ∧ z < 2 * W63 := (by unfold W63 W64 at *; omega); have hx2 : W63 ≤ x := (by unfold W63 W64 at *; omega); have hx3 : x * W63 ≤ p := (by rw [hx1]; exact Nat.div_mul_le_self _ _); rw [← hs]; refine ih (t + 1) x z _ ?_ ?_ hx2 hz1.2
          · rw [Nat.add_zero]; refine Nat.le_of_mul_le_mul_right (c := W63) ?_ hD
            calc x * 2 ^ (2 * s) * W63 = x * W63 * 2 ^ (2 * s) := by ac_rfl
              _ ≤ p * 2 ^ (2 * s) := Nat.mul_le_mul_right _ hx3
              _ ≤ _ := e1
              _ = _ := by ac_rfl
          · rw [Nat.add_zero]; refine Nat.le_of_mul_le_mul_right (c := W63) ?_ hD
            calc n ^ 2 ^ (t + 1) * W63 * W63 = n ^ 2 ^ (t + 1) * (W63 * W63) := by ac_rfl
              _ ≤ q * 2 ^ (2 * s) := e2
              _ ≤ z * W63 * 2 ^ (2 * s) := Nat.mul_le_mul_right _ hz1.1
              _ = _ := by ac_rfl
        · cases hq
      · rw [h0] at hq; simp only [show ¬ (1 = 0) by decide, if_false] at hq; obtain ⟨d, hd, hd2⟩ := upc q; rw [hd] at hq
        split at hq
        · rename_i hc; injection hq with hq
          injection hq with hx hq
          injection hq with hz hs
          have hz1 : q ≤ z * (2 * W63) ∧ z < 2 * W63 := (by unfold W63 W64 at *; omega); have hx2 : W63 ≤ x := (by unfold W63 W64 at *; omega)
          have hx3 : x * (2 * W63) ≤ p := by
            have e : (2 * W63) = W64 := rfl; rw [← hx, e]; exact Nat.div_mul_le_self _ _
          rw [← hs]; refine ih (t + 1) x z _ ?_ ?_ hx2 hz1.2
          · refine Nat.le_of_mul_le_mul_right (c := W63) ?_ hD
            calc x * 2 ^ (2 * s + 1) * W63 = x * (2 * W63) * 2 ^ (2 * s) := by rw [Nat.pow_succ]; generalize W63 = c; ac_rfl
              _ ≤ p * 2 ^ (2 * s) := Nat.mul_le_mul_right _ hx3
              _ ≤ _ := e1
              _ = _ := by ac_rfl
          · refine Nat.le_of_mul_le_mul_right (c := W63) ?_ hD
            calc n ^ 2 ^ (t + 1) * W63 * W63 = n ^ 2 ^ (t + 1) * (W63 * W63) := by ac_rfl
              _ ≤ q * 2 ^ (2 * s) := e2
              _ ≤ z * (2 * W63) * 2 ^ (2 * s) := Nat.mul_le_mul_right _ hz1.1
              _ = z * 2 ^ (2 * s + 1) * W63 := by rw [Nat.pow_succ]; generalize W63 = c; ac_rfl
        · cases hq
theorem qk_bd {n : Nat} (h : 0 < n) (h2 : n < 2 ^ 50) : Bd n 28 (qk n) := by
  have h64 : n < 2 ^ 64 := Nat.lt_trans h2 (by decide); obtain ⟨b1, b2⟩ := bitLen_bounds h h64
  have hk : Go.Lib.bitLen n - 1 < 50 := by
    rcases Nat.lt_or_ge (Go.Lib.bitLen n - 1) 50 with h0 | h0
    · exact h0
    · have := Nat.pow_le_pow_right (n := 2) (by decide) h0; omega
  unfold qk; generalize Go.Lib.bitLen n - 1 = k at *
  split
  · rename_i he; unfold Bd; simp only []; have e28 : 268435456 = 2 ^ 28 := (by decide); rw [e28, Nat.pow_mul, ← he]; exact ⟨Nat.le_refl _, Nat.le_refl _⟩
  · have e1 : n * 2 ^ (63 - k) * 2 ^ k = n ^ 2 ^ 0 * W63 := by
      rw [Nat.mul_assoc, ← Nat.pow_add, Nat.sub_add_cancel (by omega), Nat.pow_zero, Nat.pow_one]; rfl
    have := qloop_bd (n := n) 28 0 (n * 2 ^ (63 - k)) (n * 2 ^ (63 - k)) k (Nat.le_of_eq e1) (Nat.le_of_eq e1.symm)
      (by
        have : 2 ^ k * 2 ^ (63 - k) = W63 := (by rw [← Nat.pow_add, show k + (63 - k) = 63 by omega]; rfl); rw [← this]
        exact Nat.mul_le_mul_right _ b1)
      (by
        have : 2 * W63 = 2 ^ (k + 1) * 2 ^ (63 - k) := (by rw [← Nat.pow_add, show k + 1 + (63 - k) = 64 by omega]; rfl); rw [this]
        exact Nat.mul_lt_mul_of_pos_right b2 (Nat.pow_pos (by decide)))
    rwa [Nat.zero_add] at this
theorem qloop_le : ∀ (r a b s : Nat), a < W64 → (qloop r a b s).1 ≤ (s + 1) * 2 ^ r ∧ (qloop r a b s).2 ≤ (s + 1) * 2 ^ r
  | 0, a, b, s, _ => by unfold qloop; simp
  | r+1, a, b, s, ha => by
    rw [qloop]
    cases hq : qstep a b s with
    | none => exact ⟨Nat.mul_le_mul_right _ (Nat.le_succ _), Nat.le_refl _⟩
    | some y =>
      obtain ⟨x, z, s'⟩ := y; have la : a * a < W64 * W64 := Nat.mul_lt_mul'' ha ha
      have hs : s' ≤ 2 * s + 1 ∧ x < W64 := by
        unfold qstep at hq; simp only [] at hq; generalize a * a = p at *
        have hb : p / W64 / W63 = 0 ∨ p / W64 / W63 = 1 := (by unfold W64 W63 at *; omega); rcases hb with h0 | h0
        · rw [h0] at hq; simp only [if_true] at hq; obtain ⟨d, hd, hd2⟩ := upc (2 * (b * b)); rw [hd] at hq
          split at hq
          · injection hq with hq
            injection hq with hx hq
            injection hq with _ hs
            exact ⟨by omega, by rw [← hx]; exact Nat.mod_lt _ (by decide)⟩
          · cases hq
        · rw [h0] at hq; simp only [show ¬ (1 = 0) by decide, if_false] at hq; obtain ⟨d, hd, hd2⟩ := upc (b * b); rw [hd] at hq
          split at hq
          · injection hq with hq
            injection hq with hx hq
            injection hq with _ hs
            exact ⟨by omega, by rw [← hx]; unfold W64 at *; omega⟩
          · cases hq
      have ih := qloop_le r x z s' hs.2
      have h1 : (s' + 1) * 2 ^ r ≤ (s + 1) * 2 ^ (r + 1) := by
        rw [Nat.pow_succ, Nat.mul_comm (2 ^ r) 2, ← Nat.mul_assoc]; exact Nat.mul_le_mul_right _ (by omega)
      exact ⟨Nat.le_trans ih.1 h1, Nat.le_trans ih.2 h1⟩
theorem qk_le {n : Nat} (h : 0 < n) (h2 : n < 2 ^ 50) : (qk n).1 < 1000000000000 ∧ (qk n).2 < 1000000000000 := by
  have h64 : n < 2 ^ 64 := Nat.lt_trans h2 (by decide); obtain ⟨b1, b2⟩ := bitLen_bounds h h64
  have hk : Go.Lib.bitLen n - 1 < 50 := by
    rcases Nat.lt_or_ge (Go.Lib.bitLen n - 1) 50 with h0 | h0
    · exact h0
    · have := Nat.pow_le_pow_right (n := 2) (by decide) h0; omega
  unfold qk; generalize Go.Lib.bitLen n - 1 = k at *
  split
  · simp only []; omega
  · have ha : n * 2 ^ (63 - k) < W64 := by
      have : W64 = 2 ^ (k + 1) * 2 ^ (63 - k) := (by rw [← Nat.pow_add, show k + 1 + (63 - k) = 64 by omega]; rfl); rw [this]; exact Nat.mul_lt_mul_of_pos_right b2 (Nat.pow_pos (by decide))
    have := qloop_le 28 (n * 2 ^ (63 - k)) (n * 2 ^ (63 - k)) k ha; have e28 : 2 ^ 28 = 268435456 := (by decide); rw [e28] at this; omega
theorem and_pred {n k : Nat} (h1 : 2 ^ k ≤ n) (h2 : n < 2 ^ (k + 1)) : (n &&& (n - 1) = 0) ↔ n = 2 ^ k := by
  constructor
  · intro h; rcases Nat.lt_or_ge (2 ^ k) n with h3 | h3
    · exfalso; have hp : 0 < 2 ^ k := Nat.pow_pos (by decide)
      have t1 : n.testBit k = true := by
        rw [Nat.testBit_eq_decide_div_mod_eq]; rw [Nat.pow_succ] at h2
        have : n / 2 ^ k = 1 := by
          apply Nat.div_eq_of_lt_le <;> omega
        rw [this]; rfl
      have t2 : (n - 1).testBit k = true := by
        rw [Nat.testBit_eq_decide_div_mod_eq]; rw [Nat.pow_succ] at h2
        have : (n - 1) / 2 ^ k = 1 := by
          apply Nat.div_eq_of_lt_le <;> omega
        rw [this]; rfl
      have : (n &&& (n - 1)).testBit k = true := (by rw [Nat.testBit_and, t1, t2]; rfl); rw [h] at this; simp at this
    · omega
  · intro h; rw [h, Nat.and_two_pow_sub_one_eq_mod, Nat.mod_self]
def near (P n : Nat) : Bool := Nat.ble (lg n P).2 ((lg n P).1 + 1)
theorem up_pos : ∀ {l : List (Nat × Int)}, (∀ x ∈ l, 0 < x.1) → 1 ≤ up l ∧ 1 ≤ down l
  | [], _ => by unfold up down; exact ⟨by decide, by decide⟩
  | (n, k) :: l, h => by
    obtain ⟨h1, h2⟩ := up_pos (l := l) fun x hx => h x (List.mem_cons_of_mem _ hx)
    have hn := h _ List.mem_cons_self; simp only [] at hn; have hp : 0 < n ^ k.natAbs := Nat.pow_pos hn; rw [up, down]
    split
    · exact ⟨Nat.mul_pos hp h1, h2⟩
    · exact ⟨h1, Nat.mul_pos hp h2⟩
end Go.Proofs.YtalodfjplegibaaGreatDoor
namespace Go.Proofs.YtalodfjplegibaaGreatDoor
set_option linter.unusedSimpArgs false
open Go.RowKit
set_option linter.unusedVariables false
theorem andi64 (a b : Nat) (ha : a < 9223372036854775808) (hb : b < 9223372036854775808) : bits .and .i64 (a : Int) (b : Int) = ((a &&& b : Nat) : Int) := by
  have hab : a &&& b < 9223372036854775808 := Nat.lt_of_le_of_lt Nat.and_le_left ha
  have e : ∀ x : Nat, x < 18446744073709551616 → (BitVec.ofInt 64 (x : Int)).toNat = x := fun x h => by
    rw [BitVec.ofInt_natCast, BitVec.toNat_ofNat]; exact Nat.mod_eq_of_lt h
  show IntKind.i64.wrap ((BitVec.ofInt 64 (a : Int) &&& BitVec.ofInt 64 (b : Int)).toNat : Int) = _; rw [BitVec.toNat_and, e a (by omega), e b (by omega), IntKind.wrap_i64]; omega
theorem len_of {n : Nat} (h1 : 1 ≤ n) (h2 : n < 1000000000000000) : ∃ k, Lib.bitLen n = k + 1 ∧ k < 50 ∧ 2 ^ k ≤ n ∧ n < 2 ^ (k + 1) := by
  have h64 : n < 2 ^ 64 := Nat.lt_trans h2 (by decide); have h50 : n < 2 ^ 50 := Nat.lt_trans h2 (by decide); have hb := bitLenAux_bounds 64 n h1 h64; obtain ⟨b1, b2⟩ := bitLen_bounds h1 h64
  have hk : Lib.bitLen n - 1 < 50 := by
    rcases Nat.lt_or_ge (Lib.bitLen n - 1) 50 with h0 | h0
    · exact h0
    · have := Nat.pow_le_pow_right (n := 2) (by decide) h0; omega
  refine ⟨Lib.bitLen n - 1, ?_, hk, b1, b2⟩; have : 0 < Lib.bitLen n := hb.1; omega
theorem pred_test {n k : Nat} (h1 : 1 ≤ n) (h2 : n < 1000000000000000) (hb : 2 ^ k ≤ n ∧ n < 2 ^ (k + 1)) : (bits .and .i64 (n : Int) ((n : Int) - 1) == 0) = decide (n = 2 ^ k) := by
  have e : ((n : Int) - 1) = ((n - 1 : Nat) : Int) := (by omega); rw [e, andi64 n (n - 1) (by omega) (by omega)]; have := and_pred hb.1 hb.2; generalize n &&& (n - 1) = c at *
  by_cases hc : c = 0
  · rw [decide_eq_true (this.1 hc), hc]; rfl
  · rw [decide_eq_false (fun h => hc (this.2 h)), beq_eq_false_iff_ne]; omega
theorem QK_all {n : Nat} (h1 : 1 ≤ n) (h2 : n < 1000000000000000) : QK n := by
  obtain ⟨k, hk, hk2, b1, b2⟩ := len_of h1 h2; refine QK_of (k := k) (c := decide (n = 2 ^ k)) h1 h2 hk (by omega) ?_ (pred_test h1 h2 ⟨b1, b2⟩) ?_
  · have : W64 = 2 ^ (k + 1) * 2 ^ (63 - k) := (by rw [← Nat.pow_add, show k + 1 + (63 - k) = 64 by omega]; rfl); rw [this]; exact Nat.mul_lt_mul_of_pos_right b2 (Nat.pow_pos (by decide))
  · unfold qkc qk; rw [hk, Nat.add_sub_cancel]
    by_cases h : n = 2 ^ k
    · rw [if_pos h, if_pos (decide_eq_true h)]
    · rw [if_neg h, if_neg (by simpa using h)]
theorem logOK_all {n P : Nat} (h1 : 1 ≤ n) (h2 : n < 1000000000000000) (hP : P ≤ 2048) : LogOK n P (lg n P) ∧ (lg n P).1 ≤ 2 ^ (P + 6) ∧ (lg n P).2 ≤ 2 ^ (P + 6) := by
  obtain ⟨k, hk, hk2, b1, b2⟩ := len_of h1 h2; refine ⟨logOK_of h1 h2 hk (by omega) b2 hP (pred_test h1 h2 ⟨b1, b2⟩), ?_⟩; rw [lgc_lg P hk]; exact lgc_le _ (by omega)
theorem lg_bds {n P : Nat} (h1 : 1 ≤ n) (h2 : n < 1000000000000000) (hP : 64 ≤ P) : Bd n P (lg n P) := by
  obtain ⟨k, hk, hk2, b1, b2⟩ := len_of h1 h2; exact lg_bd h1 (Nat.lt_trans h2 (by decide)) (by omega)
theorem sg_small {l : List (Nat × Int)} {p T : Nat} {e : Nat → Nat} (p4 : p = 64 ∨ p = 128 ∨ p = 256 ∨ p = 512) (hlen : l.length ≤ 17)
    (hx : ∀ x ∈ l, (1 ≤ x.1 ∧ x.1 ≤ 1000000000000) ∧ x.2.natAbs ≤ 10000000000000000 ∧ (lg x.1 p).2 ≤ (lg x.1 p).1 + e x.1)
    (hT : tote e l ≤ T) (hs : up l * (2 * T + 1) ≤ 2 ^ p ∨ down l * (2 * T + 1) ≤ 2 ^ p) : SgOK l p where
  p4 := p4
  len := hlen
  okE := ⟨hlen, fun x h => ⟨by have := (hx x h).1; omega, (hx x h).1.2, (hx x h).2.1⟩⟩
  good := ⟨fun x h => QK_all (hx x h).1.1 (by have := (hx x h).1; omega), fun x h => by have := (hx x h).2.1; omega, fun x h => qk_le (by have := (hx x h).1; omega) (Nat.lt_of_le_of_lt (hx x h).1.2 (by decide))⟩
  logs := fun P hP => ⟨fun x h => (logOK_all (hx x h).1.1 (by have := (hx x h).1; omega) hP).1, fun x h => ⟨(logOK_all (hx x h).1.1 (by have := (hx x h).1; omega) hP).2.1, (logOK_all (hx x h).1.1 (by have := (hx x h).1; omega) hP).2.2, by have := (hx x h).2.1; omega⟩⟩
  sound := fun P s hP h => guessG_sound (fun x hh => lg_bds (hx x hh).1.1 (by have := (hx x hh).1; omega) hP) h
  quick := fun s h => by
    unfold guessF at h; rw [gsum_sumB] at h; exact guessG_sound (fun x hh => qk_bd (by have := (hx x hh).1; omega) (Nat.lt_of_le_of_lt (hx x hh).1.2 (by decide))) h
  end_ := fun h => decidedE (e := e) (fun x hh => lg_bds (hx x hh).1.1 (by have := (hx x hh).1; omega) (by omega)) (fun x hh => (hx x hh).2.2) hT (up_pos fun x hh => by have := (hx x hh).1; omega) hs h
end Go.Proofs.YtalodfjplegibaaGreatDoor
namespace Go.Proofs.YtalodfjplegibaaGreatDoor
set_option linter.unusedSimpArgs false
set_option linter.unusedVariables false
def srN (p : Nat → Bool) : Nat → Nat → Nat → Nat × List Nat
  | 0, lo, _ => (lo, [])
  | f+1, lo, hi => if 1 < hi - lo then
      (if p (lo + (hi - lo) / 2) then ((srN p f (lo + (hi - lo) / 2) hi).1, (lo + (hi - lo) / 2) :: (srN p f (lo + (hi - lo) / 2) hi).2)
      else ((srN p f lo (lo + (hi - lo) / 2)).1, (lo + (hi - lo) / 2) :: (srN p f lo (lo + (hi - lo) / 2)).2))
    else (lo, [])
theorem srN_end {p : Nat → Bool} {f lo hi : Nat} (h : ¬ 1 < hi - lo) : srN p f lo hi = (lo, []) := by
  cases f with
  | zero => rfl
  | succ f => rw [srN, if_neg h]
def atK (l : List (Nat × Int)) (s : Nat) (den : Int) (k : Nat) : List (Nat × Int) := l ++ [(s, den)] ++ [(k, -den)]
def pwT (P : Nat) (p : Nat → Bool) (r : Nat) : Bool :=
  Nat.beq (srN p 45 0 1000000000001).1 r && (srN p 45 0 1000000000001).2.all fun m => Nat.ble 1 m && Nat.ble m 1000000000000 && near P m
def p1 (k : Nat) : Bool := Nat.ble (2 ^ 9 * k ^ 12) (440000 ^ 12)
def p2 (k : Nat) : Bool := Nat.ble (k ^ 2) (2 * 100 ^ 2)
def p3 (k : Nat) : Bool := Nat.ble (k ^ 2) (4 * 8 ^ 2)
theorem pw1 : pwT 256 p1 261625 = true := by decide +kernel
theorem pw2 : pwT 64 p2 141 = true := by decide +kernel
theorem pw3 : pwT 64 p3 16 = true := by decide +kernel
theorem pwT_ok {P r : Nat} {p : Nat → Bool} (h : pwT P p r = true) : (srN p 45 0 1000000000001).1 = r ∧ ∀ m ∈ (srN p 45 0 1000000000001).2, (1 ≤ m ∧ m ≤ 1000000000000) ∧ near P m = true := by
  unfold pwT at h; rw [Bool.and_eq_true] at h; refine ⟨Nat.eq_of_beq_eq_true h.1, fun m hm => ?_⟩; have := List.all_eq_true.1 h.2 m hm; simp only [Bool.and_eq_true, Nat.ble_eq] at this; exact ⟨this.1, this.2⟩
end Go.Proofs.YtalodfjplegibaaGreatDoor
namespace Go.Proofs.YtalodfjplegibaaGreatDoor
set_option linter.unusedSimpArgs false
open Go.RowKit
set_option linter.unusedVariables false
theorem news_two (w : World) (a x : Int) {j : Nat} {u : Value} (hu : [Value.int .i64 a, Value.int .i64 x][j]? = some u) : (w.alloc (.cells #[.int .i64 a, .int .i64 x] 35)).cell? ((⟨w.heap.size, 0, none⟩ : Addr).add j) = some u := by
  have hb := Blk.new w 35 #[.int .i64 a, .int .i64 x]
  have e : (⟨w.heap.size, 0, none⟩ : Addr).add j = ⟨w.heap.size, j, none⟩ := by
    unfold Addr.add
    by_cases h : j = 0
    · subst h; simp
    · simp [h]
  rw [e, hb.cell]; simpa using hu
set_option maxHeartbeats 1600000 in
set_option maxRecDepth 100000 in
theorem pat_any (m : Nat) (den : Int) (pa pd ad : Addr) (n cap : Nat) (l : List (Nat × Int)) (w : World) (ha : w.cell? pa = some (.slice (some ad) n cap)) (hd : w.cell? pd = some (.int .i64 den))
    (hba : pa.block < w.heap.size) (hbd : pd.block < w.heap.size) (hT : TR w (some ad) n l) (hn : n ≤ cap) (hn2 : n ≤ 100) (hm2 : m ≤ 2000000000000) (hd1 : 1 ≤ den) (hd2 : den ≤ 1000000) :
    Calls Tryz.prog 40 #[.int .i64 (m : Int), .pointer (some pa), .pointer (some pd)] w fun e w' => (∃ A' c', e = .returned (.slice A' (n + 1) c') ∧ TR w' A' (n + 1) (l ++ [(m, -den)])) ∧ Below w.heap.size w w' := by
  obtain ⟨i0, hi0, hz0, hz1, hz2⟩ := info_term; have HI : Sl _ := ⟨And.intro hi0 (And.intro hz0 (And.intro hz1 hz2))⟩; clear hi0 hz0 hz1 hz2; have HT : Sl _ := ⟨hT⟩; have hS : Sl (∀ w' : World, RowKit.Below w.heap.size w w' → w'.cell? pa = some (.slice (some ad) n cap) ∧ w'.cell? pd = some (.int .i64 den)) := ⟨fun w' h => ⟨(h.cell hba).trans ha, (h.cell hbd).trans hd⟩⟩; obtain ⟨x, hx⟩ : ∃ x, -den = x := ⟨_, rfl⟩; have hneg : IntKind.i64.wrap (-den) = x := (by rw [hx, IntKind.wrap_i64]; omega); have HX : Sl _ := ⟨hx⟩; have HN : Sl _ := ⟨And.intro hn hn2⟩; clear hx hT ha hd hba hbd; obtain ⟨p1, p3⟩ := hS.out w (Below.refl _ _); go_enter Tryz.func40, Tryz.ntmps40; go_wp2_with fail; have hd : RowKit.Below w.heap.size w w.drew := below_drewN (Below.refl _ _) 1; obtain ⟨d1, d3⟩ := hS.out w.drew hd; have hal : RowKit.Below w.heap.size w (w.drew.alloc (.cells #[.int .i64 (m : Int), .int .i64 x] 35)) := hd.alloc (Nat.le_refl _) _; have HAL : Sl _ := ⟨hal⟩; clear hal
  go_region_held3 (fun w' => w'.cell? pa = some (.slice (some ad) n cap) ∧ w'.cell? pd = some (.int .i64 den))
    (first | (refine hS.out _ ?_; assumption) | (refine hS.out _ HAL.out) | go_keep)
    (first
      | (refine step_append_grows rfl (.tmp 10) (.tmp 15) _ rfl 35 i0 (.agg #[.int .i64 0, .int .i64 0]) 2 16 Tryz.underlying36 HI.out.1 HI.out.2.1 HI.out.2.2.1 HI.out.2.2.2 rfl (by decide) (some ad) n n (l.flatMap fun x => [.int .i64 (x.1 : Int), .int .i64 x.2]) (by simp [Act.eval, Act.put]) (fun h => by cases h) HT.out.2.1 (fun b hb j u hu => olds_at HT.out HAL.out hb hu) ⟨w.heap.size, 0, none⟩ 1 1 [.int .i64 (m : Int), .int .i64 x] (by simp [Act.eval, Act.put]) rfl (fun j u hu => news_two w.drew (m : Int) x hu) (by simp; exact ⟨rfl, rfl⟩) (by omega) (by have := HN.out.2; unfold maxLen; omega) (by have := HN.out.2; omega) ?_; intro v1 w1 hown hg; have hbw : RowKit.Below w.heap.size w w1 := HAL.out.grown hg (by simp) (fun k hk => by cases hk))
      | fail)
  all_goals (
    obtain ⟨g, cap2, rfl, _, _⟩ := hown.form (Nat.succ_pos n)
    have HO : Sl (TR w1 (some ⟨g, 0, none⟩) (n + 1) (l ++ [(m, -den)])) := ⟨by
      refine ⟨by rw [List.length_append, HT.out.1]; rfl, ?_⟩; have h := Reads.of_own hown; rw [HX.out, List.flatMap_append]
      exact h⟩
    have HBW : Sl _ := ⟨hbw⟩; clear hown hg hbw hneg; go_wp2_with fail; go_ret
    exact ⟨⟨_, _, rfl, HO.out⟩, HBW.out⟩)
set_option maxHeartbeats 1600000 in
set_option maxRecDepth 100000 in
theorem pis_any (m : Nat) (den sg : Int) (pq pa pd ad : Addr) (n cap : Nat) (l : List (Nat × Int)) (w : World) (hq : w.cell? pq = some (.func (.func 40) #[] #[.pointer (some pa), .pointer (some pd)])) (ha : w.cell? pa = some (.slice (some ad) n cap)) (hd : w.cell? pd = some (.int .i64 den))
    (hba : pa.block < w.heap.size) (hbd : pd.block < w.heap.size) (hT : TR w (some ad) n l) (hn : n ≤ cap) (hn2 : n ≤ 100) (hm1 : 1 ≤ m) (hm2 : m ≤ 2000000000000) (hd1 : 1 ≤ den) (hd2 : den ≤ 1000000)
    (hk : SignTo (l ++ [(m, -den)]) sg) :
    Calls Tryz.prog 41 #[.int .i64 (m : Int), .pointer (some pq)] w fun e w' => e = .returned (.bool (decide (0 ≤ sg))) ∧ Below w.heap.size w w' := by
  have HC : Sl _ := ⟨pat_any m den pa pd ad n cap l w ha hd hba hbd hT hn hn2 hm2 hd1 hd2⟩; have HK : Sl _ := ⟨hk⟩; have hmz : ((m : Int) == 0) = false := (by rw [beq_eq_false_iff_ne]; omega); clear ha hd hba hbd hT hn hn2 hk; have hrun : ∀ (args : Array Value) (w : World), (callFunc 40 args).run Tryz.prog w = .ok (.enter 40 args) w := fun a w => by go_simp
  by_cases h0 : 0 ≤ sg
  · have hdec : decide (0 ≤ sg) = true := decide_eq_true h0; rw [hdec]; clear hdec; go_enter Tryz.func41, Tryz.ntmps41; go_wp2_with fail; refine HC.out.mono ?_; rintro e w1 ⟨⟨A1, c1, rfl, h1⟩, hb⟩; have HS : Sl _ := ⟨HK.out A1 (n + 1) c1 w1 h1⟩; clear h1; go_wp2_with fail; refine HS.out.mono ?_; rintro e w2 ⟨rfl, hb2⟩; go_wp2_with fail; go_ret; exact ⟨by first | rfl | simp [h0], hb.trans (hb2.mono hb.size)⟩
  · have hdec : decide (0 ≤ sg) = false := decide_eq_false h0; rw [hdec]; clear hdec; have h1 : sg < 0 := Int.not_le.1 h0; go_enter Tryz.func41, Tryz.ntmps41; go_wp2_with fail; refine HC.out.mono ?_; rintro e w1 ⟨⟨A1, c1, rfl, h1⟩, hb⟩; have HS : Sl _ := ⟨HK.out A1 (n + 1) c1 w1 h1⟩; clear h1; go_wp2_with fail; refine HS.out.mono ?_; rintro e w2 ⟨rfl, hb2⟩; go_wp2_with fail; go_ret; exact ⟨by first | rfl | (simp; omega), hb.trans (hb2.mono hb.size)⟩
theorem srN_step {p : Nat → Bool} {f lo hi : Nat} (h : 1 < hi - lo) : (p (lo + (hi - lo) / 2) = true → srN p (f + 1) lo hi = ((srN p f (lo + (hi - lo) / 2) hi).1, (lo + (hi - lo) / 2) :: (srN p f (lo + (hi - lo) / 2) hi).2)) ∧
    (p (lo + (hi - lo) / 2) = false → srN p (f + 1) lo hi = ((srN p f lo (lo + (hi - lo) / 2)).1, (lo + (hi - lo) / 2) :: (srN p f lo (lo + (hi - lo) / 2)).2)) := by
  constructor
  · intro hp; rw [srN, if_pos h, if_pos hp]
  · intro hp; rw [srN, if_pos h, if_neg (by rw [hp]; decide)]
set_option maxHeartbeats 1600000 in
theorem greatest_at (q : Value) (p : Nat → Bool) (high : Nat) (f : Nat) (w : World) (hlh : 0 < high) (hh : high ≤ 2000000000000) (hf : high ≤ 2 ^ f)
    (hF : ∀ (m : Nat) (W : World), m ∈ (srN p f 0 high).2 → Below w.heap.size w W → Calls Tryz.prog 41 #[.int .i64 (m : Int), q] W fun e w' => e = .returned (.bool (p m)) ∧ Below W.heap.size W w') :
    Calls Tryz.prog 38 #[.int .i64 0, .int .i64 (high : Int), .func (.func 41) #[] #[q]] w fun e w' => e = .returned (.int .i64 ((srN p f 0 high).1 : Nat)) ∧ Below w.heap.size w w' := by
  have HF : Sl _ := ⟨hF⟩; clear hF; have hrun : ∀ (args : Array Value) (w : World), (callFunc 41 args).run Tryz.prog w = .ok (.enter 41 args) w := fun a w => by go_simp
  obtain ⟨R, hR⟩ : ∃ R, srN p f 0 high = R := ⟨_, rfl⟩; have HR0 : Sl _ := ⟨hR⟩; have HFF : Sl (high ≤ 2 ^ f) := ⟨hf⟩; rw [hR] at HF ⊢; clear hR hf; go_enter Tryz.func38, Tryz.ntmps38; go_wp2_with fail
  go_loopw [0, 1] (fun s0 s1 wr => ∃ (lo hi : Nat), s0 = .int .i64 lo ∧ s1 = .int .i64 hi ∧ lo < hi ∧ hi ≤ high ∧ Sl (∃ g, hi - lo ≤ 2 ^ g ∧ (srN p g lo hi).1 = R.1 ∧ ∀ m ∈ (srN p g lo hi).2, m ∈ R.2) ∧ Below w.heap.size w wr) (fun s0 s1 _ => (RowKit.intOf s1 - RowKit.intOf s0).toNat)
  case atStart => exact ⟨0, high, rfl, rfl, hlh, Nat.le_refl _, ⟨f, HFF.out, by rw [HR0.out], fun m hm => by rw [HR0.out] at hm; exact hm⟩, Below.refl _ _⟩
  case round =>
    obtain ⟨lo, hi, rfl, rfl, h2, h3, HP, hB⟩ := hrel
    by_cases hgo : 1 < hi - lo
    · have hgI : 1 < (hi : Int) - (lo : Int) := (by omega); obtain ⟨m, hm⟩ : ∃ m, lo + (hi - lo) / 2 = m := ⟨_, rfl⟩; have hmI : (lo : Int) + ((hi : Int) - (lo : Int)) / 2 = (m : Int) := (by omega); have hm1 : lo < m := (by omega); have hm2 : m < hi := (by omega)
      have hmem : m ∈ R.2 := by
        obtain ⟨g, g0, g1, g2⟩ := HP.out
        cases g with
        | zero => simp at g0; omega
        | succ g =>
          refine g2 m ?_; have hs := srN_step (p := p) (f := g) hgo; rw [hm] at hs
          cases hp : p m
          · rw [hs.2 hp]; exact List.mem_cons_self
          · rw [hs.1 hp]; exact List.mem_cons_self
      have HC : Sl _ := ⟨HF.out m wr hmem hB⟩; have HM : Sl _ := ⟨And.intro hgo (And.intro hm (And.intro hm1 hm2))⟩; clear hmem hm
      cases hPm : p m
      · rw [hPm] at HC; have HPM : Sl _ := ⟨hPm⟩; clear hPm; go_wp2_with fail; refine HC.out.mono ?_; rintro e w2 ⟨rfl, hb⟩; go_wp2_with fail
        exact ⟨⟨lo, m, rfl, rfl, hm1, by omega, ⟨by
          obtain ⟨g, g0, g1, g2⟩ := HP.out; obtain ⟨m0, m1, m2, m3⟩ := HM.out
          cases g with
          | zero => simp at g0; omega
          | succ g =>
            have hs := srN_step (p := p) (f := g) m0; rw [m1] at hs; rw [hs.2 HPM.out] at g1 g2
            exact ⟨g, by rw [Nat.pow_succ] at g0; omega, g1, fun k hk => g2 k (List.mem_cons_of_mem _ hk)⟩⟩, hB.trans (hb.mono hB.size)⟩, by simp [RowKit.intOf]; omega⟩
      · rw [hPm] at HC; have HPM : Sl _ := ⟨hPm⟩; clear hPm; go_wp2_with fail; refine HC.out.mono ?_; rintro e w2 ⟨rfl, hb⟩; go_wp2_with fail
        exact ⟨⟨m, hi, rfl, rfl, hm2, h3, ⟨by
          obtain ⟨g, g0, g1, g2⟩ := HP.out; obtain ⟨m0, m1, m2, m3⟩ := HM.out
          cases g with
          | zero => simp at g0; omega
          | succ g =>
            have hs := srN_step (p := p) (f := g) m0; rw [m1] at hs; rw [hs.1 HPM.out] at g1 g2
            exact ⟨g, by rw [Nat.pow_succ] at g0; omega, g1, fun k hk => g2 k (List.mem_cons_of_mem _ hk)⟩⟩, hB.trans (hb.mono hB.size)⟩, by simp [RowKit.intOf]; omega⟩
    · obtain rfl : hi = lo + 1 := (by omega); have HG := HP
      have hz : Sl (lo = R.1) := ⟨by
        obtain ⟨g, g0, g1, g2⟩ := HG.out; rw [srN_end hgo] at g1
        exact g1⟩
      clear HG HP hgo; go_wp2_with fail; go_ret; exact ⟨by rw [← hz.out]; rfl, hB⟩
end Go.Proofs.YtalodfjplegibaaGreatDoor
namespace Go.Proofs.YtalodfjplegibaaGreatDoor
set_option linter.unusedSimpArgs false
open Go.RowKit
set_option linter.unusedVariables false
section
variable {P : Program} {ops : Array Oper} {Q : Exit → Act → World → Prop} {md : Region.Mode} {S : World → Prop}
theorem wpAnyH_threem (i j k : Nat) {oi oj ok : Oper} {fuel : Nat} {listed : Array Bool} {a : Act} {w : World} (hi0 : ops.toList[i]? = some oi) (hj0 : ops.toList[j]? = some oj) (hk0 : ops.toList[k]? = some ok) (hr : Region.ready md ops listed = [i, j, k]) (hgi : oi.guard = none) (hgj : oj.guard = none) (hgk : ok.guard = none)
    (h1 : ∀ K' : Act → World → Prop, Shut (∀ a w, S w → (S w → wpAnyH P md ops Q S fuel (listed.setIfInBounds i true) a w) → K' a w) → Oper.wp P oi a w K' Q)
    (h2 : ∀ K' : Act → World → Prop, Shut (∀ a w, S w → (S w → wpAnyH P md ops Q S fuel (listed.setIfInBounds j true) a w) → K' a w) → Oper.wp P oj a w K' Q)
    (h3 : ∀ K' : Act → World → Prop, Shut (∀ a w, S w → (S w → wpAnyH P md ops Q S fuel (listed.setIfInBounds k true) a w) → K' a w) → Oper.wp P ok a w K' Q) : wpAnyH P md ops Q S (fuel + 1) listed a w :=
  have hi : ops[i]? = some oi := (by rw [← Array.getElem?_toList]; exact hi0); have hj : ops[j]? = some oj := (by rw [← Array.getElem?_toList]; exact hj0); have hk : ops[k]? = some ok := (by rw [← Array.getElem?_toList]; exact hk0)
  wpAnyH_ready hr (by simp) (AllReadyH.cons hi (fun K' hK => by
    have hw : Region.wanted oi (yielded ops a.tmps) = true := (by simp [Region.wanted, hgi]); rw [if_pos hw]
    exact h1 K' hK) (AllReadyH.cons hj (fun K' hK => by
    have hw : Region.wanted oj (yielded ops a.tmps) = true := (by simp [Region.wanted, hgj]); rw [if_pos hw]
    exact h2 K' hK) (AllReadyH.cons hk (fun K' hK => by
    have hw : Region.wanted ok (yielded ops a.tmps) = true := (by simp [Region.wanted, hgk]); rw [if_pos hw]
    exact h3 K' hK) AllReadyH.nil)))
end
theorem addr_add (g j : Nat) : (⟨g, 0, none⟩ : Addr).add j = ⟨g, j, none⟩ := by
  unfold Addr.add
  by_cases h : j = 0
  · subst h; simp
  · simp [h]
theorem own_cap {w : World} {base e size n g cap m : Nat} {xs : List Value} (h : w.ownsRow base e size (.slice (some ⟨g, 0, none⟩) m cap) n xs) : n ≤ cap := by
  rcases h.2 with ⟨h0, _⟩ | ⟨b, c, cur, e1, _, _, h3, _⟩
  · cases h0
  · injection e1 with _ _ e3
    subst e3; exact h3
theorem wp_of_run {P : Program} {op : Oper} {a : Act} {w : World} {K : Act → World → Prop} {Q : Exit → Act → World → Prop} (v : Value) (w' : World) (h : (execOp a.eval op).run P w = .ok (.value v) w') (hk : K (a.put op.dst v) w') : op.wp P a w K Q := by
  unfold Oper.wp; rw [h, Oper.upon_value]; exact hk
theorem flatT_one (l : List (Nat × Int)) : ∀ u ∈ flatT l, u.oneCell' = true := fun u hu => by
  unfold flatT at hu; obtain ⟨x, _, hx⟩ := List.mem_flatMap.1 hu; simp only [List.mem_cons, List.not_mem_nil, or_false] at hx; rcases hx with rfl | rfl <;> rfl
theorem wp_store_slicem {P : Program} {op : Oper} {a : Act} {w : World} {K : Act → World → Prop} {Q : Exit → Act → World → Prop} (ty : TypeId) (x y : Operand) (ho : op.op = .store ty x y)
    (g o : Nat) (v : Value) (hx : a.eval x = .pointer (some ⟨g, o, none⟩)) (hy : a.eval y = v)
    (t : TypeId) (cs : Array Value) (hB : Blk w g t cs) (hn : o < cs.size) (hi : (P.info? ty).map (·.size) = some 1) (hv : v.cells = #[v]) (hv1 : v.oneCell' = true)
    (h : ∀ w', Mv g w w' → w'.heap.size = w.heap.size → Blk w' g t (cs.setIfInBounds o v) → K (a.put op.dst undef) w') : op.wp P a w K Q := by
  have ht := hB.there o 1 (by omega)
  have hrun : (storeVar ty ⟨g, o, none⟩ v).run P w = .ok () (w.setCells g o [v]) := by
    have := run_storeCells_cells (P := P) g o [v] 0 w (fun j hj => by simpa using (ht j (by simpa using hj)).1) (fun j hj => by simpa using (ht j (by simpa using hj)).2)
      (fun u hu => by simp at hu; subst hu; exact hv1)
    cases hq : P.info? ty with
    | none => simp [hq] at hi
    | some i =>
      have hs : i.size = 1 := (by simpa [hq] using hi); simp only [Nat.add_zero] at this; simp [storeVar, sizeOf, typeInfo, hq, hv, hs, this]
  unfold Oper.wp execOp; simp only [ho, hx, hy, Instr.storeAt, Instr.sureAddr, Sem.run_bind, Sem.run_pure, Result.andThen_ok, hrun]; exact h _ (Mv.setCells _ _ _ _) (setCells_size _ _ _ _) (Blk.setCells (w := w) [v] o _ _ hB)
set_option maxHeartbeats 6400000 in
set_option maxRecDepth 100000 in
theorem Power_any (A : Option Addr) (n c : Nat) (l : List (Nat × Int)) (f0 : Nat) (den : Int) (p : Nat → Bool) (sg : Nat → Int) (R : Nat) (w : World) (hl : TR w A n l) (hok : okT l) (hn1 : 0 < n) (hf1 : 1 ≤ f0) (hf2 : f0 ≤ 1000000000000) (hd1 : 1 ≤ den) (hd2 : den ≤ 1000000)
    (hsg : ∀ m ∈ (srN p 45 0 1000000000001).2, (1 ≤ m ∧ m ≤ 1000000000000) ∧ SignTo (atK l f0 den m) (sg m) ∧ p m = decide (0 ≤ sg m)) (hend : SignTo (atK l f0 den 1000000000001) (sg 1000000000001)) (hneg : sg 1000000000001 < 0)
    (hR : (srN p 45 0 1000000000001).1 = R) (hR1 : 1 ≤ R) (hR2 : R ≤ 1000000000000) (hoe : okE (atK l f0 den R)) :
    Calls Tryz.prog 12 #[.int .i64 (f0 : Int), .slice A n c, .int .i64 den] w fun e w' => e = .returned (.tuple #[.int .i64 (R : Int), .bool (decide (up (atK l f0 den R) = down (atK l f0 den R))), .int .i64 0]) ∧ Below w.heap.size w w' := by
  have hn : n ≤ 16 := (by rw [← hl.1]; exact hok.1); obtain ⟨ad, rfl, _⟩ := hl.2.2 hn1; have HL : Sl _ := ⟨hl⟩; have HS : Sl _ := ⟨hsg⟩; have HE : Sl _ := ⟨And.intro hend hneg⟩; have HRR : Sl _ := ⟨And.intro hR (And.intro hR1 hR2)⟩; have HOE : Sl _ := ⟨hoe⟩; have HFL : Sl ((flatT l).length = n * 2 ∧ 0 < n ∧ n ≤ 16) := ⟨⟨hl.2.1, hn1, hn⟩⟩; have HCK : Sl (∀ W : World, TR W (some ad) n l → Calls Tryz.prog 34 #[.slice (some ad) n c] W fun e w' => e = .returned (.int .i64 0) ∧ Below W.heap.size W w') := ⟨fun W h => rcheck_ok (some ad) n c l W h hok⟩; obtain ⟨i0, hi0, hz0, hz1, hz2⟩ := info_term; have HI : Sl _ := ⟨And.intro hi0 (And.intro hz0 (And.intro hz1 hz2))⟩; clear hi0 hz0 hz1 hz2 hl hok hsg hend hneg hR hR1 hR2 hoe hn1; have qd1 : decide (den < 1) = false := decide_eq_false (by omega); have qd2 : decide (1000000 < den) = false := decide_eq_false (by omega); have qf1 : decide ((f0 : Int) < 1) = false := decide_eq_false (by omega); have qf2 : decide (1000000000000 < (f0 : Int)) = false := decide_eq_false (by omega); have hu0 : Below w.heap.size w (w.alloc (.cells #[.int .i64 den] 2)) := (Below.refl _ _).alloc (Nat.le_refl _) _; have B5 := Blk.new w 2 #[.int .i64 den]; go_enter Tryz.func12, Tryz.ntmps12; go_wp2_with fail; generalize w.alloc (.cells #[.int .i64 den] 2) = w0 at *
  refine (HCK.out _ (HL.out.below hu0)).mono ?_; rintro e w1 ⟨rfl, hb1⟩; have HB1 : Sl (Below w.heap.size w w1) := ⟨hu0.trans (hb1.mono hu0.size)⟩; have X5 : Sl (Blk w1 w.heap.size 2 #[.int .i64 den]) := ⟨B5.below hb1 B5.lt⟩; have HT1 : Sl (TR w1 (some ad) n l) := ⟨HL.out.below HB1.out⟩; clear hu0 hb1 B5 HCK; have c5 := X5.out.cell 0; simp at c5
  have hS : Sl (∀ w' : World, RowKit.Below w1.heap.size w1 w' → w'.cell? ⟨w.heap.size, 0, none⟩ = some (.int .i64 den)) := ⟨fun w' h => by
    have e0 := X5.out.below h X5.out.lt; have := e0.cell 0
    simpa using this⟩
  go_upto_region 6 with fail
  go_cut [10] from 32 to 38 (fun s10 wx => ∃ gT gP cP, s10 = .pointer (some ⟨gT, 0, none⟩) ∧ Sl (Below w1.heap.size w1 wx) ∧ Sl (w1.heap.size ≤ gT) ∧ Sl (Blk wx gT 36 #[.slice (some ⟨gP, 0, none⟩) (n + 1) cP]) ∧ Sl (TR wx (some ⟨gP, 0, none⟩) (n + 1) (l ++ [(f0, den)])) ∧ Sl (n + 1 ≤ cP))
  case first =>
    have hm : Below w1.heap.size w1 w1.drew := below_drewN (Below.refl _ _) 1; have HSW : Sl _ := ⟨hm⟩; refine wp_region_held_drew (S := fun w' => Below w1.heap.size w1 w') (by kernel_rfl) hm (fun hHeld => ?_); clear hm; refine wpAnyH_pure 0 (v := .slice (some ad) n c) rfl (by kernel_rfl) (by kernel_rfl) (by kernel_rfl) (fun _ _ _ h => h) rfl (fun _ => rfl) (by assumption) ?_; simp only [Act.put, sS0, sS1, sS2]; refine wpAnyH_pure 2 (v := .int .i64 (f0 : Int)) rfl (by kernel_rfl) (by kernel_rfl) (by kernel_rfl) (fun _ _ _ h => h) rfl (fun _ => rfl) (by assumption) ?_; simp only [Act.put, sS0, sS1, sS2]
    refine wpAnyH_cell 3 (v := .int .i64 den) rfl rfl (fun w' h => by
      have hc := hS.out w' h
      go_simp) (by kernel_rfl) (by kernel_rfl) (by kernel_rfl) (fun _ _ _ h => h) (by assumption) ?_
    simp only [Act.put, sS0, sS1, sS2]; refine wpAnyH_pure 4 (v := .agg #[.int .i64 (f0 : Int), .int .i64 den]) rfl (by kernel_rfl) (by kernel_rfl) (by kernel_rfl) (fun _ _ _ h => h) rfl (fun _ => by go_simp) (by assumption) ?_; simp only [Act.put, sS0, sS1, sS2]; refine wpAnyH_threem 1 5 7 rfl rfl rfl (by kernel_rfl) rfl rfl rfl (fun K hK => ?_) (fun K hK => ?_) (fun K hK => ?_)
    · skip; refine wp_append_lies _ (.const (.slice none 0 0)) (.tmp 32) _ rfl w1.heap.size 35 i0 _ 2 16 Tryz.underlying36 HI.out.1 HI.out.2.1 HI.out.2.2.1 HI.out.2.2.2 rfl (by decide) (.slice none 0 0) 0 [] rfl (World.ownsRow_nil _ _ _ _) ad n c (flatT l) rfl HFL.out.1 (fun j u hu => olds_at HT1.out HSW.out rfl hu) (flatT_one l) HFL.out.2.1 (by have := HFL.out.2.2; unfold maxLen; omega) (by have := HFL.out.2.2; omega) HSW.out.size _ rfl ?_; intro gA cA z1 own hg hor hlt; have zb : Below w1.drew.heap.size w1.drew z1 := (Below.refl _ _).grown hg (Nat.le_refl _) (fun k hk => by cases hk); rw [Nat.zero_add, List.nil_append] at own; rw [Nat.zero_add]; have OA : Sl (z1.ownsRow w1.heap.size 35 2 (.slice (some ⟨gA, 0, none⟩) n cA) n (flatT l)) := ⟨own⟩; replace HSW : Sl (Below w1.heap.size w1 z1) := ⟨HSW.out.trans (zb.mono HSW.out.size)⟩; refine hK.out _ _ HSW.out (fun hHeld => ?_); clear hK K own hg hor hlt zb; simp only [Act.put, sS0, sS1, sS2]; refine wpAnyH_twom 5 7 rfl rfl (by kernel_rfl) rfl rfl (fun K hK => ?_) (fun K hK => ?_)
      · skip; refine wp_of_run (.slice (some ⟨z1.heap.size, 0, none⟩) 1 1) (z1.alloc (.cells #[.int .i64 (f0 : Int), .int .i64 den] 35)) (by kernel_rfl) ?_; have zb : Below z1.heap.size z1 (z1.alloc (.cells #[.int .i64 (f0 : Int), .int .i64 den] 35)) := (Below.refl _ _).alloc (Nat.le_refl _) _; have zk := Blk.new z1 35 #[.int .i64 (f0 : Int), .int .i64 den]; refine hK.out _ _ (HSW.out.trans (zb.mono HSW.out.size)) (fun hHeld => ?_); clear hK K; simp only [Act.put, sS0, sS1, sS2]; generalize z1.alloc (.cells #[.int .i64 (f0 : Int), .int .i64 den] 35) = z2 at *
        obtain ⟨gB, hgB⟩ : ∃ g, z1.heap.size = g := ⟨_, rfl⟩; replace OA : Sl (z2.ownsRow w1.heap.size 35 2 (.slice (some ⟨gA, 0, none⟩) n cA) n (flatT l)) := ⟨own_mv OA.out (Mv.of_below zb) (fun zk hk => by have := (OA.out.lt zk hk).2; omega)⟩; replace HSW : Sl (Below w1.heap.size w1 z2) := ⟨HSW.out.trans (zb.mono HSW.out.size)⟩; rw [hgB] at zk; rw [hgB]; have XB : Sl (Blk z2 gB 35 #[.int .i64 (f0 : Int), .int .i64 den]) := ⟨zk⟩; clear zb zk hgB; refine wpAnyH_twom 6 7 rfl rfl (by kernel_rfl) rfl rfl (fun K hK => ?_) (fun K hK => ?_)
        · skip; refine wp_append_lies _ (.tmp 33) (.tmp 37) _ rfl w1.heap.size 35 i0 _ 2 16 Tryz.underlying36 HI.out.1 HI.out.2.1 HI.out.2.2.1 HI.out.2.2.2 rfl (by decide) (.slice (some ⟨gA, 0, none⟩) n cA) n (flatT l) rfl OA.out ⟨gB, 0, none⟩ 1 1 [.int .i64 (f0 : Int), .int .i64 den] rfl rfl (fun j u hu => by rw [addr_add, XB.out.cell]; simpa using hu) (by simp; exact ⟨rfl, rfl⟩) (by decide) (by have := HFL.out.2.2; unfold maxLen; omega) (by have := HFL.out.2.2; omega) HSW.out.size _ rfl ?_; intro gP cP z3 own hg hor hlt; have zb : Below w1.heap.size w1 z3 := HSW.out.grown hg HSW.out.size (fun k hk => (OA.out.lt k hk).1); have OP : Sl (z3.ownsRow w1.heap.size 35 2 (.slice (some ⟨gP, 0, none⟩) (n + 1) cP) (n + 1) (flatT l ++ [.int .i64 (f0 : Int), .int .i64 den])) := ⟨own⟩; replace HSW : Sl (Below w1.heap.size w1 z3) := ⟨zb⟩; refine hK.out _ _ HSW.out (fun hHeld => ?_); clear hK K own hg hor hlt zb OA XB; simp only [Act.put, sS0, sS1, sS2]; refine wpAnyH_one 7 rfl (by kernel_rfl) rfl (fun K hK => ?_); refine wp_alloc_newm 36 rfl #[.slice none 0 0] (fun _ => by kernel_rfl) ?_; rintro z4 gC zg zb zs zk; replace OP : Sl (z4.ownsRow w1.heap.size 35 2 (.slice (some ⟨gP, 0, none⟩) (n + 1) cP) (n + 1) (flatT l ++ [.int .i64 (f0 : Int), .int .i64 den])) := ⟨own_mv OP.out (Mv.of_below zb) (fun zk hk => by have := (OP.out.lt zk hk).2; omega)⟩; have GC : Sl (w1.heap.size ≤ gC) := ⟨by have := HSW.out.size; omega⟩; have XC : Sl (Blk z4 gC 36 #[.slice none 0 0]) := ⟨zk⟩; replace HSW : Sl (Below w1.heap.size w1 z4) := ⟨HSW.out.trans (zb.mono HSW.out.size)⟩; refine hK.out _ _ HSW.out (fun hHeld => ?_); clear hK K zg zb zs zk; simp only [Act.put, sS0, sS1, sS2]; refine wpAnyH_one 8 rfl (by kernel_rfl) rfl (fun K hK => ?_); refine wp_store_slicem 36 (.tmp 10) (.tmp 38) rfl gC 0 (.slice (some ⟨gP, 0, none⟩) (n + 1) cP) rfl rfl 36 #[.slice none 0 0] XC.out (by decide) (by kernel_rfl) rfl rfl ?_; rintro z5 zm zs zb; have hne := own_blk_ne OP.out XC.out (by decide); have hbS : Below w1.heap.size w1 z5 := below_mv HSW.out zm GC.out HSW.out.size; have OP2 : Sl (z5.ownsRow w1.heap.size 35 2 (.slice (some ⟨gP, 0, none⟩) (n + 1) cP) (n + 1) (flatT l ++ [.int .i64 (f0 : Int), .int .i64 den])) := ⟨own_mv OP.out zm (fun k hk e => hne (by rw [hk, e]))⟩; refine hK.out _ _ hbS (fun hHeld => ?_); clear hK K; simp only [Act.put, sS0, sS1, sS2]; refine wpAnyH_done (by kernel_rfl) ?_ _
          (try go_wp2_with fail)
          go_meet
          exact ⟨gC, gP, cP, rfl, ⟨hbS⟩, GC, ⟨zb⟩, ⟨⟨by rw [List.length_append, HT1.out.1]; rfl, by
            have h := Reads.of_own OP2.out; rw [List.flatMap_append]
            exact h⟩⟩, ⟨own_cap OP2.out⟩⟩
        · skip; refine wp_alloc_newm 36 rfl #[.slice none 0 0] (fun _ => by kernel_rfl) ?_; rintro z6 gC zg zb zs zk; replace XB : Sl (Blk z6 gB 35 #[.int .i64 (f0 : Int), .int .i64 den]) := ⟨XB.out.below zb XB.out.lt⟩; replace OA : Sl (z6.ownsRow w1.heap.size 35 2 (.slice (some ⟨gA, 0, none⟩) n cA) n (flatT l)) := ⟨own_mv OA.out (Mv.of_below zb) (fun zk hk => by have := (OA.out.lt zk hk).2; omega)⟩; have GC : Sl (w1.heap.size ≤ gC) := ⟨by have := HSW.out.size; omega⟩; have XC : Sl (Blk z6 gC 36 #[.slice none 0 0]) := ⟨zk⟩; replace HSW : Sl (Below w1.heap.size w1 z6) := ⟨HSW.out.trans (zb.mono HSW.out.size)⟩; refine hK.out _ _ HSW.out (fun hHeld => ?_); clear hK K zg zb zs zk; simp only [Act.put, sS0, sS1, sS2]; refine wpAnyH_one 6 rfl (by kernel_rfl) rfl (fun K hK => ?_); refine wp_append_lies _ (.tmp 33) (.tmp 37) _ rfl w1.heap.size 35 i0 _ 2 16 Tryz.underlying36 HI.out.1 HI.out.2.1 HI.out.2.2.1 HI.out.2.2.2 rfl (by decide) (.slice (some ⟨gA, 0, none⟩) n cA) n (flatT l) rfl OA.out ⟨gB, 0, none⟩ 1 1 [.int .i64 (f0 : Int), .int .i64 den] rfl rfl (fun j u hu => by rw [addr_add, XB.out.cell]; simpa using hu) (by simp; exact ⟨rfl, rfl⟩) (by decide) (by have := HFL.out.2.2; unfold maxLen; omega) (by have := HFL.out.2.2; omega) HSW.out.size _ rfl ?_; intro gP cP z7 own hg hor hlt; have zb : Below w1.heap.size w1 z7 := HSW.out.grown hg HSW.out.size (fun k hk => (OA.out.lt k hk).1); replace XC : Sl (Blk z7 gC 36 #[.slice none 0 0]) := ⟨XC.out.grown hg (fun e => own_blk_ne OA.out XC.out (by decide) e.symm)⟩; have OP : Sl (z7.ownsRow w1.heap.size 35 2 (.slice (some ⟨gP, 0, none⟩) (n + 1) cP) (n + 1) (flatT l ++ [.int .i64 (f0 : Int), .int .i64 den])) := ⟨own⟩; replace HSW : Sl (Below w1.heap.size w1 z7) := ⟨zb⟩; refine hK.out _ _ HSW.out (fun hHeld => ?_); clear hK K own hg hor hlt zb OA XB; simp only [Act.put, sS0, sS1, sS2]; refine wpAnyH_one 8 rfl (by kernel_rfl) rfl (fun K hK => ?_); refine wp_store_slicem 36 (.tmp 10) (.tmp 38) rfl gC 0 (.slice (some ⟨gP, 0, none⟩) (n + 1) cP) rfl rfl 36 #[.slice none 0 0] XC.out (by decide) (by kernel_rfl) rfl rfl ?_; rintro z8 zm zs zb; have hne := own_blk_ne OP.out XC.out (by decide); have hbS : Below w1.heap.size w1 z8 := below_mv HSW.out zm GC.out HSW.out.size; have OP2 : Sl (z8.ownsRow w1.heap.size 35 2 (.slice (some ⟨gP, 0, none⟩) (n + 1) cP) (n + 1) (flatT l ++ [.int .i64 (f0 : Int), .int .i64 den])) := ⟨own_mv OP.out zm (fun k hk e => hne (by rw [hk, e]))⟩; refine hK.out _ _ hbS (fun hHeld => ?_); clear hK K; simp only [Act.put, sS0, sS1, sS2]; refine wpAnyH_done (by kernel_rfl) ?_ _
          (try go_wp2_with fail)
          go_meet
          exact ⟨gC, gP, cP, rfl, ⟨hbS⟩, GC, ⟨zb⟩, ⟨⟨by rw [List.length_append, HT1.out.1]; rfl, by
            have h := Reads.of_own OP2.out; rw [List.flatMap_append]
            exact h⟩⟩, ⟨own_cap OP2.out⟩⟩
      · skip; refine wp_alloc_newm 36 rfl #[.slice none 0 0] (fun _ => by kernel_rfl) ?_; rintro z9 gC zg zb zs zk; replace OA : Sl (z9.ownsRow w1.heap.size 35 2 (.slice (some ⟨gA, 0, none⟩) n cA) n (flatT l)) := ⟨own_mv OA.out (Mv.of_below zb) (fun zk hk => by have := (OA.out.lt zk hk).2; omega)⟩; have GC : Sl (w1.heap.size ≤ gC) := ⟨by have := HSW.out.size; omega⟩; have XC : Sl (Blk z9 gC 36 #[.slice none 0 0]) := ⟨zk⟩; replace HSW : Sl (Below w1.heap.size w1 z9) := ⟨HSW.out.trans (zb.mono HSW.out.size)⟩; refine hK.out _ _ HSW.out (fun hHeld => ?_); clear hK K zg zb zs zk; simp only [Act.put, sS0, sS1, sS2]; refine wpAnyH_one 5 rfl (by kernel_rfl) rfl (fun K hK => ?_); refine wp_of_run (.slice (some ⟨z9.heap.size, 0, none⟩) 1 1) (z9.alloc (.cells #[.int .i64 (f0 : Int), .int .i64 den] 35)) (by kernel_rfl) ?_; have zb : Below z9.heap.size z9 (z9.alloc (.cells #[.int .i64 (f0 : Int), .int .i64 den] 35)) := (Below.refl _ _).alloc (Nat.le_refl _) _; have zk := Blk.new z9 35 #[.int .i64 (f0 : Int), .int .i64 den]; refine hK.out _ _ (HSW.out.trans (zb.mono HSW.out.size)) (fun hHeld => ?_); clear hK K; simp only [Act.put, sS0, sS1, sS2]; generalize z9.alloc (.cells #[.int .i64 (f0 : Int), .int .i64 den] 35) = z10 at *
        obtain ⟨gB, hgB⟩ : ∃ g, z9.heap.size = g := ⟨_, rfl⟩; replace XC : Sl (Blk z10 gC 36 #[.slice none 0 0]) := ⟨XC.out.below zb XC.out.lt⟩; replace OA : Sl (z10.ownsRow w1.heap.size 35 2 (.slice (some ⟨gA, 0, none⟩) n cA) n (flatT l)) := ⟨own_mv OA.out (Mv.of_below zb) (fun zk hk => by have := (OA.out.lt zk hk).2; omega)⟩; replace HSW : Sl (Below w1.heap.size w1 z10) := ⟨HSW.out.trans (zb.mono HSW.out.size)⟩; rw [hgB] at zk; rw [hgB]; have XB : Sl (Blk z10 gB 35 #[.int .i64 (f0 : Int), .int .i64 den]) := ⟨zk⟩; clear zb zk hgB; refine wpAnyH_one 6 rfl (by kernel_rfl) rfl (fun K hK => ?_); refine wp_append_lies _ (.tmp 33) (.tmp 37) _ rfl w1.heap.size 35 i0 _ 2 16 Tryz.underlying36 HI.out.1 HI.out.2.1 HI.out.2.2.1 HI.out.2.2.2 rfl (by decide) (.slice (some ⟨gA, 0, none⟩) n cA) n (flatT l) rfl OA.out ⟨gB, 0, none⟩ 1 1 [.int .i64 (f0 : Int), .int .i64 den] rfl rfl (fun j u hu => by rw [addr_add, XB.out.cell]; simpa using hu) (by simp; exact ⟨rfl, rfl⟩) (by decide) (by have := HFL.out.2.2; unfold maxLen; omega) (by have := HFL.out.2.2; omega) HSW.out.size _ rfl ?_; intro gP cP z11 own hg hor hlt; have zb : Below w1.heap.size w1 z11 := HSW.out.grown hg HSW.out.size (fun k hk => (OA.out.lt k hk).1); replace XC : Sl (Blk z11 gC 36 #[.slice none 0 0]) := ⟨XC.out.grown hg (fun e => own_blk_ne OA.out XC.out (by decide) e.symm)⟩; have OP : Sl (z11.ownsRow w1.heap.size 35 2 (.slice (some ⟨gP, 0, none⟩) (n + 1) cP) (n + 1) (flatT l ++ [.int .i64 (f0 : Int), .int .i64 den])) := ⟨own⟩; replace HSW : Sl (Below w1.heap.size w1 z11) := ⟨zb⟩; refine hK.out _ _ HSW.out (fun hHeld => ?_); clear hK K own hg hor hlt zb OA XB; simp only [Act.put, sS0, sS1, sS2]; refine wpAnyH_one 8 rfl (by kernel_rfl) rfl (fun K hK => ?_); refine wp_store_slicem 36 (.tmp 10) (.tmp 38) rfl gC 0 (.slice (some ⟨gP, 0, none⟩) (n + 1) cP) rfl rfl 36 #[.slice none 0 0] XC.out (by decide) (by kernel_rfl) rfl rfl ?_; rintro z12 zm zs zb; have hne := own_blk_ne OP.out XC.out (by decide); have hbS : Below w1.heap.size w1 z12 := below_mv HSW.out zm GC.out HSW.out.size; have OP2 : Sl (z12.ownsRow w1.heap.size 35 2 (.slice (some ⟨gP, 0, none⟩) (n + 1) cP) (n + 1) (flatT l ++ [.int .i64 (f0 : Int), .int .i64 den])) := ⟨own_mv OP.out zm (fun k hk e => hne (by rw [hk, e]))⟩; refine hK.out _ _ hbS (fun hHeld => ?_); clear hK K; simp only [Act.put, sS0, sS1, sS2]; refine wpAnyH_done (by kernel_rfl) ?_ _
        (try go_wp2_with fail)
        go_meet
        exact ⟨gC, gP, cP, rfl, ⟨hbS⟩, GC, ⟨zb⟩, ⟨⟨by rw [List.length_append, HT1.out.1]; rfl, by
          have h := Reads.of_own OP2.out; rw [List.flatMap_append]
          exact h⟩⟩, ⟨own_cap OP2.out⟩⟩
    · skip; refine wp_of_run (.slice (some ⟨w1.drew.heap.size, 0, none⟩) 1 1) (w1.drew.alloc (.cells #[.int .i64 (f0 : Int), .int .i64 den] 35)) (by kernel_rfl) ?_; have zb : Below w1.drew.heap.size w1.drew (w1.drew.alloc (.cells #[.int .i64 (f0 : Int), .int .i64 den] 35)) := (Below.refl _ _).alloc (Nat.le_refl _) _; have zk := Blk.new w1.drew 35 #[.int .i64 (f0 : Int), .int .i64 den]; refine hK.out _ _ (HSW.out.trans (zb.mono HSW.out.size)) (fun hHeld => ?_); clear hK K; simp only [Act.put, sS0, sS1, sS2]; generalize w1.drew.alloc (.cells #[.int .i64 (f0 : Int), .int .i64 den] 35) = z13 at *
      obtain ⟨gB, hgB⟩ : ∃ g, w1.drew.heap.size = g := ⟨_, rfl⟩; replace HSW : Sl (Below w1.heap.size w1 z13) := ⟨HSW.out.trans (zb.mono HSW.out.size)⟩; rw [hgB] at zk; rw [hgB]; have XB : Sl (Blk z13 gB 35 #[.int .i64 (f0 : Int), .int .i64 den]) := ⟨zk⟩; clear zb zk hgB; refine wpAnyH_twom 1 7 rfl rfl (by kernel_rfl) rfl rfl (fun K hK => ?_) (fun K hK => ?_)
      · skip; refine wp_append_lies _ (.const (.slice none 0 0)) (.tmp 32) _ rfl w1.heap.size 35 i0 _ 2 16 Tryz.underlying36 HI.out.1 HI.out.2.1 HI.out.2.2.1 HI.out.2.2.2 rfl (by decide) (.slice none 0 0) 0 [] rfl (World.ownsRow_nil _ _ _ _) ad n c (flatT l) rfl HFL.out.1 (fun j u hu => olds_at HT1.out HSW.out rfl hu) (flatT_one l) HFL.out.2.1 (by have := HFL.out.2.2; unfold maxLen; omega) (by have := HFL.out.2.2; omega) HSW.out.size _ rfl ?_; intro gA cA z14 own hg hor hlt; have zb : Below z13.heap.size z13 z14 := (Below.refl _ _).grown hg (Nat.le_refl _) (fun k hk => by cases hk); replace XB : Sl (Blk z14 gB 35 #[.int .i64 (f0 : Int), .int .i64 den]) := ⟨XB.out.below zb XB.out.lt⟩; rw [Nat.zero_add, List.nil_append] at own; rw [Nat.zero_add]; have OA : Sl (z14.ownsRow w1.heap.size 35 2 (.slice (some ⟨gA, 0, none⟩) n cA) n (flatT l)) := ⟨own⟩; replace HSW : Sl (Below w1.heap.size w1 z14) := ⟨HSW.out.trans (zb.mono HSW.out.size)⟩; refine hK.out _ _ HSW.out (fun hHeld => ?_); clear hK K own hg hor hlt zb; simp only [Act.put, sS0, sS1, sS2]; refine wpAnyH_twom 6 7 rfl rfl (by kernel_rfl) rfl rfl (fun K hK => ?_) (fun K hK => ?_)
        · skip; refine wp_append_lies _ (.tmp 33) (.tmp 37) _ rfl w1.heap.size 35 i0 _ 2 16 Tryz.underlying36 HI.out.1 HI.out.2.1 HI.out.2.2.1 HI.out.2.2.2 rfl (by decide) (.slice (some ⟨gA, 0, none⟩) n cA) n (flatT l) rfl OA.out ⟨gB, 0, none⟩ 1 1 [.int .i64 (f0 : Int), .int .i64 den] rfl rfl (fun j u hu => by rw [addr_add, XB.out.cell]; simpa using hu) (by simp; exact ⟨rfl, rfl⟩) (by decide) (by have := HFL.out.2.2; unfold maxLen; omega) (by have := HFL.out.2.2; omega) HSW.out.size _ rfl ?_; intro gP cP z15 own hg hor hlt; have zb : Below w1.heap.size w1 z15 := HSW.out.grown hg HSW.out.size (fun k hk => (OA.out.lt k hk).1); have OP : Sl (z15.ownsRow w1.heap.size 35 2 (.slice (some ⟨gP, 0, none⟩) (n + 1) cP) (n + 1) (flatT l ++ [.int .i64 (f0 : Int), .int .i64 den])) := ⟨own⟩; replace HSW : Sl (Below w1.heap.size w1 z15) := ⟨zb⟩; refine hK.out _ _ HSW.out (fun hHeld => ?_); clear hK K own hg hor hlt zb OA XB; simp only [Act.put, sS0, sS1, sS2]; refine wpAnyH_one 7 rfl (by kernel_rfl) rfl (fun K hK => ?_); refine wp_alloc_newm 36 rfl #[.slice none 0 0] (fun _ => by kernel_rfl) ?_; rintro z16 gC zg zb zs zk; replace OP : Sl (z16.ownsRow w1.heap.size 35 2 (.slice (some ⟨gP, 0, none⟩) (n + 1) cP) (n + 1) (flatT l ++ [.int .i64 (f0 : Int), .int .i64 den])) := ⟨own_mv OP.out (Mv.of_below zb) (fun zk hk => by have := (OP.out.lt zk hk).2; omega)⟩; have GC : Sl (w1.heap.size ≤ gC) := ⟨by have := HSW.out.size; omega⟩; have XC : Sl (Blk z16 gC 36 #[.slice none 0 0]) := ⟨zk⟩; replace HSW : Sl (Below w1.heap.size w1 z16) := ⟨HSW.out.trans (zb.mono HSW.out.size)⟩; refine hK.out _ _ HSW.out (fun hHeld => ?_); clear hK K zg zb zs zk; simp only [Act.put, sS0, sS1, sS2]; refine wpAnyH_one 8 rfl (by kernel_rfl) rfl (fun K hK => ?_); refine wp_store_slicem 36 (.tmp 10) (.tmp 38) rfl gC 0 (.slice (some ⟨gP, 0, none⟩) (n + 1) cP) rfl rfl 36 #[.slice none 0 0] XC.out (by decide) (by kernel_rfl) rfl rfl ?_; rintro z17 zm zs zb; have hne := own_blk_ne OP.out XC.out (by decide); have hbS : Below w1.heap.size w1 z17 := below_mv HSW.out zm GC.out HSW.out.size; have OP2 : Sl (z17.ownsRow w1.heap.size 35 2 (.slice (some ⟨gP, 0, none⟩) (n + 1) cP) (n + 1) (flatT l ++ [.int .i64 (f0 : Int), .int .i64 den])) := ⟨own_mv OP.out zm (fun k hk e => hne (by rw [hk, e]))⟩; refine hK.out _ _ hbS (fun hHeld => ?_); clear hK K; simp only [Act.put, sS0, sS1, sS2]; refine wpAnyH_done (by kernel_rfl) ?_ _
          (try go_wp2_with fail)
          go_meet
          exact ⟨gC, gP, cP, rfl, ⟨hbS⟩, GC, ⟨zb⟩, ⟨⟨by rw [List.length_append, HT1.out.1]; rfl, by
            have h := Reads.of_own OP2.out; rw [List.flatMap_append]
            exact h⟩⟩, ⟨own_cap OP2.out⟩⟩
        · skip; refine wp_alloc_newm 36 rfl #[.slice none 0 0] (fun _ => by kernel_rfl) ?_; rintro z18 gC zg zb zs zk; replace XB : Sl (Blk z18 gB 35 #[.int .i64 (f0 : Int), .int .i64 den]) := ⟨XB.out.below zb XB.out.lt⟩; replace OA : Sl (z18.ownsRow w1.heap.size 35 2 (.slice (some ⟨gA, 0, none⟩) n cA) n (flatT l)) := ⟨own_mv OA.out (Mv.of_below zb) (fun zk hk => by have := (OA.out.lt zk hk).2; omega)⟩; have GC : Sl (w1.heap.size ≤ gC) := ⟨by have := HSW.out.size; omega⟩; have XC : Sl (Blk z18 gC 36 #[.slice none 0 0]) := ⟨zk⟩; replace HSW : Sl (Below w1.heap.size w1 z18) := ⟨HSW.out.trans (zb.mono HSW.out.size)⟩; refine hK.out _ _ HSW.out (fun hHeld => ?_); clear hK K zg zb zs zk; simp only [Act.put, sS0, sS1, sS2]; refine wpAnyH_one 6 rfl (by kernel_rfl) rfl (fun K hK => ?_); refine wp_append_lies _ (.tmp 33) (.tmp 37) _ rfl w1.heap.size 35 i0 _ 2 16 Tryz.underlying36 HI.out.1 HI.out.2.1 HI.out.2.2.1 HI.out.2.2.2 rfl (by decide) (.slice (some ⟨gA, 0, none⟩) n cA) n (flatT l) rfl OA.out ⟨gB, 0, none⟩ 1 1 [.int .i64 (f0 : Int), .int .i64 den] rfl rfl (fun j u hu => by rw [addr_add, XB.out.cell]; simpa using hu) (by simp; exact ⟨rfl, rfl⟩) (by decide) (by have := HFL.out.2.2; unfold maxLen; omega) (by have := HFL.out.2.2; omega) HSW.out.size _ rfl ?_; intro gP cP z19 own hg hor hlt; have zb : Below w1.heap.size w1 z19 := HSW.out.grown hg HSW.out.size (fun k hk => (OA.out.lt k hk).1); replace XC : Sl (Blk z19 gC 36 #[.slice none 0 0]) := ⟨XC.out.grown hg (fun e => own_blk_ne OA.out XC.out (by decide) e.symm)⟩; have OP : Sl (z19.ownsRow w1.heap.size 35 2 (.slice (some ⟨gP, 0, none⟩) (n + 1) cP) (n + 1) (flatT l ++ [.int .i64 (f0 : Int), .int .i64 den])) := ⟨own⟩; replace HSW : Sl (Below w1.heap.size w1 z19) := ⟨zb⟩; refine hK.out _ _ HSW.out (fun hHeld => ?_); clear hK K own hg hor hlt zb OA XB; simp only [Act.put, sS0, sS1, sS2]; refine wpAnyH_one 8 rfl (by kernel_rfl) rfl (fun K hK => ?_); refine wp_store_slicem 36 (.tmp 10) (.tmp 38) rfl gC 0 (.slice (some ⟨gP, 0, none⟩) (n + 1) cP) rfl rfl 36 #[.slice none 0 0] XC.out (by decide) (by kernel_rfl) rfl rfl ?_; rintro z20 zm zs zb; have hne := own_blk_ne OP.out XC.out (by decide); have hbS : Below w1.heap.size w1 z20 := below_mv HSW.out zm GC.out HSW.out.size; have OP2 : Sl (z20.ownsRow w1.heap.size 35 2 (.slice (some ⟨gP, 0, none⟩) (n + 1) cP) (n + 1) (flatT l ++ [.int .i64 (f0 : Int), .int .i64 den])) := ⟨own_mv OP.out zm (fun k hk e => hne (by rw [hk, e]))⟩; refine hK.out _ _ hbS (fun hHeld => ?_); clear hK K; simp only [Act.put, sS0, sS1, sS2]; refine wpAnyH_done (by kernel_rfl) ?_ _
          (try go_wp2_with fail)
          go_meet
          exact ⟨gC, gP, cP, rfl, ⟨hbS⟩, GC, ⟨zb⟩, ⟨⟨by rw [List.length_append, HT1.out.1]; rfl, by
            have h := Reads.of_own OP2.out; rw [List.flatMap_append]
            exact h⟩⟩, ⟨own_cap OP2.out⟩⟩
      · skip; refine wp_alloc_newm 36 rfl #[.slice none 0 0] (fun _ => by kernel_rfl) ?_; rintro z21 gC zg zb zs zk; replace XB : Sl (Blk z21 gB 35 #[.int .i64 (f0 : Int), .int .i64 den]) := ⟨XB.out.below zb XB.out.lt⟩; have GC : Sl (w1.heap.size ≤ gC) := ⟨by have := HSW.out.size; omega⟩; have XC : Sl (Blk z21 gC 36 #[.slice none 0 0]) := ⟨zk⟩; replace HSW : Sl (Below w1.heap.size w1 z21) := ⟨HSW.out.trans (zb.mono HSW.out.size)⟩; refine hK.out _ _ HSW.out (fun hHeld => ?_); clear hK K zg zb zs zk; simp only [Act.put, sS0, sS1, sS2]; refine wpAnyH_one 1 rfl (by kernel_rfl) rfl (fun K hK => ?_); refine wp_append_lies _ (.const (.slice none 0 0)) (.tmp 32) _ rfl w1.heap.size 35 i0 _ 2 16 Tryz.underlying36 HI.out.1 HI.out.2.1 HI.out.2.2.1 HI.out.2.2.2 rfl (by decide) (.slice none 0 0) 0 [] rfl (World.ownsRow_nil _ _ _ _) ad n c (flatT l) rfl HFL.out.1 (fun j u hu => olds_at HT1.out HSW.out rfl hu) (flatT_one l) HFL.out.2.1 (by have := HFL.out.2.2; unfold maxLen; omega) (by have := HFL.out.2.2; omega) HSW.out.size _ rfl ?_; intro gA cA z22 own hg hor hlt; have zb : Below z21.heap.size z21 z22 := (Below.refl _ _).grown hg (Nat.le_refl _) (fun k hk => by cases hk); replace XB : Sl (Blk z22 gB 35 #[.int .i64 (f0 : Int), .int .i64 den]) := ⟨XB.out.below zb XB.out.lt⟩; replace XC : Sl (Blk z22 gC 36 #[.slice none 0 0]) := ⟨XC.out.below zb XC.out.lt⟩; rw [Nat.zero_add, List.nil_append] at own; rw [Nat.zero_add]; have OA : Sl (z22.ownsRow w1.heap.size 35 2 (.slice (some ⟨gA, 0, none⟩) n cA) n (flatT l)) := ⟨own⟩; replace HSW : Sl (Below w1.heap.size w1 z22) := ⟨HSW.out.trans (zb.mono HSW.out.size)⟩; refine hK.out _ _ HSW.out (fun hHeld => ?_); clear hK K own hg hor hlt zb; simp only [Act.put, sS0, sS1, sS2]; refine wpAnyH_one 6 rfl (by kernel_rfl) rfl (fun K hK => ?_); refine wp_append_lies _ (.tmp 33) (.tmp 37) _ rfl w1.heap.size 35 i0 _ 2 16 Tryz.underlying36 HI.out.1 HI.out.2.1 HI.out.2.2.1 HI.out.2.2.2 rfl (by decide) (.slice (some ⟨gA, 0, none⟩) n cA) n (flatT l) rfl OA.out ⟨gB, 0, none⟩ 1 1 [.int .i64 (f0 : Int), .int .i64 den] rfl rfl (fun j u hu => by rw [addr_add, XB.out.cell]; simpa using hu) (by simp; exact ⟨rfl, rfl⟩) (by decide) (by have := HFL.out.2.2; unfold maxLen; omega) (by have := HFL.out.2.2; omega) HSW.out.size _ rfl ?_; intro gP cP z23 own hg hor hlt; have zb : Below w1.heap.size w1 z23 := HSW.out.grown hg HSW.out.size (fun k hk => (OA.out.lt k hk).1); replace XC : Sl (Blk z23 gC 36 #[.slice none 0 0]) := ⟨XC.out.grown hg (fun e => own_blk_ne OA.out XC.out (by decide) e.symm)⟩; have OP : Sl (z23.ownsRow w1.heap.size 35 2 (.slice (some ⟨gP, 0, none⟩) (n + 1) cP) (n + 1) (flatT l ++ [.int .i64 (f0 : Int), .int .i64 den])) := ⟨own⟩; replace HSW : Sl (Below w1.heap.size w1 z23) := ⟨zb⟩; refine hK.out _ _ HSW.out (fun hHeld => ?_); clear hK K own hg hor hlt zb OA XB; simp only [Act.put, sS0, sS1, sS2]; refine wpAnyH_one 8 rfl (by kernel_rfl) rfl (fun K hK => ?_)
        refine wp_store_slicem 36 (.tmp 10) (.tmp 38) rfl gC 0 (.slice (some ⟨gP, 0, none⟩) (n + 1) cP) rfl rfl 36 #[.slice none 0 0] XC.out (by decide) (by kernel_rfl) rfl rfl ?_; rintro z24 zm zs zb; have hne := own_blk_ne OP.out XC.out (by decide); have hbS : Below w1.heap.size w1 z24 := below_mv HSW.out zm GC.out HSW.out.size; have OP2 : Sl (z24.ownsRow w1.heap.size 35 2 (.slice (some ⟨gP, 0, none⟩) (n + 1) cP) (n + 1) (flatT l ++ [.int .i64 (f0 : Int), .int .i64 den])) := ⟨own_mv OP.out zm (fun k hk e => hne (by rw [hk, e]))⟩; refine hK.out _ _ hbS (fun hHeld => ?_); clear hK K; simp only [Act.put, sS0, sS1, sS2]; refine wpAnyH_done (by kernel_rfl) ?_ _
        (try go_wp2_with fail)
        go_meet
        exact ⟨gC, gP, cP, rfl, ⟨hbS⟩, GC, ⟨zb⟩, ⟨⟨by rw [List.length_append, HT1.out.1]; rfl, by
          have h := Reads.of_own OP2.out; rw [List.flatMap_append]
          exact h⟩⟩, ⟨own_cap OP2.out⟩⟩
    · skip; refine wp_alloc_newm 36 rfl #[.slice none 0 0] (fun _ => by kernel_rfl) ?_; rintro z25 gC zg zb zs zk; have GC : Sl (w1.heap.size ≤ gC) := ⟨by have := HSW.out.size; omega⟩; have XC : Sl (Blk z25 gC 36 #[.slice none 0 0]) := ⟨zk⟩; replace HSW : Sl (Below w1.heap.size w1 z25) := ⟨HSW.out.trans (zb.mono HSW.out.size)⟩; refine hK.out _ _ HSW.out (fun hHeld => ?_); clear hK K zg zb zs zk; simp only [Act.put, sS0, sS1, sS2]; refine wpAnyH_twom 1 5 rfl rfl (by kernel_rfl) rfl rfl (fun K hK => ?_) (fun K hK => ?_)
      · skip; refine wp_append_lies _ (.const (.slice none 0 0)) (.tmp 32) _ rfl w1.heap.size 35 i0 _ 2 16 Tryz.underlying36 HI.out.1 HI.out.2.1 HI.out.2.2.1 HI.out.2.2.2 rfl (by decide) (.slice none 0 0) 0 [] rfl (World.ownsRow_nil _ _ _ _) ad n c (flatT l) rfl HFL.out.1 (fun j u hu => olds_at HT1.out HSW.out rfl hu) (flatT_one l) HFL.out.2.1 (by have := HFL.out.2.2; unfold maxLen; omega) (by have := HFL.out.2.2; omega) HSW.out.size _ rfl ?_; intro gA cA z26 own hg hor hlt; have zb : Below z25.heap.size z25 z26 := (Below.refl _ _).grown hg (Nat.le_refl _) (fun k hk => by cases hk); replace XC : Sl (Blk z26 gC 36 #[.slice none 0 0]) := ⟨XC.out.below zb XC.out.lt⟩; rw [Nat.zero_add, List.nil_append] at own; rw [Nat.zero_add]; have OA : Sl (z26.ownsRow w1.heap.size 35 2 (.slice (some ⟨gA, 0, none⟩) n cA) n (flatT l)) := ⟨own⟩; replace HSW : Sl (Below w1.heap.size w1 z26) := ⟨HSW.out.trans (zb.mono HSW.out.size)⟩; refine hK.out _ _ HSW.out (fun hHeld => ?_); clear hK K own hg hor hlt zb; simp only [Act.put, sS0, sS1, sS2]; refine wpAnyH_one 5 rfl (by kernel_rfl) rfl (fun K hK => ?_); refine wp_of_run (.slice (some ⟨z26.heap.size, 0, none⟩) 1 1) (z26.alloc (.cells #[.int .i64 (f0 : Int), .int .i64 den] 35)) (by kernel_rfl) ?_; have zb : Below z26.heap.size z26 (z26.alloc (.cells #[.int .i64 (f0 : Int), .int .i64 den] 35)) := (Below.refl _ _).alloc (Nat.le_refl _) _; have zk := Blk.new z26 35 #[.int .i64 (f0 : Int), .int .i64 den]; refine hK.out _ _ (HSW.out.trans (zb.mono HSW.out.size)) (fun hHeld => ?_); clear hK K; simp only [Act.put, sS0, sS1, sS2]; generalize z26.alloc (.cells #[.int .i64 (f0 : Int), .int .i64 den] 35) = z27 at *
        obtain ⟨gB, hgB⟩ : ∃ g, z26.heap.size = g := ⟨_, rfl⟩; replace XC : Sl (Blk z27 gC 36 #[.slice none 0 0]) := ⟨XC.out.below zb XC.out.lt⟩; replace OA : Sl (z27.ownsRow w1.heap.size 35 2 (.slice (some ⟨gA, 0, none⟩) n cA) n (flatT l)) := ⟨own_mv OA.out (Mv.of_below zb) (fun zk hk => by have := (OA.out.lt zk hk).2; omega)⟩; replace HSW : Sl (Below w1.heap.size w1 z27) := ⟨HSW.out.trans (zb.mono HSW.out.size)⟩; rw [hgB] at zk; rw [hgB]; have XB : Sl (Blk z27 gB 35 #[.int .i64 (f0 : Int), .int .i64 den]) := ⟨zk⟩; clear zb zk hgB; refine wpAnyH_one 6 rfl (by kernel_rfl) rfl (fun K hK => ?_); refine wp_append_lies _ (.tmp 33) (.tmp 37) _ rfl w1.heap.size 35 i0 _ 2 16 Tryz.underlying36 HI.out.1 HI.out.2.1 HI.out.2.2.1 HI.out.2.2.2 rfl (by decide) (.slice (some ⟨gA, 0, none⟩) n cA) n (flatT l) rfl OA.out ⟨gB, 0, none⟩ 1 1 [.int .i64 (f0 : Int), .int .i64 den] rfl rfl (fun j u hu => by rw [addr_add, XB.out.cell]; simpa using hu) (by simp; exact ⟨rfl, rfl⟩) (by decide) (by have := HFL.out.2.2; unfold maxLen; omega) (by have := HFL.out.2.2; omega) HSW.out.size _ rfl ?_; intro gP cP z28 own hg hor hlt; have zb : Below w1.heap.size w1 z28 := HSW.out.grown hg HSW.out.size (fun k hk => (OA.out.lt k hk).1); replace XC : Sl (Blk z28 gC 36 #[.slice none 0 0]) := ⟨XC.out.grown hg (fun e => own_blk_ne OA.out XC.out (by decide) e.symm)⟩; have OP : Sl (z28.ownsRow w1.heap.size 35 2 (.slice (some ⟨gP, 0, none⟩) (n + 1) cP) (n + 1) (flatT l ++ [.int .i64 (f0 : Int), .int .i64 den])) := ⟨own⟩; replace HSW : Sl (Below w1.heap.size w1 z28) := ⟨zb⟩; refine hK.out _ _ HSW.out (fun hHeld => ?_); clear hK K own hg hor hlt zb OA XB; simp only [Act.put, sS0, sS1, sS2]; refine wpAnyH_one 8 rfl (by kernel_rfl) rfl (fun K hK => ?_); refine wp_store_slicem 36 (.tmp 10) (.tmp 38) rfl gC 0 (.slice (some ⟨gP, 0, none⟩) (n + 1) cP) rfl rfl 36 #[.slice none 0 0] XC.out (by decide) (by kernel_rfl) rfl rfl ?_; rintro z29 zm zs zb; have hne := own_blk_ne OP.out XC.out (by decide); have hbS : Below w1.heap.size w1 z29 := below_mv HSW.out zm GC.out HSW.out.size; have OP2 : Sl (z29.ownsRow w1.heap.size 35 2 (.slice (some ⟨gP, 0, none⟩) (n + 1) cP) (n + 1) (flatT l ++ [.int .i64 (f0 : Int), .int .i64 den])) := ⟨own_mv OP.out zm (fun k hk e => hne (by rw [hk, e]))⟩; refine hK.out _ _ hbS (fun hHeld => ?_); clear hK K; simp only [Act.put, sS0, sS1, sS2]; refine wpAnyH_done (by kernel_rfl) ?_ _
        (try go_wp2_with fail)
        go_meet
        exact ⟨gC, gP, cP, rfl, ⟨hbS⟩, GC, ⟨zb⟩, ⟨⟨by rw [List.length_append, HT1.out.1]; rfl, by
          have h := Reads.of_own OP2.out; rw [List.flatMap_append]
          exact h⟩⟩, ⟨own_cap OP2.out⟩⟩
      · skip; refine wp_of_run (.slice (some ⟨z25.heap.size, 0, none⟩) 1 1) (z25.alloc (.cells #[.int .i64 (f0 : Int), .int .i64 den] 35)) (by kernel_rfl) ?_; have zb : Below z25.heap.size z25 (z25.alloc (.cells #[.int .i64 (f0 : Int), .int .i64 den] 35)) := (Below.refl _ _).alloc (Nat.le_refl _) _; have zk := Blk.new z25 35 #[.int .i64 (f0 : Int), .int .i64 den]; refine hK.out _ _ (HSW.out.trans (zb.mono HSW.out.size)) (fun hHeld => ?_); clear hK K; simp only [Act.put, sS0, sS1, sS2]; generalize z25.alloc (.cells #[.int .i64 (f0 : Int), .int .i64 den] 35) = z30 at *
        obtain ⟨gB, hgB⟩ : ∃ g, z25.heap.size = g := ⟨_, rfl⟩; replace XC : Sl (Blk z30 gC 36 #[.slice none 0 0]) := ⟨XC.out.below zb XC.out.lt⟩; replace HSW : Sl (Below w1.heap.size w1 z30) := ⟨HSW.out.trans (zb.mono HSW.out.size)⟩; rw [hgB] at zk; rw [hgB]; have XB : Sl (Blk z30 gB 35 #[.int .i64 (f0 : Int), .int .i64 den]) := ⟨zk⟩; clear zb zk hgB; refine wpAnyH_one 1 rfl (by kernel_rfl) rfl (fun K hK => ?_); refine wp_append_lies _ (.const (.slice none 0 0)) (.tmp 32) _ rfl w1.heap.size 35 i0 _ 2 16 Tryz.underlying36 HI.out.1 HI.out.2.1 HI.out.2.2.1 HI.out.2.2.2 rfl (by decide) (.slice none 0 0) 0 [] rfl (World.ownsRow_nil _ _ _ _) ad n c (flatT l) rfl HFL.out.1 (fun j u hu => olds_at HT1.out HSW.out rfl hu) (flatT_one l) HFL.out.2.1 (by have := HFL.out.2.2; unfold maxLen; omega) (by have := HFL.out.2.2; omega) HSW.out.size _ rfl ?_; intro gA cA z31 own hg hor hlt; have zb : Below z30.heap.size z30 z31 := (Below.refl _ _).grown hg (Nat.le_refl _) (fun k hk => by cases hk); replace XB : Sl (Blk z31 gB 35 #[.int .i64 (f0 : Int), .int .i64 den]) := ⟨XB.out.below zb XB.out.lt⟩; replace XC : Sl (Blk z31 gC 36 #[.slice none 0 0]) := ⟨XC.out.below zb XC.out.lt⟩; rw [Nat.zero_add, List.nil_append] at own; rw [Nat.zero_add]; have OA : Sl (z31.ownsRow w1.heap.size 35 2 (.slice (some ⟨gA, 0, none⟩) n cA) n (flatT l)) := ⟨own⟩; replace HSW : Sl (Below w1.heap.size w1 z31) := ⟨HSW.out.trans (zb.mono HSW.out.size)⟩; refine hK.out _ _ HSW.out (fun hHeld => ?_); clear hK K own hg hor hlt zb; simp only [Act.put, sS0, sS1, sS2]; refine wpAnyH_one 6 rfl (by kernel_rfl) rfl (fun K hK => ?_); refine wp_append_lies _ (.tmp 33) (.tmp 37) _ rfl w1.heap.size 35 i0 _ 2 16 Tryz.underlying36 HI.out.1 HI.out.2.1 HI.out.2.2.1 HI.out.2.2.2 rfl (by decide) (.slice (some ⟨gA, 0, none⟩) n cA) n (flatT l) rfl OA.out ⟨gB, 0, none⟩ 1 1 [.int .i64 (f0 : Int), .int .i64 den] rfl rfl (fun j u hu => by rw [addr_add, XB.out.cell]; simpa using hu) (by simp; exact ⟨rfl, rfl⟩) (by decide) (by have := HFL.out.2.2; unfold maxLen; omega) (by have := HFL.out.2.2; omega) HSW.out.size _ rfl ?_; intro gP cP z32 own hg hor hlt; have zb : Below w1.heap.size w1 z32 := HSW.out.grown hg HSW.out.size (fun k hk => (OA.out.lt k hk).1); replace XC : Sl (Blk z32 gC 36 #[.slice none 0 0]) := ⟨XC.out.grown hg (fun e => own_blk_ne OA.out XC.out (by decide) e.symm)⟩; have OP : Sl (z32.ownsRow w1.heap.size 35 2 (.slice (some ⟨gP, 0, none⟩) (n + 1) cP) (n + 1) (flatT l ++ [.int .i64 (f0 : Int), .int .i64 den])) := ⟨own⟩; replace HSW : Sl (Below w1.heap.size w1 z32) := ⟨zb⟩; refine hK.out _ _ HSW.out (fun hHeld => ?_); clear hK K own hg hor hlt zb OA XB; simp only [Act.put, sS0, sS1, sS2]; refine wpAnyH_one 8 rfl (by kernel_rfl) rfl (fun K hK => ?_); refine wp_store_slicem 36 (.tmp 10) (.tmp 38) rfl gC 0 (.slice (some ⟨gP, 0, none⟩) (n + 1) cP) rfl rfl 36 #[.slice none 0 0] XC.out (by decide) (by kernel_rfl) rfl rfl ?_; rintro z33 zm zs zb; have hne := own_blk_ne OP.out XC.out (by decide)
        have hbS : Below w1.heap.size w1 z33 := below_mv HSW.out zm GC.out HSW.out.size; have OP2 : Sl (z33.ownsRow w1.heap.size 35 2 (.slice (some ⟨gP, 0, none⟩) (n + 1) cP) (n + 1) (flatT l ++ [.int .i64 (f0 : Int), .int .i64 den])) := ⟨own_mv OP.out zm (fun k hk e => hne (by rw [hk, e]))⟩; refine hK.out _ _ hbS (fun hHeld => ?_); clear hK K; simp only [Act.put, sS0, sS1, sS2]; refine wpAnyH_done (by kernel_rfl) ?_ _
        (try go_wp2_with fail)
        go_meet
        exact ⟨gC, gP, cP, rfl, ⟨hbS⟩, GC, ⟨zb⟩, ⟨⟨by rw [List.length_append, HT1.out.1]; rfl, by
          have h := Reads.of_own OP2.out; rw [List.flatMap_append]
          exact h⟩⟩, ⟨own_cap OP2.out⟩⟩
  case rest =>
    obtain ⟨gT, gP, cP, rfl, HB2, GT, XT, HTR, HCP⟩ := hcut; have x5 := X5.out.below HB2.out X5.out.lt; have bt := XT.out.alloc (.cells #[(.func (.func 40) #[] #[.pointer (some ⟨gT, 0, none⟩), .pointer (some ⟨w.heap.size, 0, none⟩)])] 63); have b5 := x5.alloc (.cells #[(.func (.func 40) #[] #[.pointer (some ⟨gT, 0, none⟩), .pointer (some ⟨w.heap.size, 0, none⟩)])] 63); have bq := Blk.new wc 63 #[(.func (.func 40) #[] #[.pointer (some ⟨gT, 0, none⟩), .pointer (some ⟨w.heap.size, 0, none⟩)])]; have hB2 := HB1.out.trans (HB2.out.mono HB1.out.size); have hB3 := hB2.alloc hB2.size (.cells #[(.func (.func 40) #[] #[.pointer (some ⟨gT, 0, none⟩), .pointer (some ⟨w.heap.size, 0, none⟩)])] 63); have hT3 := HTR.out.below ((Below.refl wc.heap.size wc).alloc (Nat.le_refl _) (.cells #[(.func (.func 40) #[] #[.pointer (some ⟨gT, 0, none⟩), .pointer (some ⟨w.heap.size, 0, none⟩)])] 63))
    have HFA : Sl (∀ (m : Nat) (W : World), m ≤ 1000000000001 → Below (wc.alloc (.cells #[(.func (.func 40) #[] #[.pointer (some ⟨gT, 0, none⟩), .pointer (some ⟨w.heap.size, 0, none⟩)])] 63)).heap.size (wc.alloc (.cells #[(.func (.func 40) #[] #[.pointer (some ⟨gT, 0, none⟩), .pointer (some ⟨w.heap.size, 0, none⟩)])] 63)) W → Calls Tryz.prog 40 #[.int .i64 (m : Int), .pointer (some ⟨gT, 0, none⟩), .pointer (some ⟨w.heap.size, 0, none⟩)] W fun e w' => (∃ A' c', e = .returned (.slice A' (n + 1 + 1) c') ∧ TR w' A' (n + 1 + 1) (l ++ [(f0, den)] ++ [(m, -den)])) ∧ Below W.heap.size W w') := ⟨fun m W h2 hb => by
      have x1 := bt.below hb bt.lt; have x3 := b5.below hb b5.lt
      exact pat_any m den ⟨gT, 0, none⟩ ⟨w.heap.size, 0, none⟩ ⟨gP, 0, none⟩ (n + 1) cP (l ++ [(f0, den)]) W (x1.cell 0) (x3.cell 0) x1.lt x3.lt (hT3.below hb) HCP.out (by omega) (by omega) hd1 hd2⟩
    have HFI : Sl (∀ (m : Nat) (σ : Int) (W : World), 1 ≤ m → m ≤ 1000000000001 → SignTo (atK l f0 den m) σ → Below (wc.alloc (.cells #[(.func (.func 40) #[] #[.pointer (some ⟨gT, 0, none⟩), .pointer (some ⟨w.heap.size, 0, none⟩)])] 63)).heap.size (wc.alloc (.cells #[(.func (.func 40) #[] #[.pointer (some ⟨gT, 0, none⟩), .pointer (some ⟨w.heap.size, 0, none⟩)])] 63)) W → Calls Tryz.prog 41 #[.int .i64 (m : Int), .pointer (some ⟨wc.heap.size, 0, none⟩)] W fun e w' => e = .returned (.bool (decide (0 ≤ σ))) ∧ Below W.heap.size W w') := ⟨fun m σ W h1 h2 hk hb => by
      have x0 := bq.below hb bq.lt; have x1 := bt.below hb bt.lt; have x3 := b5.below hb b5.lt
      exact pis_any m den σ ⟨wc.heap.size, 0, none⟩ ⟨gT, 0, none⟩ ⟨w.heap.size, 0, none⟩ ⟨gP, 0, none⟩ (n + 1) cP (l ++ [(f0, den)]) W (x0.cell 0) (x1.cell 0) (x3.cell 0) x1.lt x3.lt (hT3.below hb) HCP.out (by omega) h1 (by omega) hd1 hd2 hk⟩
    have hrun1 : ∀ (args : Array Value) (w : World), (callFunc 40 args).run Tryz.prog w = .ok (.enter 40 args) w := fun a w => by go_simp
    have hrun2 : ∀ (args : Array Value) (w : World), (callFunc 41 args).run Tryz.prog w = .ok (.enter 41 args) w := fun a w => by go_simp
    have HQ : Sl _ := ⟨And.intro hB3 bq⟩; have h1 := HFI.out 1000000000001 (sg 1000000000001) _ (by decide) (by decide) HE.out.1 (Below.refl _ _); rw [decide_eq_false (by have := HE.out.2; omega)] at h1; have HC1 : Sl _ := ⟨h1⟩; clear x5 bt b5 bq hB2 hB3 hT3 h1 XT HTR X5 c5 hS; go_wp2_with fail; refine HC1.out.mono ?_; rintro e w5 ⟨rfl, hb5⟩; have HB5 : Sl _ := ⟨hb5⟩
    have hG := greatest_at (.pointer (some ⟨wc.heap.size, 0, none⟩)) p 1000000000001 45 w5 (by decide) (by decide) (by decide) (fun m W hm hb => by
      obtain ⟨⟨k1, k2⟩, k3, k4⟩ := HS.out m hm; rw [k4]
      exact HFI.out m (sg m) W k1 (by omega) k3 (HB5.out.trans (hb.mono HB5.out.size)))
    rw [HRR.out.1] at hG; have HG : Sl _ := ⟨hG⟩; clear hG hb5 HC1 HFI; go_wp2_with fail; refine HG.out.mono ?_; rintro e w7 ⟨rfl, hb7⟩; have HB7 : Sl _ := ⟨HB5.out.trans (hb7.mono HB5.out.size)⟩; have cq := (HQ.out.2.below HB7.out HQ.out.2.lt).cell 0; simp at cq; have hRp : decide (0 < (R : Int)) = true := decide_eq_true (by have := HRR.out.2.1; omega); have hRp2 : 0 < (R : Int) := (by have := HRR.out.2.1; omega); have HAT : Sl _ := ⟨HFA.out R w7 (by have := HRR.out.2.2; omega) HB7.out⟩; clear hb7 HG HFA; go_wp2_with fail; refine HAT.out.mono ?_; rintro e w8 ⟨⟨A8, c8, rfl, hT8⟩, hb8⟩; have hO := one_any A8 (n + 1 + 1) c8 _ w8 hT8 HOE.out; have HON : Sl _ := ⟨hO⟩; have HB8 : Sl _ := ⟨HB7.out.trans (hb8.mono HB7.out.size)⟩; clear hO hT8 hb8; obtain ⟨q, hq⟩ : ∃ q, decide (up (atK l f0 den R) = down (atK l f0 den R)) = q := ⟨_, rfl⟩; change Sl (Calls _ _ _ _ fun e w' => e = .returned (.bool (decide (up (atK l f0 den R) = down (atK l f0 den R)))) ∧ _) at HON; rw [hq] at HON; have HQQ : Sl _ := ⟨hq⟩; clear hq; go_wp2_with fail; refine HON.out.mono ?_; rintro e w9 ⟨rfl, hb9⟩; go_wp2_with fail
    go_ret3
    exact ⟨by rw [HQQ.out]; rfl, HQ.out.1.trans ((HB8.out.trans (hb9.mono HB8.out.size)).mono HQ.out.1.size)⟩
end Go.Proofs.YtalodfjplegibaaGreatDoor
namespace Go.Proofs.YtalodfjplegibaaGreatDoor
set_option linter.unusedSimpArgs false
open Go.RowKit
set_option linter.unusedVariables false
def Knows (l : List (Nat × Int)) (s : Int) : Prop := ∀ (A : Option Addr) (n c : Nat) (W : World), TR W A n l → Calls Tryz.prog 56 #[.slice A n c] W fun e w' => e = .returned (.tuple #[.int .i64 s, .bool true]) ∧ Below W.heap.size W w'
set_option maxHeartbeats 800000 in
theorem sign_known (l : List (Nat × Int)) (s : Int) (hk : Knows l s) : SignTo l s := by
  intro A n c w hl; have HG : Sl _ := ⟨hk A n c w hl⟩; clear hk hl; go_enter Tryz.func35, Tryz.ntmps35; go_wp2_with fail; refine HG.out.mono ?_; rintro e w1 ⟨rfl, hb⟩; go_wp2_with fail; go_ret; exact ⟨rfl, hb⟩
end Go.Proofs.YtalodfjplegibaaGreatDoor
namespace Go.Proofs.YtalodfjplegibaaGreatDoor
set_option linter.unusedSimpArgs false
open Go.RowKit
set_option linter.unusedVariables false
theorem sg_near {l : List (Nat × Int)} {P T : Nat} (p4 : P = 64 ∨ P = 128 ∨ P = 256 ∨ P = 512) (hlen : l.length ≤ 17) (hx : ∀ x ∈ l, (1 ≤ x.1 ∧ x.1 ≤ 1000000000000) ∧ x.2.natAbs ≤ 10000000000000000 ∧ near P x.1 = true)
    (hT : tote (fun _ => 1) l ≤ T) (hs : up l * (2 * T + 1) ≤ 2 ^ P ∨ down l * (2 * T + 1) ≤ 2 ^ P) : SgOK l P :=
  sg_small (e := fun _ => 1) p4 hlen (fun x h => ⟨(hx x h).1, (hx x h).2.1, Nat.le_of_ble_eq_true (hx x h).2.2⟩) hT hs
theorem sg_top {l : List (Nat × Int)} {s : Int} (hlen : l.length ≤ 17) (hx : ∀ x ∈ l, (1 ≤ x.1 ∧ x.1 ≤ 1000000000001) ∧ x.2.natAbs ≤ 1000000) (hg : guessF l = some s) : SignTo l s := by
  refine sign_known l s (fun A n c W hl => ?_); have hG : Good l := ⟨fun x h => QK_all (hx x h).1.1 (by have := (hx x h).1; omega), fun x h => by have := (hx x h).2; omega, fun x h => qk_le (by have := (hx x h).1; omega) (Nat.lt_of_le_of_lt (hx x h).1.2 (by decide))⟩; have := guess_any A n c l W hl (by have := hl.1; omega) hG; rw [hg] at this; exact this
theorem pw_top1 : SignTo (atK [(2, -9)] 440000 12 1000000000001) (-1) := sg_top (by decide) (by decide) (by decide +kernel)
theorem pw_top2 : SignTo (atK [(2, 1)] 100 2 1000000000001) (-1) := sg_top (by decide) (by decide) (by decide +kernel)
theorem pw_top3 : SignTo (atK [(4, 1)] 8 2 1000000000001) (-1) := sg_top (by decide) (by decide) (by decide +kernel)
theorem nr256 : near 256 2 = true ∧ near 256 440000 = true := by decide +kernel
theorem nr64 : near 64 2 = true ∧ near 64 100 = true ∧ near 64 4 = true ∧ near 64 8 = true := by decide +kernel
theorem ble_sgn {a b : Nat} {l : List (Nat × Int)} (hu : up l = b) (hd : down l = a) : Nat.ble a b = decide (0 ≤ sgn l) := by
  by_cases h : a ≤ b
  · rw [Nat.ble_eq_true_of_le h, decide_eq_true ((sgn_nonneg l).2 (by rw [hu, hd]; exact h))]
  · rw [decide_eq_false (fun h2 => h (by have := (sgn_nonneg l).1 h2; rwa [hu, hd] at this))]
    cases hb : Nat.ble a b
    · rfl
    · exact absurd (Nat.le_of_ble_eq_true hb) h
theorem pw_at1 (m : Nat) (h : (1 ≤ m ∧ m ≤ 1000000000000) ∧ near 256 m = true) : SignTo (atK [(2, -9)] 440000 12 m) (sgn (atK [(2, -9)] 440000 12 m)) ∧ p1 m = decide (0 ≤ sgn (atK [(2, -9)] 440000 12 m)) := by
  have hu : up (atK [(2, -9)] 440000 12 m) = 440000 ^ 12 := by
    show (if (0 : Int) ≤ -9 then _ else if (0 : Int) ≤ 12 then 440000 ^ (12 : Int).natAbs * (if (0 : Int) ≤ -12 then _ else 1) else _) = _; rw [if_neg (by decide), if_pos (by decide), if_neg (by decide)]; exact Nat.mul_one _
  have hd : down (atK [(2, -9)] 440000 12 m) = 2 ^ 9 * m ^ 12 := by
    show (if (0 : Int) ≤ -9 then _ else 2 ^ (-9 : Int).natAbs * (if (0 : Int) ≤ 12 then (if (0 : Int) ≤ -12 then _ else m ^ (-12 : Int).natAbs * 1) else _)) = _; rw [if_neg (by decide), if_pos (by decide), if_neg (by decide), Nat.mul_one]; rfl
  refine ⟨sign_of _ 256 (sg_near (T := 33) (by decide) (by show 3 ≤ 17; decide) ?_ (by show 1 * 9 + (1 * 12 + (1 * 12 + 0)) ≤ 33; decide) (.inl (by rw [hu]; decide +kernel))), ble_sgn hu hd⟩; intro x hx; simp only [atK, List.cons_append, List.nil_append, List.mem_cons, List.not_mem_nil, or_false] at hx; rcases hx with rfl | rfl | rfl
  · exact ⟨by decide, by decide, nr256.1⟩
  · exact ⟨by decide, by decide, nr256.2⟩
  · exact ⟨h.1, by show (-12 : Int).natAbs ≤ _; decide, h.2⟩
theorem pw_at2 (m : Nat) (h : (1 ≤ m ∧ m ≤ 1000000000000) ∧ near 64 m = true) : SignTo (atK [(2, 1)] 100 2 m) (sgn (atK [(2, 1)] 100 2 m)) ∧ p2 m = decide (0 ≤ sgn (atK [(2, 1)] 100 2 m)) := by
  have hu : up (atK [(2, 1)] 100 2 m) = 2 * 100 ^ 2 := by
    show (if (0 : Int) ≤ 1 then 2 ^ (1 : Int).natAbs * (if (0 : Int) ≤ 2 then 100 ^ (2 : Int).natAbs * (if (0 : Int) ≤ -2 then _ else 1) else _) else _) = _; rw [if_pos (by decide), if_pos (by decide), if_neg (by decide), Nat.mul_one]; rfl
  have hd : down (atK [(2, 1)] 100 2 m) = m ^ 2 := by
    show (if (0 : Int) ≤ 1 then (if (0 : Int) ≤ 2 then (if (0 : Int) ≤ -2 then _ else m ^ (-2 : Int).natAbs * 1) else _) else _) = _; rw [if_pos (by decide), if_pos (by decide), if_neg (by decide), Nat.mul_one]; rfl
  refine ⟨sign_of _ 64 (sg_near (T := 5) (by decide) (by show 3 ≤ 17; decide) ?_ (by show 1 * 1 + (1 * 2 + (1 * 2 + 0)) ≤ 5; decide) (.inl (by rw [hu]; decide +kernel))), ble_sgn hu hd⟩; intro x hx; simp only [atK, List.cons_append, List.nil_append, List.mem_cons, List.not_mem_nil, or_false] at hx; rcases hx with rfl | rfl | rfl
  · exact ⟨by decide, by decide, nr64.1⟩
  · exact ⟨by decide, by decide, nr64.2.1⟩
  · exact ⟨h.1, by show (-2 : Int).natAbs ≤ _; decide, h.2⟩
theorem pw_at3 (m : Nat) (h : (1 ≤ m ∧ m ≤ 1000000000000) ∧ near 64 m = true) : SignTo (atK [(4, 1)] 8 2 m) (sgn (atK [(4, 1)] 8 2 m)) ∧ p3 m = decide (0 ≤ sgn (atK [(4, 1)] 8 2 m)) := by
  have hu : up (atK [(4, 1)] 8 2 m) = 4 * 8 ^ 2 := by
    show (if (0 : Int) ≤ 1 then 4 ^ (1 : Int).natAbs * (if (0 : Int) ≤ 2 then 8 ^ (2 : Int).natAbs * (if (0 : Int) ≤ -2 then _ else 1) else _) else _) = _; rw [if_pos (by decide), if_pos (by decide), if_neg (by decide), Nat.mul_one]; rfl
  have hd : down (atK [(4, 1)] 8 2 m) = m ^ 2 := by
    show (if (0 : Int) ≤ 1 then (if (0 : Int) ≤ 2 then (if (0 : Int) ≤ -2 then _ else m ^ (-2 : Int).natAbs * 1) else _) else _) = _; rw [if_pos (by decide), if_pos (by decide), if_neg (by decide), Nat.mul_one]; rfl
  refine ⟨sign_of _ 64 (sg_near (T := 5) (by decide) (by show 3 ≤ 17; decide) ?_ (by show 1 * 1 + (1 * 2 + (1 * 2 + 0)) ≤ 5; decide) (.inl (by rw [hu]; decide +kernel))), ble_sgn hu hd⟩; intro x hx; simp only [atK, List.cons_append, List.nil_append, List.mem_cons, List.not_mem_nil, or_false] at hx; rcases hx with rfl | rfl | rfl
  · exact ⟨by decide, by decide, nr64.2.2.1⟩
  · exact ⟨by decide, by decide, nr64.2.2.2⟩
  · exact ⟨h.1, by show (-2 : Int).natAbs ≤ _; decide, h.2⟩
theorem power1_any (A : Option Addr) (c : Nat) (w : World) (hl : TR w A 1 [(2, -9)]) : Calls Tryz.prog 12 #[.int .i64 440000, .slice A 1 c, .int .i64 12] w fun e w' => e = .returned (.tuple #[.int .i64 261625, .bool false, .int .i64 0]) ∧ Below w.heap.size w w' := by
  have hk := pwT_ok pw1; have e1 : sgn (atK [(2, -9)] 440000 12 1000000000001) = -1 := (by decide +kernel)
  have := Power_any A 1 c [(2, -9)] 440000 12 p1 (fun m => sgn (atK [(2, -9)] 440000 12 m)) 261625 w hl ⟨by decide, by decide⟩ (by decide) (by decide) (by decide) (by decide) (by decide)
    (fun m hm => ⟨(hk.2 m hm).1, pw_at1 m (hk.2 m hm)⟩) (by show SignTo _ (sgn _); rw [e1]; exact pw_top1) (by show sgn _ < 0; rw [e1]; decide) hk.1 (by decide) (by decide) ⟨by decide, by decide⟩
  have e2 : decide (up (atK [(2, -9)] 440000 12 261625) = down (atK [(2, -9)] 440000 12 261625)) = false := (by decide +kernel); rw [e2] at this; exact this
theorem power2_any (A : Option Addr) (c : Nat) (w : World) (hl : TR w A 1 [(2, 1)]) : Calls Tryz.prog 12 #[.int .i64 100, .slice A 1 c, .int .i64 2] w fun e w' => e = .returned (.tuple #[.int .i64 141, .bool false, .int .i64 0]) ∧ Below w.heap.size w w' := by
  have hk := pwT_ok pw2; have e1 : sgn (atK [(2, 1)] 100 2 1000000000001) = -1 := (by decide +kernel)
  have := Power_any A 1 c [(2, 1)] 100 2 p2 (fun m => sgn (atK [(2, 1)] 100 2 m)) 141 w hl ⟨by decide, by decide⟩ (by decide) (by decide) (by decide) (by decide) (by decide)
    (fun m hm => ⟨(hk.2 m hm).1, pw_at2 m (hk.2 m hm)⟩) (by show SignTo _ (sgn _); rw [e1]; exact pw_top2) (by show sgn _ < 0; rw [e1]; decide) hk.1 (by decide) (by decide) ⟨by decide, by decide⟩
  have e2 : decide (up (atK [(2, 1)] 100 2 141) = down (atK [(2, 1)] 100 2 141)) = false := (by decide +kernel); rw [e2] at this; exact this
theorem power3_any (A : Option Addr) (c : Nat) (w : World) (hl : TR w A 1 [(4, 1)]) : Calls Tryz.prog 12 #[.int .i64 8, .slice A 1 c, .int .i64 2] w fun e w' => e = .returned (.tuple #[.int .i64 16, .bool true, .int .i64 0]) ∧ Below w.heap.size w w' := by
  have hk := pwT_ok pw3; have e1 : sgn (atK [(4, 1)] 8 2 1000000000001) = -1 := (by decide +kernel)
  have := Power_any A 1 c [(4, 1)] 8 2 p3 (fun m => sgn (atK [(4, 1)] 8 2 m)) 16 w hl ⟨by decide, by decide⟩ (by decide) (by decide) (by decide) (by decide) (by decide)
    (fun m hm => ⟨(hk.2 m hm).1, pw_at3 m (hk.2 m hm)⟩) (by show SignTo _ (sgn _); rw [e1]; exact pw_top3) (by show sgn _ < 0; rw [e1]; decide) hk.1 (by decide) (by decide) ⟨by decide, by decide⟩
  have e2 : decide (up (atK [(4, 1)] 8 2 16) = down (atK [(4, 1)] 8 2 16)) = true := (by decide +kernel); rw [e2] at this; exact this
end Go.Proofs.YtalodfjplegibaaGreatDoor
namespace Go.Proofs.YtalodfjplegibaaGreatDoor
set_option linter.unusedSimpArgs false
open Go.RowKit
set_option linter.unusedVariables false
theorem updown_app (l : List (Nat × Int)) (n : Nat) (k : Int) : up (l ++ [(n, k)]) = up l * (if 0 ≤ k then n ^ k.natAbs else 1) ∧ down (l ++ [(n, k)]) = down l * (if 0 ≤ k then 1 else n ^ k.natAbs) := by
  induction l with
  | nil =>
    show (if 0 ≤ k then n ^ k.natAbs * 1 else 1) = 1 * _ ∧ (if 0 ≤ k then 1 else n ^ k.natAbs * 1) = 1 * _; rw [Nat.one_mul, Nat.one_mul, Nat.mul_one]; exact ⟨rfl, rfl⟩
  | cons x l ih =>
    obtain ⟨a, b⟩ := x; obtain ⟨h1, h2⟩ := ih; rw [List.cons_append, up, down, h1, h2, up, down]
    split
    · exact ⟨by rw [Nat.mul_assoc], rfl⟩
    · exact ⟨rfl, by rw [Nat.mul_assoc]⟩
theorem floor_turn {l : List (Nat × Int)} {s : Int} {den t U D : Nat} (hU : up (scaled l s) = U) (hD : down (scaled l s) = D) (h1 : D * 2 ^ (t * den) ≤ U) (h2 : U < D * 2 ^ ((t + 1) * den)) (m : Int) :
    0 ≤ sgn (atM l s (den : Int) m) ↔ m ≤ (t : Int) := by
  rw [sgn_nonneg]; unfold atM; obtain ⟨e1, e2⟩ := updown_app (scaled l s) 2 (-m * (den : Int)); rw [e1, e2, hU, hD]
  have hD0 : 0 < D := by
    rcases Nat.eq_zero_or_pos D with h | h
    · subst h; simp at h2
    · exact h
  constructor
  · intro h; refine Int.not_lt.1 fun hm => ?_
    obtain ⟨m', rfl⟩ := Int.eq_ofNat_of_zero_le (show 0 ≤ m by omega); have hmt : t + 1 ≤ m' := (by omega); have hz : (t + 1) * den ≤ m' * den := Nat.mul_le_mul_right _ hmt; have hab : (-(m' : Int) * (den : Int)).natAbs = m' * den := (by rw [Int.natAbs_mul, Int.natAbs_neg]; rfl); have hp := Nat.mul_le_mul_left D (Nat.pow_le_pow_right (show 0 < 2 by decide) hz)
    by_cases h0 : (0 : Int) ≤ -(m' : Int) * (den : Int)
    · have hd0 : den = 0 := by
        rcases Nat.eq_zero_or_pos den with h | h
        · exact h
        · exfalso; have : 0 < (m' : Int) * (den : Int) := Int.mul_pos (by omega) (by omega); rw [Int.neg_mul] at h0; omega
      subst hd0; simp at h1 h2; omega
    · rw [if_neg h0, if_neg h0, hab, Nat.mul_one] at h; omega
  · intro hm
    by_cases h0 : (0 : Int) ≤ -m * (den : Int)
    · rw [if_pos h0, if_pos h0, Nat.mul_one]; have a1 : D * 1 ≤ D * 2 ^ (t * den) := Nat.mul_le_mul_left _ (Nat.pow_pos (by decide)); have a2 : U * 1 ≤ U * 2 ^ (-m * (den : Int)).natAbs := Nat.mul_le_mul_left _ (Nat.pow_pos (by decide)); omega
    · rw [if_neg h0, if_neg h0, Nat.mul_one]
      have hm0 : 0 < m := by
        refine Int.not_le.1 fun h => h0 ?_
        exact Int.mul_nonneg (by omega) (by omega)
      obtain ⟨m', rfl⟩ := Int.eq_ofNat_of_zero_le (show 0 ≤ m by omega); have hab : (-(m' : Int) * (den : Int)).natAbs = m' * den := (by rw [Int.natAbs_mul, Int.natAbs_neg]; rfl); rw [hab]; have hz : m' * den ≤ t * den := Nat.mul_le_mul_right _ (by omega); have hp := Nat.mul_le_mul_left D (Nat.pow_le_pow_right (show 0 < 2 by decide) hz); omega
def sgF (l : List (Nat × Int)) (s den m : Int) : Int := sgn (atM l s den m)
theorem floor_is {l : List (Nat × Int)} {s : Int} {den t U D : Nat} {e : Ending} (ht : t < 1000000000000) (hU : up (scaled l s) = U) (hD : down (scaled l s) = D) (h1 : D * 2 ^ (t * den) ≤ U) (h2 : U < D * 2 ^ ((t + 1) * den))
    (h : FloorRes l s (den : Int) (sgF l s (den : Int)) e) : e = .returned (.tuple #[.int .i64 (t : Int), .bool (decide (U = D * 2 ^ (t * den))), .int .i64 0]) := by
  have ht2 := floor_turn hU hD h1 h2; unfold FloorRes at h
  rw [if_neg (by
    intro h3; rcases h3 with h3 | h3
    · have := (ht2 1000000000001).1 h3; omega
    · have h4 : sgn (atM l s (den : Int) (-1000000000000)) < 0 := h3; have := (ht2 (-1000000000000)).2 (by omega)
      omega)] at h
  obtain ⟨m, a1, a2, a3, a4, rfl⟩ := h; have b1 := (ht2 m).1 a3
  have b2 : ¬ m + 1 ≤ (t : Int) := fun h3 => by
    have h4 : sgn (atM l s (den : Int) (m + 1)) < 0 := a4; have := (ht2 (m + 1)).2 h3; omega
  obtain rfl : m = (t : Int) := (by omega)
  have e3 : up (atM l s (den : Int) (t : Int)) = down (atM l s (den : Int) (t : Int)) ↔ U = D * 2 ^ (t * den) := by
    unfold atM; obtain ⟨e1, e2⟩ := updown_app (scaled l s) 2 (-(t : Int) * (den : Int)); rw [e1, e2, hU, hD]; have hab : (-(t : Int) * (den : Int)).natAbs = t * den := (by rw [Int.natAbs_mul, Int.natAbs_neg]; rfl); rw [hab]
    by_cases h0 : (0 : Int) ≤ -(t : Int) * (den : Int)
    · rw [if_pos h0, if_pos h0]
      have hz : t * den = 0 := by
        have h5 : (-(t : Int) * (den : Int)) = -((t * den : Nat) : Int) := (by rw [Int.neg_mul, Int.natCast_mul]); omega
      rw [hz]; simp
    · rw [if_neg h0, if_neg h0, Nat.mul_one]
  have e4 : decide (up (atM l s (den : Int) (t : Int)) = down (atM l s (den : Int) (t : Int))) = decide (U = D * 2 ^ (t * den)) := by
    by_cases h5 : U = D * 2 ^ (t * den)
    · rw [decide_eq_true h5, decide_eq_true (e3.2 h5)]
    · rw [decide_eq_false h5, decide_eq_false (fun h6 => h5 (e3.1 h6))]
  rw [e4]
def flT (l : List (Nat × Int)) (s : Int) (den t : Nat) (b : Bool) : Bool := Nat.ble (down (scaled l s) * 2 ^ (t * den)) (up (scaled l s)) && (Nat.ble (up (scaled l s) + 1) (down (scaled l s) * 2 ^ ((t + 1) * den)) && (Nat.beq (up (scaled l s)) (down (scaled l s) * 2 ^ (t * den)) == b))
theorem floor_run {l : List (Nat × Int)} {s : Int} {den t : Nat} {b : Bool} {e : Ending} {d T : Int} (hd : d = (den : Int)) (hT : T = (t : Int)) (hb : flT l s den t b = true) (ht : t < 1000000000000) (h : FloorRes l s d (sgF l s d) e) : e = .returned (.tuple #[.int .i64 T, .bool b, .int .i64 0]) := by
  subst hd hT; unfold flT at hb; rw [Bool.and_eq_true, Bool.and_eq_true] at hb; obtain ⟨h1, h2, h3⟩ := hb; have := floor_is ht rfl rfl (Nat.le_of_ble_eq_true h1) (Nat.le_of_ble_eq_true h2) h; rw [this]; have h4 := eq_of_beq h3; subst h4
  cases hq : Nat.beq (up (scaled l s)) (down (scaled l s) * 2 ^ (t * den))
  · rw [decide_eq_false (fun e => by rw [← e] at hq; simp at hq)]
  · rw [decide_eq_true (Nat.eq_of_beq_eq_true hq)]
theorem floor_to {f : FuncId} {args : Array Value} {w : World} {B : World → Prop} {l : List (Nat × Int)} {s : Int} {den t : Nat} {b : Bool} {d T : Int} (hd : d = (den : Int)) (hT : T = (t : Int)) (hb : flT l s den t b = true) (ht : t < 1000000000000)
    (h : Calls Tryz.prog f args w fun e w' => FloorRes l s d (sgF l s d) e ∧ B w') : Calls Tryz.prog f args w fun e w' => e = .returned (.tuple #[.int .i64 T, .bool b, .int .i64 0]) ∧ B w' :=
  h.mono fun e w' hh => ⟨floor_run hd hT hb ht hh.1, hh.2⟩
theorem ok6_two {a b : Nat} {x y den : Int} (s m : Int) (ha : a ∈ primes6) (hb : b ∈ primes6) (hx : x.natAbs ≤ 10) (hy : y.natAbs ≤ 10) (hs : s.natAbs ≤ 10000000) (hm : m.natAbs ≤ 1000000000001) (hd : den.natAbs ≤ 1000) : ok6 (atM [(a, x), (b, y)] s den m) := by
  refine ⟨by show 3 ≤ 17; decide, fun z hz => ?_⟩; simp only [atM, scaled, List.map_cons, List.map_nil, List.cons_append, List.nil_append, List.mem_cons, List.not_mem_nil, or_false] at hz; rcases hz with rfl | rfl | rfl
  · refine ⟨ha, ?_⟩; show (x * s).natAbs ≤ _; rw [Int.natAbs_mul]; exact Nat.le_trans (Nat.mul_le_mul hx hs) (by decide)
  · refine ⟨hb, ?_⟩; show (y * s).natAbs ≤ _; rw [Int.natAbs_mul]; exact Nat.le_trans (Nat.mul_le_mul hy hs) (by decide)
  · refine ⟨by show 2 ∈ primes6; decide, ?_⟩; show (-m * den).natAbs ≤ _; rw [Int.natAbs_mul, Int.natAbs_neg]; exact Nat.le_trans (Nat.mul_le_mul hm hd) (by decide)
theorem ok6_one {a : Nat} {x den : Int} (s m : Int) (ha : a ∈ primes6) (hx : x.natAbs ≤ 10) (hs : s.natAbs ≤ 10000000) (hm : m.natAbs ≤ 1000000000001) (hd : den.natAbs ≤ 1000) : ok6 (atM [(a, x)] s den m) := by
  refine ⟨by show 2 ≤ 17; decide, fun z hz => ?_⟩; simp only [atM, scaled, List.map_cons, List.map_nil, List.cons_append, List.nil_append, List.mem_cons, List.not_mem_nil, or_false] at hz; rcases hz with rfl | rfl
  · refine ⟨ha, ?_⟩; show (x * s).natAbs ≤ _; rw [Int.natAbs_mul]; exact Nat.le_trans (Nat.mul_le_mul hx hs) (by decide)
  · refine ⟨by show 2 ∈ primes6; decide, ?_⟩; show (-m * den).natAbs ≤ _; rw [Int.natAbs_mul, Int.natAbs_neg]; exact Nat.le_trans (Nat.mul_le_mul hm hd) (by decide)
theorem fa1 : flT [(3, 1), (2, -1)] 1200 1 701 false = true := by decide +kernel
theorem fa2 : flT [(3, 1), (2, -1)] 1200000 1 701955 false = true := by decide +kernel
theorem fa3 : flT [(2, 7)] 1200 12 700 true = true := by decide +kernel
theorem floor1_any (A : Option Addr) (c : Nat) (w : World) (hl : TR w A 2 [(3, 1), (2, -1)]) : Calls Tryz.prog 11 #[.slice A 2 c, .int .i64 1, .int .i64 1200] w fun e w' => e = .returned (.tuple #[.int .i64 701, .bool false, .int .i64 0]) ∧ Below w.heap.size w w' :=
  floor_to (d := 1) (T := 701) (by decide) (by decide) fa1 (by decide) (Floor_any A 2 c [(3, 1), (2, -1)] 1 1200 (sgF [(3, 1), (2, -1)] 1200 1) w hl ⟨by decide, by decide⟩ (by decide) (by decide) (by decide) (by decide)
    (fun m h1 h2 => sign_any _ (ok6_two 1200 m (by decide) (by decide) (by decide) (by decide) (by decide) (by omega) (by decide))))
theorem floor2_any (A : Option Addr) (c : Nat) (w : World) (hl : TR w A 2 [(3, 1), (2, -1)]) : Calls Tryz.prog 11 #[.slice A 2 c, .int .i64 1, .int .i64 1200000] w fun e w' => e = .returned (.tuple #[.int .i64 701955, .bool false, .int .i64 0]) ∧ Below w.heap.size w w' :=
  floor_to (d := 1) (T := 701955) (by decide) (by decide) fa2 (by decide) (Floor_any A 2 c [(3, 1), (2, -1)] 1 1200000 (sgF [(3, 1), (2, -1)] 1200000 1) w hl ⟨by decide, by decide⟩ (by decide) (by decide) (by decide) (by decide)
    (fun m h1 h2 => sign_any _ (ok6_two 1200000 m (by decide) (by decide) (by decide) (by decide) (by decide) (by omega) (by decide))))
theorem floor3_any (A : Option Addr) (c : Nat) (w : World) (hl : TR w A 1 [(2, 7)]) : Calls Tryz.prog 11 #[.slice A 1 c, .int .i64 12, .int .i64 1200] w fun e w' => e = .returned (.tuple #[.int .i64 700, .bool true, .int .i64 0]) ∧ Below w.heap.size w w' :=
  floor_to (d := 12) (T := 700) (by decide) (by decide) fa3 (by decide) (Floor_any A 1 c [(2, 7)] 12 1200 (sgF [(2, 7)] 1200 12) w hl ⟨by decide, by decide⟩ (by decide) (by decide) (by decide) (by decide)
    (fun m h1 h2 => sign_any _ (ok6_one 1200 m (by decide) (by decide) (by decide) (by omega) (by decide))))
theorem sign1_any (A : Option Addr) (c : Nat) (w : World) (hl : TR w A 2 [(1000, 1), (2, -10)]) : Calls Tryz.prog 10 #[.slice A 2 c] w fun e w' => e = .returned (.tuple #[.int .i64 (-1), .int .i64 0]) ∧ Below w.heap.size w w' :=
  Sign_any A 2 c [(1000, 1), (2, -10)] (-1) w hl ⟨by decide, by decide⟩ (sg_top (by decide) (by decide) (by decide +kernel))
end Go.Proofs.YtalodfjplegibaaGreatDoor
namespace Go.Proofs.YtalodfjplegibaaGreatDoor
set_option linter.unusedSimpArgs false
open Go.RowKit
set_option linter.unusedVariables false
set_option maxHeartbeats 3200000 in
set_option maxRecDepth 100000 in
theorem vMul_any (a b : RV) (w : World) : Calls Tryz.prog 29 #[.agg a.cells, .agg b.cells] w fun e w' => OfRes e (joinS a b 1) ∧ Below w.heap.size w w' := by
  have hu := (((Below.refl w.heap.size w).alloc (Nat.le_refl _) (.cells a.cells 24)).alloc (by simp) (.cells b.cells 24)).alloc (by simp; omega) (.cells RVzero.cells 24); have X0 := ((Blk.new w 24 a.cells).alloc (.cells b.cells 24)).alloc (.cells RVzero.cells 24); have X1 := (Blk.new (w.alloc (.cells a.cells 24)) 24 b.cells).alloc (.cells RVzero.cells 24); have X2 := Blk.new ((w.alloc (.cells a.cells 24)).alloc (.cells b.cells 24)) 24 RVzero.cells; rw [show (w.alloc (.cells a.cells 24)).heap.size = w.heap.size + 1 by simp] at X1; rw [show ((w.alloc (.cells a.cells 24)).alloc (.cells b.cells 24)).heap.size = w.heap.size + 1 + 1 by simp] at X2; have hJ := fun W : World => rjoined_any a b (1) (by decide) W
  obtain ⟨⟨r, er⟩, hs⟩ : ∃ s, joinS a b (1) = s := ⟨_, rfl⟩; rw [hs] at hJ ⊢; clear hs; unfold OfRes at hJ; rw [RVzero_cells] at hu X0 X1 X2; unfold RV.cells at *
  simp only [] at hJ; have HJ : Sl _ := ⟨hJ⟩; have x0 := X0.cell 0; have x1 := X0.cell 1; have x2 := X0.cell 2; have x3 := X0.cell 3; have x4 := X0.cell 4; have x5 := X0.cell 5; have x6 := X0.cell 6; simp at x0 x1 x2 x3 x4 x5 x6; have y0 := X1.cell 0; have y1 := X1.cell 1; have y2 := X1.cell 2; have y3 := X1.cell 3; have y4 := X1.cell 4; have y5 := X1.cell 5; have y6 := X1.cell 6; simp at y0 y1 y2 y3 y4 y5 y6; have HU : Sl _ := ⟨And.intro hu X2⟩; clear hu X0 X1 X2 hJ; go_enter Tryz.func29, Tryz.ntmps29; go_wp2_with fail; clear x0 x1 x2 x3 x4 x5 x6 y0 y1 y2 y3 y4 y5 y6; refine (HJ.out _).mono ?_; rintro e w3 ⟨rfl, hb3⟩; have hB := HU.out.1.trans (hb3.mono HU.out.1.size); have Z := HU.out.2.below hb3 HU.out.2.lt; have d0 := Z.cell 0; have d1 := Z.cell 1; have d2 := Z.cell 2; have d3 := Z.cell 3; have d4 := Z.cell 4; have d5 := Z.cell 5; have d6 := Z.cell 6; simp at d0 d1 d2 d3 d4 d5 d6; have f0 := Z.frozen 0; have f1 := Z.frozen 1; have f2 := Z.frozen 2; have f3 := Z.frozen 3; have f4 := Z.frozen 4; have f5 := Z.frozen 5; have f6 := Z.frozen 6; have HFIN : Sl _ := ⟨And.intro hB Z⟩; clear hB Z HJ hb3; go_wp2_with fail; refine bodyPost_ret (results_rowR rfl _ _ (w.heap.size + 1 + 1) _ _ _ rfl (HFIN.out.2.seven _ _ _ _ _ _ _) Tryz.underlying24 rfl (by kernel_rfl)) rfl ?_; exact ⟨rfl, below_seven HFIN.out.1 (by omega) _ _ _ _ _ _ _⟩
end Go.Proofs.YtalodfjplegibaaGreatDoor
namespace Go.Proofs.YtalodfjplegibaaGreatDoor
set_option linter.unusedSimpArgs false
open Go.RowKit
set_option linter.unusedVariables false
theorem inR_mul2 {x m : Int} (hx : inR x) (h1 : -1000 ≤ m) (h2 : m ≤ 1000) : -100000000 ≤ x * m ∧ x * m ≤ 100000000 := by
  have hab : (x * m).natAbs ≤ 100000 * 1000 := by
    rw [Int.natAbs_mul]; exact Nat.mul_le_mul (by have := hx.1; have := hx.2; omega) (by omega)
  omega
theorem okP_cases (n d : Int) : okP n d ∨ (¬ okP n d ∧ (n < -1000 ∨ (¬ n < -1000 ∧ 1000 < n) ∨ (¬ n < -1000 ∧ ¬ 1000 < n ∧ d < -1000) ∨ (¬ n < -1000 ∧ ¬ 1000 < n ∧ ¬ d < -1000 ∧ 1000 < d) ∨ (¬ n < -1000 ∧ ¬ 1000 < n ∧ ¬ d < -1000 ∧ ¬ 1000 < d ∧ d = 0))) := by
  unfold okP; omega
set_option maxHeartbeats 6400000 in
set_option maxRecDepth 100000 in
theorem vPow_any (a : RV) (n d : Int) (w : World) : Calls Tryz.prog 14 #[.agg a.cells, .int .i64 n, .int .i64 d] w fun e w' => OfRes e (powS a n d) ∧ Below w.heap.size w w' := by
  have hu := ((Below.refl w.heap.size w).alloc (Nat.le_refl _) (.cells a.cells 24)).alloc (by simp) (.cells RVzero.cells 24); have X0 := (Blk.new w 24 a.cells).alloc (.cells RVzero.cells 24); have X1 := Blk.new (w.alloc (.cells a.cells 24)) 24 RVzero.cells; rw [show (w.alloc (.cells a.cells 24)).heap.size = w.heap.size + 1 by simp] at X1; rw [RVzero_cells] at hu X1 X0; have HC : Sl _ := ⟨fun W : World => rcheckR_any a W⟩; have hca : a.cells = #[.int .i64 a.n0, .int .i64 a.n1, .int .i64 a.n2, .int .i64 a.n3, .int .i64 a.n4, .int .i64 a.n5, .int .i64 a.d] := rfl; rw [hca] at HC hu X0 X1 ⊢; have HCE : Sl _ := ⟨hca⟩; have x0 := X0.cell 0; have x1 := X0.cell 1; have x2 := X0.cell 2; have x3 := X0.cell 3; have x4 := X0.cell 4; have x5 := X0.cell 5; have x6 := X0.cell 6; simp at x0 x1 x2 x3 x4 x5 x6; have HU : Sl _ := ⟨And.intro hu (And.intro X0 X1)⟩; clear hu X0 X1 hca; obtain ⟨s, hs⟩ : ∃ s, powS a n d = s := ⟨_, rfl⟩; rw [hs]; have HSS : Sl _ := ⟨hs⟩; obtain ⟨c, hc⟩ : ∃ c, checkS a = c := ⟨_, rfl⟩; rw [hc] at HC; have HK : Sl _ := ⟨hc⟩; clear hs hc; go_enter Tryz.func14, Tryz.ntmps14; go_wp2_with fail; clear x0 x1 x2 x3 x4 x5 x6; generalize (w.alloc (.cells #[.int .i64 a.n0, .int .i64 a.n1, .int .i64 a.n2, .int .i64 a.n3, .int .i64 a.n4, .int .i64 a.n5, .int .i64 a.d] 24)).alloc (.cells #[.int .i64 0, .int .i64 0, .int .i64 0, .int .i64 0, .int .i64 0, .int .i64 0, .int .i64 0] 24) = w0 at *
  refine (HC.out _).mono ?_; rintro e w1 ⟨rfl, hb1⟩; have hB := HU.out.1.trans (hb1.mono HU.out.1.size); have Xa := HU.out.2.1.below hb1 HU.out.2.1.lt; have Z := HU.out.2.2.below hb1 HU.out.2.2.lt; rw [← HCE.out] at Xa; have HW : Sl _ := ⟨And.intro hB (And.intro Xa Z)⟩; clear hB Xa Z hb1 HU HC
  by_cases h0 : c = 0
  · have hk := checkS_ok (HK.out.trans h0)
    have hsp : (okP n d → madeS (powR a n d) = s) ∧ (¬ okP n d → s = (RVzero, 2)) := by
      rw [← HSS.out]; unfold powS; rw [if_pos (HK.out.trans h0)]; exact ⟨fun h => by rw [if_pos h], fun h => by rw [if_neg h]⟩
    have HSP : Sl _ := ⟨hsp⟩; clear hsp HSS; subst h0; rcases okP_cases n d with hok | ⟨hno, hbad⟩
    · have hgood := powR_good HK.out hok; have hsj : madeS (powR a n d) = s := HSP.out.1 hok; have HG : Sl _ := ⟨And.intro hgood (And.intro hsj hk)⟩; clear hgood hsj hk HSP; obtain ⟨⟨hn1, hn2⟩, ⟨hd1, hd2⟩, hd0⟩ := hok; have hne : (d == 0) = false := (by rw [beq_eq_false_iff_ne]; exact hd0); have t1 : ¬ n < -1000 := (by omega); have t2 : ¬ 1000 < n := (by omega); have t3 : ¬ d < -1000 := (by omega); have t4 : ¬ 1000 < d := (by omega); rcases Decidable.em (d < 0) with hdn | hdn
      · have hpw : powR a n d = RV.of (fun j => a.num j * (-n)) (a.d * (-d)) := by
          unfold powR; simp only [hdn, if_true, if_false]
        obtain ⟨q, hq⟩ : ∃ q, powR a n d = q := ⟨_, rfl⟩; rw [hq] at HG hpw; have HPW : Sl _ := ⟨hpw.symm⟩; clear hpw hq; have hM1 : -1000 ≤ -n ∧ -n ≤ 1000 := (by omega); have hwM : IntKind.i64.wrap (-n) = -n := (by rw [IntKind.wrap_i64]; omega); have hwC : IntKind.i64.wrap (-d) = -d := (by rw [IntKind.wrap_i64]; omega); go_wp2_with fail; clear hwM hwC; generalize hMM : -n = M at *
        generalize hCC : -d = Cc at *
        go_loopw [41] (fun s41 wr => ∃ i : Nat, i ≤ 6 ∧ s41 = .int .i64 i ∧ Sl (Below w.heap.size w wr ∧ Blk wr w.heap.size 24 (RV.of (fun j => if j < i then a.num j * M else a.num j) a.d).cells ∧ Blk wr (w.heap.size + 1) 24 #[.int .i64 0, .int .i64 0, .int .i64 0, .int .i64 0, .int .i64 0, .int .i64 0, .int .i64 0])) (fun s41 _ => 6 - (RowKit.intOf s41).toNat)
        case atStart => exact ⟨0, by decide, rfl, ⟨HW.out.1, HW.out.2.1, HW.out.2.2⟩⟩
        case round =>
          clear HW; obtain ⟨i, hi, rfl, HI⟩ := hrel
          by_cases hi6 : i < 6
          · obtain ⟨z, hz⟩ : ∃ z, a.num i = z := ⟨_, rfl⟩; have cA : wr.cell? ⟨w.heap.size, i, none⟩ = some (.int .i64 z) := (by rw [HI.out.2.1.cell, RV.of_cell _ _ hi6, if_neg (Nat.lt_irrefl _), hz]); have hfz : wr.frozen? ⟨w.heap.size, i, none⟩ = false := HI.out.2.1.frozen i; have p1 := inR_mul2 (HG.out.2.2.2.1 i hi6) hM1.1 hM1.2; rw [hz] at p1; obtain ⟨P, hP⟩ : ∃ P, z * M = P := ⟨_, rfl⟩; rw [hP] at p1; obtain ⟨p1a, p1b⟩ := p1; have hwP : IntKind.i64.wrap P = P := (by rw [IntKind.wrap_i64]; omega); have hPn := HI.out.2.1.set_ i (.int .i64 P); rw [RV.of_set _ _ _ hi6, RV.of_congr a.d (fun j hj => (?_ : _ = if j < i + 1 then a.num j * M else a.num j))] at hPn
            rotate_left
            · by_cases h : j = i
              · rw [if_pos h, if_pos (by omega), h, hz, hP]
              · rw [if_neg h]
                by_cases h2 : j < i
                · rw [if_pos h2, if_pos (by omega)]
                · rw [if_neg h2, if_neg (by omega)]
            have HN : Sl _ := ⟨And.intro (HI.out.1.setCell (p := ⟨w.heap.size, i, none⟩) (Nat.le_refl _) (.int .i64 P)) (And.intro hPn (HI.out.2.2.far (p := ⟨w.heap.size, i, none⟩) (by show w.heap.size + 1 ≠ w.heap.size; omega) (.int .i64 P)))⟩; clear hPn p1a p1b hz HI; go_wp2_with fail; refine ⟨?_, by simp [RowKit.intOf]; omega⟩
            repeat (first | exact ⟨i + 1, hi6, by go_num, HN⟩ | exact ⟨⟨i + 1, hi6, by go_num, HN⟩, rfl⟩ | exact ⟨i + 1, ⟨hi6, by go_num, HN⟩, rfl⟩ | apply Exists.intro)
          · obtain rfl : i = 6 := (by omega); clear hi6 hi; have hmk : RV.of (fun j => if j < 6 then a.num j * M else a.num j) a.d = RV.of (fun j => a.num j * M) a.d := RV.of_congr a.d (fun j hj => if_pos hj); have Y4 := HI.out.2.1; rw [hmk] at Y4; have hq' : RV.of (fun j => a.num j * M) (a.d * Cc) = q := HPW.out; have hcs : (RV.of (fun j => a.num j * M) a.d).cells = #[.int .i64 q.n0, .int .i64 q.n1, .int .i64 q.n2, .int .i64 q.n3, .int .i64 q.n4, .int .i64 q.n5, .int .i64 a.d] := (by rw [← hq']; rfl); rw [hcs] at Y4; have hqd : a.d * Cc = q.d := (by rw [← hq']; rfl); have hM := fun W : World => rmade_any q W HG.out.1.1 HG.out.1.2.1 HG.out.1.2.2
            have hq1 := HG.out.1.1; have hq2 := HG.out.1.2.1; rw [HG.out.2.1] at hM; have HI2 : Sl _ := ⟨And.intro HI.out.1 HI.out.2.2⟩; clear hmk HI HG hcs hq' HPW; unfold RV.nums at hM; obtain ⟨r, er⟩ := s; unfold OfRes RV.cells at hM; have HM : Sl _ := ⟨hM⟩; have x0 := Y4.cell 0; have x1 := Y4.cell 1; have x2 := Y4.cell 2; have x3 := Y4.cell 3; have x4 := Y4.cell 4; have x5 := Y4.cell 5; have x6 := Y4.cell 6; simp at x0 x1 x2 x3 x4 x5 x6; have hwq : IntKind.i64.wrap q.d = q.d := (by rw [IntKind.wrap_i64]; omega); clear hM Y4 hq1 hq2; go_wp2_with fail; refine (HM.out _).mono ?_; rintro e w3 ⟨rfl, hb3⟩; have hB := HI2.out.1.trans (hb3.mono HI2.out.1.size); have Z := HI2.out.2.below hb3 HI2.out.2.lt; clear x0 x1 x2 x3 x4 x5 x6; have d0 := Z.cell 0; have d1 := Z.cell 1; have d2 := Z.cell 2; have d3 := Z.cell 3; have d4 := Z.cell 4; have d5 := Z.cell 5; have d6 := Z.cell 6; simp at d0 d1 d2 d3 d4 d5 d6; have f0 := Z.frozen 0; have f1 := Z.frozen 1; have f2 := Z.frozen 2; have f3 := Z.frozen 3; have f4 := Z.frozen 4; have f5 := Z.frozen 5; have f6 := Z.frozen 6; have HFIN : Sl _ := ⟨And.intro hB Z⟩; clear hB Z HM hb3; go_wp2_with fail; refine bodyPost_ret (results_rowR rfl _ _ (w.heap.size + 1) _ _ _ rfl (HFIN.out.2.seven _ _ _ _ _ _ _) Tryz.underlying24 rfl (by kernel_rfl)) rfl ?_; exact ⟨rfl, below_seven HFIN.out.1 (Nat.le_succ _) _ _ _ _ _ _ _⟩
      · have hpw : powR a n d = RV.of (fun j => a.num j * (n)) (a.d * (d)) := by
          unfold powR; simp only [hdn, if_true, if_false]
        obtain ⟨q, hq⟩ : ∃ q, powR a n d = q := ⟨_, rfl⟩; rw [hq] at HG hpw; have HPW : Sl _ := ⟨hpw.symm⟩; clear hpw hq; have hM1 : -1000 ≤ n ∧ n ≤ 1000 := (by omega); have hwM : IntKind.i64.wrap (-n) = -n := (by rw [IntKind.wrap_i64]; omega); have hwC : IntKind.i64.wrap (-d) = -d := (by rw [IntKind.wrap_i64]; omega); go_wp2_with fail; clear hwM hwC; generalize hMM : n = M at *
        generalize hCC : d = Cc at *
        go_loopw [41] (fun s41 wr => ∃ i : Nat, i ≤ 6 ∧ s41 = .int .i64 i ∧ Sl (Below w.heap.size w wr ∧ Blk wr w.heap.size 24 (RV.of (fun j => if j < i then a.num j * M else a.num j) a.d).cells ∧ Blk wr (w.heap.size + 1) 24 #[.int .i64 0, .int .i64 0, .int .i64 0, .int .i64 0, .int .i64 0, .int .i64 0, .int .i64 0])) (fun s41 _ => 6 - (RowKit.intOf s41).toNat)
        case atStart => exact ⟨0, by decide, rfl, ⟨HW.out.1, HW.out.2.1, HW.out.2.2⟩⟩
        case round =>
          clear HW; obtain ⟨i, hi, rfl, HI⟩ := hrel
          by_cases hi6 : i < 6
          · obtain ⟨z, hz⟩ : ∃ z, a.num i = z := ⟨_, rfl⟩; have cA : wr.cell? ⟨w.heap.size, i, none⟩ = some (.int .i64 z) := (by rw [HI.out.2.1.cell, RV.of_cell _ _ hi6, if_neg (Nat.lt_irrefl _), hz]); have hfz : wr.frozen? ⟨w.heap.size, i, none⟩ = false := HI.out.2.1.frozen i; have p1 := inR_mul2 (HG.out.2.2.2.1 i hi6) hM1.1 hM1.2; rw [hz] at p1; obtain ⟨P, hP⟩ : ∃ P, z * M = P := ⟨_, rfl⟩; rw [hP] at p1; obtain ⟨p1a, p1b⟩ := p1; have hwP : IntKind.i64.wrap P = P := (by rw [IntKind.wrap_i64]; omega); have hPn := HI.out.2.1.set_ i (.int .i64 P); rw [RV.of_set _ _ _ hi6, RV.of_congr a.d (fun j hj => (?_ : _ = if j < i + 1 then a.num j * M else a.num j))] at hPn
            rotate_left
            · by_cases h : j = i
              · rw [if_pos h, if_pos (by omega), h, hz, hP]
              · rw [if_neg h]
                by_cases h2 : j < i
                · rw [if_pos h2, if_pos (by omega)]
                · rw [if_neg h2, if_neg (by omega)]
            have HN : Sl _ := ⟨And.intro (HI.out.1.setCell (p := ⟨w.heap.size, i, none⟩) (Nat.le_refl _) (.int .i64 P)) (And.intro hPn (HI.out.2.2.far (p := ⟨w.heap.size, i, none⟩) (by show w.heap.size + 1 ≠ w.heap.size; omega) (.int .i64 P)))⟩; clear hPn p1a p1b hz HI; go_wp2_with fail; refine ⟨?_, by simp [RowKit.intOf]; omega⟩
            repeat (first | exact ⟨i + 1, hi6, by go_num, HN⟩ | exact ⟨⟨i + 1, hi6, by go_num, HN⟩, rfl⟩ | exact ⟨i + 1, ⟨hi6, by go_num, HN⟩, rfl⟩ | apply Exists.intro)
          · obtain rfl : i = 6 := (by omega); clear hi6 hi; have hmk : RV.of (fun j => if j < 6 then a.num j * M else a.num j) a.d = RV.of (fun j => a.num j * M) a.d := RV.of_congr a.d (fun j hj => if_pos hj); have Y4 := HI.out.2.1; rw [hmk] at Y4; have hq' : RV.of (fun j => a.num j * M) (a.d * Cc) = q := HPW.out; have hcs : (RV.of (fun j => a.num j * M) a.d).cells = #[.int .i64 q.n0, .int .i64 q.n1, .int .i64 q.n2, .int .i64 q.n3, .int .i64 q.n4, .int .i64 q.n5, .int .i64 a.d] := (by rw [← hq']; rfl); rw [hcs] at Y4; have hqd : a.d * Cc = q.d := (by rw [← hq']; rfl); have hM := fun W : World => rmade_any q W HG.out.1.1 HG.out.1.2.1 HG.out.1.2.2
            have hq1 := HG.out.1.1; have hq2 := HG.out.1.2.1; rw [HG.out.2.1] at hM; have HI2 : Sl _ := ⟨And.intro HI.out.1 HI.out.2.2⟩; clear hmk HI HG hcs hq' HPW; unfold RV.nums at hM; obtain ⟨r, er⟩ := s; unfold OfRes RV.cells at hM; have HM : Sl _ := ⟨hM⟩; have x0 := Y4.cell 0; have x1 := Y4.cell 1; have x2 := Y4.cell 2; have x3 := Y4.cell 3; have x4 := Y4.cell 4; have x5 := Y4.cell 5; have x6 := Y4.cell 6; simp at x0 x1 x2 x3 x4 x5 x6; have hwq : IntKind.i64.wrap q.d = q.d := (by rw [IntKind.wrap_i64]; omega); clear hM Y4 hq1 hq2; go_wp2_with fail; refine (HM.out _).mono ?_; rintro e w3 ⟨rfl, hb3⟩; have hB := HI2.out.1.trans (hb3.mono HI2.out.1.size); have Z := HI2.out.2.below hb3 HI2.out.2.lt; clear x0 x1 x2 x3 x4 x5 x6; have d0 := Z.cell 0; have d1 := Z.cell 1; have d2 := Z.cell 2; have d3 := Z.cell 3; have d4 := Z.cell 4; have d5 := Z.cell 5; have d6 := Z.cell 6; simp at d0 d1 d2 d3 d4 d5 d6; have f0 := Z.frozen 0; have f1 := Z.frozen 1; have f2 := Z.frozen 2; have f3 := Z.frozen 3; have f4 := Z.frozen 4; have f5 := Z.frozen 5; have f6 := Z.frozen 6; have HFIN : Sl _ := ⟨And.intro hB Z⟩; clear hB Z HM hb3; go_wp2_with fail; refine bodyPost_ret (results_rowR rfl _ _ (w.heap.size + 1) _ _ _ rfl (HFIN.out.2.seven _ _ _ _ _ _ _) Tryz.underlying24 rfl (by kernel_rfl)) rfl ?_; exact ⟨rfl, below_seven HFIN.out.1 (Nat.le_succ _) _ _ _ _ _ _ _⟩
    · have HZR : Sl (s = (RVzero, 2)) := ⟨HSP.out.2 hno⟩; clear hno HSP hk; have d0 := HW.out.2.2.cell 0; have d1 := HW.out.2.2.cell 1; have d2 := HW.out.2.2.cell 2; have d3 := HW.out.2.2.cell 3; have d4 := HW.out.2.2.cell 4; have d5 := HW.out.2.2.cell 5; have d6 := HW.out.2.2.cell 6; simp at d0 d1 d2 d3 d4 d5 d6; have f0 := HW.out.2.2.frozen 0; have f1 := HW.out.2.2.frozen 1; have f2 := HW.out.2.2.frozen 2; have f3 := HW.out.2.2.frozen 3; have f4 := HW.out.2.2.frozen 4; have f5 := HW.out.2.2.frozen 5; have f6 := HW.out.2.2.frozen 6; rcases hbad with h | ⟨h, h2⟩ | ⟨h, h2, h3⟩ | ⟨h, h2, h3, h4⟩ | ⟨h, h2, h3, h4, rfl⟩
      all_goals (
        go_wp2_with fail; refine bodyPost_ret (results_rowR rfl _ _ (w.heap.size + 1) _ _ _ rfl (HW.out.2.2.seven _ _ _ _ _ _ _) Tryz.underlying24 rfl (by kernel_rfl)) rfl ?_
        exact ⟨by rw [HZR.out]; rfl, below_seven HW.out.1 (Nat.le_succ _) _ _ _ _ _ _ _⟩)
  · have hcz : (c != 0) = true := (by rw [bne_iff_ne]; exact h0)
    have HZR : Sl (s = (RVzero, c)) := ⟨by
      rw [← HSS.out]; unfold powS
      rw [HK.out, if_neg h0]⟩
    have d0 := HW.out.2.2.cell 0; have d1 := HW.out.2.2.cell 1; have d2 := HW.out.2.2.cell 2; have d3 := HW.out.2.2.cell 3; have d4 := HW.out.2.2.cell 4; have d5 := HW.out.2.2.cell 5; have d6 := HW.out.2.2.cell 6; simp at d0 d1 d2 d3 d4 d5 d6; have f0 := HW.out.2.2.frozen 0; have f1 := HW.out.2.2.frozen 1; have f2 := HW.out.2.2.frozen 2; have f3 := HW.out.2.2.frozen 3; have f4 := HW.out.2.2.frozen 4; have f5 := HW.out.2.2.frozen 5; have f6 := HW.out.2.2.frozen 6; go_wp2_with fail; refine bodyPost_ret (results_rowR rfl _ _ (w.heap.size + 1) _ _ _ rfl (HW.out.2.2.seven _ _ _ _ _ _ _) Tryz.underlying24 rfl (by kernel_rfl)) rfl ?_; exact ⟨by rw [HZR.out]; rfl, below_seven HW.out.1 (Nat.le_succ _) _ _ _ _ _ _ _⟩
end Go.Proofs.YtalodfjplegibaaGreatDoor
namespace Go.Proofs.YtalodfjplegibaaGreatDoor
set_option linter.unusedSimpArgs false
open Go.RowKit
set_option linter.unusedVariables false
set_option linter.constructorNameAsVariable false
set_option maxHeartbeats 800000 in
set_option maxRecDepth 100000 in
theorem rcheck_zero (A : Option Addr) (c : Nat) (w : World) (hl : TR w A 1 [(0, 1)]) :
    Calls Tryz.prog 34 #[.slice A 1 c] w fun e w' => e = .returned (.int .i64 2) ∧ Below w.heap.size w w' := by
  have HL : Sl _ := ⟨hl⟩; clear hl; go_enter Tryz.func34, Tryz.ntmps34; go_wp2_with fail
  go_loopw [10] (fun s10 wr => s10 = .int .i64 0 ∧ Below w.heap.size w wr) (fun s10 _ => 1 - (RowKit.intOf s10).toNat)
  case atStart => exact ⟨rfl, Below.refl _ _⟩
  case round =>
    obtain ⟨rfl, hB⟩ := hrel; obtain ⟨ad, rfl, hab, c1, c2⟩ := (HL.out.below hB).cells (i := 0) (x := (0, 1)) rfl; rw [Nat.zero_mul] at c1 c2; have e0 : ad.add 0 = ad := (by simp [Addr.add]); have e1 : ad.add (0 + 1) = ⟨ad.block, ad.off + 1, none⟩ := (by simp [Addr.add]); rw [e0] at c1; rw [e1] at c2; simp only [] at c1 c2; have hB1 := hB.alloc hB.size (.cells #[.int .i64 0, .int .i64 1] 35); clear e0 e1; go_wp2_with fail
    (try simp only [Exit.inBlock, Exit.then])
    go_ret; exact ⟨rfl, hB1⟩
theorem sign2_any (A : Option Addr) (c : Nat) (w : World) (hl : TR w A 1 [(0, 1)]) : Calls Tryz.prog 10 #[.slice A 1 c] w fun e w' => e = .returned (.tuple #[.int .i64 0, .int .i64 2]) ∧ Below w.heap.size w w' := by
  have HC : Sl _ := ⟨rcheck_zero A c w hl⟩; clear hl; go_enter Tryz.func10, Tryz.ntmps10; go_wp2_with fail; refine HC.out.mono ?_; rintro e w1 ⟨rfl, hb1⟩; go_wp2_with fail; go_ret2; exact ⟨rfl, hb1⟩
noncomputable def ofT (x y : Nat) (r : RV) : Bool := Nat.beq (stripN x 6) (stripN y 6) && (List.range 6).all fun j => decide (ofF x y 6 j = r.num j)
theorem of_val {x y : Nat} {r : RV} {X Y : Int} (hX : X = (x : Int)) (hY : Y = (y : Int)) (hx : 1 ≤ x ∧ x ≤ 1000000000000) (hy : 1 ≤ y ∧ y ≤ 1000000000000) (h : ofT x y r = true) (hd : r.d = 1) : ofS X Y = (r, 0) := by
  subst hX hY; unfold ofT at h; rw [Bool.and_eq_true] at h; have h2 : ∀ j, j < 6 → ofF x y 6 j = r.num j := fun j hj => of_decide_eq_true (List.all_eq_true.1 h.2 j (List.mem_range.2 hj))
  unfold ofS; rw [if_pos ⟨⟨by omega, by omega⟩, ⟨by omega, by omega⟩⟩, Int.natAbs_natCast, Int.natAbs_natCast, if_pos (Nat.eq_of_beq_eq_true h.1), RV.of_congr 1 h2, ← hd, RV.of_self]
theorem of_54 : ofS 5 4 = (⟨-2, 0, 1, 0, 0, 0, 1⟩, 0) := of_val (x := 5) (y := 4) rfl rfl (by decide) (by decide) (by decide +kernel) rfl
theorem of_8180 : ofS 81 80 = (⟨-4, 4, -1, 0, 0, 0, 1⟩, 0) := of_val (x := 81) (y := 80) rfl rfl (by decide) (by decide) (by decide +kernel) rfl
theorem of_p12 : ofS 531441 1 = (⟨0, 12, 0, 0, 0, 0, 1⟩, 0) := of_val (x := 531441) (y := 1) rfl rfl (by decide) (by decide) (by decide +kernel) rfl
theorem of_13 : ofS 1 3 = (⟨0, -1, 0, 0, 0, 0, 1⟩, 0) := of_val (x := 1) (y := 3) rfl rfl (by decide) (by decide) (by decide +kernel) rfl
theorem of_43 : ofS 4 3 = (⟨2, -1, 0, 0, 0, 0, 1⟩, 0) := of_val (x := 4) (y := 3) rfl rfl (by decide) (by decide) (by decide +kernel) rfl
theorem of_51 : ofS 5 1 = (⟨0, 0, 1, 0, 0, 0, 1⟩, 0) := of_val (x := 5) (y := 1) rfl rfl (by decide) (by decide) (by decide +kernel) rfl
theorem of_64 : ofS 6 4 = (⟨-1, 1, 0, 0, 0, 0, 1⟩, 0) := of_val (x := 6) (y := 4) rfl rfl (by decide) (by decide) (by decide +kernel) rfl
theorem of_32 : ofS 3 2 = (⟨-1, 1, 0, 0, 0, 0, 1⟩, 0) := of_val (x := 3) (y := 2) rfl rfl (by decide) (by decide) (by decide +kernel) rfl
theorem of_11 : ofS 1 1 = (⟨0, 0, 0, 0, 0, 0, 1⟩, 0) := of_val (x := 1) (y := 1) rfl rfl (by decide) (by decide) (by decide +kernel) rfl
theorem of_171 : ofS 17 1 = (RVzero, 7) := by
  have h : ¬ stripN (17 : Int).natAbs 6 = stripN (1 : Int).natAbs 6 := (by decide +kernel); unfold ofS; rw [if_pos ⟨⟨by decide, by decide⟩, ⟨by decide, by decide⟩⟩, if_neg h]
theorem of_01 : ofS 0 1 = (RVzero, 2) := by
  unfold ofS; rw [if_neg (fun h => absurd h.1.1 (by decide))]
theorem ck {r : RV} (h1 : 1 ≤ r.d) (h2 : r.d ≤ 1000) (h3 : (List.range 6).all (fun j => decide (-100000 ≤ r.num j ∧ r.num j ≤ 100000)) = true) (h4 : r.gcd 6 = 1) : checkS r = 0 :=
  check_of h1 h2 (fun i hi => of_decide_eq_true (List.all_eq_true.1 h3 i (List.mem_range.2 hi))) h4
theorem cents_to {r : RV} {den t : Nat} {b : Bool} {T : Int} (hc : checkS r = 0) (hd : r.d = (den : Int)) (hT : T = (t : Int)) (hb : flT (termsN r 6) 1200000 den t b = true) (ht : t < 1000000000000) (w : World) (hP : PrT w) :
    Calls Tryz.prog 33 #[.agg r.cells] w fun e w' => e = .returned (.tuple #[.int .i64 T, .bool b, .int .i64 0]) ∧ Below w.heap.size w w' :=
  (Cents_any r w hP).mono fun e w' h => ⟨floor_run hd hT hb ht (h.1.2 hc), h.2⟩
theorem cents_54 (w : World) (hP : PrT w) : Calls Tryz.prog 33 #[.agg (RV.cells ⟨-2, 0, 1, 0, 0, 0, 1⟩)] w fun e w' => e = .returned (.tuple #[.int .i64 386313, .bool false, .int .i64 0]) ∧ Below w.heap.size w w' :=
  cents_to (den := 1) (t := 386313) (ck (by decide) (by decide) (by decide) (by decide +kernel)) rfl rfl (by decide +kernel) (by decide) w hP
theorem cents_8180 (w : World) (hP : PrT w) : Calls Tryz.prog 33 #[.agg (RV.cells ⟨-4, 4, -1, 0, 0, 0, 1⟩)] w fun e w' => e = .returned (.tuple #[.int .i64 21506, .bool false, .int .i64 0]) ∧ Below w.heap.size w w' :=
  cents_to (den := 1) (t := 21506) (ck (by decide) (by decide) (by decide) (by decide +kernel)) rfl rfl (by decide +kernel) (by decide) w hP
theorem ck_pow : checkS ⟨0, 0, 1, 0, 0, 0, 4⟩ = 0 := ck (by decide) (by decide) (by decide) (by decide +kernel)
theorem cents_pow (w : World) (hP : PrT w) : Calls Tryz.prog 33 #[.agg (RV.cells ⟨0, 0, 1, 0, 0, 0, 4⟩)] w fun e w' => e = .returned (.tuple #[.int .i64 696578, .bool false, .int .i64 0]) ∧ Below w.heap.size w w' :=
  cents_to (den := 4) (t := 696578) ck_pow rfl rfl (by decide +kernel) (by decide) w hP
theorem pow_514 (w : World) : Calls Tryz.prog 14 #[.agg (RV.cells ⟨0, 0, 1, 0, 0, 0, 1⟩), .int .i64 1, .int .i64 4] w fun e w' => e = .returned (.tuple #[.agg (RV.cells ⟨0, 0, 1, 0, 0, 0, 4⟩), .int .i64 0]) ∧ Below w.heap.size w w' := by
  have h1 : checkS ⟨0, 0, 1, 0, 0, 0, 1⟩ = 0 := ck (by decide) (by decide) (by decide) (by decide +kernel); have h2 : powR ⟨0, 0, 1, 0, 0, 0, 1⟩ 1 4 = ⟨0, 0, 1, 0, 0, 0, 4⟩ := (by rfl)
  have h3 : powS ⟨0, 0, 1, 0, 0, 0, 1⟩ 1 4 = (⟨0, 0, 1, 0, 0, 0, 4⟩, 0) := by
    unfold powS; rw [if_pos h1, if_pos ⟨by decide, by decide, by decide⟩, h2]; exact made_self ck_pow
  refine (vPow_any _ 1 4 w).mono fun e w' h => ⟨?_, h.2⟩
  have h4 := h.1; rw [h3] at h4; exact h4
theorem third_turn (m : Int) : 0 ≤ sgF [(3, -1)] 1 1 m ↔ m ≤ -2 := by
  unfold sgF; rw [sgn_nonneg]; unfold atM; obtain ⟨e1, e2⟩ := updown_app (scaled [(3, -1)] 1) 2 (-m * 1); have hu : up (scaled [(3, -1)] 1) = 1 := (by decide); have hd : down (scaled [(3, -1)] 1) = 3 := (by decide); rw [e1, e2, hu, hd, Int.mul_one]
  by_cases h0 : 0 ≤ -m
  · rw [if_pos h0, if_pos h0, Nat.mul_one, Nat.one_mul]; obtain ⟨b, hb⟩ := Int.eq_ofNat_of_zero_le h0; have hab : (-m).natAbs = b := (by omega); rw [hab]; rcases b with _ | _ | b
    · simp; omega
    · simp; omega
    · have h2 : 4 * 1 ≤ 2 ^ 2 * 2 ^ b := Nat.mul_le_mul (by decide) (Nat.pow_pos (by decide)); have h3 : 2 ^ (b + 1 + 1) = 2 ^ 2 * 2 ^ b := (by rw [← Nat.pow_add]; congr 1; omega); rw [h3]; constructor <;> intro _ <;> omega
  · rw [if_neg h0, if_neg h0]; have h2 : 0 < 2 ^ (-m).natAbs := Nat.pow_pos (by decide); constructor
    · intro h; omega
    · intro h; omega
theorem third_floor {e : Ending} (h : FloorRes [(3, -1)] 1 1 (sgF [(3, -1)] 1 1) e) : ∃ b er, e = .returned (.tuple #[.int .i64 (-2), .bool b, .int .i64 er]) := by
  have ht := third_turn; generalize sgF [(3, -1)] 1 1 = sg at *
  unfold FloorRes at h
  rw [if_neg (by
    intro h3; rcases h3 with h3 | h3
    · have := (ht _).1 h3; omega
    · have := (ht (-1000000000000)).2 (by omega); omega)] at h
  obtain ⟨m, a1, a2, a3, a4, rfl⟩ := h; have b1 := (ht m).1 a3; have b2 : ¬ m + 1 ≤ -2 := fun h3 => by have := (ht (m + 1)).2 h3; omega
  obtain rfl : m = -2 := (by omega); exact ⟨_, _, rfl⟩
theorem fold_neg {r q : RV} {l : List (Nat × Int)} {d k : Int} (hc : checkS r = 0) (hl : termsN r 6 = l) (hd : r.d = d) (hx : ∀ e, FloorRes l 1 d (sgF l 1 d) e → ∃ b er, e = .returned (.tuple #[.int .i64 k, .bool b, .int .i64 er]))
    (hm : madeS (foldR r k) = (q, 0)) (hk1 : -1000000000000 ≤ k) (hk2 : k ≤ 1000000000000) (w : World) (hP : PrT w) :
    Calls Tryz.prog 43 #[.agg r.cells] w fun e w' => e = .returned (.tuple #[.agg q.cells, .int .i64 k, .int .i64 0]) ∧ Below w.heap.size w w' := by
  subst hl hd; have hf : foldS r k = (q, k, 0) := (by rw [foldS_ok hc (by rw [hm]), hm]); refine (vFold_any r k w hP (fun _ e h => hx e h) hk1 hk2).mono fun e w' h => ⟨?_, h.2⟩
  have h4 := h.1; rw [hf] at h4; exact h4
theorem floor_ex {l : List (Nat × Int)} {s : Int} {den t : Nat} {b : Bool} {d T : Int} (hd : d = (den : Int)) (hT : T = (t : Int)) (hb : flT l s den t b = true) (ht : t < 1000000000000) (e : Ending) (h : FloorRes l s d (sgF l s d) e) : ∃ b er, e = .returned (.tuple #[.int .i64 T, .bool b, .int .i64 er]) :=
  ⟨b, 0, floor_run hd hT hb ht h⟩
theorem fold_p12 (w : World) (hP : PrT w) : Calls Tryz.prog 43 #[.agg (RV.cells ⟨0, 12, 0, 0, 0, 0, 1⟩)] w fun e w' => e = .returned (.tuple #[.agg (RV.cells ⟨-19, 12, 0, 0, 0, 0, 1⟩), .int .i64 19, .int .i64 0]) ∧ Below w.heap.size w w' :=
  fold_neg (r := ⟨0, 12, 0, 0, 0, 0, 1⟩) (q := ⟨-19, 12, 0, 0, 0, 0, 1⟩) (l := [(3, 12)]) (d := 1) (k := 19) (ck (by decide) (by decide) (by decide) (by decide +kernel)) (by decide) rfl
    (floor_ex (den := 1) (t := 19) (b := false) (by decide) (by decide) (by decide +kernel) (by decide))
    (by
      have h2 : foldR ⟨0, 12, 0, 0, 0, 0, 1⟩ 19 = ⟨-19, 12, 0, 0, 0, 0, 1⟩ := (by rfl); rw [h2]
      exact made_self (ck (by decide) (by decide) (by decide) (by decide +kernel))) (by decide) (by decide) w hP
theorem fold_13 (w : World) (hP : PrT w) : Calls Tryz.prog 43 #[.agg (RV.cells ⟨0, -1, 0, 0, 0, 0, 1⟩)] w fun e w' => e = .returned (.tuple #[.agg (RV.cells ⟨2, -1, 0, 0, 0, 0, 1⟩), .int .i64 (-2), .int .i64 0]) ∧ Below w.heap.size w w' :=
  fold_neg (r := ⟨0, -1, 0, 0, 0, 0, 1⟩) (q := ⟨2, -1, 0, 0, 0, 0, 1⟩) (l := [(3, -1)]) (d := 1) (k := -2) (ck (by decide) (by decide) (by decide) (by decide +kernel)) (by decide) rfl
    (fun e => @third_floor e)
    (by
      have h2 : foldR ⟨0, -1, 0, 0, 0, 0, 1⟩ (-2) = ⟨2, -1, 0, 0, 0, 0, 1⟩ := (by rfl); rw [h2]
      exact made_self (ck (by decide) (by decide) (by decide) (by decide +kernel))) (by decide) (by decide) w hP
end Go.Proofs.YtalodfjplegibaaGreatDoor
