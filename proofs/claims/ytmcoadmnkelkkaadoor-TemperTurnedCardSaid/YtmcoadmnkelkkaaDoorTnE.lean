/- Plain law: a temperament turned. No program in sight. The law TemperTurned walks to true. (Printed by gentme.py.) -/
import Derived.Test.YtmcoadmnkelkkaaDoorTnC
import Derived.Test.YtmcoadmnkelkkaaDoorRatU
namespace Go.Proofs.YtmcoadmnkelkkaaDoor
set_option linter.unusedSimpArgs false
set_option linter.unusedVariables false

theorem TV.all_in {t : TV} {M : Nat} (hM : 0 < M) (h120 : M ≤ 120) (h : ∀ i, i < 12 → (t.den i).natAbs ∣ M) : ∀ k, k ≤ 12 → t.all k ∣ M
  | 0, _ => Nat.one_dvd _
  | k+1, hk => by
    have ih := TV.all_in hM h120 h k (by omega)
    have hle := Nat.le_of_dvd hM ih
    rw [TV.all, if_pos (by omega)]
    have e : t.all k / Nat.gcd (t.all k) (t.den k).natAbs * (t.den k).natAbs = Nat.lcm (t.all k) (t.den k).natAbs := by
      unfold Nat.lcm
      rw [Nat.mul_comm, Nat.mul_comm (t.all k), Nat.mul_div_assoc _ (Nat.gcd_dvd_left _ _)]
    rw [e]
    exact Nat.lcm_dvd ih (h k (by omega))
theorem turn_idx {i b : Nat} (hi : i < 12) : ((i + 7 * b) % 12 + 5 * b) % 12 = i := by omega
theorem TV.turn_chk {t : TV} (h : t.chk nameS = 0) {b : Nat} (hb : b < 12) : (t.turn b).chk nameS = 0 := by
  obtain ⟨h1, h2, h3, h4, h5, h6⟩ := TV.chk_ok h
  have hd := TV.all_dvd h2 12 (Nat.le_refl _) h6
  have hp := TV.all_pos h2 12 (Nat.le_refl _)
  have hall : (t.turn b).all 12 ∣ t.all 12 := TV.all_in (t := t.turn b) hp h6 (fun i hi => hd ((i + 5 * b) % 12) (by omega)) 12 (Nat.le_refl _)
  have hle := Nat.le_of_dvd hp hall
  obtain ⟨W, hW⟩ : ∃ W : Nat, t.wolf = (W : Int) := ⟨t.wolf.toNat, by omega⟩
  have hw' : (t.turn b).wolf = (((W + 7 * b) % 12 : Nat) : Int) := by show (t.wolf + 7 * (b : Int)) % 12 = _; rw [hW]; omega
  unfold TV.chk
  rw [if_neg (by rw [hw']; omega), if_neg (by rintro ⟨i, hi, hbad⟩; exact h2 ((i + 5 * b) % 12) (by omega) hbad), if_neg, if_neg (by omega)]
  rintro (hn | ⟨i, hi, hl⟩ | hn)
  · have : nameS t.nm = false := hn
    rw [h3] at this
    cases this
  · exact hl (h4 ((i + 5 * b) % 12) (by omega))
  · refine hn ?_
    show t.num (((t.turn b).wolf.toNat + 5 * b) % 12) = 0
    rw [hw', Int.toNat_natCast, turn_idx (by omega)]
    rw [hW, Int.toNat_natCast] at h5
    exact h5
theorem TV.turn_D {t : TV} (h : t.chk nameS = 0) {b : Nat} (hb : b < 12) : (t.turn b).all 12 = t.all 12 := by
  obtain ⟨_, h2, _, _, _, h6⟩ := TV.chk_ok h
  obtain ⟨_, g2, _, _, _, g6⟩ := TV.chk_ok (TV.turn_chk h hb)
  have hp := TV.all_pos h2 12 (Nat.le_refl _)
  have gp := TV.all_pos g2 12 (Nat.le_refl _)
  have hd := TV.all_dvd h2 12 (Nat.le_refl _) h6
  have gd := TV.all_dvd g2 12 (Nat.le_refl _) g6
  refine Nat.dvd_antisymm (TV.all_in (t := t.turn b) hp h6 (fun i hi => hd ((i + 5 * b) % 12) (by omega)) 12 (Nat.le_refl _)) (TV.all_in (t := t) gp g6 (fun i hi => ?_) 12 (Nat.le_refl _))
  have := gd ((i + 7 * b) % 12) (by omega)
  have e : (t.turn b).den ((i + 7 * b) % 12) = t.den i := by show t.den (((i + 7 * b) % 12 + 5 * b) % 12) = _; rw [turn_idx hi]
  rwa [e] at this
theorem TV.turn_back {t : TV} (h : t.chk nameS = 0) {b c : Nat} (hb : b < 12) (hc : (b + c) % 12 = 0) : ((t.turn b).turn c).cells = t.cells := by
  obtain ⟨h1, _⟩ := TV.chk_ok h
  refine TV.cells_ext rfl rfl ?_ (fun i hi => ?_) (fun i hi => ?_)
  · show ((t.wolf + 7 * (b : Int)) % 12 + 7 * (c : Int)) % 12 = t.wolf
    omega
  · show t.num (((i + 5 * c) % 12 + 5 * b) % 12) = t.num i
    rw [show ((i + 5 * c) % 12 + 5 * b) % 12 = i by omega]
  · show t.den (((i + 5 * c) % 12 + 5 * b) % 12) = t.den i
    rw [show ((i + 5 * c) % 12 + 5 * b) % 12 = i by omega]
/-- sums of the first of a row -/
def psum (f : Nat → Int) : Nat → Int
  | 0 => 0
  | n+1 => psum f n + f n
theorem TP.S_psum (t : TP) (j : Nat) : ∀ n, t.S n j = psum (fun k => t.f k j) n
  | 0 => t.S_zero j
  | n+1 => by rw [TP.S_succ, psum, TP.S_psum t j n]
theorem psum_shift {f f' : Nat → Int} {r : Nat} (hr : r < 12) (hf : ∀ i, i < 12 → f' i = f ((i + r) % 12)) : ∀ n, n ≤ 12 → psum f' n = if n + r ≤ 12 then psum f (n + r) - psum f r else psum f 12 - psum f r + psum f (n + r - 12)
  | 0, _ => by rw [if_pos (by omega), Nat.zero_add, psum]; omega
  | n+1, hn => by
    rw [psum, psum_shift hr hf n (by omega), hf n (by omega)]
    rcases Nat.lt_trichotomy (n + r) 12 with h | h | h
    · rw [if_pos (by omega), if_pos (by omega), show n + 1 + r = (n + r) + 1 by omega, psum, Nat.mod_eq_of_lt h]
      omega
    · have e1 : psum f (0 + 1) = psum f 0 + f 0 := rfl
      have e0 : psum f 0 = 0 := rfl
      rw [if_pos (by omega), if_neg (by omega), h, show n + 1 + r - 12 = 0 + 1 by omega, e1, e0, show 12 % 12 = 0 by rfl]
      omega
    · have e1 : psum f (n + r - 12 + 1) = psum f (n + r - 12) + f (n + r - 12) := rfl
      rw [if_neg (by omega), if_neg (by omega), show n + 1 + r - 12 = (n + r - 12) + 1 by omega, e1, show (n + r) % 12 = n + r - 12 by omega]
      omega
theorem TV.turn_tp {t : TV} (h : t.chk nameS = 0) {b : Nat} (hb : b < 12) : (t.turn b).tp = ⟨t.tp.syn, (t.tp.w + 7 * b) % 12, t.tp.D, fun i => t.tp.e ((i + 5 * b) % 12)⟩ := by
  obtain ⟨h1, _⟩ := TV.chk_ok h
  have hw : ((t.wolf + 7 * (b : Int)) % 12).toNat = (t.wolf.toNat + 7 * b) % 12 := by omega
  unfold TV.tp
  rw [TV.turn_D h hb]
  show TP.mk t.syn ((t.wolf + 7 * (b : Int)) % 12).toNat _ _ = _
  rw [hw]
  rfl
/-- a temperament's exponents turned -/
def TP.tn (t : TP) (b : Nat) : TP := ⟨t.syn, (t.w + 7 * b) % 12, t.D, fun i => t.e ((i + 5 * b) % 12)⟩
theorem TP.tn_g {t : TP} (hw : t.w < 12) {b i : Nat} (hi : i < 12) (j : Nat) : (t.tn b).g i j = t.g ((i + 5 * b) % 12) j := by
  show (if i = (t.w + 7 * b) % 12 then 0 else t.D * b32 j - t.e ((i + 5 * b) % 12) * cmv t.syn j) = if (i + 5 * b) % 12 = t.w then 0 else t.D * b32 j - t.e ((i + 5 * b) % 12) * cmv t.syn j
  by_cases h0 : i = (t.w + 7 * b) % 12
  · rw [if_pos h0, if_pos (by omega)]
  · rw [if_neg h0, if_neg (by omega)]
theorem TP.G_psum (t : TP) (j : Nat) : ∀ n, t.G n j = psum (fun k => t.g k j) n
  | 0 => rfl
  | n+1 => by rw [TP.G, psum, TP.G_psum t j n]
theorem mod_r (i b : Nat) : (i + 5 * b % 12) % 12 = (i + 5 * b) % 12 := by omega
theorem TP.tn_G {t : TP} (hw : t.w < 12) (b j : Nat) : (t.tn b).G 12 j = t.G 12 j := by
  rw [TP.G_psum, TP.G_psum, psum_shift (f := fun k => t.g k j) (r := 5 * b % 12) (by omega) (fun i hi => by show (t.tn b).g i j = t.g ((i + 5 * b % 12) % 12) j; rw [TP.tn_g hw hi, mod_r]) 12 (Nat.le_refl _)]
  by_cases h0 : 5 * b % 12 = 0
  · have e0 : psum (fun k => t.g k j) 0 = 0 := rfl
    rw [h0, if_pos (by omega), Nat.add_zero, e0]
    omega
  · rw [if_neg (by omega), show 12 + 5 * b % 12 - 12 = 5 * b % 12 by omega]
    omega
theorem TP.tn_f {t : TP} (hw : t.w < 12) {b i : Nat} (hi : i < 12) (j : Nat) : (t.tn b).f i j = t.f ((i + 5 * b) % 12) j := by
  show (if i = (t.w + 7 * b) % 12 then (t.tn b).rv 12 j else (t.tn b).g i j) = if (i + 5 * b) % 12 = t.w then t.rv 12 j else t.g ((i + 5 * b) % 12) j
  by_cases h0 : i = (t.w + 7 * b) % 12
  · rw [if_pos h0, if_pos (by omega)]
    unfold TP.rv
    rw [TP.tn_G hw]
    rfl
  · rw [if_neg h0, if_neg (by omega), TP.tn_g hw hi]
theorem TP.Ok.tn_S {t : TP} (h : t.Ok) {k b : Nat} (hk : k < 12) : ∃ m : Int, ∀ j, (t.tn b).S ((k + 7 * b) % 12) j = t.S k j - t.S (5 * b % 12) j + oct (m * t.D) j := by
  have hw := h.hw
  have key := fun j => psum_shift (f := fun k => t.f k j) (f' := fun k => (t.tn b).f k j) (r := 5 * b % 12) (by omega) (fun i hi => by show (t.tn b).f i j = t.f ((i + 5 * b % 12) % 12) j; rw [TP.tn_f hw hi, mod_r]) ((k + 7 * b) % 12) (by omega)
  have hS := fun j => (t.tn b).S_psum j ((k + 7 * b) % 12)
  have h0 : ∀ j, oct (0 * t.D) j = 0 := fun j => by unfold oct; split <;> omega
  have h7 : ∀ j, psum (fun k => t.f k j) 12 = oct (7 * t.D) j := fun j => by rw [← TP.S_psum, h.S_last]
  have e : (k + 7 * b) % 12 + 5 * b % 12 = k ∨ (k + 7 * b) % 12 + 5 * b % 12 = k + 12 := by omega
  rcases e with e | e
  · refine ⟨0, fun j => ?_⟩
    rw [hS j, key j, if_pos (by omega), e, h0, TP.S_psum, TP.S_psum]
    omega
  · refine ⟨7, fun j => ?_⟩
    rw [hS j, key j, TP.S_psum, TP.S_psum]
    by_cases hk0 : k = 0
    · subst hk0
      rw [if_pos (by omega), e, h7, psum]
      omega
    · rw [if_neg (by omega), e, h7, show k + 12 - 12 = k by omega]
      omega
theorem flo_shift {u v : Nat → Int} {D m : Int} (hv : fitsV v D) (h : ∀ j, j < 6 → u j = v j + oct (m * D) j) : flo u D = flo v D + m := by
  obtain ⟨h1, h2⟩ := flo_spec hv
  have hE := oct_is (m * D)
  refine flo_eq hv.1.1 ((h1.add hE.tt).cast (by rw [Int.add_mul]) fun j hj => (h j hj).symm) ((h2.addQ hE).cast (by rw [Int.add_mul, Int.add_mul, Int.add_mul]; omega) fun j hj => (h j hj).symm)
theorem fol_shift {u v : Nat → Int} {D m : Int} (hv : fitsV v D) (h : ∀ j, j < 6 → u j = v j + oct (m * D) j) : ∀ j, j < 6 → fol u D j = fol v D j := fun j hj => by
  unfold fol
  rw [flo_shift hv h, h j hj]
  unfold oct
  split
  · rw [Int.add_mul]; omega
  · omega
theorem TP.Ok.tn_b {t : TP} (h : t.Ok) {b a c : Nat} (ha : a < 12) (hc : c < 12) : ∀ j, j < 6 → (t.tn b).b ((a + 7 * b) % 12) ((c + 7 * b) % 12) j = t.b a c j := by
  obtain ⟨m1, e1⟩ := h.tn_S (b := b) ha
  obtain ⟨m2, e2⟩ := h.tn_S (b := b) hc
  unfold TP.b
  show ∀ j, j < 6 → fol ((t.tn b).y ((a + 7 * b) % 12) ((c + 7 * b) % 12)) t.D j = fol (t.y a c) t.D j
  refine fol_shift (m := m2 - m1 - flo ((t.tn b).S ((c + 7 * b) % 12)) t.D + flo ((t.tn b).S ((a + 7 * b) % 12)) t.D + flo (t.S c) t.D - flo (t.S a) t.D) (h.y_fits (by omega) (by omega)) fun j hj => ?_
  unfold TP.y TP.n
  show fol ((t.tn b).S ((c + 7 * b) % 12)) t.D j - fol ((t.tn b).S ((a + 7 * b) % 12)) t.D j = _
  unfold fol
  rw [e1 j, e2 j]
  generalize flo ((t.tn b).S ((c + 7 * b) % 12)) t.D = x1
  generalize flo ((t.tn b).S ((a + 7 * b) % 12)) t.D = x2
  generalize flo (t.S c) t.D = x3
  generalize flo (t.S a) t.D = x4
  unfold oct
  split
  · simp only [Int.add_mul, Int.sub_mul]
    omega
  · omega
/-- after Turn intervals are as many classes higher -/
theorem TV.turn_B {t : TV} (h : t.chk nameS = 0) {b x y : Nat} (hb : b < 12) (hx : x < 12) (hy : y < 12) : (t.turn b).B ((x + b) % 12) ((y + b) % 12) = t.B x y := by
  unfold TV.B
  rw [TV.turn_tp h hb]
  show nr ((t.tp.tn b).b (7 * ((x + b) % 12) % 12) (7 * ((y + b) % 12 % 12) % 12)) t.tp.D = _
  rw [show 7 * ((x + b) % 12) % 12 = (7 * x % 12 + 7 * b) % 12 by omega, show 7 * ((y + b) % 12 % 12) % 12 = (7 * (y % 12) % 12 + 7 * b) % 12 by omega]
  exact nr_congr ((TV.tp_ok h).tn_b (by omega) (by omega))
end Go.Proofs.YtmcoadmnkelkkaaDoor
namespace Go.Proofs.YtmcoadmnkelkkaaDoor
set_option linter.unusedSimpArgs false
open Go.RowKit
set_option linter.unusedVariables false

attribute [-simp] Tryd.isAgg26 Tryd.isAgg24 Tryd.isAgg34
def c3 (a b c : Nat) : Array Value := #[.int .u8 (a : Int), .int .u8 (b : Int), .int .u8 (c : Int)]
theorem box_three (a b c : Nat) (w : World) : (Instr.box 31 (.agg (c3 a b c))).run Tryd.prog w = .ok (.pointer (some ⟨w.heap.size, 0, none⟩)) (w.alloc (.cells (c3 a b c) 31)) := by kernel_rfl
theorem RV.ext06 (r : RV) : r.cells.extract 0 6 = r.nums := by kernel_rfl
theorem eq_nums (W : World) (r : RV) : (Op.equalIn 9999 32 (.agg r.nums) (.agg r.nums)).run Tryd.prog W = .ok true W := equal6 W r.n0 r.n1 r.n2 r.n3 r.n4 r.n5
theorem TV.trn_ok {t : TV} (h : t.chk nameS = 0) {z : Nat} (hz : z < 12) : t.trn (z : Int) = (t.turn z, 0) := by
  unfold TV.trn
  rw [if_pos h, if_pos (clsB_true.2 (by omega))]
  rfl
theorem TV.btw_ok {t : TV} (h : t.chk nameS = 0) {x y : Nat} (hx : x < 12) (hy : y < 12) : t.btw (x : Int) (y : Int) = (t.B x y, 0) := by
  unfold TV.btw
  rw [if_pos h, clsB_true.2 (by omega), clsB_true.2 (by omega), if_pos (by rfl)]
  rfl
set_option maxHeartbeats 6400000 in
set_option maxRecDepth 100000 in
theorem temperTurned_any (t : TV) (hs : t.nm.size ≤ maxLen) (a b c : Nat) (ha : a < 256) (hb : b < 256) (hc : c < 256) (w : World) (hT : PrT w) : Calls Tryd.prog 6 #[.agg t.cells, .agg (c3 a b c)] w fun e w' => e = .returned (.bool true) ∧ Below w.heap.size w w' := by
  have HB : Sl (Below w.heap.size w w) := ⟨Below.refl _ _⟩
  have HT : Sl _ := ⟨hT⟩
  have HS : Sl _ := ⟨hs⟩
  have HCK : Sl _ := ⟨fun W : World => r5check_any t W hs⟩
  have HAW : Sl _ := ⟨fun (W : World) (h : PrT W) => awake5_any W h⟩
  clear hT hs
  obtain ⟨er, her⟩ : ∃ x, t.chk nameS = x := ⟨_, rfl⟩
  rw [her] at HCK
  have HER : Sl _ := ⟨her⟩
  clear her
  have HABC : Sl _ := ⟨And.intro ha (And.intro hb hc)⟩
  clear ha hb hc
  go_enter Tryd.func6, Tryd.ntmps6
  go_wp2_with ((with_reducible show wpList _ _ _ _ _ _); first
    | (refine wpList_box_new 2 rfl rfl 26 (.tmp 0) rfl t.cells rfl (box_temper t) ?_; rintro w1 gT zg zm zs zb; have ORD : Sl (w.heap.size ≤ gT) := ⟨by have := HB.out.size; omega⟩; replace HB : Sl (Below w.heap.size w w1) := ⟨below_mv HB.out zm (by have := HB.out.size; have := ORD.out; omega) HB.out.size⟩; have XT : Sl (Blk w1 gT 26 t.cells) := ⟨zb⟩; clear zg zm zs zb)
    | (refine wpList_box_new 3 rfl rfl 31 (.tmp 1) rfl (c3 a b c) rfl (box_three a b c) ?_; rintro w2 gL zg zm zs zb; replace ORD : Sl (w.heap.size ≤ gT ∧ gT < gL) := ⟨by have := HB.out.size; have := ORD.out; have := XT.out.lt; omega⟩; replace HB : Sl (Below w.heap.size w w2) := ⟨below_mv HB.out zm (by have := HB.out.size; have := ORD.out; omega) HB.out.size⟩; replace XT : Sl (Blk w2 gT 26 t.cells) := ⟨XT.out.mv zm (by have := XT.out.lt; have := ORD.out; omega)⟩; have XL : Sl (Blk w2 gL 31 (c3 a b c)) := ⟨zb⟩; clear zg zm zs zb)
    | (refine wpList_load_whole rfl 26 (.tmp 2) rfl gT rfl 26 t.cells _ XT.out Tryd.underlying26 rfl (size_temper t) ?_))
  refine (HCK.out _).mono ?_; rintro e w3 ⟨rfl, hb⟩
  replace HB : Sl (Below w.heap.size w w3) := ⟨HB.out.trans (hb.mono HB.out.size)⟩
  replace XT : Sl (Blk w3 gT 26 t.cells) := ⟨XT.out.below hb XT.out.lt⟩
  replace XL : Sl (Blk w3 gL 31 (c3 a b c)) := ⟨XL.out.below hb XL.out.lt⟩
  clear hb
  by_cases h0 : er = 0
  · subst h0
    go_wp2_with fail
    obtain ⟨ha, hb, hc⟩ := HABC.out
    have l0 : w3.cell? ⟨gL, 0, none⟩ = some (.int .u8 (a : Int)) := XL.out.cell 0
    have l1 : w3.cell? ⟨gL, 1, none⟩ = some (.int .u8 (b : Int)) := XL.out.cell 1
    have l2 : w3.cell? ⟨gL, 2, none⟩ = some (.int .u8 (c : Int)) := XL.out.cell 2
    have ta : (a : Int).tmod 12 = ((a % 12 : Nat) : Int) := by rw [Int.tmod_eq_emod_of_nonneg (by omega)]; omega
    have tb : (b : Int).tmod 12 = ((b % 12 : Nat) : Int) := by rw [Int.tmod_eq_emod_of_nonneg (by omega)]; omega
    have tc : (c : Int).tmod 12 = ((c % 12 : Nat) : Int) := by rw [Int.tmod_eq_emod_of_nonneg (by omega)]; omega
    go_quiet (fail)
    clear l0 l1 l2 ta tb tc
    obtain ⟨x, hx⟩ : ∃ x : Nat, (a : Int) % 12 = (x : Int) := ⟨a % 12, by omega⟩
    obtain ⟨y, hy⟩ : ∃ x : Nat, (b : Int) % 12 = (x : Int) := ⟨b % 12, by omega⟩
    obtain ⟨z, hz⟩ : ∃ x : Nat, (c : Int) % 12 = (x : Int) := ⟨c % 12, by omega⟩
    have hx12 : x < 12 := by omega
    have hy12 : y < 12 := by omega
    have hz12 : z < 12 := by omega
    rw [hx, hy, hz]
    clear hx hy hz ha hb hc
    replace HB : Sl (Below w.heap.size w (w3.drewN nq)) := ⟨below_drewN HB.out nq⟩
    replace XT : Sl (Blk (w3.drewN nq) gT 26 t.cells) := ⟨XT.out⟩
    clear XL
    generalize w3.drewN nq = wq at *
    have HTN : Sl (∀ W : World, Calls Tryd.prog 13 #[.agg t.cells, .int .i64 (z : Int)] W fun e w' => e = .returned (.tuple #[.agg (t.turn z).cells, .int .i64 0]) ∧ Below W.heap.size W w') := ⟨fun W => by
      have := turn_any t HS.out (z : Int) W
      rw [TV.trn_ok HER.out hz12] at this
      exact this⟩
    have HTB : Sl (∀ (W : World) (v : Int), v = (12 - (z : Int)) % 12 → Calls Tryd.prog 13 #[.agg (t.turn z).cells, .int .i64 v] W fun e w' => e = .returned (.tuple #[.agg t.cells, .int .i64 0]) ∧ Below W.heap.size W w') := ⟨fun W v hv => by
      have := turn_any (t.turn z) HS.out v W
      rw [hv, show (12 - (z : Int)) % 12 = (((12 - z) % 12 : Nat) : Int) by omega, TV.trn_ok (TV.turn_chk HER.out hz12) (by omega)] at this
      show Calls _ _ _ _ fun e w' => e = .returned (.tuple #[.agg t.cells, .int .i64 0]) ∧ Below W.heap.size W w'
      rw [← TV.turn_back HER.out hz12 (c := (12 - z) % 12) (by omega), hv, show (12 - (z : Int)) % 12 = (((12 - z) % 12 : Nat) : Int) by omega]
      exact this⟩
    have HBT : Sl (∀ W : World, PrT W → Calls Tryd.prog 10 #[.agg t.cells, .int .i64 (x : Int), .int .i64 (y : Int)] W fun e w' => e = .returned (.tuple #[.agg (t.B x y).cells, .int .i64 0]) ∧ Below W.heap.size W w') := ⟨fun W h => by
      have := tbetween_any t HS.out (x : Int) (y : Int) W h
      rw [TV.btw_ok HER.out hx12 hy12] at this
      exact this⟩
    have HBU : Sl (∀ (W : World) (v u : Int), PrT W → v = ((x : Int) + (z : Int)) % 12 → u = ((y : Int) + (z : Int)) % 12 → Calls Tryd.prog 10 #[.agg (t.turn z).cells, .int .i64 v, .int .i64 u] W fun e w' => e = .returned (.tuple #[.agg (t.B x y).cells, .int .i64 0]) ∧ Below W.heap.size W w') := ⟨fun W v u h hv hu => by
      have := tbetween_any (t.turn z) HS.out v u W h
      rw [hv, hu, show ((x : Int) + (z : Int)) % 12 = (((x + z) % 12 : Nat) : Int) by omega, show ((y : Int) + (z : Int)) % 12 = (((y + z) % 12 : Nat) : Int) by omega, TV.btw_ok (TV.turn_chk HER.out hz12) (by omega) (by omega), TV.turn_B HER.out hz12 hx12 hy12] at this
      rw [hv, hu, show ((x : Int) + (z : Int)) % 12 = (((x + z) % 12 : Nat) : Int) by omega, show ((y : Int) + (z : Int)) % 12 = (((y + z) % 12 : Nat) : Int) by omega]
      exact this⟩
    have HFA : Sl _ := ⟨And.intro t.cell0 (And.intro t.cell1 (And.intro t.cell2 (And.intro t.parts_ext2 (fun W => eq_parts W t))))⟩
    have HFB : Sl _ := ⟨And.intro ((t.B x y).dcell) (And.intro ((t.B x y).ext06) (fun W => eq_nums W (t.B x y)))⟩
    have hz0 : (0 : Int) ≤ 12 - (z : Int) := by omega
    have hxz : (0 : Int) ≤ (x : Int) + (z : Int) := by omega
    have hyz : (0 : Int) ≤ (y : Int) + (z : Int) := by omega
    replace ORD : Sl (w.heap.size ≤ gT) := ⟨ORD.out.1⟩
    go_wp2_with ((with_reducible show wpList _ _ _ _ _ _); first
      | (refine wpList_load_whole rfl 26 (.tmp 2) rfl gT rfl 26 t.cells _ XT.out Tryd.underlying26 rfl (size_temper t) ?_))
    refine (HTN.out _).mono ?_; rintro e w4 ⟨rfl, hb⟩
    replace HB : Sl (Below w.heap.size w w4) := ⟨HB.out.trans (hb.mono HB.out.size)⟩
    replace XT : Sl (Blk w4 gT 26 t.cells) := ⟨XT.out.below hb XT.out.lt⟩
    clear hb
    go_wp2_with ((with_reducible show wpList _ _ _ _ _ _); first
      | (refine wpList_alloc_new 8 rfl rfl 26 rfl TV0.cells alloc_temper ?_; rintro w5 gU zg zm zs zb; replace ORD : Sl (w.heap.size ≤ gT ∧ gT < gU) := ⟨by have := HB.out.size; have := ORD.out; have := XT.out.lt; omega⟩; replace HB : Sl (Below w.heap.size w w5) := ⟨below_mv HB.out zm (by have := HB.out.size; have := ORD.out; omega) HB.out.size⟩; replace XT : Sl (Blk w5 gT 26 t.cells) := ⟨XT.out.mv zm (by have := XT.out.lt; have := ORD.out; omega)⟩; have XU : Sl (Blk w5 gU 26 TV0.cells) := ⟨zb⟩; clear zg zm zs zb)
      | (refine wpList_store_whole rfl 26 (.tmp 8) (.tmp 36) rfl gU (t.turn z).cells rfl rfl 26 TV0.cells XU.out rfl (size_temper _) (TV.cells_one _) ?_; rintro w6 zm zs zb; replace HB : Sl (Below w.heap.size w w6) := ⟨below_mv HB.out zm (by have := HB.out.size; have := ORD.out; omega) HB.out.size⟩; replace XT : Sl (Blk w6 gT 26 t.cells) := ⟨XT.out.mv zm (by have := XT.out.lt; have := ORD.out; omega)⟩; replace XU : Sl (Blk w6 gU 26 (t.turn z).cells) := ⟨zb⟩; clear zm zs zb)
      | (refine wpList_load_whole rfl 26 (.tmp 8) rfl gU rfl 26 (t.turn z).cells _ XU.out Tryd.underlying26 rfl (size_temper _) ?_))
    refine (HTB.out _ _ (by omega)).mono ?_; rintro e w7 ⟨rfl, hb⟩
    replace HB : Sl (Below w.heap.size w w7) := ⟨HB.out.trans (hb.mono HB.out.size)⟩
    replace XT : Sl (Blk w7 gT 26 t.cells) := ⟨XT.out.below hb XT.out.lt⟩
    replace XU : Sl (Blk w7 gU 26 (t.turn z).cells) := ⟨XU.out.below hb XU.out.lt⟩
    clear hb
    go_wp2_with ((with_reducible show wpList _ _ _ _ _ _); first
      | (refine wpList_alloc_new 10 rfl rfl 26 rfl TV0.cells alloc_temper ?_; rintro w8 gV zg zm zs zb; replace ORD : Sl (w.heap.size ≤ gT ∧ gT < gU ∧ gU < gV) := ⟨by have := HB.out.size; have := ORD.out; have := XT.out.lt; have := XU.out.lt; omega⟩; replace HB : Sl (Below w.heap.size w w8) := ⟨below_mv HB.out zm (by have := HB.out.size; have := ORD.out; omega) HB.out.size⟩; replace XT : Sl (Blk w8 gT 26 t.cells) := ⟨XT.out.mv zm (by have := XT.out.lt; have := ORD.out; omega)⟩; replace XU : Sl (Blk w8 gU 26 (t.turn z).cells) := ⟨XU.out.mv zm (by have := XU.out.lt; have := ORD.out; omega)⟩; have XV : Sl (Blk w8 gV 26 TV0.cells) := ⟨zb⟩; clear zg zm zs zb)
      | (refine wpList_store_whole rfl 26 (.tmp 10) (.tmp 44) rfl gV t.cells rfl rfl 26 TV0.cells XV.out rfl (size_temper _) (TV.cells_one _) ?_; rintro w9 zm zs zb; replace HB : Sl (Below w.heap.size w w9) := ⟨below_mv HB.out zm (by have := HB.out.size; have := ORD.out; omega) HB.out.size⟩; replace XT : Sl (Blk w9 gT 26 t.cells) := ⟨XT.out.mv zm (by have := XT.out.lt; have := ORD.out; omega)⟩; replace XU : Sl (Blk w9 gU 26 (t.turn z).cells) := ⟨XU.out.mv zm (by have := XU.out.lt; have := ORD.out; omega)⟩; replace XV : Sl (Blk w9 gV 26 t.cells) := ⟨zb⟩; clear zm zs zb)
      | (refine wpList_load_whole rfl 26 (.tmp 2) rfl gT rfl 26 t.cells _ XT.out Tryd.underlying26 rfl (size_temper t) ?_))
    refine (HBT.out _ (HT.out.below HB.out)).mono ?_; rintro e w10 ⟨rfl, hb⟩
    replace HB : Sl (Below w.heap.size w w10) := ⟨HB.out.trans (hb.mono HB.out.size)⟩
    replace XT : Sl (Blk w10 gT 26 t.cells) := ⟨XT.out.below hb XT.out.lt⟩
    replace XU : Sl (Blk w10 gU 26 (t.turn z).cells) := ⟨XU.out.below hb XU.out.lt⟩
    replace XV : Sl (Blk w10 gV 26 t.cells) := ⟨XV.out.below hb XV.out.lt⟩
    clear hb
    go_wp2_with ((with_reducible show wpList _ _ _ _ _ _); first
      | (refine wpList_alloc_new 12 rfl rfl 34 rfl RVzero.cells alloc_ratio ?_; rintro w11 gX zg zm zs zb; replace ORD : Sl (w.heap.size ≤ gT ∧ gT < gU ∧ gU < gV ∧ gV < gX) := ⟨by have := HB.out.size; have := ORD.out; have := XT.out.lt; have := XU.out.lt; have := XV.out.lt; omega⟩; replace HB : Sl (Below w.heap.size w w11) := ⟨below_mv HB.out zm (by have := HB.out.size; have := ORD.out; omega) HB.out.size⟩; replace XT : Sl (Blk w11 gT 26 t.cells) := ⟨XT.out.mv zm (by have := XT.out.lt; have := ORD.out; omega)⟩; replace XU : Sl (Blk w11 gU 26 (t.turn z).cells) := ⟨XU.out.mv zm (by have := XU.out.lt; have := ORD.out; omega)⟩; replace XV : Sl (Blk w11 gV 26 t.cells) := ⟨XV.out.mv zm (by have := XV.out.lt; have := ORD.out; omega)⟩; have XX : Sl (Blk w11 gX 34 RVzero.cells) := ⟨zb⟩; clear zg zm zs zb)
      | (refine wpList_store_whole rfl 34 (.tmp 12) (.tmp 51) rfl gX (t.B x y).cells rfl rfl 34 RVzero.cells XX.out rfl size_ratio (RV.cells_one _) ?_; rintro w12 zm zs zb; replace HB : Sl (Below w.heap.size w w12) := ⟨below_mv HB.out zm (by have := HB.out.size; have := ORD.out; omega) HB.out.size⟩; replace XT : Sl (Blk w12 gT 26 t.cells) := ⟨XT.out.mv zm (by have := XT.out.lt; have := ORD.out; omega)⟩; replace XU : Sl (Blk w12 gU 26 (t.turn z).cells) := ⟨XU.out.mv zm (by have := XU.out.lt; have := ORD.out; omega)⟩; replace XV : Sl (Blk w12 gV 26 t.cells) := ⟨XV.out.mv zm (by have := XV.out.lt; have := ORD.out; omega)⟩; replace XX : Sl (Blk w12 gX 34 (t.B x y).cells) := ⟨zb⟩; clear zm zs zb)
      | (refine wpList_load_whole rfl 26 (.tmp 8) rfl gU rfl 26 (t.turn z).cells _ XU.out Tryd.underlying26 rfl (size_temper _) ?_))
    refine (HBU.out _ _ _ (HT.out.below HB.out) (by omega) (by omega)).mono ?_; rintro e w13 ⟨rfl, hb⟩
    replace HB : Sl (Below w.heap.size w w13) := ⟨HB.out.trans (hb.mono HB.out.size)⟩
    replace XT : Sl (Blk w13 gT 26 t.cells) := ⟨XT.out.below hb XT.out.lt⟩
    replace XU : Sl (Blk w13 gU 26 (t.turn z).cells) := ⟨XU.out.below hb XU.out.lt⟩
    replace XV : Sl (Blk w13 gV 26 t.cells) := ⟨XV.out.below hb XV.out.lt⟩
    replace XX : Sl (Blk w13 gX 34 (t.B x y).cells) := ⟨XX.out.below hb XX.out.lt⟩
    clear hb
    obtain ⟨a0, a1, a2, a3, a4⟩ := HFA.out
    obtain ⟨b0, b1, b2⟩ := HFB.out
    have hag := Tryd.isAgg24
    go_wp2_with ((with_reducible show wpList _ _ _ _ _ _); first
      | (refine wpList_alloc_new 14 rfl rfl 34 rfl RVzero.cells alloc_ratio ?_; rintro w14 gY zg zm zs zb; replace ORD : Sl (w.heap.size ≤ gT ∧ gT < gU ∧ gU < gV ∧ gV < gX ∧ gX < gY) := ⟨by have := HB.out.size; have := ORD.out; have := XT.out.lt; have := XU.out.lt; have := XV.out.lt; have := XX.out.lt; omega⟩; replace HB : Sl (Below w.heap.size w w14) := ⟨below_mv HB.out zm (by have := HB.out.size; have := ORD.out; omega) HB.out.size⟩; replace XT : Sl (Blk w14 gT 26 t.cells) := ⟨XT.out.mv zm (by have := XT.out.lt; have := ORD.out; omega)⟩; replace XU : Sl (Blk w14 gU 26 (t.turn z).cells) := ⟨XU.out.mv zm (by have := XU.out.lt; have := ORD.out; omega)⟩; replace XV : Sl (Blk w14 gV 26 t.cells) := ⟨XV.out.mv zm (by have := XV.out.lt; have := ORD.out; omega)⟩; replace XX : Sl (Blk w14 gX 34 (t.B x y).cells) := ⟨XX.out.mv zm (by have := XX.out.lt; have := ORD.out; omega)⟩; have XY : Sl (Blk w14 gY 34 RVzero.cells) := ⟨zb⟩; clear zg zm zs zb)
      | (refine wpList_store_whole rfl 34 (.tmp 14) (.tmp 64) rfl gY (t.B x y).cells rfl rfl 34 RVzero.cells XY.out rfl size_ratio (RV.cells_one _) ?_; rintro w15 zm zs zb; replace HB : Sl (Below w.heap.size w w15) := ⟨below_mv HB.out zm (by have := HB.out.size; have := ORD.out; omega) HB.out.size⟩; replace XT : Sl (Blk w15 gT 26 t.cells) := ⟨XT.out.mv zm (by have := XT.out.lt; have := ORD.out; omega)⟩; replace XU : Sl (Blk w15 gU 26 (t.turn z).cells) := ⟨XU.out.mv zm (by have := XU.out.lt; have := ORD.out; omega)⟩; replace XV : Sl (Blk w15 gV 26 t.cells) := ⟨XV.out.mv zm (by have := XV.out.lt; have := ORD.out; omega)⟩; replace XX : Sl (Blk w15 gX 34 (t.B x y).cells) := ⟨XX.out.mv zm (by have := XX.out.lt; have := ORD.out; omega)⟩; replace XY : Sl (Blk w15 gY 34 (t.B x y).cells) := ⟨zb⟩; clear zm zs zb)
      | (refine wpList_load_wholew (by rfl) 26 (.tmp 10) rfl gV rfl 26 t.cells _ XV.out Tryd.underlying26 rfl (size_temper t) ?_)
      | (refine wpList_load_wholew (by rfl) 26 (.tmp 2) rfl gT rfl 26 t.cells _ XT.out Tryd.underlying26 rfl (size_temper t) ?_)
      | (refine wpList_load_wholew (by rfl) 34 (.tmp 12) rfl gX rfl 34 (t.B x y).cells _ XX.out Tryd.underlying34 rfl size_ratio ?_)
      | (refine wpList_load_wholew (by rfl) 34 (.tmp 14) rfl gY rfl 34 (t.B x y).cells _ XY.out Tryd.underlying34 rfl size_ratio ?_))
    clear a0 a1 a2 a3 a4 b0 b1 b2 hag
    refine (HAW.out _ (HT.out.below HB.out)).mono ?_; rintro e w16 ⟨rfl, hb⟩
    replace HB : Sl (Below w.heap.size w w16) := ⟨HB.out.trans (hb.mono HB.out.size)⟩
    replace XT : Sl (Blk w16 gT 26 t.cells) := ⟨XT.out.below hb XT.out.lt⟩
    replace XU : Sl (Blk w16 gU 26 (t.turn z).cells) := ⟨XU.out.below hb XU.out.lt⟩
    replace XV : Sl (Blk w16 gV 26 t.cells) := ⟨XV.out.below hb XV.out.lt⟩
    replace XX : Sl (Blk w16 gX 34 (t.B x y).cells) := ⟨XX.out.below hb XX.out.lt⟩
    replace XY : Sl (Blk w16 gY 34 (t.B x y).cells) := ⟨XY.out.below hb XY.out.lt⟩
    clear hb
    go_wp2_with fail
    go_ret
    exact ⟨rfl, HB.out⟩
  · have hz : ((er : Int) != 0) = true := by rw [bne_iff_ne]; exact h0
    clear h0
    go_wp2_with fail
    refine (HAW.out _ (HT.out.below HB.out)).mono ?_; rintro e w117 ⟨rfl, hb⟩
    replace HB : Sl (Below w.heap.size w w117) := ⟨HB.out.trans (hb.mono HB.out.size)⟩
    replace XT : Sl (Blk w117 gT 26 t.cells) := ⟨XT.out.below hb XT.out.lt⟩
    replace XL : Sl (Blk w117 gL 31 (c3 a b c)) := ⟨XL.out.below hb XL.out.lt⟩
    clear hb
    go_wp2_with fail
    go_ret
    exact ⟨rfl, HB.out⟩
end Go.Proofs.YtmcoadmnkelkkaaDoor
