/- Plain law: what a plan makes passes Check, and sounds nothing above most. No program in sight. -/
import Derived.Test.YtkjkbhkcebbjdaaGreatDoorZfA
namespace Go.Proofs.YtkjkbhkcebbjdaaGreatDoor
set_option linter.unusedSimpArgs false
set_option linter.unusedVariables false
structure PlH (f u : Int) (l : List Int) (most early : Int) : Prop where
  c : 0 ≤ f ∧ u ≤ 127 ∧ f ≤ u ∧ u - f < 61
  n : 0 < l.length ∧ l.length ≤ 8
  z : ∀ j, j < l.length → -24 ≤ gt l j ∧ gt l j ≤ 72
  e : 0 ≤ early ∧ early ≤ 11
  m : 0 ≤ most ∧ most ≤ 139
  low : ∀ x ∈ plO f u l most early, lowB x = false
  nb : (plO f u l most early).length ≤ 12
theorem plE_ok {f u : Int} {l : List Int} {most early : Int} (h : plE f u l most early = 0) : PlH f u l most early := by
  unfold plE at h
  by_cases h1 : plC f u = false
  · rw [if_pos h1] at h; omega
  rw [if_neg h1] at h
  by_cases h2 : 8 < l.length
  · rw [if_pos h2] at h; omega
  rw [if_neg h2] at h
  by_cases h3 : (decide (0 < l.length) && !dn l) = false
  · rw [if_pos h3] at h; omega
  rw [if_neg h3] at h
  by_cases h4 : outL l = true
  · rw [if_pos h4] at h; omega
  rw [if_neg h4] at h
  by_cases h5 : early < 0 ∨ 11 < early
  · rw [if_pos h5] at h; omega
  rw [if_neg h5] at h
  by_cases h6 : most < 0 ∨ 139 < most
  · rw [if_pos h6] at h; omega
  rw [if_neg h6] at h
  by_cases h7 : (plO f u l most early).any lowB = true
  · rw [if_pos h7] at h; omega
  rw [if_neg h7] at h
  by_cases h8 : 12 < (plO f u l most early).length
  · rw [if_pos h8] at h; omega
  have h3' : (decide (0 < l.length) && !dn l) = true := (by simpa using h3); rw [Bool.and_eq_true] at h3'; have h1' : plC f u = true := (by simpa using h1); unfold plC at h1'; simp only [Bool.and_eq_true, decide_eq_true_eq] at h1'; have h7' : (plO f u l most early).any lowB = false := (by simpa using h7); rw [List.any_eq_false] at h7'; exact ⟨by omega, ⟨of_decide_eq_true h3'.1, by omega⟩, outL_in (by simpa using h4), by omega, by omega, fun x hx => by simpa using h7' x hx, by omega⟩
theorem asc_gt : ∀ {l : List Int}, Asc l → ∀ j, j + 1 < l.length → gt l j ≤ gt l (j + 1)
  | [], _, j, h => by simp at h
  | [a], _, j, h => by simp at h
  | a :: b :: l, h, 0, _ => by simpa [gt] using h.1
  | a :: b :: l, h, j+1, hj => by
    have := asc_gt (l := b :: l) h.2 j (by simpa using hj); simpa [gt] using this
theorem asc_dn {l : List Int} (h : Asc l) : dn l = false := by
  unfold dn dnN; rw [anyN_no]; intro j hj; have := asc_gt h j (by omega); exact decide_eq_false (by omega)
theorem asc_first : ∀ {l : List Int}, Asc l → ∀ z ∈ l, gt l 0 ≤ z
  | [], _, z, hz => by cases hz
  | a :: l, h, z, hz => by
    show a ≤ z; rcases List.mem_cons.1 hz with rfl | h2
    · exact Int.le_refl _
    · exact Asc.le h z h2
theorem gt_mem2 {l : List Int} {j : Nat} (h : j < l.length) : gt l j ∈ l := List.mem_of_getElem? (gt_at h)
theorem scn_pre {l : List Int} {all : List Lw} {e a : Int} {k : Nat} : ∀ {k' : Nat}, k ≤ k' → ∃ r, (scn l all e a k').2 = (scn l all e a k).2 ++ r ∧ ∀ x ∈ r, a + (k : Int) ≤ x.1
  | 0, h => ⟨[], by rw [show k = 0 by omega, List.append_nil], fun x hx => by cases hx⟩
  | k'+1, h => by
    rcases Nat.lt_or_ge k (k' + 1) with h1 | h1
    · obtain ⟨r, h2, h3⟩ := scn_pre (l := l) (all := all) (e := e) (a := a) (k' := k') (k := k) (by omega)
      by_cases hc : k' = 0 ∨ dueAt all (scn l all e a k').1 (a + (k' : Int)) = true
      · rw [scn_hit hc]; refine ⟨r ++ [(a + (k' : Int), rowT l all (a + (k' : Int) + e))], by rw [h2, List.append_assoc], fun x hx => ?_⟩; rcases List.mem_append.1 hx with h4 | h4
        · exact h3 x h4
        · have : x = (a + (k' : Int), rowT l all (a + (k' : Int) + e)) := (by simpa using h4); rw [this]; show a + (k : Int) ≤ a + (k' : Int); omega
      · rw [scn, if_neg hc]; exact ⟨r, h2, h3⟩
    · exact ⟨[], by rw [show k' + 1 = k by omega, List.append_nil], fun x hx => by cases hx⟩
theorem mxO_told {f u : Int} {L : List Bk} {o : List (Int × List Int)} (h : L.map (fun b => (b.fr, b.l)) = o) {i : Nat} {p : Int × List Int} (hp : o[i]? = some p) : (mxO f u L).fr i = p.1 ∧ (mxO f u L).rk i = p.2 := by
  rw [← h, List.getElem?_map] at hp; rcases hL : L[i]? with _ | b
  · rw [hL] at hp; cases hp
  · rw [hL] at hp; injection hp with hp
    rw [← hp]; exact mxO_at hL
theorem pl_key {f u : Int} {l : List Int} {most early : Int} (H : PlH f u l most early) {L : List Bk} (hL : L.map (fun b => (b.fr, b.l)) = plO f u l most early) {key : Int} (h1 : f ≤ key) (h2 : key ≤ u) :
    ∃ T k0, (mxO f u L).rk ((mxO f u L).at key (mxO f u L).n) = rowT l (lwA l most u l.length) T ∧ (∀ y ∈ lwA l most u l.length, y.2 ≤ key → y.2 ≤ T) ∧ k0 ≤ key ∧ (k0, rowT l (lwA l most u l.length) T) ∈ plO f u l most early := by
  obtain ⟨k, hk⟩ : ∃ k : Nat, key = f + (k : Int) := ⟨(key - f).toNat, by omega⟩; have hkK : k + 1 ≤ (u - f + 1).toNat := (by omega); obtain ⟨o, k0, e1, e2, e3, e4⟩ := scn_last (l := l) (all := lwA l most u l.length) (e := early) (a := f) H.e.1 (k + 1) (Nat.succ_pos k); obtain ⟨r, r1, r2⟩ := scn_pre (l := l) (all := lwA l most u l.length) (e := early) (a := f) hkK
  have hO : plO f u l most early = o ++ [(k0, rowT l (lwA l most u l.length) (k0 + early))] ++ r := by
    unfold plO; rw [r1, e1]
  have hat : (plO f u l most early)[o.length]? = some (k0, rowT l (lwA l most u l.length) (k0 + early)) := by
    rw [hO, List.append_assoc, List.getElem?_append_right (Nat.le_refl _), Nat.sub_self]; (try rfl)
  obtain ⟨g1, g2⟩ := mxO_told (f := f) (u := u) hL hat; have hn : (mxO f u L).n = (plO f u l most early).length := (by rw [← hL, List.length_map]; rfl); have hil : o.length < (mxO f u L).n := (by rw [hn, hO]; simp)
  have hlater : ∀ j, o.length < j → j < (mxO f u L).n → key < (mxO f u L).fr j := fun j j1 j2 => by
    have hj : (plO f u l most early)[j]? = r[j - (o.length + 1)]? := by
      rw [hO, List.getElem?_append_right (by simp; omega)]; simp
    rw [hn] at j2; have hs : (plO f u l most early)[j]? = some (plO f u l most early)[j] := List.getElem?_eq_getElem j2; rw [(mxO_told (f := f) (u := u) hL hs).1]; rw [hj] at hs; have := r2 _ (List.mem_of_getElem? hs); rw [← (List.getElem?_eq_some_iff.1 (List.getElem?_eq_getElem j2)).2] at *
    omega
  have h0 : (mxO f u L).fr 0 ≤ key := by
    have hb := (scn_brk (l := l) (all := lwA l most u l.length) (e := early) (a := f) H.e.1 (u - f + 1).toNat).first; have hs : (plO f u l most early)[0]? = some ((plO f u l most early)[0]'(by rw [hO]; simp; omega)) := List.getElem?_eq_getElem _; rw [(mxO_told (f := f) (u := u) hL hs).1, hb _ hs]; exact h1
  obtain ⟨a1, a2, a3⟩ := Mx.at_spec (x := mxO f u L) key (mxO f u L).n (by omega) h0
  have hi : (mxO f u L).at key (mxO f u L).n = o.length := by
    rcases Nat.lt_trichotomy ((mxO f u L).at key (mxO f u L).n) o.length with h | h | h
    · have := a3 o.length h hil; rw [g1] at this; simp only [] at this; omega
    · exact h
    · have := hlater _ h a1; omega
  refine ⟨k0 + early, k0, by rw [hi, g2], fun y hy hyk => ?_, by omega, List.mem_of_getElem? hat⟩; have := scn_made (l := l) (all := lwA l most u l.length) (e := early) (a := f) H.e.1 k y hy (by omega); rw [e2] at this; exact this
theorem rowT_most {l : List Int} {most u T key : Int} (hk : key ≤ u) (hm : ∀ y ∈ lwA l most u l.length, y.2 ≤ key → y.2 ≤ T) : ∀ z ∈ rowT l (lwA l most u l.length) T, key + z ≤ most := by
  intro z h; unfold rowT at h; have h2 := (srt_perm _).mem_iff.1 h; unfold rowN at h2; obtain ⟨i, hi, rfl⟩ := List.mem_map.1 h2; exact made_most (List.mem_range.1 hi) hk hm
theorem lowB_ge {x : Int × List Int} (h : lowB x = false) : -24 ≤ gt x.2 0 ∧ 0 ≤ x.1 + gt x.2 0 := by
  unfold lowB at h; rw [Bool.or_eq_false_iff] at h; have h1 := of_decide_eq_false h.1; have h2 := of_decide_eq_false h.2; omega
theorem pl_chk1 {f u : Int} {l : List Int} {most early : Int} (H : PlH f u l most early) {L : List Bk} (hL : L.map (fun b => (b.fr, b.l)) = plO f u l most early) : (mxO f u L).chk1 = 0 := by
  have hn : (mxO f u L).n = (plO f u l most early).length := (by rw [← hL, List.length_map]; rfl); have hB := scn_brk (l := l) (all := lwA l most u l.length) (e := early) (a := f) H.e.1 (u - f + 1).toNat; have hC := H.c
  have hpos : 0 < (plO f u l most early).length := by
    obtain ⟨o, k0, e1, _⟩ := scn_last (l := l) (all := lwA l most u l.length) (e := early) (a := f) H.e.1 (u - f + 1).toNat (by omega); unfold plO; rw [e1]; simp
  have hat : ∀ i, i < (mxO f u L).n → ∃ p, (plO f u l most early)[i]? = some p ∧ (mxO f u L).fr i = p.1 ∧ (mxO f u L).rk i = rowT l (lwA l most u l.length) (p.1 + early) ∧ p ∈ plO f u l most early ∧ f ≤ p.1 ∧ p.1 ≤ u ∧ p.2 = rowT l (lwA l most u l.length) (p.1 + early) := fun i hi => by
    rw [hn] at hi; have hs : (plO f u l most early)[i]? = some (plO f u l most early)[i] := List.getElem?_eq_getElem hi; obtain ⟨g1, g2⟩ := mxO_told (f := f) (u := u) hL hs; have hmem := List.mem_of_getElem? hs; obtain ⟨m1, m2, m3⟩ := scn_mem _ _ hmem; exact ⟨_, hs, g1, by rw [g2, m3], hmem, m1, by omega, m3⟩
  have e1 : (mxO f u L).cmp = true := by
    unfold Mx.cmp; show (decide (0 ≤ f) && decide (u ≤ 127) && decide (f ≤ u) && decide (u - f < 61)) = true; simp; omega
  have e2 : (mxO f u L).long = false := by
    unfold Mx.long Mx.many; rw [Bool.or_eq_false_iff]; refine ⟨decide_eq_false (by rw [hn]; have := H.nb; omega), anyN_no.2 fun i hi => ?_⟩; obtain ⟨p, _, _, g, _⟩ := hat i hi; rw [g, rowT_len]; exact decide_eq_false (by have := H.n; omega)
  have e3 : (mxO f u L).arg = false := by
    refine Mx.arg_3 (by omega) ?_ (fun i hi => ?_)
    · obtain ⟨p, hp, g, _⟩ := hat 0 (by omega); rw [g]; exact hB.first p hp
    · obtain ⟨p, hp, g1, g2, g3, g4, g5, _⟩ := hat i hi; unfold Mx.ill; rw [Bool.or_eq_false_iff, Bool.or_eq_false_iff, Bool.or_eq_false_iff]; refine ⟨⟨⟨decide_eq_false (by rw [g2, rowT_len]; have := H.n; omega), by rw [g2]; exact asc_dn (srt_asc _)⟩, decide_eq_false (by rw [g1]; show ¬ u < p.1; omega)⟩, ?_⟩; rcases Nat.eq_zero_or_pos i with h0 | h0
      · subst h0; rfl
      · rw [decide_eq_true h0, Bool.true_and]; obtain ⟨q, hq, q1, _⟩ := hat (i - 1) (by omega); have := hB.up (i - 1) q p hq (by rw [Nat.sub_add_cancel h0]; exact hp); exact decide_eq_false (by rw [g1, q1]; have := H.e; omega)
  have e4 : (mxO f u L).rng = false := by
    refine anyN_no.2 fun i hi => ?_
    obtain ⟨p, hp, g1, g2, g3, g4, g5, g6⟩ := hat i hi; unfold outL; refine anyN_no.2 fun j hj => ?_
    rw [g2] at hj ⊢; have hz := gt_mem2 hj; have h72 := (rowT_bd (most := most) (u := u) (l := l) H.m.1 hC.2.1 H.z _ hz).2; have h0 := (lowB_ge (H.low p g3)).1; rw [g6] at h0; have h24 := asc_first (srt_asc _) _ hz; unfold outI; rw [Bool.or_eq_false_iff]; refine ⟨decide_eq_false ?_, decide_eq_false (by omega)⟩; have : gt (rowT l (lwA l most u l.length) (p.1 + early)) 0 ≤ gt (rowT l (lwA l most u l.length) (p.1 + early)) j := h24; omega
  unfold Mx.chk1; rw [e1, e2, e3, e4]; rfl
theorem pl_chk0 {f u : Int} {l : List Int} {most early : Int} (H : PlH f u l most early) {L : List Bk} (hL : L.map (fun b => (b.fr, b.l)) = plO f u l most early) : (mxO f u L).chk = 0 := by
  have h1 := pl_chk1 H hL; have hf := Mx.fine h1; unfold Mx.chk; rw [if_neg (by rw [h1]; decide), if_neg]; rw [hf.snd_keys]
  have : (anyN ((mxO f u L).b - (mxO f u L).a + 1).toNat fun k => (mxO f u L).kbad ((mxO f u L).a + (k : Int))) = false := by
    refine anyN_no.2 fun k hk => ?_
    have hkb : (k : Int) < u - f + 1 := by
      have : k < (u - f + 1).toNat := hk; omega
    show (mxO f u L).kbad (f + (k : Int)) = false; obtain ⟨T, k0, e1, e2, e3, e4⟩ := pl_key H hL (key := f + (k : Int)) (by omega) (by omega); have hl := lowB_ge (H.low _ e4); have hlen := rowT_len l (lwA l most u l.length) T; have hm := rowT_most (l := l) (most := most) (u := u) (T := T) (key := f + (k : Int)) (by omega) e2 _ (gt_mem2 (l := rowT l (lwA l most u l.length) T) (j := (rowT l (lwA l most u l.length) T).length - 1) (by have := H.n; omega)); have := H.m; simp only [] at hl; unfold Mx.kbad; rw [e1, Bool.or_eq_false_iff]; exact ⟨decide_eq_false (by omega), decide_eq_false (by omega)⟩
  rw [this]; decide
theorem pl_row {f u : Int} {l : List Int} {most early : Int} (H : PlH f u l most early) {L : List Bk} (hL : L.map (fun b => (b.fr, b.l)) = plO f u l most early) {key : Int} (h1 : f ≤ key) (h2 : key ≤ u) :
    (mxO f u L).rows key = (mxO f u L).row key ∧ (mxO f u L).rerr key = 0 ∧ ((mxO f u L).row key).length = l.length ∧ gt ((mxO f u L).row key) (l.length - 1) ≤ most ∧ ∀ z ∈ (mxO f u L).row key, 0 ≤ z + 24 ∧ z ≤ 139 := by
  have hc := pl_chk0 H hL; obtain ⟨T, k0, e1, e2, e3, e4⟩ := pl_key H hL h1 h2
  have he : (mxO f u L).rerr key = 0 := by
    unfold Mx.rerr; rw [if_neg (by rw [hc]; decide), if_neg (by show ¬ (key < f ∨ u < key); omega)]
  have hlen := rowT_len l (lwA l most u l.length) T; have hrl : ((mxO f u L).row key).length = l.length := (by rw [Mx.row_len, e1, hlen])
  have hmem : ∀ z ∈ (mxO f u L).row key, ∃ y ∈ rowT l (lwA l most u l.length) T, z = key + y := fun z hz => by
    unfold Mx.row at hz; rw [e1] at hz; obtain ⟨y, hy, rfl⟩ := List.mem_map.1 hz; exact ⟨y, hy, rfl⟩
  have hall : ∀ z ∈ (mxO f u L).row key, z ≤ most := fun z hz => by
    obtain ⟨y, hy, rfl⟩ := hmem z hz; exact rowT_most h2 e2 y hy
  refine ⟨by unfold Mx.rows; rw [if_pos he], he, hrl, hall _ (gt_mem2 (by rw [hrl]; have := H.n; omega)), fun z hz => ?_⟩; have h3 := hall z hz; have h4 := H.m; obtain ⟨y, hy, rfl⟩ := hmem z hz; have h5 := (lowB_ge (H.low _ e4)).1; have h6 := asc_first (srt_asc _) y hy; have h7 := H.c; simp only [] at h5; have : gt (rowT l (lwA l most u l.length) T) 0 ≤ y := h6; omega
theorem pl_unmet {f u : Int} {l : List Int} {most early : Int} (H : PlH f u l most early) {q : List Int} (hq : q.length < (plO f u l most early).length - 1) : ∃ d ∈ lwA l most u l.length, f < d.2 - early ∧ ∀ p ∈ q, ¬ (d.2 - early ≤ p ∧ p ≤ d.2) := by
  have hB := scn_brk (l := l) (all := lwA l most u l.length) (e := early) (a := f) H.e.1 (u - f + 1).toNat; obtain ⟨i, x, hi, hx, hn⟩ := hB.unmet hq; obtain ⟨d, hd, ed⟩ := hB.due i x hi hx
  have hm : ∀ j y, j + 1 ≤ i → (plO f u l most early)[j + 1]? = some y → f + early < y.1 := fun j => by
    induction j with
    | zero =>
      intro y h1 hy; have hs : (plO f u l most early)[0]? = some ((plO f u l most early)[0]'(by have := (List.getElem?_eq_some_iff.1 hy).1; omega)) := List.getElem?_eq_getElem _; have h2 := hB.up 0 _ y hs hy; rw [hB.first _ hs] at h2; exact h2
    | succ j ih =>
      intro y h1 hy; have hs : (plO f u l most early)[j + 1]? = some ((plO f u l most early)[j + 1]'(by have := (List.getElem?_eq_some_iff.1 hy).1; omega)) := List.getElem?_eq_getElem _; have h2 := hB.up (j + 1) _ y hs hy; have h3 := ih _ (by omega) hs; have := H.e; omega
  have h1 := hm (i - 1) x (by omega) (by rw [Nat.sub_add_cancel hi]; exact hx); exact ⟨d, hd, by rw [ed]; omega, fun p hp => by rw [ed]; exact hn p hp⟩
end Go.Proofs.YtkjkbhkcebbjdaaGreatDoor
namespace Go.Proofs.YtkjkbhkcebbjdaaGreatDoor
set_option linter.unusedSimpArgs false
open Go.RowKit
set_option linter.unusedVariables false
set_option maxHeartbeats 3200000 in
set_option maxRecDepth 100000 in
theorem lwIns0_any (A : Option Addr) (c : Nat) (fv : Value) (w : World) : Calls Tryz.prog 82 #[.slice A 0 c, .int .i64 0, .int .i64 0, fv] w fun e w' => e = .returned (.tuple #[]) ∧ w' = w := by
  go_enter Tryz.func82, Tryz.ntmps82; go_wp2_with fail; refine wp_loop_rounds 1 ?_; rw [rounds_succ]; go_wp2_with fail; go_end0; exact ⟨rfl, rfl⟩
set_option maxHeartbeats 3200000 in
set_option maxRecDepth 100000 in
theorem lwStable0_any (A : Option Addr) (c : Nat) (fv : Value) (w : World) : Calls Tryz.prog 63 #[.slice A 0 c, .int .i64 0, fv] w fun e w' => e = .returned (.tuple #[]) ∧ w' = w := by
  go_enter Tryz.func63, Tryz.ntmps63; go_wp2_with fail; refine wp_loop_rounds 1 ?_; rw [rounds_succ]; go_wp2_with fail; refine (lwIns0_any A c fv w).mono ?_; rintro e w2 ⟨rfl, rfl⟩; go_wp2_with fail; refine wp_loop_rounds 1 ?_; rw [rounds_succ]; go_wp2_with fail; go_end0; exact ⟨rfl, rfl⟩
set_option maxHeartbeats 3200000 in
set_option maxRecDepth 100000 in
theorem lwSort0_any (A : Option Addr) (c : Nat) (fv : Value) (w : World) : Calls Tryz.prog 53 #[.slice A 0 c, fv] w fun e w' => e = .returned (.tuple #[]) ∧ w' = w := by
  go_enter Tryz.func53, Tryz.ntmps53; go_wp2_with fail; refine (lwStable0_any A c fv w).mono ?_; rintro e w2 ⟨rfl, rfl⟩; go_wp2_with fail; go_end0; exact ⟨rfl, rfl⟩
set_option maxHeartbeats 3200000 in
set_option maxRecDepth 100000 in
theorem lwBy0_any (A : Option Addr) (c : Nat) (w : World) : Calls Tryz.prog 34 #[.slice A 0 c, .func (.func 35) #[] #[]] w fun e w' => e = .returned (.tuple #[]) ∧ Below w.heap.size w w' := by
  have hmf : ∀ (fn : Fn) (first cap : Array Value) (w : World), (Instr.makeFunc fn first cap).run Tryz.prog w = .ok (.func fn first cap) w := fun _ _ _ _ => rfl
  have hu : Below w.heap.size w (w.alloc (.cells #[.func (.func 35) #[] #[]] 75)) := (Below.refl _ _).alloc (Nat.le_refl _) _; have HU : Sl _ := ⟨hu⟩; clear hu; go_enter Tryz.func34, Tryz.ntmps34; go_wp2_with fail; refine (lwSort0_any A c _ _).mono ?_; rintro e w2 ⟨rfl, rfl⟩; go_wp2_with fail; go_end0; exact ⟨rfl, HU.out⟩
end Go.Proofs.YtkjkbhkcebbjdaaGreatDoor
namespace Go.Proofs.YtkjkbhkcebbjdaaGreatDoor
set_option linter.unusedSimpArgs false
open Go.RowKit
set_option linter.unusedVariables false
def plK (f u : Int) (l : List Int) : Int := if plC f u = false then 7 else if 8 < l.length then 3 else if (decide (0 < l.length) && !dn l) = false then 2 else if outL l = true then 7 else 0
theorem plK_chk (f u : Int) (A : Option Addr) (n c : Nat) (l : List Int) : (mxO f u [⟨f, A, n, c, l⟩]).chk1 = plK f u l := by
  have e0 : (mxO f u [⟨f, A, n, c, l⟩]).cmp = plC f u := rfl; have e1 : (mxO f u [⟨f, A, n, c, l⟩]).long = decide (8 < l.length) := (by unfold Mx.long Mx.many; simp [mxO, anyN]); have e3 : (mxO f u [⟨f, A, n, c, l⟩]).rng = outL l := (by unfold Mx.rng; simp [mxO, anyN]); unfold plK
  by_cases h : plC f u = false
  · rw [Mx.chk1_a (by rw [e0]; exact h), if_pos h]
  · have hfu : f ≤ u := (by unfold plC at h; simp at h; omega); have hd : decide (u < f) = false := decide_eq_false (by omega)
    have e2 : (mxO f u [⟨f, A, n, c, l⟩]).arg = !(decide (0 < l.length) && !dn l) := by
      unfold Mx.arg; simp only [mxO, anyN, Mx.ill, List.length_cons, List.length_nil, List.getElem?_cons_zero, Option.getD_some, hd]; rcases l with _ | ⟨x, l⟩
      · simp
      · rcases dn (x :: l) <;> simp
    unfold Mx.chk1; rw [e0, e1, e2, e3, if_neg h, if_neg h]; rcases hb : (decide (0 < l.length) && !dn l) <;> rcases outL l <;> by_cases h8 : 8 < l.length <;> simp [h8]
theorem plE_a {f u : Int} {l : List Int} {most early : Int} (h : plK f u l ≠ 0) : plE f u l most early = plK f u l := by
  unfold plK at h ⊢; unfold plE
  by_cases h1 : plC f u = false
  · rw [if_pos h1, if_pos h1]
  · rw [if_neg h1] at h ⊢; rw [if_neg h1]
    by_cases h2 : 8 < l.length
    · rw [if_pos h2, if_pos h2]
    · rw [if_neg h2] at h ⊢; rw [if_neg h2]
      by_cases h3 : (decide (0 < l.length) && !dn l) = false
      · rw [if_pos h3, if_pos h3]
      · rw [if_neg h3] at h ⊢; rw [if_neg h3]
        by_cases h4 : outL l = true
        · rw [if_pos h4, if_pos h4]
        · rw [if_neg h4] at h; exact absurd rfl h
theorem plK_ok {f u : Int} {l : List Int} (h : plK f u l = 0) : plC f u = true ∧ l.length ≤ 8 ∧ 0 < l.length ∧ outL l = false ∧ (decide (0 < l.length) && !dn l) = true := by
  unfold plK at h
  by_cases h1 : plC f u = false
  · rw [if_pos h1] at h; omega
  · rw [if_neg h1] at h
    by_cases h2 : 8 < l.length
    · rw [if_pos h2] at h; omega
    · rw [if_neg h2] at h
      by_cases h3 : (decide (0 < l.length) && !dn l) = false
      · rw [if_pos h3] at h; omega
      · rw [if_neg h3] at h
        by_cases h4 : outL l = true
        · rw [if_pos h4] at h; omega
        · have h5 : (decide (0 < l.length) && !dn l) = true := (by simpa using h3); refine ⟨by simpa using h1, by omega, ?_, by simpa using h4, h5⟩; rw [Bool.and_eq_true] at h5; exact of_decide_eq_true h5.1
theorem plE_b {f u : Int} {l : List Int} {most early : Int} (h : plK f u l = 0) : plE f u l most early = if early < 0 ∨ 11 < early then 2 else if most < 0 ∨ 139 < most then 7 else if (plO f u l most early).any lowB = true then 7 else if 12 < (plO f u l most early).length then 3 else 0 := by
  obtain ⟨h1, h2, h3, h4, h5⟩ := plK_ok h; unfold plE; rw [if_neg (by rw [h1]; decide), if_neg (by omega), if_neg (by rw [h5]; decide), if_neg (by rw [h4]; decide)]
theorem lwByO_any (B g0 : Nat) (t0 : TypeId) (cs0 : Array Value) (v : Value) (all : List Lw) (w : World) (hown : w.ownsRow B tPL 2 v all.length (all.flatMap lC)) (hN : all.length ≤ 100000) (hB : B ≤ w.heap.size) (h0 : Blk w g0 t0 cs0) (hg0 : g0 < B) :
    Calls Tryz.prog 34 #[v, .func (.func 35) #[] #[]] w fun e w' => e = .returned (.tuple #[]) ∧ Below B w w' ∧ ∃ g A c d, v = .slice A all.length c ∧ (0 < all.length → A = some ⟨g, 0, none⟩) ∧ all.length ≤ c ∧ PB w' g all.length d ∧ ((List.range all.length).map d).Perm (all.map pI) ∧ Srt due d 0 all.length := by
  rcases Nat.eq_zero_or_pos all.length with h | h
  · have hv : ∃ A c, v = .slice A 0 c := by
      obtain ⟨A, c, e, _⟩ := own_slice2 hown; exact ⟨A, c, by rw [e, h]⟩
    obtain ⟨A, c, rfl⟩ := hv; refine (lwBy0_any A c w).mono ?_; rintro e w' ⟨rfl, hb⟩; refine ⟨rfl, hb.mono hB, g0, A, c, dOf all, by rw [h], fun h1 => absurd h1 (by omega), by omega, ⟨t0, cs0, h0.below hb h0.lt, by omega, fun j hj => by omega⟩, List.Perm.of_eq (dOf_perm all), .one (by omega)⟩
  · obtain ⟨g, cap, rfl, hgb, hgl⟩ := hown.form h; have hcap := (own_cap hown).1; refine (lwBy_any g all.length cap (dOf all) w (PB.of_own hown rfl) hN).mono ?_; rintro e w' ⟨rfl, hm, d', hp, hpm, hs⟩; exact ⟨rfl, below_mv (Below.refl _ _) hm hgb hB, g, _, cap, d', rfl, fun _ => rfl, hcap, hp, (Pm.perm hpm).trans (List.Perm.of_eq (dOf_perm all)), hs⟩
theorem cloneN_any (base g cap n : Nat) (zs : List Int) (w : World) (hn : zs.length = n) (h0 : 0 < n) (hsz : n ≤ 1000) (hown : w.ownsRow base tI 1 (.slice (some ⟨g, 0, none⟩) n cap) n (zs.map iv)) :
    Calls Tryz.prog 26 #[.slice (some ⟨g, 0, none⟩) n cap] w fun e w' => ∃ g' cap', e = .returned (.slice (some ⟨g', 0, none⟩) n cap') ∧ w'.ownsRow w.heap.size tI 1 (.slice (some ⟨g', 0, none⟩) n cap') n (zs.map iv) ∧ w.heap.size ≤ g' ∧ Below w.heap.size w w' := by
  subst hn; exact cloneOwn_any base g cap zs w h0 (by omega) hown
theorem sortN_any (base g cap n : Nat) (zs : List Int) (w : World) (hn : zs.length = n) (h0 : 0 < n) (hsz : n ≤ 1000) (hown : w.ownsRow base tI 1 (.slice (some ⟨g, 0, none⟩) n cap) n (zs.map iv)) (hb : base ≤ w.heap.size) :
    Calls Tryz.prog 36 #[.slice (some ⟨g, 0, none⟩) n cap] w fun e w' => e = .returned (.tuple #[]) ∧ w'.ownsRow base tI 1 (.slice (some ⟨g, 0, none⟩) n cap) n ((srt zs).map iv) ∧ Mv g w w' := by
  subst hn; exact sortOwn_any base g cap zs w h0 (by omega) hown hb
theorem mv_grown {w1 w2 : World} {ob : Obj} {row : Option Nat} (hg : (w1.alloc ob).grownBy w2 row) (lo : Nat) (h1 : ∀ k, row = some k → lo ≤ k) (h2 : lo ≤ w1.heap.size) : ∃ q, lo ≤ q ∧ Mv q w1 w2 := by
  rcases row with _ | k
  · refine ⟨w1.heap.size, h2, Mv.trans (Mv.below ((Below.refl _ _).alloc (Nat.le_refl _) ob)) (Mv.of_grown hg (fun k hk => by cases hk))⟩
  · refine ⟨k, h1 k rfl, Mv.trans ?_ (Mv.of_grown hg (fun k' hk => by injection hk with hk; exact hk.symm))⟩; have hb : Below w1.heap.size w1 (w1.alloc ob) := (Below.refl _ _).alloc (Nat.le_refl _) ob; exact ⟨hb.os, hb.tape, hb.output, hb.size, fun j hj _ => hb.block j hj⟩
def slLen : Value → Nat
  | .slice _ n _ => n
  | _ => 0
set_option maxHeartbeats 25600000 in
set_option maxRecDepth 100000 in
theorem tPlan_any (f u : Int) (A : Option Addr) (n c : Nat) (l : List Int) (most early : Int) (w : World) (hl : II w A n l) (hc : n ≤ c ∧ c ≤ maxLen) (hzi : ∀ z ∈ l, i64 z) (hf : i64 f) (hu : i64 u) (hm : i64 most) (he : i64 early) :
    Calls Tryz.prog 14 #[.int .i64 f, .int .i64 u, .slice A n c, .int .i64 most, .int .i64 early] w fun e w' => PlT f u l most early e w' ∧ Below w.heap.size w w' := by
  have hmf : ∀ (fn : Fn) (first cap : Array Value) (w : World), (Instr.makeFunc fn first cap).run Tryz.prog w = .ok (.func fn first cap) w := fun _ _ _ _ => rfl
  obtain ⟨i0, z0, hi0, hz0, hz1, hz2, hz3⟩ := infoLow; have HI : Sl _ := ⟨And.intro hi0 (And.intro hz0 (And.intro hz1 (And.intro hz2 hz3)))⟩; obtain ⟨i1, z1, hy0, hy1, hy2, hy3, hy4⟩ := infoBrk; have HJ : Sl _ := ⟨And.intro hy0 (And.intro hy1 (And.intro hy2 (And.intro hy3 hy4)))⟩; clear hi0 hz0 hz1 hz2 hz3 hy0 hy1 hy2 hy3 hy4; have HL : Sl _ := ⟨hl⟩; have HLN : Sl (l.length = n) := ⟨hl.1⟩; have HC : Sl _ := ⟨hc⟩; have HZI : Sl _ := ⟨hzi⟩; have HI6 : Sl (i64 f ∧ i64 u ∧ i64 most ∧ i64 early) := ⟨hf, hu, hm, he⟩; clear hl hc hzi hf hu hm he; go_enter Tryz.func14, Tryz.ntmps14; go_wp2_with fail; have a0 := ((Blk.new w 24 #[.int .i64 0, .int .i64 0, .slice none 0 0]).alloc (.cells #[.int .i64 f, .slice A n c] 49)).alloc (.cells #[.int .i64 f, .int .i64 u, .slice (some ⟨w.heap.size + 1, 0, none⟩) 1 1] 24); have a1 := (Blk.new (w.alloc (.cells #[.int .i64 0, .int .i64 0, .slice none 0 0] 24)) 49 #[.int .i64 f, .slice A n c]).alloc (.cells #[.int .i64 f, .int .i64 u, .slice (some ⟨w.heap.size + 1, 0, none⟩) 1 1] 24); have a2 := Blk.new ((w.alloc (.cells #[.int .i64 0, .int .i64 0, .slice none 0 0] 24)).alloc (.cells #[.int .i64 f, .slice A n c] 49)) 24 #[.int .i64 f, .int .i64 u, .slice (some ⟨w.heap.size + 1, 0, none⟩) 1 1]; have u0 := (((Below.refl w.heap.size w).alloc (Nat.le_refl _) (.cells #[.int .i64 0, .int .i64 0, .slice none 0 0] 24)).alloc (by simp) (.cells #[.int .i64 f, .slice A n c] 49)).alloc (by simp; omega) (.cells #[.int .i64 f, .int .i64 u, .slice (some ⟨w.heap.size + 1, 0, none⟩) 1 1] 24); rw [show (w.alloc (.cells #[.int .i64 0, .int .i64 0, .slice none 0 0] 24)).heap.size = w.heap.size + 1 by simp] at a1; rw [show ((w.alloc (.cells #[.int .i64 0, .int .i64 0, .slice none 0 0] 24)).alloc (.cells #[.int .i64 f, .slice A n c] 49)).heap.size = w.heap.size + 1 + 1 by simp] at a2; generalize ((w.alloc (.cells #[.int .i64 0, .int .i64 0, .slice none 0 0] 24)).alloc (.cells #[.int .i64 f, .slice A n c] 49)).alloc (.cells #[.int .i64 f, .int .i64 u, .slice (some ⟨w.heap.size + 1, 0, none⟩) 1 1] 24) = w0 at *
  have hM : MXA w0 (some ⟨w.heap.size + 1, 0, none⟩) 1 1 [⟨f, A, n, c, l⟩] := by
    refine ⟨⟨rfl, Reads.of_blk a1 (size := 2) (n := 1) rfl, fun b hb => ?_⟩, ⟨Nat.le_refl _, by decide⟩, fun b hb => ?_, fun b hb => ?_, fun b hb => ?_⟩ <;> (simp only [List.mem_cons, List.not_mem_nil, or_false] at hb; subst hb)
    · exact HL.out.below u0
    · exact HI6.out.1
    · exact HC.out
    · exact HZI.out
  have HCK : Sl _ := ⟨mxcheck_any (w.heap.size + 1 + 1) f u _ 1 1 _ w0 a2 hM HI6.out.1 HI6.out.2.1⟩; rw [plK_chk] at HCK; have HU : Sl _ := ⟨u0⟩; have X0 : Sl _ := ⟨a0⟩; clear a0 a1 a2 u0 hM; obtain ⟨r, hr⟩ : ∃ r, plK f u l = r := ⟨_, rfl⟩; have HR : Sl _ := ⟨hr⟩; rw [hr] at HCK; clear hr; refine HCK.out.mono ?_; rintro e w1 ⟨rfl, hb⟩; replace HU : Sl (Below w.heap.size w w1) := ⟨HU.out.trans (hb.mono HU.out.size)⟩; replace X0 : Sl (Blk w1 w.heap.size 24 #[.int .i64 0, .int .i64 0, .slice none 0 0]) := ⟨X0.out.below hb X0.out.lt⟩; clear hb HCK; have HSZ : Sl (w.heap.size < w1.heap.size) := ⟨X0.out.lt⟩; have HEND : Sl (∀ (W : World), Mv w.heap.size w1 W → Below w.heap.size w W) := ⟨fun W h => below_mv HU.out h (Nat.le_refl _) HU.out.size⟩
  by_cases h0 : r = 0
  · subst h0; have HPE : Sl _ := ⟨plE_b (most := most) (early := early) HR.out⟩; have HPK : Sl _ := ⟨plK_ok HR.out⟩
    by_cases he : early < 0 ∨ 11 < early
    · have HE : Sl (plE f u l most early = 2) := ⟨by rw [HPE.out, if_pos he]⟩
      by_cases he1 : early < 0
      · have hed : decide (early < 0) = true := decide_eq_true he1; go_wp2_with (refine wpList_store_whole rfl 24 (.tmp 10) (.tmp 40) rfl w.heap.size #[.int .i64 0, .int .i64 0, .slice none 0 0] rfl rfl 24 #[.int .i64 0, .int .i64 0, .slice none 0 0] X0.out rfl size_mx (by simp [Value.oneCell']) ?_; rintro wz hm hsz hbk; have HZE : Sl (Below w.heap.size w wz) := ⟨HEND.out wz hm⟩; have HBK : Sl _ := ⟨hbk⟩; clear hm hsz hbk); refine bodyPost_ret (results_row2m rfl _ _ w.heap.size _ _ _ rfl HBK.out Tryz.underlying24 rfl (by kernel_rfl)) rfl ?_; exact ⟨PlT.bad HE.out (by decide), HZE.out⟩
      · have hed : decide (early < 0) = false := decide_eq_false he1; have he2 : 11 < early := (by omega); have hed2 : decide (11 < early) = true := decide_eq_true he2; go_wp2_with (refine wpList_store_whole rfl 24 (.tmp 10) (.tmp 40) rfl w.heap.size #[.int .i64 0, .int .i64 0, .slice none 0 0] rfl rfl 24 #[.int .i64 0, .int .i64 0, .slice none 0 0] X0.out rfl size_mx (by simp [Value.oneCell']) ?_; rintro wz hm hsz hbk; have HZE : Sl (Below w.heap.size w wz) := ⟨HEND.out wz hm⟩; have HBK : Sl _ := ⟨hbk⟩; clear hm hsz hbk); refine bodyPost_ret (results_row2m rfl _ _ w.heap.size _ _ _ rfl HBK.out Tryz.underlying24 rfl (by kernel_rfl)) rfl ?_; exact ⟨PlT.bad HE.out (by decide), HZE.out⟩
    have he1 : ¬ early < 0 := fun h => he (.inl h)
    have he2 : ¬ 11 < early := fun h => he (.inr h)
    have hed1 : decide (early < 0) = false := decide_eq_false he1; have hed2 : decide (11 < early) = false := decide_eq_false he2
    by_cases hm : most < 0 ∨ 139 < most
    · have HE : Sl (plE f u l most early = 7) := ⟨by rw [HPE.out, if_neg he, if_pos hm]⟩
      by_cases hm1 : most < 0
      · have hmd : decide (most < 0) = true := decide_eq_true hm1; go_wp2_with (refine wpList_store_whole rfl 24 (.tmp 10) (.tmp 47) rfl w.heap.size #[.int .i64 0, .int .i64 0, .slice none 0 0] rfl rfl 24 #[.int .i64 0, .int .i64 0, .slice none 0 0] X0.out rfl size_mx (by simp [Value.oneCell']) ?_; rintro wz hm hsz hbk; have HZE : Sl (Below w.heap.size w wz) := ⟨HEND.out wz hm⟩; have HBK : Sl _ := ⟨hbk⟩; clear hm hsz hbk); refine bodyPost_ret (results_row2m rfl _ _ w.heap.size _ _ _ rfl HBK.out Tryz.underlying24 rfl (by kernel_rfl)) rfl ?_; exact ⟨PlT.bad HE.out (by decide), HZE.out⟩
      · have hmd : decide (most < 0) = false := decide_eq_false hm1; have hm2 : 139 < most := (by omega); have hmd2 : decide (139 < most) = true := decide_eq_true hm2; go_wp2_with (refine wpList_store_whole rfl 24 (.tmp 10) (.tmp 47) rfl w.heap.size #[.int .i64 0, .int .i64 0, .slice none 0 0] rfl rfl 24 #[.int .i64 0, .int .i64 0, .slice none 0 0] X0.out rfl size_mx (by simp [Value.oneCell']) ?_; rintro wz hm hsz hbk; have HZE : Sl (Below w.heap.size w wz) := ⟨HEND.out wz hm⟩; have HBK : Sl _ := ⟨hbk⟩; clear hm hsz hbk); refine bodyPost_ret (results_row2m rfl _ _ w.heap.size _ _ _ rfl HBK.out Tryz.underlying24 rfl (by kernel_rfl)) rfl ?_; exact ⟨PlT.bad HE.out (by decide), HZE.out⟩
    have hm1 : ¬ most < 0 := fun h => hm (.inl h)
    have hm2 : ¬ 139 < most := fun h => hm (.inr h)
    have hmd1 : decide (most < 0) = false := decide_eq_false hm1; have hmd2 : decide (139 < most) = false := decide_eq_false hm2; have HP6 : Sl (plE f u l most early = if (plO f u l most early).any lowB = true then 7 else if 12 < (plO f u l most early).length then 3 else 0) := ⟨by rw [HPE.out, if_neg he, if_neg hm]⟩; have HCF : Sl (0 ≤ f ∧ u ≤ 127 ∧ f ≤ u ∧ u - f < 61) := ⟨by have h := HPK.out.1; unfold plC at h; simp only [Bool.and_eq_true, decide_eq_true_eq] at h; omega⟩; have HZ : Sl (∀ j, j < n → -24 ≤ gt l j ∧ gt l j ≤ 72) := ⟨by rw [← HLN.out]; exact outL_in HPK.out.2.2.2.1⟩; have HN : Sl (0 < n ∧ n ≤ 8) := ⟨by have h := HPK.out; have := HLN.out; omega⟩; have HEM : Sl (0 ≤ early ∧ early ≤ 11 ∧ 0 ≤ most ∧ most ≤ 139) := ⟨by omega⟩; have hu127 : u ≤ 127 := HCF.out.2.1; have hmost : 0 ≤ most ∧ most ≤ 139 := HEM.out.2.2; clear HPE HPK he hm HR; go_wp2_with fail
    go_loopw [13, 14, 15, 16, 50] (fun s13 s14 s15 s16 s50 wr => ∃ (k : Nat) (v v14 v15 v16 : Value), k ≤ n ∧ s50 = .int .i64 k ∧ v = s13 ∧ s14 = v14 ∧ s15 = v15 ∧ s16 = v16 ∧ Sl (wr.ownsRow w1.heap.size tPL 2 v (lwA l most u k).length ((lwA l most u k).flatMap lC) ∧ Below w1.heap.size w1 wr)) (fun _ _ _ _ s50 _ => n - (RowKit.intOf s50).toNat)
    case atStart => exact ⟨0, _, _, _, _, Nat.zero_le _, rfl, rfl, rfl, rfl, rfl, ⟨World.ownsRow_nil _ _ _ _, Below.refl _ _⟩⟩
    case round =>
      obtain ⟨k, v, v14, v15, v16, hk, rfl, rfl, rfl, rfl, rfl, HK⟩ := hrel
      by_cases hkn : k < n
      · have hkI : (k : Int) < (n : Int) := (by omega); have hkd : decide ((k : Int) < (n : Int)) = true := decide_eq_true hkI; obtain ⟨ad, had, _, ck⟩ := ((HL.out.below HU.out).below HK.out.2).cell (j := k) hkn; have hzk := HZ.out k hkn; have HLL : Sl ((lwA l most u k).length ≤ 17 * k) := ⟨lwA_len hmost.1 hu127 k (fun j hj => HZ.out j (by omega))⟩; obtain ⟨z, hz⟩ : ∃ z, gt l k = z := ⟨_, rfl⟩; rw [hz] at ck hzk; obtain ⟨cc, hcc⟩ : ∃ cc, most - z + 1 = cc := ⟨_, rfl⟩; have hcb : -71 ≤ cc ∧ cc ≤ 164 := (by omega); have HA1 : Sl (lwA l most u (k + 1) = lwA l most u k ++ lwI k cc u) := ⟨by rw [lwA, hz, hcc]⟩; have hw1 : IntKind.i64.wrap (most - z) = most - z := (by rw [IntKind.wrap_i64]; omega); have hw2 : IntKind.i64.wrap cc = cc := (by rw [IntKind.wrap_i64]; omega); have HN17 : Sl (lwN cc u ≤ 17) := ⟨lwN_17 hcb.1 hu127⟩; have hn8 := HN.out.2; subst had; clear hz; go_wp2_with fail
        go_loopw [13, 16] (fun s13 s16 wq => ∃ (t : Nat) (v : Value), t ≤ lwN cc u ∧ s16 = .int .i64 (cc + 12 * (t : Int)) ∧ v = s13 ∧ Sl (wq.ownsRow w1.heap.size tPL 2 v (lwA l most u k ++ lwP k cc t).length ((lwA l most u k ++ lwP k cc t).flatMap lC) ∧ Below w1.heap.size w1 wq)) (fun _ s16 _ => (u + 12 - RowKit.intOf s16).toNat)
        case atStart => exact ⟨0, _, Nat.zero_le _, by go_num, rfl, ⟨by unfold lwP; simpa using HK.out.1, HK.out.2⟩⟩
        case round =>
          clear HK ck; obtain ⟨t, v, htn, rfl, rfl, HK⟩ := hrel; have ht17 := HN17.out; obtain ⟨du, hdu⟩ : ∃ du, cc + 12 * (t : Int) = du := ⟨_, rfl⟩; have HDU : Sl _ := ⟨hdu⟩
          by_cases htl : t < lwN cc u
          · have hle : du ≤ u := (by rw [← hdu]; exact (lwN_lt cc u t).1 htl); have hled : decide (du ≤ u) = true := decide_eq_true hle; have HPS : Sl (lwP k cc (t + 1) = lwP k cc t ++ [(k, du)]) := ⟨by rw [lwP_succ, hdu]⟩; have hdb : -71 ≤ du := (by omega); obtain ⟨nd, hnd⟩ : ∃ nd, (lwA l most u k ++ lwP k cc t).length = nd := ⟨_, rfl⟩; have hnd2 : nd ≤ 200 := (by rw [← hnd, List.length_append, lwP_len]; have := HLL.out; omega); have HND : Sl _ := ⟨hnd⟩; have hko := HK.out.1; rw [hnd] at hko; have HKO : Sl _ := ⟨hko⟩; rw [hdu]; clear hnd hko htn; have hwd : IntKind.i64.wrap (du + 12) = du + 12 := (by rw [IntKind.wrap_i64]; omega); clear hdu; go_wp2_with (at_builtin; go_loud (refine wpList_append_any _ rfl (.tmp 64) (.tmp 68) _ rfl w1.heap.size tPL i0 z0 2 16 Tryz.underlying71 HI.out.1 HI.out.2.1 HI.out.2.2.1 HI.out.2.2.2.1 HI.out.2.2.2.2 (by decide) v nd _ rfl (xown_alloc HKO.out _) _ (some ⟨wr.heap.size, 0, none⟩) 1 1 [.int .i64 (k : Int), .int .i64 du] rfl (xreadsN wr _ [.int .i64 (k : Int), .int .i64 du] 2 rfl) (by intro u hu; simp at hu; rcases hu with rfl | rfl <;> rfl) (by unfold maxLen; omega) (by omega) (by have := HK.out.2.size; simp; omega) ?_; rintro v6 w6 hown hg hat; have XQ : Sl (w6.ownsRow w1.heap.size tPL 2 v6 (lwA l most u k ++ lwP k cc (t + 1)).length ((lwA l most u k ++ lwP k cc (t + 1)).flatMap lC)) := ⟨by rw [HPS.out, ← List.append_assoc, List.flatMap_append, List.length_append, HND.out]; exact hown⟩; have HLN2 : Sl (Below w1.heap.size w1 w6) := ⟨xbelow_grown HK.out.2 HK.out.2.size HKO.out hg⟩; clear hown hg hat)); exact ⟨⟨t + 1, v6, htl, by have := HDU.out; congr 1; omega, rfl, ⟨XQ.out, HLN2.out⟩⟩, by simp [RowKit.intOf]; omega⟩
          · have hgt : ¬ du ≤ u := (by rw [← hdu]; exact fun h => htl ((lwN_lt cc u t).2 h)); have hgtd : decide (du ≤ u) = false := decide_eq_false hgt; have het : t = lwN cc u := (by omega)
            have HQ : Sl (wr.ownsRow w1.heap.size tPL 2 v (lwA l most u (k + 1)).length ((lwA l most u (k + 1)).flatMap lC) ∧ Below w1.heap.size w1 wr) := ⟨by
              rw [HA1.out, ← lwP_all, ← het]; exact HK.out⟩
            rw [hdu]; clear het HK hdu htl htn; go_wp2_with fail; exact ⟨⟨k + 1, v, _, _, _, hkn, by go_num, rfl, rfl, rfl, rfl, HQ⟩, by simp [RowKit.intOf]; omega⟩
      · obtain rfl : k = n := (by omega); have hkI : ¬ (k : Int) < (k : Int) := (by omega); obtain ⟨all, hall⟩ : ∃ a, lwA l most u k = a := ⟨_, rfl⟩; rw [hall] at HK; have HALL : Sl (lwA l most u k = all ∧ all.length ≤ 136) := ⟨hall, by rw [← hall]; have := lwA_len (l := l) (most := most) (tp := u) hmost.1 hu127 k HZ.out; have := HN.out; omega⟩; have X1 : Sl (Blk wr w.heap.size 24 #[.int .i64 0, .int .i64 0, .slice none 0 0]) := ⟨X0.out.below HK.out.2 HSZ.out⟩; have HB : Sl _ := ⟨lwByO_any w1.heap.size w.heap.size _ _ v all wr HK.out.1 (by have := HALL.out.2; omega) HK.out.2.size X1.out HSZ.out⟩; clear hall hk hkn hkI; go_wp2_with fail; refine HB.out.mono ?_; rintro e w2 ⟨rfl, hb, g, A13, c13, d, rfl, hA13, hc13, hpb, hpm, hsr⟩; obtain ⟨N, hN⟩ : ∃ N, all.length = N := ⟨_, rfl⟩; rw [hN] at hA13 hc13 hpb hpm hsr; have HPM : Sl (((List.range N).map d).Perm (all.map pI) ∧ Srt due d 0 N ∧ N ≤ 136) := ⟨hpm, hsr, by rw [← hN]; exact HALL.out.2⟩; have HPB : Sl (PB w2 g N d ∧ g < w2.heap.size) := ⟨hpb, hpb.lt⟩; have HA13 : Sl ((0 < N → A13 = some ⟨g, 0, none⟩) ∧ N ≤ c13) := ⟨hA13, hc13⟩; have X2 : Sl (Blk w2 w.heap.size 24 #[.int .i64 0, .int .i64 0, .slice none 0 0]) := ⟨X1.out.below hb HSZ.out⟩; have HU2 : Sl (Below w1.heap.size w1 w2) := ⟨HK.out.2.trans hb⟩; rw [hN]; clear hN hA13 hc13 hpb hpm hsr hb HB HK X1; have XX : Sl (Blk (w2.alloc (.cells #[.int .i64 f, .int .i64 u, .slice none 0 0] 24)) w2.heap.size 24 #[.int .i64 f, .int .i64 u, .slice none 0 0]) := ⟨Blk.new _ _ _⟩; have hbd : Below w2.heap.size w2 (w2.alloc (.cells #[.int .i64 f, .int .i64 u, .slice none 0 0] 24)) := (Below.refl _ _).alloc (Nat.le_refl _) _; have HBD : Sl _ := ⟨hbd⟩; clear hbd; go_wp2_with fail; have HSD : Sl ((w2.alloc (.cells #[.int .i64 f, .int .i64 u, .slice none 0 0] 24)).heap.size = w2.heap.size + 1) := ⟨by simp⟩; generalize w2.alloc (.cells #[.int .i64 f, .int .i64 u, .slice none 0 0] 24) = w3 at *
        obtain ⟨b, o, rfl, hbl, hcs⟩ := (HL.out.below (HU.out.trans ((HU2.out.trans (HBD.out.mono HU2.out.size)).mono HU.out.size))).flat HN.out.1; have HCL : Sl _ := ⟨Tryz.slices_Clone_int b o k c l w3 (by rw [HLN.out]; exact Nat.le_refl _) (by have := HLN.out; have := HN.out; omega) hcs⟩; clear hbl hcs; refine HCL.out.mono ?_; rintro e w4 ⟨v, rfl, hown, _, hb⟩; rw [List.take_of_length_le (by rw [HLN.out]; exact Nat.le_refl _)] at hown; obtain ⟨gn, cn, rfl, hgb, hgl⟩ := hown.form HN.out.1; obtain ⟨gx, hgx⟩ : ∃ gx, w2.heap.size = gx := ⟨_, rfl⟩; obtain ⟨B, hB⟩ : ∃ B, w4.heap.size = B := ⟨_, rfl⟩; have ORD : Sl (w.heap.size < gx ∧ g < gx ∧ gx < gn ∧ gn < B) := ⟨by have h1 := HPB.out.2; have h2 := HSD.out; have h3 := X2.out.lt; omega⟩; rw [hgx] at XX
        have HT0 : Sl (TP0 w w4 g gn k cn N w3.heap.size (nowF l d 0) d) := ⟨by
          have h1 := HPB.out.2; have h2 := HSD.out; refine ⟨?_, ?_, ?_, ?_, by have := ORD.out; omega⟩
          · exact (X2.out.below HBD.out X2.out.lt).below hb (by have := X2.out.lt; omega)
          · rw [show frL k (nowF l d 0) = l.map iv from ?_]
            · exact hown
            · rw [frL_of HLN.out]; exact frL_congr fun j _ => by unfold nowF frI; simp
          · exact (HPB.out.1.below HBD.out h1).below hb (by omega)
          · exact HU.out.trans (((HU2.out.trans (HBD.out.mono HU2.out.size)).trans (hb.mono (by have := HU2.out.size; omega))).mono HU.out.size)⟩
        have HXB : Sl (∃ (vb : Value) (L : List Bk), Blk w4 gx 24 #[.int .i64 f, .int .i64 u, vb] ∧ BM w4 B vb (scn l all early f 0).2 L) := ⟨_, [], XX.out.below hb (by have h2 := HSD.out; omega), BM.nil _ _⟩; have HBW : Sl (B ≤ w4.heap.size) := ⟨by rw [hB]; exact Nat.le_refl _⟩
        have HPS : Sl (PSt all d N (scn l all early f 0).1 0) := ⟨HPM.out.1, HPM.out.2.1, Nat.zero_le _, fun j h => absurd h (Nat.not_lt_zero _), fun j _ hj => by
          have hmem : d j ∈ all.map pI := HPM.out.1.mem_iff.1 (List.mem_map.2 ⟨j, List.mem_range.2 hj, rfl⟩); obtain ⟨x, hx, e⟩ := List.mem_map.1 hmem; rw [← HALL.out.1] at hx; obtain ⟨h1, t, h2, _⟩ := lwA_mem.1 hx; have h3 := HZ.out x.1 h1; rw [← e]; show (-1000 : Int) < x.2
          omega⟩
        rw [hgx]; clear hown hgb hgl hgx hB XX HBD HSD X2 HU2 HPB HCL hb; go_wp2_with fail
        go_loopw [13, 19, 20] (fun s13 s19 s20 wr => ∃ (i p m : Nat) (A' : Option Addr) (c' : Nat) (v20 : Value), f + (i : Int) ≤ u ∧ s13 = .slice A' m c' ∧ s19 = .int .i64 (f + (i : Int)) ∧ s20 = v20 ∧ Sl (p + m = N ∧ (0 < m → A' = some ⟨g, p * 2, none⟩) ∧ m ≤ c') ∧ Sl (i = 0 ∨ dueAt all (scn l all early f i).1 (f + (i : Int)) = true) ∧ Sl (PSt all d N (scn l all early f i).1 p) ∧ Sl (∀ x ∈ (scn l all early f i).2, lowB x = false) ∧ Sl (TP0 w wr g gn k cn N w3.heap.size (nowF l d p) d ∧ B ≤ wr.heap.size) ∧ Sl (∃ (vb : Value) (L : List Bk), Blk wr gx 24 #[.int .i64 f, .int .i64 u, vb] ∧ BM wr B vb (scn l all early f i).2 L)) (fun _ s19 _ _ => (u + 1 - RowKit.intOf s19).toNat)
        case atStart => exact ⟨0, 0, N, A13, c13, _, by have := HCF.out; omega, rfl, by go_num, rfl, ⟨by omega, by simpa using HA13.out.1, HA13.out.2⟩, ⟨.inl rfl⟩, HPS, ⟨fun x hx => by cases hx⟩, ⟨HT0.out, HBW.out⟩, HXB⟩
        case round =>
          clear HT0 HXB HBW HPS HA13; obtain ⟨i, p, m, A', c', v20, hiu, rfl, rfl, rfl, HPN, HDUE, HPS, HLOW, HT, HXB⟩ := hrel; obtain ⟨vb, L, hx5, hb5⟩ := HXB.out; have HX5 : Sl _ := ⟨And.intro hx5 hb5⟩; clear hx5 hb5 HXB; obtain ⟨key, hkey⟩ : ∃ key, f + (i : Int) = key := ⟨_, rfl⟩; have HKY : Sl _ := ⟨hkey⟩; have hkb : 0 ≤ key ∧ key ≤ 127 := (by have := HCF.out; omega); rw [hkey] at hiu HDUE; rw [hkey]; obtain ⟨ti, hti⟩ : ∃ t, key + early = t := ⟨_, rfl⟩; have HTI : Sl _ := ⟨hti⟩; have htw : IntKind.i64.wrap ti = ti := (by have := HEM.out; rw [IntKind.wrap_i64]; omega); clear hkey; go_wp2_with fail
          go_loopw [13] (fun s13 wq => ∃ (p m : Nat) (A' : Option Addr) (c' : Nat), s13 = .slice A' m c' ∧ Sl (p + m = N ∧ (0 < m → A' = some ⟨g, p * 2, none⟩) ∧ m ≤ c') ∧ Sl (∀ j, j < p → (d j).2 ≤ ti) ∧ Sl (TP0 w wq g gn k cn N w3.heap.size (nowF l d p) d ∧ B ≤ wq.heap.size) ∧ Sl (Blk wq gx 24 #[.int .i64 f, .int .i64 u, vb] ∧ BM wq B vb (scn l all early f i).2 L)) (fun s13 _ => slLen s13)
          case atStart => exact ⟨p, m, A', c', rfl, HPN, ⟨fun j hj => by
            have h1 := HPS.out.lo j hj; have h2 := HDUE.out; have h3 := HEM.out; have h4 := HTI.out; rcases h2 with h2 | h2
            · subst h2; have : (scn l all early f 0).1 = -1000 := rfl; omega
            · obtain ⟨x, _, x1, x2⟩ := dueAt_iff.1 h2
              omega⟩, HT, HX5⟩
          case round =>
            clear HT HX5 HPN HPS; obtain ⟨p, m, A', c', rfl, HPN, HLO, HT, HX5⟩ := hrel
            have HEXIT : Sl ((0 < m → ti < (d p).2) → PSt all d N ti p) := ⟨fun h => ⟨HPM.out.1, HPM.out.2.1, by have := HPN.out.1; omega, HLO.out, fun j hj hjN => by
              have h1 := h (by have := HPN.out.1; omega); have h2 := HPM.out.2.1 p j (Nat.zero_le _) hj hjN; unfold due at h2
              omega⟩⟩
            by_cases hm0 : 0 < m
            · have hA := HPN.out.2.1 hm0; subst hA; have hmI : (0 : Int) < (m : Int) := (by omega); have hmd : decide ((0 : Int) < (m : Int)) = true := decide_eq_true hmI; have hmb : ((m : Int) == 0) = false := (by simp; omega); have hpN : p < N := (by have := HPN.out.1; omega); obtain ⟨y0, y1⟩ := HT.out.1.pb.cell hpN; have hdm : d p ∈ all.map pI := HPM.out.1.mem_iff.1 (List.mem_map.2 ⟨p, List.mem_range.2 hpN, rfl⟩); obtain ⟨x, hx, ex⟩ := List.mem_map.1 hdm; rw [← HALL.out.1] at hx
              have hx12 : x.1 < k ∧ x.2 ≤ u := by
                obtain ⟨g1, _, _, g2⟩ := lwA_mem.1 hx; exact ⟨g1, g2⟩
              obtain ⟨xr, xd⟩ := x; obtain ⟨hx1, hx2⟩ := hx12; simp only [] at hx1 hx2; have HDP : Sl (d p = ((xr : Int), xd)) := ⟨ex.symm⟩; rw [HDP.out] at y0 y1; simp only [] at y0 y1; clear hdm hx ex
              by_cases hdu : xd ≤ ti
              · have hdud : decide (xd ≤ ti) = true := decide_eq_true hdu; have hxI : (xr : Int) < (k : Int) := (by omega); have n0 := HT.out.1.xn.cellAt xr (by omega); rw [frL_at hx1] at n0; obtain ⟨z, hz⟩ : ∃ z, nowF l d p xr = z := ⟨_, rfl⟩
                have hzb : -2000 ≤ z ∧ z ≤ 72 := by
                  have h1 := HZ.out xr hx1; have h2 := frI_le d p xr; have h3 := HPM.out.2.2; rw [← hz]; unfold nowF; omega
                have HZN : Sl _ := ⟨hz⟩; rw [hz] at n0; have hzw : IntKind.i64.wrap (z - 12) = z - 12 := (by rw [IntKind.wrap_i64]; omega); have hn0 : wr.cell? ⟨gn, xr, none⟩ = some (.int .i64 z) := n0; have HSO : Sl (xr < k * 1) := ⟨by omega⟩; have hm6 : (1 : Int) ≤ (m : Int) := (by omega); clear hz n0; have hc1 : m ≤ c' := HPN.out.2.2
                by_cases hcp : 1 < c'
                · go_wp2_with ((with_reducible show wpList _ _ _ _ _ _); first
                  | (refine wpList_store_own rfl 3 (.tmp 104) (.tmp 103) rfl gn xr (.int .i64 (z - 12)) rfl rfl w3.heap.size tI 1 k cn (frL k (nowF l d p)) HT.out.1.xn HSO.out size_int1 rfl rfl ?_; rintro wj hm hsz hown; have XW : Sl (TP0 w wj g gn k cn N w3.heap.size (nowF l d (p + 1)) d ∧ B ≤ wj.heap.size) := ⟨HT.out.1.made hm (by rw [HDP.out]) HZN.out hown, Nat.le_trans HT.out.2 hm.size⟩; have XB : Sl (Blk wj gx 24 #[.int .i64 f, .int .i64 u, vb] ∧ BM wj B vb (scn l all early f i).2 L) := ⟨HX5.out.1.mv hm (by have := ORD.out; omega), HX5.out.2.mvlo hm (by have := ORD.out; omega)⟩; clear hm hsz hown))
                  exact ⟨⟨p + 1, m - 1, _, _, rfl, ⟨by have := HPN.out.1; omega, fun _ => by congr 2; omega, by have := HPN.out.2.2; omega⟩, ⟨fun j hj => by rcases Nat.lt_or_ge j p with h1 | h1; exact HLO.out j h1; rw [show j = p by omega, HDP.out]; exact hdu⟩, XW, XB⟩, by simp [slLen]; omega⟩
                · have hcp1 : c' = 1 := (by omega); subst hcp1
                  go_wp2_with ((with_reducible show wpList _ _ _ _ _ _); first
                  | (refine wpList_store_own rfl 3 (.tmp 104) (.tmp 103) rfl gn xr (.int .i64 (z - 12)) rfl rfl w3.heap.size tI 1 k cn (frL k (nowF l d p)) HT.out.1.xn HSO.out size_int1 rfl rfl ?_; rintro wj hm hsz hown; have XW : Sl (TP0 w wj g gn k cn N w3.heap.size (nowF l d (p + 1)) d ∧ B ≤ wj.heap.size) := ⟨HT.out.1.made hm (by rw [HDP.out]) HZN.out hown, Nat.le_trans HT.out.2 hm.size⟩; have XB : Sl (Blk wj gx 24 #[.int .i64 f, .int .i64 u, vb] ∧ BM wj B vb (scn l all early f i).2 L) := ⟨HX5.out.1.mv hm (by have := ORD.out; omega), HX5.out.2.mvlo hm (by have := ORD.out; omega)⟩; clear hm hsz hown))
                  exact ⟨⟨p + 1, 0, some ⟨g, p * 2, none⟩, 0, rfl, ⟨by have := HPN.out; omega, fun h => absurd h (by omega), Nat.le_refl _⟩, ⟨fun j hj => by rcases Nat.lt_or_ge j p with h1 | h1; exact HLO.out j h1; rw [show j = p by omega, HDP.out]; exact hdu⟩, XW, XB⟩, by simp [slLen]; omega⟩
              · have hdud : decide (xd ≤ ti) = false := decide_eq_false hdu; have HPS2 : Sl (PSt all d N ti p) := ⟨HEXIT.out fun _ => by rw [HDP.out]; show ti < xd; omega⟩; have HXN : Sl (wr.ownsRow w3.heap.size tI 1 (.slice (some ⟨gn, 0, none⟩) k cn) k ((rowN l all ti).map iv)) := ⟨by rw [← HPS2.out.row l, HLN.out, fl1_frL]; exact HT.out.1.xn⟩; have HRL : Sl ((rowN l all ti).length = k) := ⟨by rw [rowN_len, HLN.out]⟩; have HSC : Sl (scn l all early f (i + 1) = (ti, (scn l all early f i).2 ++ [(key, rowT l all ti)])) := ⟨by rw [scn_hit (by rw [HKY.out]; exact HDUE.out), HKY.out, HTI.out]⟩
                have HMEM : Sl ((key, rowT l all ti) ∈ plO f u l most early) := ⟨by
                  unfold plO; rw [HLN.out, HALL.out.1]; refine scn_grow (k := i + 1) (by have := HKY.out; omega) _ ?_
                  rw [HSC.out]; exact List.mem_append_right _ (List.mem_singleton.2 rfl)⟩
                clear HLO HEXIT HDUE; go_wp2_with fail; refine (cloneN_any w3.heap.size gn cn k (rowN l all ti) wr HRL.out HN.out.1 (by have := HN.out; omega) HXN.out).mono ?_; rintro e w5 ⟨gr, cr, rfl, hown, hgr, hb⟩; have Xr : Sl _ := ⟨hown⟩; have HGR : Sl (wr.heap.size ≤ gr) := ⟨hgr⟩; have HB5 : Sl (Below wr.heap.size wr w5) := ⟨hb⟩; clear hown hgr hb HXN; go_wp2_with fail; refine (sortN_any wr.heap.size gr cr k (rowN l all ti) w5 HRL.out HN.out.1 (by have := HN.out; omega) Xr.out HB5.out.size).mono ?_; rintro e w6 ⟨rfl, hown, hm⟩; have HB6 : Sl (Below wr.heap.size wr w6) := ⟨below_mv HB5.out hm HGR.out HB5.out.size⟩; have Xr6 : Sl (w6.ownsRow wr.heap.size tI 1 (.slice (some ⟨gr, 0, none⟩) k cr) k ((rowT l all ti).map iv)) := ⟨hown⟩; have HT6 : Sl (TP0 w w6 g gn k cn N w3.heap.size (nowF l d p) d ∧ B ≤ w6.heap.size ∧ B ≤ wr.heap.size) := ⟨HT.out.1.below HB6.out, Nat.le_trans HT.out.2 HB6.out.size, HT.out.2⟩; have HX6 : Sl (Blk w6 gx 24 #[.int .i64 f, .int .i64 u, vb] ∧ BM w6 B vb (scn l all early f i).2 L) := ⟨HX5.out.1.below HB6.out HX5.out.1.lt, HX5.out.2.below HB6.out⟩; clear hown hm Xr HGR HB5 HB6 HT HX5 HRL; have HEN6 : Sl (∀ (W : World), Mv w.heap.size w6 W → Below w.heap.size w W) := ⟨fun W h => below_mv HT6.out.1.bl h (Nat.le_refl _) HT6.out.1.bl.size⟩; obtain ⟨zz, hzz⟩ : ∃ zz, gt (rowT l all ti) 0 = zz := ⟨_, rfl⟩; have hrl : 0 < (rowT l all ti).length := (by rw [rowT_len, HLN.out]; exact HN.out.1); have zc := Xr6.out.cellAt 0 (by have := HN.out; omega); rw [List.getElem?_map, gt_at hrl, hzz] at zc; have z0 : w6.cell? ⟨gr, 0, none⟩ = some (.int .i64 zz) := zc
                have hzzb : -300 ≤ zz ∧ zz ≤ 72 := by
                  have h1 := rowT_bd (l := l) (most := most) (u := u) (T := ti) hmost.1 hu127 (by rw [HLN.out]; exact HZ.out) zz (by rw [HLN.out, HALL.out.1, ← hzz]; exact gt_mem hrl); exact h1
                have HLB : Sl (lowB (key, rowT l all ti) = (decide (zz < -24) || decide (key + zz < 0))) := ⟨by unfold lowB; rw [hzz]⟩; have hkI0 : (0 : Int) < (k : Int) := (by have := HN.out; omega); have hws : IntKind.i64.wrap (key + zz) = key + zz := (by rw [IntKind.wrap_i64]; omega); clear zc hzz hrl
                by_cases hz1 : zz < -24
                · have hzd : decide (zz < -24) = true := decide_eq_true hz1; have HE : Sl (plE f u l most early = 7) := ⟨by rw [HP6.out, if_pos]; rw [List.any_eq_true]; exact ⟨_, HMEM.out, by rw [HLB.out, hzd]; rfl⟩⟩; go_wp2_with (refine wpList_store_whole rfl 24 (.tmp 10) (.tmp 123) rfl w.heap.size #[.int .i64 0, .int .i64 0, .slice none 0 0] rfl rfl 24 #[.int .i64 0, .int .i64 0, .slice none 0 0] HT6.out.1.x0 rfl size_mx (by simp [Value.oneCell']) ?_; rintro wz hm hsz hbk; have HZE : Sl (Below w.heap.size w wz) := ⟨HEN6.out wz hm⟩; have HBK : Sl _ := ⟨hbk⟩; clear hm hsz hbk); refine bodyPost_ret (results_row2m rfl _ _ w.heap.size _ _ _ rfl HBK.out Tryz.underlying24 rfl (by kernel_rfl)) rfl ?_; exact ⟨PlT.bad HE.out (by decide), HZE.out⟩
                have hzd : decide (zz < -24) = false := decide_eq_false hz1
                by_cases hz2 : key + zz < 0
                · have hzd2 : decide (key + zz < 0) = true := decide_eq_true hz2; have HE : Sl (plE f u l most early = 7) := ⟨by rw [HP6.out, if_pos]; rw [List.any_eq_true]; exact ⟨_, HMEM.out, by rw [HLB.out, hzd, hzd2]; rfl⟩⟩; go_wp2_with (refine wpList_store_whole rfl 24 (.tmp 10) (.tmp 123) rfl w.heap.size #[.int .i64 0, .int .i64 0, .slice none 0 0] rfl rfl 24 #[.int .i64 0, .int .i64 0, .slice none 0 0] HT6.out.1.x0 rfl size_mx (by simp [Value.oneCell']) ?_; rintro wz hm hsz hbk; have HZE : Sl (Below w.heap.size w wz) := ⟨HEN6.out wz hm⟩; have HBK : Sl _ := ⟨hbk⟩; clear hm hsz hbk); refine bodyPost_ret (results_row2m rfl _ _ w.heap.size _ _ _ rfl HBK.out Tryz.underlying24 rfl (by kernel_rfl)) rfl ?_; exact ⟨PlT.bad HE.out (by decide), HZE.out⟩
                have hzd2 : decide (key + zz < 0) = false := decide_eq_false hz2
                have HLW2 : Sl (∀ x ∈ (scn l all early f i).2 ++ [(key, rowT l all ti)], lowB x = false) := ⟨fun x hx => by
                  rcases List.mem_append.1 hx with h1 | h1
                  · exact HLOW.out x h1
                  · rw [List.mem_singleton.1 h1, HLB.out, hzd, hzd2]; rfl⟩
                obtain ⟨nl, hnl⟩ : ∃ m, L.length = m := ⟨_, rfl⟩
                have hnl61 : nl ≤ 61 := by
                  have h1 := HX6.out.2.len; have h2 := scn_count (l := l) (all := all) (e := early) (a := f) i; have h3 := HKY.out; have h4 := HCF.out; omega
                have HNL : Sl (L.length = nl) := ⟨hnl⟩; obtain ⟨nm, hnm⟩ : ∃ m, nl + 1 = m := ⟨_, rfl⟩; have HNM : Sl (nl + 1 = nm) := ⟨hnm⟩; have hnm62 : nm ≤ 62 := (by omega); clear hnm; have ho := HX6.out.2.own; rw [hnl] at ho; have HOWN : Sl _ := ⟨ho⟩; have x2 := HX6.out.1.cell 2; simp at x2; clear ho hnl HLB HLOW; have HNX : Sl _ := ⟨HPS2.out.next hpN⟩; rw [HDP.out] at HNX; obtain ⟨i2, hi2⟩ : ∃ i2 : Nat, f + (i2 : Int) = xd := ⟨(xd - f).toNat, by have := HNX.out.1; have := HKY.out; have := HTI.out; have := HEM.out; simp only [] at *; omega⟩
                have HI2 : Sl (i + 1 ≤ i2 ∧ scn l all early f i2 = scn l all early f (i + 1)) := ⟨by
                  have h1 := HNX.out.1; have h2 := HKY.out; have h3 := HTI.out; have h4 := HEM.out; simp only [] at h1; refine ⟨by omega, scn_idle (k := i + 1) (Nat.succ_pos i) (by omega) (fun x hx hT => ?_)⟩; rw [HSC.out] at hT; have := HNX.out.2.1 x hx hT; simp only [] at this
                  omega⟩
                clear y0 y1
                go_wp2_with ((with_reducible show wpList _ _ _ _ _ _); first
                  | (at_builtin; (refine wpList_append_any _ rfl (.tmp 125) (.tmp 129) _ rfl B tB i1 z1 2 32 Tryz.underlying22 HJ.out.1 HJ.out.2.1 HJ.out.2.2.1 HJ.out.2.2.2.1 HJ.out.2.2.2.2 (by decide) vb nl _ rfl (xown_alloc HOWN.out _) _ (some ⟨w6.heap.size, 0, none⟩) 1 1 [.int .i64 key, .slice (some ⟨gr, 0, none⟩) k cr] rfl (xreads2 _ _ _ _) (by intro u hu; simp at hu; rcases hu with rfl | rfl <;> rfl) (by unfold maxLen; omega) (by omega) (by have := HT6.out.2.1; simp; omega) ?_; rintro v7 w7 hown hg hat; rw [HNM.out] at hown; obtain ⟨gb, cb, rfl, hgb, hgl⟩ := hown.form (by have := HNM.out; omega); have XB7 : Sl (BM w7 B (.slice (some ⟨gb, 0, none⟩) nm cb) ((scn l all early f i).2 ++ [(key, rowT l all ti)]) (L ++ [⟨key, some ⟨gr, 0, none⟩, k, cr, rowT l all ti⟩])) := ⟨BM.push (b := ⟨key, some ⟨gr, 0, none⟩, k, cr, rowT l all ti⟩) HX6.out.2 (xown_base Xr6.out HT6.out.2.2) (by rw [HNL.out, HNM.out]; exact hown) hg⟩; obtain ⟨q, hq, hm7⟩ := mv_grown hg B (fun k hk => (HOWN.out.lt k hk).1) HT6.out.2.1; have HT7 : Sl (TP0 w w7 g gn k cn N w3.heap.size (nowF l d p) d ∧ B ≤ w7.heap.size) := ⟨HT6.out.1.mv hm7 (by have := ORD.out; omega), Nat.le_trans HT6.out.2.1 hm7.size⟩; have HX7 : Sl (Blk w7 gx 24 #[.int .i64 f, .int .i64 u, vb]) := ⟨HX6.out.1.mv hm7 (by have := ORD.out; omega)⟩; clear hown hg hat hgb hgl hm7 hq))
                  | (refine wpList_store_cell rfl 22 (.tmp 131) (.tmp 130) rfl gx 2 (.slice (some ⟨gb, 0, none⟩) nm cb) rfl rfl 24 #[.int .i64 f, .int .i64 u, vb] #[.int .i64 f, .int .i64 u, .slice (some ⟨gb, 0, none⟩) nm cb] HX7.out (Nat.le_refl 3) rfl size_brks rfl rfl ?_; rintro w8 hm8 hsz8 hbk8 hqq; clear hqq; have HT8 : Sl (TP0 w w8 g gn k cn N w3.heap.size (nowF l d p) d ∧ B ≤ w8.heap.size) := ⟨HT7.out.1.mvx hm8 (by have := ORD.out; omega), Nat.le_trans HT7.out.2 hm8.size⟩; have XB8 : Sl (BM w8 B (.slice (some ⟨gb, 0, none⟩) nm cb) ((scn l all early f i).2 ++ [(key, rowT l all ti)]) (L ++ [⟨key, some ⟨gr, 0, none⟩, k, cr, rowT l all ti⟩])) := ⟨XB7.out.mvlo hm8 (by have := ORD.out; omega)⟩; have HX8 : Sl (Blk w8 gx 24 #[.int .i64 f, .int .i64 u, .slice (some ⟨gb, 0, none⟩) nm cb]) := ⟨hbk8⟩; clear hm8 hsz8 hbk8 x2; obtain ⟨y0, y1⟩ := HT8.out.1.pb.cell hpN; rw [HDP.out] at y0 y1; simp only [] at y0 y1))
                exact ⟨⟨i2, p, m, _, c', _, by rw [hi2]; exact hx2, rfl, by rw [hi2], rfl, ⟨by have := HPN.out.1; exact this, fun _ => rfl, HPN.out.2.2⟩, ⟨.inr (by rw [HI2.out.2, HSC.out, hi2]; exact HNX.out.2.2)⟩, ⟨by rw [HI2.out.2, HSC.out]; exact HPS2.out⟩, ⟨by rw [HI2.out.2, HSC.out]; exact HLW2.out⟩, HT8, ⟨_, _, HX8.out, by rw [HI2.out.2, HSC.out]; exact XB8.out⟩⟩, by have h1 : ti < xd := HNX.out.1; have h3 := HTI.out; have h4 := HEM.out; simp [RowKit.intOf]; omega⟩
            · obtain rfl : m = 0 := (by omega); have hmd : decide ((0 : Int) < ((0 : Nat) : Int)) = false := (by decide); have HPS2 : Sl (PSt all d N ti p) := ⟨HEXIT.out fun h => absurd h (by omega)⟩; have HXN : Sl (wr.ownsRow w3.heap.size tI 1 (.slice (some ⟨gn, 0, none⟩) k cn) k ((rowN l all ti).map iv)) := ⟨by rw [← HPS2.out.row l, HLN.out, fl1_frL]; exact HT.out.1.xn⟩; have HRL : Sl ((rowN l all ti).length = k) := ⟨by rw [rowN_len, HLN.out]⟩; have HSC : Sl (scn l all early f (i + 1) = (ti, (scn l all early f i).2 ++ [(key, rowT l all ti)])) := ⟨by rw [scn_hit (by rw [HKY.out]; exact HDUE.out), HKY.out, HTI.out]⟩
              have HMEM : Sl ((key, rowT l all ti) ∈ plO f u l most early) := ⟨by
                unfold plO; rw [HLN.out, HALL.out.1]; refine scn_grow (k := i + 1) (by have := HKY.out; omega) _ ?_
                rw [HSC.out]; exact List.mem_append_right _ (List.mem_singleton.2 rfl)⟩
              clear HLO HEXIT HDUE; go_wp2_with fail; refine (cloneN_any w3.heap.size gn cn k (rowN l all ti) wr HRL.out HN.out.1 (by have := HN.out; omega) HXN.out).mono ?_; rintro e w5 ⟨gr, cr, rfl, hown, hgr, hb⟩; have Xr : Sl _ := ⟨hown⟩; have HGR : Sl (wr.heap.size ≤ gr) := ⟨hgr⟩; have HB5 : Sl (Below wr.heap.size wr w5) := ⟨hb⟩; clear hown hgr hb HXN; go_wp2_with fail; refine (sortN_any wr.heap.size gr cr k (rowN l all ti) w5 HRL.out HN.out.1 (by have := HN.out; omega) Xr.out HB5.out.size).mono ?_; rintro e w6 ⟨rfl, hown, hm⟩; have HB6 : Sl (Below wr.heap.size wr w6) := ⟨below_mv HB5.out hm HGR.out HB5.out.size⟩; have Xr6 : Sl (w6.ownsRow wr.heap.size tI 1 (.slice (some ⟨gr, 0, none⟩) k cr) k ((rowT l all ti).map iv)) := ⟨hown⟩; have HT6 : Sl (TP0 w w6 g gn k cn N w3.heap.size (nowF l d p) d ∧ B ≤ w6.heap.size ∧ B ≤ wr.heap.size) := ⟨HT.out.1.below HB6.out, Nat.le_trans HT.out.2 HB6.out.size, HT.out.2⟩; have HX6 : Sl (Blk w6 gx 24 #[.int .i64 f, .int .i64 u, vb] ∧ BM w6 B vb (scn l all early f i).2 L) := ⟨HX5.out.1.below HB6.out HX5.out.1.lt, HX5.out.2.below HB6.out⟩; clear hown hm Xr HGR HB5 HB6 HT HX5 HRL; have HEN6 : Sl (∀ (W : World), Mv w.heap.size w6 W → Below w.heap.size w W) := ⟨fun W h => below_mv HT6.out.1.bl h (Nat.le_refl _) HT6.out.1.bl.size⟩; obtain ⟨zz, hzz⟩ : ∃ zz, gt (rowT l all ti) 0 = zz := ⟨_, rfl⟩; have hrl : 0 < (rowT l all ti).length := (by rw [rowT_len, HLN.out]; exact HN.out.1); have zc := Xr6.out.cellAt 0 (by have := HN.out; omega); rw [List.getElem?_map, gt_at hrl, hzz] at zc; have z0 : w6.cell? ⟨gr, 0, none⟩ = some (.int .i64 zz) := zc
              have hzzb : -300 ≤ zz ∧ zz ≤ 72 := by
                have h1 := rowT_bd (l := l) (most := most) (u := u) (T := ti) hmost.1 hu127 (by rw [HLN.out]; exact HZ.out) zz (by rw [HLN.out, HALL.out.1, ← hzz]; exact gt_mem hrl); exact h1
              have HLB : Sl (lowB (key, rowT l all ti) = (decide (zz < -24) || decide (key + zz < 0))) := ⟨by unfold lowB; rw [hzz]⟩; have hkI0 : (0 : Int) < (k : Int) := (by have := HN.out; omega); have hws : IntKind.i64.wrap (key + zz) = key + zz := (by rw [IntKind.wrap_i64]; omega); clear zc hzz hrl
              by_cases hz1 : zz < -24
              · have hzd : decide (zz < -24) = true := decide_eq_true hz1; have HE : Sl (plE f u l most early = 7) := ⟨by rw [HP6.out, if_pos]; rw [List.any_eq_true]; exact ⟨_, HMEM.out, by rw [HLB.out, hzd]; rfl⟩⟩; go_wp2_with (refine wpList_store_whole rfl 24 (.tmp 10) (.tmp 123) rfl w.heap.size #[.int .i64 0, .int .i64 0, .slice none 0 0] rfl rfl 24 #[.int .i64 0, .int .i64 0, .slice none 0 0] HT6.out.1.x0 rfl size_mx (by simp [Value.oneCell']) ?_; rintro wz hm hsz hbk; have HZE : Sl (Below w.heap.size w wz) := ⟨HEN6.out wz hm⟩; have HBK : Sl _ := ⟨hbk⟩; clear hm hsz hbk); refine bodyPost_ret (results_row2m rfl _ _ w.heap.size _ _ _ rfl HBK.out Tryz.underlying24 rfl (by kernel_rfl)) rfl ?_; exact ⟨PlT.bad HE.out (by decide), HZE.out⟩
              have hzd : decide (zz < -24) = false := decide_eq_false hz1
              by_cases hz2 : key + zz < 0
              · have hzd2 : decide (key + zz < 0) = true := decide_eq_true hz2; have HE : Sl (plE f u l most early = 7) := ⟨by rw [HP6.out, if_pos]; rw [List.any_eq_true]; exact ⟨_, HMEM.out, by rw [HLB.out, hzd, hzd2]; rfl⟩⟩; go_wp2_with (refine wpList_store_whole rfl 24 (.tmp 10) (.tmp 123) rfl w.heap.size #[.int .i64 0, .int .i64 0, .slice none 0 0] rfl rfl 24 #[.int .i64 0, .int .i64 0, .slice none 0 0] HT6.out.1.x0 rfl size_mx (by simp [Value.oneCell']) ?_; rintro wz hm hsz hbk; have HZE : Sl (Below w.heap.size w wz) := ⟨HEN6.out wz hm⟩; have HBK : Sl _ := ⟨hbk⟩; clear hm hsz hbk); refine bodyPost_ret (results_row2m rfl _ _ w.heap.size _ _ _ rfl HBK.out Tryz.underlying24 rfl (by kernel_rfl)) rfl ?_; exact ⟨PlT.bad HE.out (by decide), HZE.out⟩
              have hzd2 : decide (key + zz < 0) = false := decide_eq_false hz2
              have HLW2 : Sl (∀ x ∈ (scn l all early f i).2 ++ [(key, rowT l all ti)], lowB x = false) := ⟨fun x hx => by
                rcases List.mem_append.1 hx with h1 | h1
                · exact HLOW.out x h1
                · rw [List.mem_singleton.1 h1, HLB.out, hzd, hzd2]; rfl⟩
              obtain ⟨nl, hnl⟩ : ∃ m, L.length = m := ⟨_, rfl⟩
              have hnl61 : nl ≤ 61 := by
                have h1 := HX6.out.2.len; have h2 := scn_count (l := l) (all := all) (e := early) (a := f) i; have h3 := HKY.out; have h4 := HCF.out; omega
              have HNL : Sl (L.length = nl) := ⟨hnl⟩; obtain ⟨nm, hnm⟩ : ∃ m, nl + 1 = m := ⟨_, rfl⟩; have HNM : Sl (nl + 1 = nm) := ⟨hnm⟩; have hnm62 : nm ≤ 62 := (by omega); clear hnm; have ho := HX6.out.2.own; rw [hnl] at ho; have HOWN : Sl _ := ⟨ho⟩; have x2 := HX6.out.1.cell 2; simp at x2; clear ho hnl HLB HLOW; have HNO : Sl (∀ x ∈ all, x.2 ≤ ti) := ⟨by have h := HPS2.out; rw [show p = N by have := HPN.out.1; omega] at h; exact h.none⟩
              have HOO : Sl (plO f u l most early = (scn l all early f i).2 ++ [(key, rowT l all ti)]) := ⟨by
                have h1 := HKY.out; unfold plO; rw [HLN.out, HALL.out.1]
                rw [scn_idle (k := i + 1) (Nat.succ_pos i) (by omega) (fun x hx hT => by rw [HSC.out] at hT; have := HNO.out x hx; simp only [] at hT; omega), HSC.out]⟩
              have HOL : Sl ((plO f u l most early).length = nm) := ⟨by have h1 := HX6.out.2.len; have h2 := HNL.out; have h3 := HNM.out; rw [HOO.out, List.length_append, ← h1, h2, ← h3]; rfl⟩
              have HANY : Sl ((plO f u l most early).any lowB = false) := ⟨by
                rw [List.any_eq_false, HOO.out]; intro x hx; rw [HLW2.out x hx]; decide⟩
              by_cases h12 : 12 < nm
              · have hd12 : decide ((12 : Int) < (nm : Int)) = true := decide_eq_true (by omega); have h12I : (12 : Int) < (nm : Int) := (by omega); have HE : Sl (plE f u l most early = 3) := ⟨by rw [HP6.out, HANY.out, if_neg (by decide), if_pos (by rw [HOL.out]; exact h12)]⟩
                go_wp2_with ((with_reducible show wpList _ _ _ _ _ _); first
                  | (at_builtin; (refine wpList_append_any _ rfl (.tmp 125) (.tmp 129) _ rfl B tB i1 z1 2 32 Tryz.underlying22 HJ.out.1 HJ.out.2.1 HJ.out.2.2.1 HJ.out.2.2.2.1 HJ.out.2.2.2.2 (by decide) vb nl _ rfl (xown_alloc HOWN.out _) _ (some ⟨w6.heap.size, 0, none⟩) 1 1 [.int .i64 key, .slice (some ⟨gr, 0, none⟩) k cr] rfl (xreads2 _ _ _ _) (by intro u hu; simp at hu; rcases hu with rfl | rfl <;> rfl) (by unfold maxLen; omega) (by omega) (by have := HT6.out.2.1; simp; omega) ?_; rintro v7 w7 hown hg hat; rw [HNM.out] at hown; obtain ⟨gb, cb, rfl, hgb, hgl⟩ := hown.form (by have := HNM.out; omega); have XB7 : Sl (BM w7 B (.slice (some ⟨gb, 0, none⟩) nm cb) ((scn l all early f i).2 ++ [(key, rowT l all ti)]) (L ++ [⟨key, some ⟨gr, 0, none⟩, k, cr, rowT l all ti⟩])) := ⟨BM.push (b := ⟨key, some ⟨gr, 0, none⟩, k, cr, rowT l all ti⟩) HX6.out.2 (xown_base Xr6.out HT6.out.2.2) (by rw [HNL.out, HNM.out]; exact hown) hg⟩; obtain ⟨q, hq, hm7⟩ := mv_grown hg B (fun k hk => (HOWN.out.lt k hk).1) HT6.out.2.1; have HT7 : Sl (TP0 w w7 g gn k cn N w3.heap.size (nowF l d p) d ∧ B ≤ w7.heap.size) := ⟨HT6.out.1.mv hm7 (by have := ORD.out; omega), Nat.le_trans HT6.out.2.1 hm7.size⟩; have HX7 : Sl (Blk w7 gx 24 #[.int .i64 f, .int .i64 u, vb]) := ⟨HX6.out.1.mv hm7 (by have := ORD.out; omega)⟩; clear hown hg hat hgb hgl hm7 hq))
                  | (refine wpList_store_cell rfl 22 (.tmp 131) (.tmp 130) rfl gx 2 (.slice (some ⟨gb, 0, none⟩) nm cb) rfl rfl 24 #[.int .i64 f, .int .i64 u, vb] #[.int .i64 f, .int .i64 u, .slice (some ⟨gb, 0, none⟩) nm cb] HX7.out (Nat.le_refl 3) rfl size_brks rfl rfl ?_; rintro w8 hm8 hsz8 hbk8 hqq; clear hqq; have HT8 : Sl (TP0 w w8 g gn k cn N w3.heap.size (nowF l d p) d ∧ B ≤ w8.heap.size) := ⟨HT7.out.1.mvx hm8 (by have := ORD.out; omega), Nat.le_trans HT7.out.2 hm8.size⟩; have XB8 : Sl (BM w8 B (.slice (some ⟨gb, 0, none⟩) nm cb) ((scn l all early f i).2 ++ [(key, rowT l all ti)]) (L ++ [⟨key, some ⟨gr, 0, none⟩, k, cr, rowT l all ti⟩])) := ⟨XB7.out.mvlo hm8 (by have := ORD.out; omega)⟩; have HX8 : Sl (Blk w8 gx 24 #[.int .i64 f, .int .i64 u, .slice (some ⟨gb, 0, none⟩) nm cb]) := ⟨hbk8⟩; clear hm8 hsz8 hbk8 x2; have q0 := HX8.out.cell 0; have q1 := HX8.out.cell 1; have q2 := HX8.out.cell 2; simp at q0 q1 q2; have HEN8 : Sl (∀ (W : World), Mv w.heap.size w8 W → Below w.heap.size w W) := ⟨fun W h => below_mv HT8.out.1.bl h (Nat.le_refl _) HT8.out.1.bl.size⟩)
                  | (refine wpList_store_whole rfl 24 (.tmp 10) (.tmp 139) rfl w.heap.size #[.int .i64 0, .int .i64 0, .slice none 0 0] rfl rfl 24 #[.int .i64 0, .int .i64 0, .slice none 0 0] HT8.out.1.x0 rfl size_mx (by simp [Value.oneCell']) ?_; rintro wz hm hsz hbk; have HZE : Sl (Below w.heap.size w wz) := ⟨HEN8.out wz hm⟩; have HBK : Sl _ := ⟨hbk⟩; clear hm hsz hbk))
                refine bodyPost_ret (results_row2m rfl _ _ w.heap.size _ _ _ rfl HBK.out Tryz.underlying24 rfl (by kernel_rfl)) rfl ?_; exact ⟨PlT.bad HE.out (by decide), HZE.out⟩
              · have hd12 : decide ((12 : Int) < (nm : Int)) = false := decide_eq_false (by omega); have h12I : ¬ (12 : Int) < (nm : Int) := (by omega); have HE : Sl (plE f u l most early = 0) := ⟨by rw [HP6.out, HANY.out, if_neg (by decide), if_neg (by rw [HOL.out]; exact h12)]⟩
                go_wp2_with ((with_reducible show wpList _ _ _ _ _ _); first
                  | (at_builtin; (refine wpList_append_any _ rfl (.tmp 125) (.tmp 129) _ rfl B tB i1 z1 2 32 Tryz.underlying22 HJ.out.1 HJ.out.2.1 HJ.out.2.2.1 HJ.out.2.2.2.1 HJ.out.2.2.2.2 (by decide) vb nl _ rfl (xown_alloc HOWN.out _) _ (some ⟨w6.heap.size, 0, none⟩) 1 1 [.int .i64 key, .slice (some ⟨gr, 0, none⟩) k cr] rfl (xreads2 _ _ _ _) (by intro u hu; simp at hu; rcases hu with rfl | rfl <;> rfl) (by unfold maxLen; omega) (by omega) (by have := HT6.out.2.1; simp; omega) ?_; rintro v7 w7 hown hg hat; rw [HNM.out] at hown; obtain ⟨gb, cb, rfl, hgb, hgl⟩ := hown.form (by have := HNM.out; omega); have XB7 : Sl (BM w7 B (.slice (some ⟨gb, 0, none⟩) nm cb) ((scn l all early f i).2 ++ [(key, rowT l all ti)]) (L ++ [⟨key, some ⟨gr, 0, none⟩, k, cr, rowT l all ti⟩])) := ⟨BM.push (b := ⟨key, some ⟨gr, 0, none⟩, k, cr, rowT l all ti⟩) HX6.out.2 (xown_base Xr6.out HT6.out.2.2) (by rw [HNL.out, HNM.out]; exact hown) hg⟩; obtain ⟨q, hq, hm7⟩ := mv_grown hg B (fun k hk => (HOWN.out.lt k hk).1) HT6.out.2.1; have HT7 : Sl (TP0 w w7 g gn k cn N w3.heap.size (nowF l d p) d ∧ B ≤ w7.heap.size) := ⟨HT6.out.1.mv hm7 (by have := ORD.out; omega), Nat.le_trans HT6.out.2.1 hm7.size⟩; have HX7 : Sl (Blk w7 gx 24 #[.int .i64 f, .int .i64 u, vb]) := ⟨HX6.out.1.mv hm7 (by have := ORD.out; omega)⟩; clear hown hg hat hgb hgl hm7 hq))
                  | (refine wpList_store_cell rfl 22 (.tmp 131) (.tmp 130) rfl gx 2 (.slice (some ⟨gb, 0, none⟩) nm cb) rfl rfl 24 #[.int .i64 f, .int .i64 u, vb] #[.int .i64 f, .int .i64 u, .slice (some ⟨gb, 0, none⟩) nm cb] HX7.out (Nat.le_refl 3) rfl size_brks rfl rfl ?_; rintro w8 hm8 hsz8 hbk8 hqq; clear hqq; have HT8 : Sl (TP0 w w8 g gn k cn N w3.heap.size (nowF l d p) d ∧ B ≤ w8.heap.size) := ⟨HT7.out.1.mvx hm8 (by have := ORD.out; omega), Nat.le_trans HT7.out.2 hm8.size⟩; have XB8 : Sl (BM w8 B (.slice (some ⟨gb, 0, none⟩) nm cb) ((scn l all early f i).2 ++ [(key, rowT l all ti)]) (L ++ [⟨key, some ⟨gr, 0, none⟩, k, cr, rowT l all ti⟩])) := ⟨XB7.out.mvlo hm8 (by have := ORD.out; omega)⟩; have HX8 : Sl (Blk w8 gx 24 #[.int .i64 f, .int .i64 u, .slice (some ⟨gb, 0, none⟩) nm cb]) := ⟨hbk8⟩; clear hm8 hsz8 hbk8 x2; have q0 := HX8.out.cell 0; have q1 := HX8.out.cell 1; have q2 := HX8.out.cell 2; simp at q0 q1 q2; have HEN8 : Sl (∀ (W : World), Mv w.heap.size w8 W → Below w.heap.size w W) := ⟨fun W h => below_mv HT8.out.1.bl h (Nat.le_refl _) HT8.out.1.bl.size⟩)
                  | (refine wpList_store_whole rfl 24 (.tmp 10) (.tmp 140) rfl w.heap.size #[.int .i64 f, .int .i64 u, .slice (some ⟨gb, 0, none⟩) nm cb] rfl rfl 24 #[.int .i64 0, .int .i64 0, .slice none 0 0] HT8.out.1.x0 rfl size_mx (by simp [Value.oneCell']) ?_; rintro wz hm hsz hbk; have HZE : Sl (Below w.heap.size w wz) := ⟨HEN8.out wz hm⟩; have HBK : Sl _ := ⟨hbk⟩; have HBM : Sl (BM wz B (.slice (some ⟨gb, 0, none⟩) nm cb) ((scn l all early f i).2 ++ [(key, rowT l all ti)]) (L ++ [(⟨key, some ⟨gr, 0, none⟩, k, cr, rowT l all ti⟩ : Bk)])) := ⟨XB8.out.mvlo hm (by have := ORD.out; omega)⟩; clear hm hsz hbk))
                have HLL : Sl ((L ++ [(⟨key, some ⟨gr, 0, none⟩, k, cr, rowT l all ti⟩ : Bk)]).length = nm) := ⟨by have := HNM.out; have := HNL.out; simp; omega⟩
                have HMEL : Sl (∀ b ∈ (L ++ [(⟨key, some ⟨gr, 0, none⟩, k, cr, rowT l all ti⟩ : Bk)]), i64 b.fr ∧ ∀ z ∈ b.l, i64 z) := ⟨fun b hb => by
                  have hbo : (b.fr, b.l) ∈ plO f u l most early := (by rw [HOO.out, ← HBM.out.told]; exact List.mem_map.2 ⟨b, hb, rfl⟩); have h := plO_mem (f := f) (u := u) (l := l) (most := most) (early := early) hmost.1 hu127 (by rw [HLN.out]; exact HZ.out) hbo; have h2 := HCF.out
                  exact ⟨⟨by have := h.1; simp only [] at this; omega, by have := h.1; simp only [] at this; omega⟩, fun z hz => ⟨by have := h.2.2 z hz; omega, by have := h.2.2 z hz; omega⟩⟩⟩
                have HMX : Sl (MXA wz (some ⟨gb, 0, none⟩) (L ++ [(⟨key, some ⟨gr, 0, none⟩, k, cr, rowT l all ti⟩ : Bk)]).length cb (L ++ [(⟨key, some ⟨gr, 0, none⟩, k, cr, rowT l all ti⟩ : Bk)])) := ⟨by
                  obtain ⟨A7, c7, e7, hm7⟩ := HBM.out.mxa (fun b hb => (HMEL.out b hb).1) (fun b hb => (HMEL.out b hb).2); injection e7 with e7 _ e8
                  subst e7 e8
                  exact hm7⟩
                refine bodyPost_ret (results_row2m rfl _ _ w.heap.size _ _ _ rfl HBK.out Tryz.underlying24 rfl (by kernel_rfl)) rfl ?_; exact ⟨.inl ⟨HE.out, some ⟨gb, 0, none⟩, cb, _, by rw [HLL.out]; rfl, HMX.out, by rw [HOO.out]; exact HBM.out.told⟩, HZE.out⟩
  · have h0b : (r != 0) = true := (by simpa using h0); have HE : Sl (plE f u l most early = r) := ⟨by rw [← HR.out]; exact plE_a (by rw [HR.out]; exact h0)⟩; have H0 : Sl (r ≠ 0) := ⟨h0⟩; clear h0; go_wp2_with (refine wpList_store_whole rfl 24 (.tmp 10) (.tmp 32) rfl w.heap.size #[.int .i64 0, .int .i64 0, .slice none 0 0] rfl rfl 24 #[.int .i64 0, .int .i64 0, .slice none 0 0] X0.out rfl size_mx (by simp [Value.oneCell']) ?_; rintro wz hm hsz hbk; have HZE : Sl (Below w.heap.size w wz) := ⟨HEND.out wz hm⟩; have HBK : Sl _ := ⟨hbk⟩; clear hm hsz hbk); refine bodyPost_ret (results_row2m rfl _ _ w.heap.size _ _ _ rfl HBK.out Tryz.underlying24 rfl (by kernel_rfl)) rfl ?_; exact ⟨PlT.bad HE.out H0.out, HZE.out⟩
end Go.Proofs.YtkjkbhkcebbjdaaGreatDoor
