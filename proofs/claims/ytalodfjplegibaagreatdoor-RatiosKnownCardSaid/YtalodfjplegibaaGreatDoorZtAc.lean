/- The reference of ratios: Parse. (Printed by genrxi.py.) -/
import Derived.Test.YtalodfjplegibaaGreatDoorZtAb
import Derived.Test.YtalodfjplegibaaGreatDoorHlb
namespace Go.Proofs.YtalodfjplegibaaGreatDoor
set_option linter.unusedSimpArgs false
open Go.RowKit
set_option linter.unusedVariables false
theorem alloc_xratio (w : World) : (Instr.alloc 24 true (.tuple #[])).run Tryz.prog w = .ok (.pointer (some ⟨w.heap.size, 0, none⟩)) (w.alloc (.cells RVzero.cells 24)) := by kernel_rfl
theorem size_xratio : (Tryz.prog.info? 24).map (·.size) = some 7 := by kernel_rfl
theorem size_xint : (Tryz.prog.info? 3).map (·.size) = some 1 := by kernel_rfl
theorem RV.xcells_one (r : RV) : r.cells.all (·.oneCell') = true := by unfold RV.cells; simp [Value.oneCell']
theorem termL_bd {L : List UInt8} {k n d : Int} {ng : Bool} {c : Nat} (h : termL L = some (k, ng, n, d, c)) : (0 ≤ k ∧ k < 6) ∧ (-1 ≤ n ∧ n < 1000000) ∧ (-1 ≤ d ∧ d < 1000000) ∧ 1 ≤ c ∧ c ≤ L.length := by
  have hk := pK_bd (nmV L) 6; have l1 := (nmR_le 6 L 0).2; unfold termL at h
  split at h
  · cases h
  · rename_i h0; have hk2 : pK (nmV L) 6 < 6 := hk.2
    split at h
    · cases h
    · rename_i b L2 hd; have e1 := congrArg List.length hd; rw [List.length_drop, List.length_cons] at e1
      split at h
      · split at h
        · injection h with h; injection h with e1' h; injection h with _ h; injection h with e2 h; injection h with e3 e4
          have := nmV_bd ([] : List UInt8); have := (nmR_le 6 ([] : List UInt8) 0).2; rw [List.length_nil] at *
          subst e1' e2 e3 e4; refine ⟨⟨by omega, by omega⟩, ⟨by omega, by omega⟩, ⟨by omega, by omega⟩, by omega, by omega⟩
        · rename_i x L3; rw [List.length_cons] at e1
          split at h
          · have l2 := (nmR_le 6 L3 0).2; have b2 := nmV_bd L3
            split at h
            · injection h with h; injection h with e1' h; injection h with _ h; injection h with e2 h; injection h with e3 e4
              subst e1' e2 e3 e4; refine ⟨⟨by omega, by omega⟩, ⟨by omega, by omega⟩, ⟨by omega, by omega⟩, by omega, by omega⟩
            · rename_i f L5 hd2; have e5 := congrArg List.length hd2; rw [List.length_drop, List.length_cons] at e5; have l5 := (nmR_le 6 L5 0).2; have b5 := nmV_bd L5
              split at h
              · injection h with h; injection h with e1' h; injection h with _ h; injection h with e2 h; injection h with e3 e4
                subst e1' e2 e3 e4; refine ⟨⟨by omega, by omega⟩, ⟨by omega, by omega⟩, ⟨by omega, by omega⟩, by omega, by omega⟩
              · injection h with h; injection h with e1' h; injection h with _ h; injection h with e2 h; injection h with e3 e4
                subst e1' e2 e3 e4; refine ⟨⟨by omega, by omega⟩, ⟨by omega, by omega⟩, ⟨by omega, by omega⟩, by omega, by omega⟩
          · have l2 := (nmR_le 6 (x :: L3) 0).2; have b2 := nmV_bd (x :: L3); rw [List.length_cons] at l2
            split at h
            · injection h with h; injection h with e1' h; injection h with _ h; injection h with e2 h; injection h with e3 e4
              subst e1' e2 e3 e4; refine ⟨⟨by omega, by omega⟩, ⟨by omega, by omega⟩, ⟨by omega, by omega⟩, by omega, by omega⟩
            · rename_i f L5 hd2; have e5 := congrArg List.length hd2; rw [List.length_drop, List.length_cons, List.length_cons] at e5; have l5 := (nmR_le 6 L5 0).2; have b5 := nmV_bd L5
              split at h
              · injection h with h; injection h with e1' h; injection h with _ h; injection h with e2 h; injection h with e3 e4
                subst e1' e2 e3 e4; refine ⟨⟨by omega, by omega⟩, ⟨by omega, by omega⟩, ⟨by omega, by omega⟩, by omega, by omega⟩
              · injection h with h; injection h with e1' h; injection h with _ h; injection h with e2 h; injection h with e3 e4
                subst e1' e2 e3 e4; refine ⟨⟨by omega, by omega⟩, ⟨by omega, by omega⟩, ⟨by omega, by omega⟩, by omega, by omega⟩
      · cases h
theorem join_good {a b q : RV} (ha : checkS a = 0) (hb : checkS b = 0) (h : joinS a b 1 = (q, 0)) : checkS q = 0 := by
  have e0 : firstE (checkS a) (checkS b) = 0 := (by unfold firstE; rw [if_pos ha, hb]); unfold joinS at h; rw [if_pos e0] at h; have hg := joinR_good ha hb (.inl rfl); have hm := madeS_check _ hg.1
  by_cases hc : checkS (mkR (joinR a b 1)) = 0
  · rw [hm.1 hc] at h; injection h with h1 _
    rw [← h1]; exact hc
  · rw [hm.2 hc] at h; injection h with _ h2
    exact absurd h2 (by decide)
theorem one_check : checkS oneR = 0 := check_of (by decide) (by decide) (fun i hi => by unfold oneR; rw [RV.of_num _ _ hi]; exact ⟨by decide, by decide⟩) one_gcd
theorem one_text : txR oneR = [49] := by unfold txR; rw [if_pos (by decide)]
def PInv (s : ByteArray) (a : Nat) (q : RV) : Prop := checkS q = 0 ∧ ∀ r, checkS r = 0 → txR r = s.data.toList →
  ∃ j, At r j q ∧ ((j < (termsN r 6).length ∧ s.data.toList.drop a = Lib.join ((wdsR r).drop j) [32]) ∨ (j = (termsN r 6).length ∧ s.size ≤ a ∧ 0 < a))
theorem PInv.start {s : ByteArray} (h : s.data.toList ≠ [49]) : PInv s 0 oneR := ⟨one_check, fun r hc ht => ⟨0, At.zero hc, by
  by_cases h0 : termsN r 6 = []
  · exact absurd (by rw [← ht]; unfold txR; rw [if_pos h0]) h
  · refine .inl ⟨?_, ?_⟩
    · exact List.length_pos_iff.2 h0
    · rw [List.drop_zero, List.drop_zero, ← ht, (txR_some h0).1]⟩⟩
theorem join_head {x : List UInt8} {l : List (List UInt8)} : ∃ rest, Aft rest ∧ Lib.join (x :: l) [32] = x ++ rest ∧ (l = [] → rest = []) ∧ (l ≠ [] → rest = 32 :: Lib.join l [32]) := by
  cases l with
  | nil => exact ⟨[], .inl rfl, by rw [Lib.join_one, List.append_nil], fun _ => rfl, fun h => absurd rfl h⟩
  | cons y t => exact ⟨32 :: Lib.join (y :: t) [32], .inr ⟨_, rfl⟩, by simp [Lib.join], fun h => (by cases h), fun _ => rfl⟩
theorem PInv.word {s : ByteArray} {a : Nat} {q : RV} (h : PInv s a q) (hc : a = 0 ∨ a < s.size) {r : RV} (h1 : checkS r = 0) (h2 : txR r = s.data.toList) :
    ∃ (i : Nat) (e f : Int) (w : List UInt8), i < 6 ∧ termL (s.data.toList.drop a) = some ((i : Int), decide (e < 0), (e.natAbs : Int), f, w.length) ∧ e ≠ 0 ∧ (-100000 ≤ e ∧ e ≤ 100000) ∧ (1 ≤ f ∧ f ≤ 1000) ∧ checkS (unR i e f) = 0 ∧
      ∃ q' j, joinS q (unR i e f) 1 = (q', 0) ∧ At r (j + 1) q' ∧ j < (termsN r 6).length ∧ ∃ rest, s.data.toList.drop a = w ++ rest ∧ (j + 1 = (termsN r 6).length → rest = []) ∧ (j + 1 < (termsN r 6).length → rest = 32 :: Lib.join ((wdsR r).drop (j + 1)) [32]) := by
  obtain ⟨j, hat, hj | hj⟩ := h.2 r h1 h2
  · obtain ⟨i, i1, i2, i3, ⟨_, i4, i5⟩, q', q1, q2⟩ := hat.step h1 hj.1; have hl : j < (wdsR r).length := (by rw [wds_len]; exact hj.1)
    have e1 : (wdsR r).drop j = wrR (prime i) (r.num i) r.d :: (wdsR r).drop (j + 1) := by
      rw [List.drop_eq_getElem_cons hl]; rw [List.getElem?_eq_getElem hl] at i2; injection i2 with i2
      rw [i2]
    obtain ⟨rest, r1, r2, r3, r4⟩ := join_head (x := wrR (prime i) (r.num i) r.d) (l := (wdsR r).drop (j + 1)); have e2 : s.data.toList.drop a = wrR (prime i) (r.num i) r.d ++ rest := (by rw [hj.2, e1, r2]); have hb := gR_bd i5.1 (k := r.num i); have hk := gR_k (r.num i) r.d; refine ⟨i, (r.num i).tdiv (gR (r.num i) r.d : Nat), r.d.tdiv (gR (r.num i) r.d : Nat), _, i1, by rw [e2]; exact termL_word i1 i4 i5 r1, fun h0 => ?_, ?_, ?_, un_check i1 i4 i5, q', j, q1, q2, hj.1, rest, e2, fun hx => r3 ?_, fun hx => r4 ?_⟩
    · rw [h0, Int.zero_mul] at hk; exact i3 hk.symm
    · have := i4.1; have := i4.2; omega
    · omega
    · exact List.drop_eq_nil_of_le (by rw [wds_len]; omega)
    · intro h0; have := congrArg List.length h0; rw [List.length_drop, wds_len, List.length_nil] at this; omega
  · exfalso; rcases hc with hc | hc <;> omega
theorem PInv.next {s : ByteArray} {a c : Nat} {q q' : RV} {i : Nat} {ng : Bool} {n d e : Int} (h : PInv s a q) (hc : a = 0 ∨ a < s.size) (ht : termL (s.data.toList.drop a) = some ((i : Int), ng, n, d, c)) (he : (if ng = true then -n else n) = e)
    (hn : 0 < n) (hu : checkS (unR i e d) = 0) (hj : joinS q (unR i e d) 1 = (q', 0)) : PInv s (if a + c < s.size then a + c + 1 else a + c) q' := by
  refine ⟨join_good h.1 hu hj, fun r h1 h2 => ?_⟩; obtain ⟨i', e', f, w, i1, i2, i3, i4, i5, i6, q2, j, j1, j2, j3, rest, r1, r2, r3⟩ := h.word hc h1 h2; have hl := congrArg List.length r1; rw [List.length_drop, Array.length_toList, List.length_append] at hl; have hsz : s.data.size = s.size := rfl; rw [hsz] at hl; have hcb := termL_bd ht; rw [ht] at i2; injection i2 with i2; injection i2 with e1 i2; injection i2 with e2 i2; injection i2 with e3 i2; injection i2 with e4 e5
  have hii : i = i' := (by omega); subst hii e4 e5
  have hee : e = e' := by
    rw [← he, e2]
    by_cases h0 : e' < 0
    · rw [decide_eq_true h0, if_pos rfl, e3]; omega
    · rw [decide_eq_false h0, if_neg (by decide), e3]; omega
  subst hee; rw [hj] at j1; injection j1 with j1 _
  subst j1; refine ⟨j + 1, j2, ?_⟩; have hw1 : 1 ≤ w.length := hcb.2.2.2.1; rcases Nat.lt_or_ge (j + 1) (termsN r 6).length with h5 | h5
  · have hr := r3 h5; rw [hr, List.length_cons] at hl; rw [if_pos (by omega)]; refine .inl ⟨h5, ?_⟩; have e6 : s.data.toList.drop (a + w.length + 1) = ((s.data.toList.drop a).drop w.length).drop 1 := (by rw [List.drop_drop, List.drop_drop]; rfl); rw [e6, r1, List.drop_left, hr]; rfl
  · have hr := r2 (by omega); rw [hr, List.length_nil] at hl; rcases hc with hc | hc
    · rw [if_neg (by omega)]; exact .inr ⟨by omega, by omega, by omega⟩
    · rw [if_neg (by omega)]; exact .inr ⟨by omega, by omega, by omega⟩
theorem PInv.last {s : ByteArray} {a : Nat} {q : RV} (h : PInv s a q) (ha : 0 < a) (hs : s.size ≤ a) {r : RV} (h1 : checkS r = 0) (h2 : txR r = s.data.toList) : q = r := by
  obtain ⟨j, hat, hj | hj⟩ := h.2 r h1 h2
  · exfalso; have hl : j < (wdsR r).length := (by rw [wds_len]; exact hj.1); have e2 := hj.2; rw [drop_end hs, List.drop_eq_getElem_cons hl] at e2; obtain ⟨rest, _, r2, _⟩ := join_head (x := (wdsR r)[j]) (l := (wdsR r).drop (j + 1)); rw [r2] at e2; obtain ⟨x, hx, hxw⟩ := List.mem_map.1 (List.getElem_mem hl : (wdsR r)[j] ∈ wdsR r); rw [← hxw] at e2; have := congrArg List.length e2; unfold wrR at this; simp at this
  · exact At.last h1 (by rw [← hj.1]; exact hat)
attribute [-simp] Tryz.isAgg24
end Go.Proofs.YtalodfjplegibaaGreatDoor
