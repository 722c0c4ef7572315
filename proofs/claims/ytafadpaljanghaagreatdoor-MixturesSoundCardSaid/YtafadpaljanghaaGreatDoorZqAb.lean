/- The law MixturesSums walks to true. -/
import Derived.Test.YtafadpaljanghaaGreatDoorZqA
import Derived.Test.YtafadpaljanghaaGreatDoorMyV
import Derived.Test.YtafadpaljanghaaGreatDoorMyU
import Derived.Test.YtafadpaljanghaaGreatDoorHld
import Derived.Test.YtafadpaljanghaaGreatDoorMyL
import Derived.Test.YtafadpaljanghaaGreatDoorMyS
import Derived.Test.YtafadpaljanghaaGreatDoorMyJ
import Derived.Test.YtafadpaljanghaaGreatDoorShelB
import Derived.Laws.Strings
namespace Go.Proofs.YtafadpaljanghaaGreatDoor
set_option linter.unusedSimpArgs false
open Go.RowKit
set_option linter.unusedVariables false
theorem flatS_get {α : Type} (f : α → List Value) (sz : Nat) (hf : ∀ p, (f p).length = sz) : ∀ (l : List α) (i : Nat) (p : α) (t : Nat), l[i]? = some p → t < sz → (l.flatMap f)[i * sz + t]? = (f p)[t]?
  | [], i, p, t, h, _ => by cases h
  | y :: l, 0, p, t, h, ht => by
    have : y = p := (by simpa using h); subst this; rw [Nat.zero_mul, Nat.zero_add, List.flatMap_cons, List.getElem?_append_left (by rw [hf]; exact ht)]
  | y :: l, i+1, p, t, h, ht => by
    have h1 : l[i]? = some p := (by simpa using h); rw [List.flatMap_cons, List.getElem?_append_right (by rw [hf, Nat.succ_mul]; omega), hf, show (i + 1) * sz + t - sz = i * sz + t by rw [Nat.succ_mul]; omega]; exact flatS_get f sz hf l i p t h1 ht
theorem flatS_cells {w : World} {B sz n : Nat} {A : Option Addr} {α : Type} {f : α → List Value} {l : List α} (h : Reads w B sz A n (l.flatMap f)) (hf : ∀ p, (f p).length = sz) (hl : l.length = n) {i : Nat} (hi : i < n) :
    ∃ ad p, A = some ad ∧ l[i]? = some p ∧ ∀ t u, (f p)[t]? = some u → w.cell? ((ad.add (i * sz)).add t) = some u := by
  obtain ⟨ad, e, hb, hc⟩ := h.2 (by omega); refine ⟨ad, l[i]'(by omega), e, List.getElem?_eq_getElem (by omega), fun t u ht => ?_⟩
  have htl : t < sz := by
    rcases Nat.lt_or_ge t sz with h | h
    · exact h
    · rw [List.getElem?_eq_none (by rw [hf]; exact h)] at ht; cases ht
  rw [add_of_add]; refine hc _ _ ?_; rw [flatS_get f sz hf l i _ t (List.getElem?_eq_getElem (by omega)) htl]; exact ht
def Mx.lst (x : Mx) : Nat → Nat
  | 0 => 8
  | k+1 => min (x.lst k) (x.rk k).length
end Go.Proofs.YtafadpaljanghaaGreatDoor
namespace Go.Proofs.YtafadpaljanghaaGreatDoor
set_option linter.unusedSimpArgs false
open Go.RowKit
set_option linter.unusedVariables false
structure RKS (w : World) (A : Option Addr) (n : Nat) (R : List RkV) : Prop where
  len : R.length = n
  rd : Reads w w.heap.size 6 A n (R.flatMap RkV.cells)
theorem RKS.below {w w' : World} {A : Option Addr} {n : Nat} {R : List RkV} (h : RKS w A n R) (hb : Below w.heap.size w w') : RKS w' A n R := ⟨h.len, (h.rd.below hb).more hb.size⟩
theorem RKS.cells {w : World} {A : Option Addr} {n : Nat} {R : List RkV} (h : RKS w A n R) {i : Nat} (hi : i < n) :
    ∃ ad r, A = some ad ∧ R[i]? = some r ∧ w.cell? (ad.add (i * 6)) = some (.string r.nm) ∧ w.cell? ((ad.add (i * 6)).add 1) = some (.int .i64 r.kind) ∧ w.cell? ((ad.add (i * 6)).add 2) = some (.int .i64 r.num) ∧ w.cell? ((ad.add (i * 6)).add 3) = some (.int .i64 r.den) ∧ w.cell? ((ad.add (i * 6)).add 4) = some (.int .i64 r.low) ∧ w.cell? ((ad.add (i * 6)).add 5) = some (.int .i64 r.cnt) := by
  obtain ⟨ad, r, e, hr, hc⟩ := flatS_cells h.rd (fun _ => rfl) h.len hi; have c0 := hc 0 _ rfl; rw [show ∀ ad : Addr, ad.add 0 = ad from fun ad => by simp [Addr.add]] at c0; exact ⟨ad, r, e, hr, c0, hc 1 _ rfl, hc 2 _ rfl, hc 3 _ rfl, hc 4 _ rfl, hc 5 _ rfl⟩
def RkV.fit (r : RkV) : Prop := i64 r.kind ∧ i64 r.num ∧ i64 r.den ∧ i64 r.low ∧ i64 r.cnt
end Go.Proofs.YtafadpaljanghaaGreatDoor
namespace Go.Proofs.YtafadpaljanghaaGreatDoor
open Go.ChangeShapes Go.WideShapes Go.ChangeAt Go.RowKit Go.Deep
set_option linter.unusedVariables false
set_option linter.unusedSimpArgs false
set_option maxRecDepth 100000 in
theorem feet_trod {H : Type} {enc : TypeId × Value → H} {W : World} {fuel : Nat} {cs : List Value} {x : DataW H × List MemPlace} (h : DataW.trod enc Tryz.prog W 0 (fun _ => true) true fuel 23 cs = some x) :
    ∃ num den : Int, cs = [.int .i64 num, .int .i64 den] ∧ i64 num ∧ i64 den := by
  obtain ⟨y0, y1, n, hx, hl, h0, h1⟩ := trod_struct2 Tryz.underlying23 h; have c1 : Tryz.prog.cellsOf 3 = 1 := (by kernel_rfl); have c7 : Tryz.prog.cellsOf 23 = 2 := (by kernel_rfl); rw [c7] at hl
  match cs, hl with
  | [u0, u1], _ =>
    simp only [c1, List.drop_zero, List.drop_succ_cons, List.take_succ_cons, List.take_zero] at h0 h1; obtain ⟨a, e0, _, ha⟩ := DataW.trod_int Tryz.underlying3 h0; obtain ⟨b, e1, _, hb⟩ := DataW.trod_int Tryz.underlying3 h1; simp at e0 e1; subst e0 e1; exact ⟨a, b, rfl, wf_i64 ha, wf_i64 hb⟩
set_option maxRecDepth 100000 in
theorem rank_trod {H : Type} {enc : TypeId × Value → H} {W : World} {fuel : Nat} {cs : List Value} {x : DataW H × List MemPlace} (h : DataW.trod enc Tryz.prog W 0 (fun _ => true) true fuel 45 cs = some x) :
    ∃ r : RkV, cs = r.cells ∧ r.fit := by
  obtain ⟨y0, y1, y2, y3, y4, n, hx, hl, h0, h1, h2, h3, h4⟩ := trod_struct5 Tryz.underlying45 h; have c1 : Tryz.prog.cellsOf 3 = 1 := (by kernel_rfl); have c2 : Tryz.prog.cellsOf 9 = 1 := (by kernel_rfl); have c3 : Tryz.prog.cellsOf 23 = 2 := (by kernel_rfl); have c7 : Tryz.prog.cellsOf 45 = 6 := (by kernel_rfl); rw [c7] at hl
  match cs, hl with
  | [u0, u1, u2, u3, u4, u5], _ =>
    simp only [c1, c2, c3, List.drop_zero, List.drop_succ_cons, List.take_succ_cons, List.take_zero] at h0 h1 h2 h3 h4; obtain ⟨s, e0, _, _⟩ := DataW.trod_string Tryz.underlying9 h0; obtain ⟨k, e1, _, hk⟩ := DataW.trod_int Tryz.underlying3 h1; obtain ⟨a, b, e2, ha, hb⟩ := feet_trod h2; obtain ⟨lo, e3, _, hlo⟩ := DataW.trod_int Tryz.underlying3 h3; obtain ⟨ct, e4, _, hct⟩ := DataW.trod_int Tryz.underlying3 h4; simp at e0 e1 e2 e3 e4; obtain ⟨e2, e2'⟩ := e2; subst e0 e1 e2 e2' e3 e4; exact ⟨⟨s, k, a, b, lo, ct⟩, rfl, wf_i64 hk, ha, hb, wf_i64 hlo, wf_i64 hct⟩
theorem flatR6_len : ∀ R : List RkV, (R.flatMap RkV.cells).length = R.length * 6
  | [] => rfl
  | r :: R => by rw [List.flatMap_cons, List.length_append, flatR6_len R, List.length_cons, Nat.succ_mul]; show 6 + _ = _; omega
set_option maxRecDepth 100000 in
theorem ranks_arg {H : Type} {enc : TypeId × Value → H} {W : World} {base : Nat} {v : Value} {d : DataW H} {ps : List MemPlace} (hval : Value.okWide Tryz.prog W .any base 35 v) (hT : DataW.Trod enc Tryz.prog W 0 (fun _ => true) true 35 v d ps) (hb : ∀ p ∈ ps, p.block < W.heap.size) :
    ∃ A n c R, v = .slice A n c ∧ RKS W A n R ∧ (n ≤ c ∧ c ≤ maxLen) ∧ ∀ r ∈ R, r.fit := by
  obtain ⟨a0, len0, cap0, rfl⟩ := okWide_slice Tryz.underlying35 hval; obtain ⟨fuel, h⟩ := hT; rcases open_slice Tryz.underlying35 h with ⟨hv, _⟩ | ⟨a, len, cap, m, n, D, Pl, hv, _, hlc, hcm, hm, hx, hi⟩
  · simp [Value.cells] at hv; obtain ⟨rfl, rfl, rfl⟩ := hv; exact ⟨none, 0, 0, [], rfl, ⟨rfl, Reads.none_⟩, ⟨Nat.le_refl _, by decide⟩, fun b hb => (by cases hb)⟩
  · simp [Value.cells] at hv; obtain ⟨rfl, rfl, rfl⟩ := hv; simp only [if_true] at hm; subst hm; have c3 : Tryz.prog.cellsOf 45 = 6 := (by kernel_rfl); simp only [Prod.mk.injEq] at hx; obtain ⟨_, rfl⟩ := hx; rw [c3] at hb
    have hel : ∀ i, ∃ r : RkV, i < m → (∀ t u, r.cells[t]? = some u → W.cell? (a.add (i * 6 + t)) = some u) ∧ r.fit := fun i => by
      by_cases him : i < m
      · obtain ⟨cs', hc, ht⟩ := hi i him; obtain ⟨r, rfl, g1⟩ := rank_trod ht; rw [c3] at hc; obtain ⟨_, hcl, hat⟩ := World.cells?_some hc; refine ⟨r, fun _ => ⟨fun t u hu => ?_, g1⟩⟩
        have ht6 : t < 6 := by
          rcases Nat.lt_or_ge t 6 with h | h
          · exact h
          · rw [List.getElem?_eq_none (by exact h)] at hu; cases hu
        have := hat t (by exact ht6); rw [add_of_add] at this; rw [this, ← hu]
        try (match t, ht6 with
        | 0, _ => rfl
        | 1, _ => rfl
        | 2, _ => rfl
        | 3, _ => rfl
        | 4, _ => rfl
        | 5, _ => rfl)
      · exact ⟨rk0, fun h => absurd h him⟩
    obtain ⟨B, hs⟩ := Classical.axiomOfChoice hel; refine ⟨some a, len0, m, (List.range len0).map B, rfl, ⟨by simp, ?_, fun h0 => ⟨a, rfl, ?_, fun j u hu => ?_⟩⟩, ⟨hlc, hcm⟩, fun r hr => ?_⟩
    · rw [flatR6_len]; simp
    · exact hb _ (List.mem_append_left _ (MemPlace.mem_row.2 ⟨0, by omega, rfl⟩))
    · have hjl : j < len0 * 6 := by
        rcases Nat.lt_or_ge j (len0 * 6) with h | h
        · exact h
        · rw [List.getElem?_eq_none (by rw [flatR6_len]; simpa using h)] at hu; cases hu
      have hq : ((List.range len0).map B)[j / 6]? = some (B (j / 6)) := by
        rw [List.getElem?_map, List.getElem?_range (by omega)]; rfl
      have hg := flatS_get RkV.cells 6 (fun _ => rfl) _ _ _ (j % 6) hq (by omega); rw [show j / 6 * 6 + j % 6 = j by omega] at hg; rw [hg] at hu; have := (hs (j / 6) (by omega)).1 (j % 6) u hu; rw [show j / 6 * 6 + j % 6 = j by omega] at this; exact this
    · obtain ⟨i, hi2⟩ := List.mem_iff_getElem?.1 hr; rw [List.getElem?_map] at hi2; rcases Nat.lt_or_ge i len0 with hil | hil
      · rw [List.getElem?_range hil] at hi2; injection hi2 with hi2
        rw [← hi2]; exact (hs i (by omega)).2
      · rw [List.getElem?_eq_none (by simpa using hil)] at hi2; cases hi2
end Go.Proofs.YtafadpaljanghaaGreatDoor
namespace Go.Proofs.YtafadpaljanghaaGreatDoor
set_option linter.unusedSimpArgs false
open Go.RowKit
set_option linter.unusedVariables false
theorem RkV.bad_ways (r : RkV) : (r.low < 0 ∧ r.bad = true) ∨ (0 ≤ r.low ∧ 127 < r.low ∧ r.bad = true) ∨ (0 ≤ r.low ∧ r.low ≤ 127 ∧ r.cnt < 1 ∧ r.bad = true) ∨ (0 ≤ r.low ∧ r.low ≤ 127 ∧ 1 ≤ r.cnt ∧ 97 < r.cnt ∧ r.bad = true) ∨ (0 ≤ r.low ∧ r.low ≤ 127 ∧ 1 ≤ r.cnt ∧ r.cnt ≤ 97 ∧ 128 < r.low + r.cnt ∧ r.bad = true) ∨ (0 ≤ r.low ∧ r.low ≤ 127 ∧ 1 ≤ r.cnt ∧ r.cnt ≤ 97 ∧ r.low + r.cnt ≤ 128 ∧ r.bad = false) := by
  have hb : r.bad = true ↔ (r.low < 0 ∨ 127 < r.low ∨ r.cnt < 1 ∨ 97 < r.cnt ∨ 128 < r.low + r.cnt) := by
    unfold RkV.bad; simp only [Bool.or_eq_true, decide_eq_true_eq, or_assoc]
  have hb2 : r.bad = false ↔ ¬ (r.low < 0 ∨ 127 < r.low ∨ r.cnt < 1 ∨ 97 < r.cnt ∨ 128 < r.low + r.cnt) := by
    rw [← hb]; simp
  rw [hb2, hb]; omega
set_option maxHeartbeats 6400000 in
set_option maxRecDepth 100000 in
theorem mhas_any (p : Addr) (r : RkV) (f t : Int) (w : World) (c4 : w.cell? ⟨p.block, p.off + 4, none⟩ = some (.int .i64 r.low)) (c5 : w.cell? ⟨p.block, p.off + 5, none⟩ = some (.int .i64 r.cnt)) (hf : i64 f) (ht : i64 t) :
    Calls Tryz.prog 37 #[.pointer (some p), .int .i64 f, .int .i64 t] w fun e w' => e = .returned (.bool (r.hasP f t)) ∧ ∃ m, w' = w.drewN m := by
  have HH : Sl (r.hasP f t = (!r.bad && (decide (r.low ≤ f) && decide (t < r.low + r.cnt)))) := ⟨rfl⟩; obtain ⟨lo, hlo⟩ : ∃ lo, r.low = lo := ⟨_, rfl⟩; obtain ⟨ct, hct⟩ : ∃ ct, r.cnt = ct := ⟨_, rfl⟩; have hw := r.bad_ways; rw [hlo] at c4 hw HH; rw [hct] at c5 hw HH; clear hlo hct hf ht; rcases hw with ⟨h1, hb⟩ | ⟨h1, h2, hb⟩ | ⟨h1, h2, h3, hb⟩ | ⟨h1, h2, h3, h4, hb⟩ | ⟨h1, h2, h3, h4, h5, hb⟩ | ⟨h1, h2, h3, h4, h5, hb⟩
  · have d1 : decide (lo < 0) = true := decide_eq_true h1; rw [hb] at HH; have HF : Sl (r.hasP f t = false) := ⟨HH.out⟩; clear hb HH; go_enter Tryz.func37, Tryz.ntmps37; go_wp2_with fail
    go_quiet (fail)
    go_wp2_with fail; go_ret; exact ⟨by rw [HF.out]; rfl, _, rfl⟩
  · have d1 : decide (lo < 0) = false := decide_eq_false (by omega); have d2 : decide (127 < lo) = true := decide_eq_true h2; rw [hb] at HH; have HF : Sl (r.hasP f t = false) := ⟨HH.out⟩; clear hb HH; go_enter Tryz.func37, Tryz.ntmps37; go_wp2_with fail
    go_quiet (fail)
    go_wp2_with fail; go_ret; exact ⟨by rw [HF.out]; rfl, _, rfl⟩
  · have d1 : decide (lo < 0) = false := decide_eq_false (by omega); have d2 : decide (127 < lo) = false := decide_eq_false (by omega); have d3 : decide (ct < 1) = true := decide_eq_true h3; rw [hb] at HH; have HF : Sl (r.hasP f t = false) := ⟨HH.out⟩; clear hb HH; go_enter Tryz.func37, Tryz.ntmps37; go_wp2_with fail
    go_quiet (fail)
    go_wp2_with fail; go_ret; exact ⟨by rw [HF.out]; rfl, _, rfl⟩
  · have d1 : decide (lo < 0) = false := decide_eq_false (by omega); have d2 : decide (127 < lo) = false := decide_eq_false (by omega); have d3 : decide (ct < 1) = false := decide_eq_false (by omega); have d4 : decide (97 < ct) = true := decide_eq_true h4; rw [hb] at HH; have HF : Sl (r.hasP f t = false) := ⟨HH.out⟩; clear hb HH; go_enter Tryz.func37, Tryz.ntmps37; go_wp2_with fail
    go_quiet (fail)
    go_wp2_with fail; go_ret; exact ⟨by rw [HF.out]; rfl, _, rfl⟩
  · have d1 : decide (lo < 0) = false := decide_eq_false (by omega); have d2 : decide (127 < lo) = false := decide_eq_false (by omega); have d3 : decide (ct < 1) = false := decide_eq_false (by omega); have d4 : decide (97 < ct) = false := decide_eq_false (by omega); have d5 : decide (128 < lo + ct) = true := decide_eq_true h5; rw [hb] at HH; have HF : Sl (r.hasP f t = false) := ⟨HH.out⟩; clear hb HH; go_enter Tryz.func37, Tryz.ntmps37; go_wp2_with fail
    go_quiet (fail)
    go_wp2_with fail; go_ret; exact ⟨by rw [HF.out]; rfl, _, rfl⟩
  · have d1 : decide (lo < 0) = false := decide_eq_false (by omega); have d2 : decide (127 < lo) = false := decide_eq_false (by omega); have d3 : decide (ct < 1) = false := decide_eq_false (by omega); have d4 : decide (97 < ct) = false := decide_eq_false (by omega); have d5 : decide (128 < lo + ct) = false := decide_eq_false (by omega); rw [hb] at HH; have HF : Sl (r.hasP f t = (decide (lo ≤ f) && decide (t < lo + ct))) := ⟨HH.out⟩; clear hb HH; go_enter Tryz.func37, Tryz.ntmps37; go_wp2_with fail
    go_quiet (fail)
    have q4 : (w.drewN nq).cell? ⟨p.block, p.off + 4, none⟩ = some (.int .i64 lo) := c4; have q5 : (w.drewN nq).cell? ⟨p.block, p.off + 5, none⟩ = some (.int .i64 ct) := c5
    by_cases h6 : lo ≤ f
    · have d6 : decide (lo ≤ f) = true := decide_eq_true h6
      by_cases h7 : t < lo + ct
      · have d7 : decide (t < lo + ct) = true := decide_eq_true h7; rw [d6, d7] at HF; go_wp2_with fail
        go_quiet (fail)
        go_wp2_with fail; go_ret; exact ⟨by rw [HF.out]; rfl, _, by simp; rfl⟩
      · have d7 : decide (t < lo + ct) = false := decide_eq_false h7; rw [d6, d7] at HF; go_wp2_with fail
        go_quiet (fail)
        go_wp2_with fail; go_ret; exact ⟨by rw [HF.out]; rfl, _, by simp; rfl⟩
    · have d6 : decide (lo ≤ f) = false := decide_eq_false h6; rw [d6] at HF; go_wp2_with fail
      go_quiet (fail)
      go_wp2_with fail; go_ret; exact ⟨by rw [HF.out]; rfl, _, by simp; rfl⟩
end Go.Proofs.YtafadpaljanghaaGreatDoor
namespace Go.Proofs.YtafadpaljanghaaGreatDoor
set_option linter.unusedSimpArgs false
open Go.RowKit
set_option linter.unusedVariables false
end Go.Proofs.YtafadpaljanghaaGreatDoor
namespace Go.Proofs.YtafadpaljanghaaGreatDoor
set_option linter.unusedSimpArgs false
open Go.RowKit
set_option linter.unusedVariables false
def BrQm (A : Nat → Act) (F : Nat → World → Prop) : Exit → Act → World → Prop
  | .normal, a, w => ∃ g, a = A g ∧ F g w
  | _, _, _ => False
theorem wp_branchm {P : Program} {c : Code} {Q : Exit → Act → World → Prop} {a : Act} {w : World} (F : Nat → World → Prop) {A : Nat → Act} (h2 : c.wp P (BrQm A F) a w) (h1 : ∀ g w', F g w' → Q .normal (A g) w') : c.wp P Q a w :=
  Code.wp_mono (fun e a' w' h => by
    cases e <;> first | exact h.elim | (obtain ⟨g, rfl, hF⟩ := h; exact h1 g w' hF)) h2
section
variable {P : Program} {ops : Array Oper} {Q : Exit → Act → World → Prop} {md : Region.Mode} {S : World → Prop}
theorem wpAnyH_twom (i j : Nat) {oi oj : Oper} {fuel : Nat} {listed : Array Bool} {a : Act} {w : World} (hi0 : ops.toList[i]? = some oi) (hj0 : ops.toList[j]? = some oj) (hr : Region.ready md ops listed = [i, j]) (hgi : oi.guard = none) (hgj : oj.guard = none)
    (h1 : ∀ K' : Act → World → Prop, Shut (∀ a w, S w → (S w → wpAnyH P md ops Q S fuel (listed.setIfInBounds i true) a w) → K' a w) → Oper.wp P oi a w K' Q)
    (h2 : ∀ K' : Act → World → Prop, Shut (∀ a w, S w → (S w → wpAnyH P md ops Q S fuel (listed.setIfInBounds j true) a w) → K' a w) → Oper.wp P oj a w K' Q) : wpAnyH P md ops Q S (fuel + 1) listed a w :=
  have hi : ops[i]? = some oi := (by rw [← Array.getElem?_toList]; exact hi0); have hj : ops[j]? = some oj := (by rw [← Array.getElem?_toList]; exact hj0)
  wpAnyH_ready hr (by simp) (AllReadyH.cons hi (fun K' hK => by
    have hw : Region.wanted oi (yielded ops a.tmps) = true := (by simp [Region.wanted, hgi]); rw [if_pos hw]
    exact h1 K' hK) (AllReadyH.cons hj (fun K' hK => by
    have hw : Region.wanted oj (yielded ops a.tmps) = true := (by simp [Region.wanted, hgj]); rw [if_pos hw]
    exact h2 K' hK) AllReadyH.nil))
end
section
variable {P : Program} {op : Oper} {a : Act} {w : World} {K : Act → World → Prop} {Q : Exit → Act → World → Prop}
theorem wp_alloc_newm (ty : TypeId) (ho : op.op = .alloc ty) (cells : Array Value)
    (hz : ∀ w, (Instr.alloc ty true (.tuple #[])).run P w = .ok (.pointer (some ⟨w.heap.size, 0, none⟩)) (w.alloc (.cells cells ty)))
    (h : ∀ w' g, g = w.heap.size → Below w.heap.size w w' → w'.heap.size = g + 1 → Blk w' g ty cells → K (a.put op.dst (.pointer (some ⟨g, 0, none⟩))) w') : op.wp P a w K Q := by
  have hrun : (execOp a.eval op).run P w = .ok (.value (.pointer (some ⟨w.heap.size, 0, none⟩))) (w.alloc (.cells cells ty)) := by
    unfold execOp; simp only [ho, Sem.run_bind, hz, Result.andThen_ok, Sem.run_pure]
  unfold Oper.wp; rw [hrun, Oper.upon_value]; exact h _ _ rfl ((Below.refl _ _).alloc (Nat.le_refl _) _) (by simp) (Blk.new w ty cells)
end
section
variable {P : Program} {op : Oper} {a : Act} {w : World} {K : Act → World → Prop} {Q : Exit → Act → World → Prop}
theorem wp_store_partm (ty : TypeId) (x y : Operand) (ho : op.op = .store ty x y)
    (g o : Nat) (cells : Array Value) (hx : a.eval x = .pointer (some ⟨g, o, none⟩)) (hy : a.eval y = .agg cells)
    (t : TypeId) (cs cs' : Array Value) (hB : Blk w g t cs) (hn : o + cells.size ≤ cs.size) (hp : putA cs o cells.toList = cs')
    (hi : (P.info? ty).map (·.size) = some cells.size) (h1 : cells.all (·.oneCell') = true)
    (h : ∀ w', Mv g w w' → w'.heap.size = w.heap.size → Blk w' g t cs' → K (a.put op.dst undef) w') : op.wp P a w K Q := by
  refine wp_store_mid ty x y ho g o cells hx hy (hB.there o _ hn) hi h1 (h _ (Mv.setCells _ _ _ _) (setCells_size _ _ _ _) ?_); rw [← hp]; exact Blk.setCells (w := w) _ _ _ _ hB
end
end Go.Proofs.YtafadpaljanghaaGreatDoor
namespace Go.Proofs.YtafadpaljanghaaGreatDoor
set_option linter.unusedSimpArgs false
open Go.RowKit
set_option linter.unusedVariables false
abbrev tPt : TypeId := 41
abbrev tBk : TypeId := 59
theorem alloc_ptm (w : World) : (Instr.alloc 41 true (.tuple #[])).run Tryz.prog w = .ok (.pointer (some ⟨w.heap.size, 0, none⟩)) (w.alloc (.cells #[.int .i64 0, .int .i64 0, .int .i64 0, .int .i64 0] 41)) := by kernel_rfl
theorem size_ptm : (Tryz.prog.info? 41).map (·.size) = some 4 := by kernel_rfl
theorem paeC_len (k : Int) : ∀ o : List Rn, ((o.map (ptOf k)).flatMap ptC).length = o.length * 4
  | [] => rfl
  | x :: o => by rw [List.map_cons, List.flatMap_cons, List.length_append, paeC_len k o, List.length_cons, Nat.succ_mul]; show 4 + _ = _; omega
theorem paeC_set (k : Int) (o : List Rn) (f t s t2 : Int) : (((o ++ [(f, t, s)]).map (ptOf k)).flatMap ptC).set (o.length * 4 + 3) (.int .i64 t2) = ((o ++ [(f, t2, s)]).map (ptOf k)).flatMap ptC := by
  rw [List.map_append, List.map_append, List.flatMap_append, List.flatMap_append, List.set_append_right _ _ (by rw [paeC_len]; omega), paeC_len, show o.length * 4 + 3 - o.length * 4 = 3 by omega]; rfl
theorem paeC_last (k : Int) (o : List Rn) (f t s : Int) : (((o ++ [(f, t, s)]).map (ptOf k)).flatMap ptC)[o.length * 4 + 3]? = some (.int .i64 t) ∧ (((o ++ [(f, t, s)]).map (ptOf k)).flatMap ptC)[o.length * 4 + 1]? = some (.int .i64 s) := by
  have h : ((o ++ [(f, t, s)]).map (ptOf k))[o.length]? = some (k, s, f, t) := (by rw [List.getElem?_map, List.getElem?_append_right (Nat.le_refl _), Nat.sub_self]; rfl); exact ⟨flatS_get ptC 4 (fun _ => rfl) _ _ _ 3 h (by decide), flatS_get ptC 4 (fun _ => rfl) _ _ _ 1 h (by decide)⟩
theorem infoPae : ∃ (i : TypeInfo) (z : Value), Tryz.prog.info? tPt = some i ∧ i.zero = some z ∧ i.size = 4 ∧ i.bytes = 32 ∧ z.cells.size = 4 := by
  have h : (Tryz.prog.info? tPt).isSome = true := (by kernel_rfl); obtain ⟨i, hi⟩ := Option.isSome_iff_exists.1 h; have h1 : (Tryz.prog.info? tPt).bind (·.zero) = some (.agg #[.int .i64 0, .int .i64 0, .int .i64 0, .int .i64 0]) := (by kernel_rfl); have h2 : (Tryz.prog.info? tPt).map (·.size) = some 4 := (by kernel_rfl); have h3 : (Tryz.prog.info? tPt).map (·.bytes) = some 32 := (by kernel_rfl); rw [hi] at h1 h2 h3; exact ⟨i, _, hi, by simpa using h1, by simpa using h2, by simpa using h3, rfl⟩
set_option maxHeartbeats 12800000 in
set_option maxRecDepth 100000 in
theorem mruns_any (g : Nat) (a b : Int) (A : Option Addr) (n c : Nat) (L : List Bk) (x : Mx) (hx : mxO a b L = x) (p : Nat) (k own : Int) (w : World) (hB : Blk w g 34 #[.int .i64 a, .int .i64 b, .slice A n c]) (hM : MXA w A n c L) (hF : x.Fine) (hp : p ≤ 100) (ho : -1000000000000 ≤ own ∧ own ≤ 1000000000000) :
    Calls Tryz.prog 36 #[.pointer (some ⟨g, 0, none⟩), .int .i64 p, .int .i64 k, .int .i64 own] w fun e w' => (∃ v, e = .returned v ∧ w'.ownsRow w.heap.size tPt 4 v (x.runs p own x.n).length (((x.runs p own x.n).map (ptOf k)).flatMap ptC)) ∧ Below w.heap.size w w' := by
  obtain ⟨i2, z2, hi0, hz0, hz1, hz2, hz3⟩ := infoPae; have HI : Sl _ := ⟨And.intro hi0 (And.intro hz0 (And.intro hz1 (And.intro hz2 hz3)))⟩; clear hi0 hz0 hz1 hz2 hz3; have HBK : Sl _ := ⟨hB⟩; have HM : Sl _ := ⟨hM⟩; have HX : Sl _ := ⟨hx⟩; have HFF : Sl _ := ⟨hF⟩; have HXN : Sl (x.n = n) := ⟨by rw [← hx]; exact hM.mx.len⟩; have hn12 : n ≤ 12 := (by rw [← HXN.out]; exact hF.n1); have c0 := hB.cell 0; have c1 := hB.cell 1; have c2 := hB.cell 2; simp at c0 c1 c2; clear hB hM hF hx; go_enter Tryz.func36, Tryz.ntmps36; go_wp2_with fail
  go_loopw [9, 10, 11, 12, 13, 19] (fun s9 s10 s11 s12 s13 s19 wr => ∃ (i : Nat) (v v10 v11 v12 v13 : Value), i ≤ n ∧ s19 = .int .i64 i ∧ v = s9 ∧ s10 = v10 ∧ s11 = v11 ∧ s12 = v12 ∧ s13 = v13 ∧ Sl (wr.ownsRow w.heap.size tPt 4 v (x.runs p own i).length (((x.runs p own i).map (ptOf k)).flatMap ptC) ∧ Below w.heap.size w wr)) (fun _ _ _ _ _ s19 _ => n - (RowKit.intOf s19).toNat)
  case atStart => exact ⟨0, _, _, _, _, _, Nat.zero_le _, rfl, rfl, rfl, rfl, rfl, rfl, ⟨World.ownsRow_nil _ _ _ _, Below.refl _ _⟩⟩
  case round =>
    clear c0 c1 c2; obtain ⟨i, v, v10, v11, v12, v13, hi, rfl, rfl, rfl, rfl, rfl, rfl, HQ⟩ := hrel
    by_cases hin : i < n
    · have hiI : (i : Int) < (n : Int) := (by omega); have hid : decide ((i : Int) < (n : Int)) = true := decide_eq_true hiI; obtain ⟨bk, hbk⟩ : ∃ bk, L[i]? = some bk := ⟨_, List.getElem?_eq_getElem (by rw [HM.out.mx.len]; exact hin)⟩; have hmw := HM.out.below HQ.out.2; obtain ⟨ad, rfl, _, p1, p2⟩ := hmw.mx.cells2 hbk; have hat := mxO_at (a := a) (b := b) hbk; rw [HX.out] at hat; have hii := hmw.mx.rk bk (List.mem_of_getElem? hbk); obtain ⟨fr, BA, bn, bc, bl⟩ := bk; simp only [] at p1 p2 hat hii; have HAT : Sl (x.fr i = fr ∧ x.rk i = bl ∧ bl.length = bn) := ⟨hat.1, hat.2, hii.1⟩
      have hbn : bn ≤ 8 ∧ 0 < bn := by
        have h1 := HFF.out.k1 i (by rw [HXN.out]; exact hin); have h2 := HFF.out.k0 i (by rw [HXN.out]; exact hin); rw [HAT.out.2.1, HAT.out.2.2] at h1 h2; exact ⟨h1, h2⟩
      obtain ⟨b2, o2, rfl, hb2, hcs⟩ := hii.flat hbn.2; have hfr := HFF.out.fr_bd (i := i) (by rw [HXN.out]; exact hin); have hls := HFF.out.last_bd (i := i) (by rw [HXN.out]; exact hin); rw [HAT.out.1] at hfr; obtain ⟨lst, hlst⟩ : ∃ t, x.last i = t := ⟨_, rfl⟩; rw [hlst] at hls; have HLS : Sl (x.last i = lst) := ⟨hlst⟩
      have HST : Sl (x.runs p own (i + 1) = if p < bn then rst (x.runs p own i) fr lst (gt bl p - own) else x.runs p own i) := ⟨by
        rw [Mx.runs, HAT.out.1, HLS.out, HAT.out.2.1, HAT.out.2.2]; unfold Mx.sh; rw [HAT.out.2.1]⟩
      have HRL : Sl ((x.runs p own i).length ≤ 12) := ⟨by have := x.runs_len p own i; omega⟩; have HBB : Sl (∀ W : World, Below wr.heap.size wr W → Blk W g 34 #[.int .i64 a, .int .i64 b, .slice (some ad) n c] ∧ MXA W (some ad) n c L) := ⟨fun W h => ⟨(HBK.out.below HQ.out.2 HBK.out.lt).below h (Nat.lt_of_lt_of_le HBK.out.lt HQ.out.2.size), hmw.below h⟩⟩
      have HCS : Sl (∀ W : World, Below wr.heap.size wr W → ∀ j, j < bn → W.cell? ⟨b2, o2 + j, none⟩ = some (.int .i64 (gt bl j))) := ⟨fun W h j hj => by
        rw [h.cell (p := ⟨b2, o2 + j, none⟩) hb2, hcs j (by rw [HAT.out.2.2]; exact hj)]
        rfl⟩
      have HU1 : Sl (Below wr.heap.size wr (wr.alloc (.cells #[.int .i64 fr, .slice (some ⟨b2, o2, none⟩) bn bc] tBk))) := ⟨(Below.refl _ _).alloc (Nat.le_refl _) _⟩; have HXB : Sl (Blk (wr.alloc (.cells #[.int .i64 fr, .slice (some ⟨b2, o2, none⟩) bn bc] tBk)) wr.heap.size tBk #[.int .i64 fr, .slice (some ⟨b2, o2, none⟩) bn bc]) := ⟨Blk.new _ _ _⟩; clear hcs hlst hat hii hmw hbk hb2
      by_cases hpl : p < bn
      · have hpd : decide ((bn : Int) ≤ (p : Int)) = false := decide_eq_false (by omega); have hpI : (p : Int) < (bn : Int) := (by omega); have hpI2 : ¬ (bn : Int) ≤ (p : Int) := (by omega); rw [if_pos hpl] at HST; obtain ⟨z, hz⟩ : ∃ z, gt bl p = z := ⟨_, rfl⟩; have hzb := HFF.out.rg i (by rw [HXN.out]; exact hin) p (by rw [HAT.out.2.1, HAT.out.2.2]; exact hpl); rw [HAT.out.2.1, hz] at hzb; have HZ : Sl (gt bl p = z) := ⟨hz⟩; rw [hz] at HST; obtain ⟨s, hs⟩ : ∃ s, z - own = s := ⟨_, rfl⟩; have HS0 : Sl (z - own = s) := ⟨hs⟩; have hsw : IntKind.i64.wrap (z - own) = s := (by rw [hs, IntKind.wrap_i64]; omega); have hsb : -2000000000000 ≤ s ∧ s ≤ 2000000000000 := (by omega); rw [hs] at HST; clear hz hs; go_wp2_with fail; obtain ⟨g11, hg11⟩ : ∃ q, wr.heap.size = q := ⟨_, rfl⟩; rw [hg11] at HXB
        (try rw [hg11])
        have HG : Sl (wr.heap.size = g11) := ⟨hg11⟩; clear hg11; have HOA : Sl ((wr.alloc (.cells #[.int .i64 fr, .slice (some ⟨b2, o2, none⟩) bn bc] tBk)).ownsRow w.heap.size tPt 4 v (x.runs p own i).length (((x.runs p own i).map (ptOf k)).flatMap ptC)) := ⟨xown_alloc HQ.out.1 _⟩; have HBL : Sl (Below w.heap.size w (wr.alloc (.cells #[.int .i64 fr, .slice (some ⟨b2, o2, none⟩) bn bc] tBk))) := ⟨HQ.out.2.alloc HQ.out.2.size _⟩; generalize wr.alloc (.cells #[.int .i64 fr, .slice (some ⟨b2, o2, none⟩) bn bc] tBk) = wa at *
        have HS : Sl (∀ W : World, Below wa.heap.size wa W → W.cell? ⟨g11, 1, none⟩ = some (.slice (some ⟨b2, o2, none⟩) bn bc) ∧ W.cell? ⟨g11, 0, none⟩ = some (.int .i64 fr) ∧ W.cell? ⟨b2, o2 + p, none⟩ = some (.int .i64 z)) := ⟨fun W h => by
          have e := HXB.out.below h HXB.out.lt; have h2 := HCS.out W (HU1.out.trans (h.mono HU1.out.size)) p hpl; rw [HZ.out] at h2
          exact ⟨by rw [e.cell]; rfl, by rw [e.cell]; rfl, h2⟩⟩
        have HLA : Sl (∀ W : World, Below wa.heap.size wa W → Calls Tryz.prog 63 #[.pointer (some ⟨g, 0, none⟩), .int .i64 i] W fun e w' => e = .returned (.int .i64 lst) ∧ w' = W) := ⟨fun W h => by
          obtain ⟨h1, h2⟩ := HBB.out W (HU1.out.trans (h.mono HU1.out.size)); have := last_any g a b (some ad) n c L i W h1 h2 hin (by omega) (by rw [HX.out, HLS.out]; exact ⟨by omega, by omega⟩); rw [HX.out, HLS.out] at this
          exact this⟩
        refine' wp_branchm (fun gn w' => Below wa.heap.size wa w' ∧ wa.heap.size ≤ gn ∧ Blk w' gn 41 #[.int .i64 k, .int .i64 s, .int .i64 fr, .int .i64 lst]) ?hreg ?hrest
        case hreg =>
          have hm : Below wa.heap.size wa wa.drew := below_drewN (Below.refl _ _) 1; have HSW : Sl _ := ⟨hm⟩; refine wp_region_held_drew (S := fun w' => Below wa.heap.size wa w') (by kernel_rfl) hm (fun hHeld => ?_); clear hm; refine wpAnyH_pure 0 (v := .int .i64 k) rfl (by kernel_rfl) (by kernel_rfl) (by kernel_rfl) (fun _ _ _ h => h) rfl (fun _ => rfl) (by assumption) ?_; simp only [Act.put, sS0, sS1, sS2]; refine wpAnyH_pure 1 (v := .pointer (some ⟨g11, 1, none⟩)) rfl (by kernel_rfl) (by kernel_rfl) (by kernel_rfl) (fun _ _ _ h => h) rfl (fun _ => by go_simp) (by assumption) ?_; simp only [Act.put, sS0, sS1, sS2]
          refine wpAnyH_cell 2 (v := .slice (some ⟨b2, o2, none⟩) bn bc) rfl rfl (fun w' h => by
            have hc := (HS.out w' h).1
            go_simp) (by kernel_rfl) (by kernel_rfl) (by kernel_rfl) (fun _ _ _ h => h) (by assumption) ?_
          simp only [Act.put, sS0, sS1, sS2]; refine wpAnyH_pure 3 (v := .int .i64 (p : Int)) rfl (by kernel_rfl) (by kernel_rfl) (by kernel_rfl) (fun _ _ _ h => h) rfl (fun _ => rfl) (by assumption) ?_; simp only [Act.put, sS0, sS1, sS2]; refine wpAnyH_pure 4 (v := .pointer (some ⟨b2, o2 + p, none⟩)) rfl (by kernel_rfl) (by kernel_rfl) (by kernel_rfl) (fun _ _ _ h => h) rfl (fun _ => by go_simp) (by assumption) ?_; simp only [Act.put, sS0, sS1, sS2]
          refine wpAnyH_cell 5 (v := .int .i64 z) rfl rfl (fun w' h => by
            have hc := (HS.out w' h).2.2
            go_simp) (by kernel_rfl) (by kernel_rfl) (by kernel_rfl) (fun _ _ _ h => h) (by assumption) ?_
          simp only [Act.put, sS0, sS1, sS2]; refine wpAnyH_pure 6 (v := .int .i64 own) rfl (by kernel_rfl) (by kernel_rfl) (by kernel_rfl) (fun _ _ _ h => h) rfl (fun _ => rfl) (by assumption) ?_; simp only [Act.put, sS0, sS1, sS2]; refine wpAnyH_pure 7 (v := .int .i64 s) rfl (by kernel_rfl) (by kernel_rfl) (by kernel_rfl) (fun _ _ _ h => h) rfl (fun _ => by go_simp) (by assumption) ?_; simp only [Act.put, sS0, sS1, sS2]; refine wpAnyH_pure 8 (v := .pointer (some ⟨g11, 0, none⟩)) rfl (by kernel_rfl) (by kernel_rfl) (by kernel_rfl) (fun _ _ _ h => h) rfl (fun _ => by go_simp) (by assumption) ?_; simp only [Act.put, sS0, sS1, sS2]
          refine wpAnyH_cell 9 (v := .int .i64 fr) rfl rfl (fun w' h => by
            have hc := (HS.out w' h).2.1
            go_simp) (by kernel_rfl) (by kernel_rfl) (by kernel_rfl) (fun _ _ _ h => h) (by assumption) ?_
          simp only [Act.put, sS0, sS1, sS2]; refine wpAnyH_pure 10 (v := .pointer (some ⟨g, 0, none⟩)) rfl (by kernel_rfl) (by kernel_rfl) (by kernel_rfl) (fun _ _ _ h => h) rfl (fun _ => rfl) (by assumption) ?_; simp only [Act.put, sS0, sS1, sS2]; refine wpAnyH_pure 11 (v := .int .i64 (i : Int)) rfl (by kernel_rfl) (by kernel_rfl) (by kernel_rfl) (fun _ _ _ h => h) rfl (fun _ => rfl) (by assumption) ?_; simp only [Act.put, sS0, sS1, sS2]; refine wpAnyH_twom 12 14 rfl rfl (by kernel_rfl) rfl rfl (fun K hK => ?_) (fun K hK => ?_)
          · skip; go_simp; go_at_call 63
            (with_reducible refine (HLA.out _ HSW.out).mono ?_)
            rintro e z1 ⟨rfl, rfl⟩; refine hK.out _ _ HSW.out (fun hHeld => ?_); clear hK K
            (try simp only [Act.put, sS0, sS1, sS2])
            refine wpAnyH_pure 13 (v := .agg #[.int .i64 k, .int .i64 s, .int .i64 fr, .int .i64 lst]) rfl (by kernel_rfl) (by kernel_rfl) (by kernel_rfl) (fun _ _ _ h => h) rfl (fun _ => by go_simp) (by assumption) ?_; simp only [Act.put, sS0, sS1, sS2]; refine wpAnyH_one 14 rfl (by kernel_rfl) rfl (fun K hK => ?_); refine wp_alloc_newm 41 rfl #[.int .i64 0, .int .i64 0, .int .i64 0, .int .i64 0] alloc_ptm ?_; rintro z2 gn zg zm zs zb; have GE : Sl (wa.heap.size ≤ gn) := ⟨by have := HSW.out.size; omega⟩; have NB : Sl (Blk z2 gn 41 #[.int .i64 0, .int .i64 0, .int .i64 0, .int .i64 0]) := ⟨zb⟩; replace HSW : Sl (RowKit.Below wa.heap.size wa z2) := ⟨HSW.out.trans (zm.mono HSW.out.size)⟩; refine hK.out _ _ HSW.out (fun hHeld => ?_); clear hK K zg zm zs zb; simp only [Act.put, sS0, sS1, sS2]; refine wpAnyH_one 15 rfl (by kernel_rfl) rfl (fun K hK => ?_); refine wp_store_partm 41 (.tmp 12) (.tmp 42) rfl gn 0 #[.int .i64 k, .int .i64 s, .int .i64 fr, .int .i64 lst] rfl rfl 41 #[.int .i64 0, .int .i64 0, .int .i64 0, .int .i64 0] #[.int .i64 k, .int .i64 s, .int .i64 fr, .int .i64 lst] NB.out (Nat.le_refl 4) (putA_all _ _ rfl) size_ptm (by simp [Value.oneCell']) ?_; rintro z3 zm zs zb; have hbn : Below wa.heap.size wa z3 := below_mv HSW.out zm GE.out HSW.out.size; replace HSW : Sl (RowKit.Below wa.heap.size wa z3) := ⟨hbn⟩; refine hK.out _ _ hbn (fun hHeld => ?_); clear hK K hbn zm zs; simp only [Act.put, sS0, sS1, sS2]; exact wpAnyH_done (by kernel_rfl) ⟨gn, rfl, HSW.out, GE.out, zb⟩ _
          · skip; refine wp_alloc_newm 41 rfl #[.int .i64 0, .int .i64 0, .int .i64 0, .int .i64 0] alloc_ptm ?_; rintro z2 gn zg zm zs zb; have GE : Sl (wa.heap.size ≤ gn) := ⟨by have := HSW.out.size; omega⟩; have NB : Sl (Blk z2 gn 41 #[.int .i64 0, .int .i64 0, .int .i64 0, .int .i64 0]) := ⟨zb⟩; replace HSW : Sl (RowKit.Below wa.heap.size wa z2) := ⟨HSW.out.trans (zm.mono HSW.out.size)⟩; refine hK.out _ _ HSW.out (fun hHeld => ?_); clear hK K zg zm zs zb; simp only [Act.put, sS0, sS1, sS2]; refine wpAnyH_one 12 rfl (by kernel_rfl) rfl (fun K hK => ?_); go_simp; go_at_call 63
            (with_reducible refine (HLA.out _ HSW.out).mono ?_)
            rintro e z1 ⟨rfl, rfl⟩; refine hK.out _ _ HSW.out (fun hHeld => ?_); clear hK K
            (try simp only [Act.put, sS0, sS1, sS2])
            refine wpAnyH_pure 13 (v := .agg #[.int .i64 k, .int .i64 s, .int .i64 fr, .int .i64 lst]) rfl (by kernel_rfl) (by kernel_rfl) (by kernel_rfl) (fun _ _ _ h => h) rfl (fun _ => by go_simp) (by assumption) ?_; simp only [Act.put, sS0, sS1, sS2]; refine wpAnyH_one 15 rfl (by kernel_rfl) rfl (fun K hK => ?_); refine wp_store_partm 41 (.tmp 12) (.tmp 42) rfl gn 0 #[.int .i64 k, .int .i64 s, .int .i64 fr, .int .i64 lst] rfl rfl 41 #[.int .i64 0, .int .i64 0, .int .i64 0, .int .i64 0] #[.int .i64 k, .int .i64 s, .int .i64 fr, .int .i64 lst] NB.out (Nat.le_refl 4) (putA_all _ _ rfl) size_ptm (by simp [Value.oneCell']) ?_; rintro z3 zm zs zb; have hbn : Below wa.heap.size wa z3 := below_mv HSW.out zm GE.out HSW.out.size; replace HSW : Sl (RowKit.Below wa.heap.size wa z3) := ⟨hbn⟩; refine hK.out _ _ hbn (fun hHeld => ?_); clear hK K hbn zm zs; simp only [Act.put, sS0, sS1, sS2]; exact wpAnyH_done (by kernel_rfl) ⟨gn, rfl, HSW.out, GE.out, zb⟩ _
        case hrest =>
          rintro gn w5 ⟨hb5, hge, zb5⟩; have HQ5 : Sl (w5.ownsRow w.heap.size tPt 4 v (x.runs p own i).length (((x.runs p own i).map (ptOf k)).flatMap ptC)) := ⟨own_mv HOA.out (Mv.of_below hb5) (fun k hk => by have := (HOA.out.lt k hk).2; omega)⟩; have HB5 : Sl (Below w.heap.size w w5) := ⟨HBL.out.trans (hb5.mono HBL.out.size)⟩; have NB5 : Sl (Blk w5 gn 41 #[.int .i64 k, .int .i64 s, .int .i64 fr, .int .i64 lst]) := ⟨zb5⟩; have e1 := NB5.out.cell 1; have e2 := NB5.out.cell 2; simp at e1 e2; clear hb5 hge zb5 HLA HS HCS HBB HOA HBL HXB HU1; rcases List.eq_nil_or_concat (x.runs p own i) with hkr | ⟨o, ⟨f', t', s'⟩, hkr⟩
          · have HOW := HQ5; rw [hkr] at HOW; obtain ⟨A6, c6, e6, _⟩ := own_slice2 HOW.out; subst e6; rw [hkr, rst_nil] at HST; clear hkr HQ5; go_wp2_with fail
            go_quiet (fail)
            have HBY : Sl (Below w.heap.size w (w5.drewN nq)) := ⟨below_drewN HB5.out nq⟩; have HNY : Sl (Blk (w5.drewN nq) gn 41 #[.int .i64 k, .int .i64 s, .int .i64 fr, .int .i64 lst]) := ⟨NB5.out⟩; replace HOW : Sl ((w5.drewN nq).ownsRow w.heap.size tPt 4 (.slice A6 0 c6) 0 []) := ⟨HOW.out⟩; generalize w5.drewN nq = wy at *
            have e0 := HNY.out.cell 0; have e1 := HNY.out.cell 1; have e2 := HNY.out.cell 2; have e3 := HNY.out.cell 3; simp at e0 e1 e2 e3; go_wp2_with (at_builtin; go_loud (refine wpList_append_any _ rfl (.tmp 77) (.tmp 79) _ rfl w.heap.size tPt i2 z2 4 32 Tryz.underlying37 HI.out.1 HI.out.2.1 HI.out.2.2.1 HI.out.2.2.2.1 HI.out.2.2.2.2 (by decide) (.slice A6 0 c6) 0 _ rfl (xown_alloc HOW.out _) _ (some ⟨wy.heap.size, 0, none⟩) 1 1 [.int .i64 k, .int .i64 s, .int .i64 fr, .int .i64 lst] rfl (xreadsN wy _ [.int .i64 k, .int .i64 s, .int .i64 fr, .int .i64 lst] 4 rfl) (by intro u hu; simp at hu; rcases hu with rfl | rfl | rfl | rfl <;> rfl) (by unfold maxLen; omega) (by omega) (by have := HBY.out.size; simp; omega) ?_; rintro v6 w6 hown hg hat; have XS : Sl _ := ⟨And.intro hown hg⟩; clear hown hg hat)); have XQ : Sl (w6.ownsRow w.heap.size tPt 4 v6 (([] : List Rn) ++ [(fr, lst, s)]).length (((([] : List Rn) ++ [(fr, lst, s)]).map (ptOf k)).flatMap ptC)) := ⟨XS.out.1⟩; have XB : Sl (Below w.heap.size w w6) := ⟨xbelow_grown HBY.out HBY.out.size HOW.out XS.out.2⟩; exact ⟨⟨i + 1, v6, _, _, _, _, hin, by go_num, rfl, rfl, rfl, rfl, rfl, ⟨by rw [HST.out]; exact XQ.out, XB.out⟩⟩, by simp [RowKit.intOf]; omega⟩
          · rw [List.concat_eq_append] at hkr; have HKR : Sl _ := ⟨hkr⟩; have ho2 := HQ5.out; rw [hkr] at ho2 HST; obtain ⟨no, hno⟩ : ∃ m, o.length = m := ⟨_, rfl⟩; have hno61 : no ≤ 12 := (by have h1 := HRL.out; rw [hkr, List.length_append, hno] at h1; simp at h1; omega); have hlen : (o ++ [(f', t', s')]).length = no + 1 := (by rw [List.length_append, hno]; rfl); rw [hlen] at ho2; obtain ⟨gq, cq, rfl, _, _⟩ := ho2.form (Nat.succ_pos no); rw [rst_snoc] at HST; have HNO : Sl (o.length = no) := ⟨hno⟩; have q1 := ho2.cellAt (no * 4 + 3) (by omega); have q2 := ho2.cellAt (no * 4 + 1) (by omega); have hl3 := paeC_last k o f' t' s'; rw [hno] at hl3; rw [hl3.1] at q1; rw [hl3.2] at q2; obtain ⟨no1, hno1⟩ : ∃ m, no + 1 = m := ⟨_, rfl⟩; rw [hno1] at ho2; have HOW : Sl _ := ⟨ho2⟩; have HN1 : Sl (no + 1 = no1) := ⟨hno1⟩; have hnI : (no1 : Int) - 1 = (no : Int) := (by omega); have hnw : IntKind.i64.wrap (no : Int) = (no : Int) := (by rw [IntKind.wrap_i64]; omega); have hn0 : (0 : Int) < (no1 : Int) := (by omega); have hnd : decide ((0 : Int) < (no1 : Int)) = true := decide_eq_true hn0; have hn0N : 0 < no1 := (by omega); have hndN : decide (0 < no1) = true := decide_eq_true hn0N; have hnl1 : (no : Int) < (no1 : Int) := (by omega); have hfw : IntKind.i64.wrap (fr - 1) = fr - 1 := (by rw [IntKind.wrap_i64]; omega); clear ho2 hkr hl3 hlen hno hno1 HQ5 HKR; rw [show no + 1 = no1 from HN1.out]
            by_cases hc1 : t' = fr - 1
            · have b1 : (t' == fr - 1) = true := (by rw [hc1]; exact beq_self_eq_true _)
              by_cases hc2 : s' = s
              · have b2 : (s' == s) = true := (by rw [hc2]; exact beq_self_eq_true _); rw [if_pos ⟨hc1, hc2⟩, ← hc2] at HST; clear hc1 hc2; go_wp2_with fail
                go_quiet (fail)
                have HBY : Sl (Below w.heap.size w (w5.drewN nq)) := ⟨below_drewN HB5.out nq⟩; have HNY : Sl (Blk (w5.drewN nq) gn 41 #[.int .i64 k, .int .i64 s, .int .i64 fr, .int .i64 lst]) := ⟨NB5.out⟩; replace HOW : Sl ((w5.drewN nq).ownsRow w.heap.size tPt 4 (.slice (some ⟨gq, 0, none⟩) no1 cq) no1 (((o ++ [(f', t', s')]).map (ptOf k)).flatMap ptC)) := ⟨HOW.out⟩; generalize w5.drewN nq = wy at *
                have e0 := HNY.out.cell 0; have e1 := HNY.out.cell 1; have e2 := HNY.out.cell 2; have e3 := HNY.out.cell 3; simp at e0 e1 e2 e3
                go_wp2_with ((with_reducible show wpList _ _ _ _ _ _); first
                  | (refine wpList_store_own rfl 3 (.tmp 76) (.tmp 74) rfl gq (no * 4 + 3) (.int .i64 lst) rfl rfl w.heap.size tPt 4 no1 cq (((o ++ [(f', t', s')]).map (ptOf k)).flatMap ptC) HOW.out (by have := HN1.out; omega) size_int1 rfl rfl ?_; rintro w6 hm hsz hown; have XS : Sl _ := ⟨And.intro hown hm⟩; clear hown hm hsz))
                have XQ : Sl (w6.ownsRow w.heap.size tPt 4 (.slice (some ⟨gq, 0, none⟩) no1 cq) (o ++ [(f', lst, s')]).length (((o ++ [(f', lst, s')]).map (ptOf k)).flatMap ptC)) := ⟨by
                  have h := XS.out.1; rw [← HNO.out, paeC_set] at h; rw [List.length_append, HNO.out]; rw [← HN1.out] at h ⊢
                  exact h⟩
                have XB : Sl (Below w.heap.size w w6) := ⟨below_mv HBY.out XS.out.2 (HOW.out.lt gq rfl).1 HBY.out.size⟩; exact ⟨⟨i + 1, _, _, _, _, _, hin, by go_num, rfl, rfl, rfl, rfl, rfl, ⟨by rw [HST.out]; exact XQ.out, XB.out⟩⟩, by simp [RowKit.intOf]; omega⟩
              · have b2 : (s' == s) = false := (by rw [beq_eq_false_iff_ne]; exact hc2); rw [if_neg (fun h => hc2 h.2)] at HST; go_wp2_with fail
                go_quiet (fail)
                have HBY : Sl (Below w.heap.size w (w5.drewN nq)) := ⟨below_drewN HB5.out nq⟩; have HNY : Sl (Blk (w5.drewN nq) gn 41 #[.int .i64 k, .int .i64 s, .int .i64 fr, .int .i64 lst]) := ⟨NB5.out⟩; replace HOW : Sl ((w5.drewN nq).ownsRow w.heap.size tPt 4 (.slice (some ⟨gq, 0, none⟩) no1 cq) no1 (((o ++ [(f', t', s')]).map (ptOf k)).flatMap ptC)) := ⟨HOW.out⟩; generalize w5.drewN nq = wy at *
                have e0 := HNY.out.cell 0; have e1 := HNY.out.cell 1; have e2 := HNY.out.cell 2; have e3 := HNY.out.cell 3; simp at e0 e1 e2 e3; go_wp2_with (at_builtin; go_loud (refine wpList_append_any _ rfl (.tmp 77) (.tmp 79) _ rfl w.heap.size tPt i2 z2 4 32 Tryz.underlying37 HI.out.1 HI.out.2.1 HI.out.2.2.1 HI.out.2.2.2.1 HI.out.2.2.2.2 (by decide) (.slice (some ⟨gq, 0, none⟩) no1 cq) no1 _ rfl (xown_alloc HOW.out _) _ (some ⟨wy.heap.size, 0, none⟩) 1 1 [.int .i64 k, .int .i64 s, .int .i64 fr, .int .i64 lst] rfl (xreadsN wy _ [.int .i64 k, .int .i64 s, .int .i64 fr, .int .i64 lst] 4 rfl) (by intro u hu; simp at hu; rcases hu with rfl | rfl | rfl | rfl <;> rfl) (by unfold maxLen; omega) (by omega) (by have := HBY.out.size; simp; omega) ?_; rintro v6 w6 hown hg hat; have XS : Sl _ := ⟨And.intro hown hg⟩; clear hown hg hat))
                have XQ : Sl (w6.ownsRow w.heap.size tPt 4 v6 ((o ++ [(f', t', s')]) ++ [(fr, lst, s)]).length ((((o ++ [(f', t', s')]) ++ [(fr, lst, s)]).map (ptOf k)).flatMap ptC)) := ⟨by
                  rw [List.map_append (l₂ := [(fr, lst, s)]), List.flatMap_append, List.length_append, List.length_append, HNO.out, show no + [(f', t', s')].length = no1 from HN1.out]
                  exact XS.out.1⟩
                have XB : Sl (Below w.heap.size w w6) := ⟨xbelow_grown HBY.out HBY.out.size HOW.out XS.out.2⟩; exact ⟨⟨i + 1, v6, _, _, _, _, hin, by go_num, rfl, rfl, rfl, rfl, rfl, ⟨by rw [HST.out]; exact XQ.out, XB.out⟩⟩, by simp [RowKit.intOf]; omega⟩
            · have b1 : (t' == fr - 1) = false := (by rw [beq_eq_false_iff_ne]; exact hc1); rw [if_neg (fun h => hc1 h.1)] at HST; go_wp2_with fail
              go_quiet (fail)
              have HBY : Sl (Below w.heap.size w (w5.drewN nq)) := ⟨below_drewN HB5.out nq⟩; have HNY : Sl (Blk (w5.drewN nq) gn 41 #[.int .i64 k, .int .i64 s, .int .i64 fr, .int .i64 lst]) := ⟨NB5.out⟩; replace HOW : Sl ((w5.drewN nq).ownsRow w.heap.size tPt 4 (.slice (some ⟨gq, 0, none⟩) no1 cq) no1 (((o ++ [(f', t', s')]).map (ptOf k)).flatMap ptC)) := ⟨HOW.out⟩; generalize w5.drewN nq = wy at *
              have e0 := HNY.out.cell 0; have e1 := HNY.out.cell 1; have e2 := HNY.out.cell 2; have e3 := HNY.out.cell 3; simp at e0 e1 e2 e3; go_wp2_with (at_builtin; go_loud (refine wpList_append_any _ rfl (.tmp 77) (.tmp 79) _ rfl w.heap.size tPt i2 z2 4 32 Tryz.underlying37 HI.out.1 HI.out.2.1 HI.out.2.2.1 HI.out.2.2.2.1 HI.out.2.2.2.2 (by decide) (.slice (some ⟨gq, 0, none⟩) no1 cq) no1 _ rfl (xown_alloc HOW.out _) _ (some ⟨wy.heap.size, 0, none⟩) 1 1 [.int .i64 k, .int .i64 s, .int .i64 fr, .int .i64 lst] rfl (xreadsN wy _ [.int .i64 k, .int .i64 s, .int .i64 fr, .int .i64 lst] 4 rfl) (by intro u hu; simp at hu; rcases hu with rfl | rfl | rfl | rfl <;> rfl) (by unfold maxLen; omega) (by omega) (by have := HBY.out.size; simp; omega) ?_; rintro v6 w6 hown hg hat; have XS : Sl _ := ⟨And.intro hown hg⟩; clear hown hg hat))
              have XQ : Sl (w6.ownsRow w.heap.size tPt 4 v6 ((o ++ [(f', t', s')]) ++ [(fr, lst, s)]).length ((((o ++ [(f', t', s')]) ++ [(fr, lst, s)]).map (ptOf k)).flatMap ptC)) := ⟨by
                rw [List.map_append (l₂ := [(fr, lst, s)]), List.flatMap_append, List.length_append, List.length_append, HNO.out, show no + [(f', t', s')].length = no1 from HN1.out]
                exact XS.out.1⟩
              have XB : Sl (Below w.heap.size w w6) := ⟨xbelow_grown HBY.out HBY.out.size HOW.out XS.out.2⟩; exact ⟨⟨i + 1, v6, _, _, _, _, hin, by go_num, rfl, rfl, rfl, rfl, rfl, ⟨by rw [HST.out]; exact XQ.out, XB.out⟩⟩, by simp [RowKit.intOf]; omega⟩
      · have hpd : decide ((bn : Int) ≤ (p : Int)) = true := decide_eq_true (by omega); have hpI2 : (bn : Int) ≤ (p : Int) := (by omega); rw [if_neg hpl] at HST; go_wp2_with fail; exact ⟨⟨i + 1, v, _, _, _, _, hin, by go_num, rfl, rfl, rfl, rfl, rfl, ⟨by rw [HST.out]; exact xown_alloc HQ.out.1 _, HQ.out.2.alloc HQ.out.2.size _⟩⟩, by simp [RowKit.intOf]; omega⟩
    · obtain rfl : i = n := (by omega); have hid : decide ((i : Int) < (i : Int)) = false := decide_eq_false (by omega); have hiI : ¬ (i : Int) < (i : Int) := (by omega); go_wp2_with fail; go_ret; exact ⟨⟨v, rfl, by rw [HXN.out]; exact HQ.out.1⟩, HQ.out.2⟩
end Go.Proofs.YtafadpaljanghaaGreatDoor
namespace Go.Proofs.YtafadpaljanghaaGreatDoor
set_option linter.unusedSimpArgs false
open Go.RowKit
set_option linter.unusedVariables false
def inI (n : Nat) (k : Int) : Bool := decide (0 ≤ k) && decide (k < (n : Int))
set_option maxHeartbeats 1600000 in
set_option maxRecDepth 100000 in
theorem inRk_any (k : Int) (pb : Addr) (A : Option Addr) (n c : Nat) (w : World) (hb : w.cell? pb = some (.slice A n c)) (hn : n ≤ 9223372036854775807) : Calls Tryz.prog 32 #[.int .i64 k, .pointer (some pb)] w fun e w' => e = .returned (.bool (inI n k)) ∧ w' = w := by
  unfold inI
  by_cases h0 : 0 ≤ k
  · have h1 : decide (0 ≤ k) = true := decide_eq_true h0; rw [h1, Bool.true_and]; obtain ⟨r, hr⟩ : ∃ r, decide (k < (n : Int)) = r := ⟨_, rfl⟩; rw [hr]; go_enter Tryz.func32, Tryz.ntmps32; go_wp2_with fail; go_ret; exact ⟨rfl, rfl⟩
  · have h1 : decide (0 ≤ k) = false := decide_eq_false h0; rw [h1, Bool.false_and]; go_enter Tryz.func32, Tryz.ntmps32; go_wp2_with fail; go_ret; exact ⟨rfl, rfl⟩
set_option maxHeartbeats 1600000 in
set_option maxRecDepth 100000 in
theorem outRk_any (k : Int) (pr pb : Addr) (A : Option Addr) (n c : Nat) (w : World) (hr : w.cell? pr = some (.func (.func 32) #[] #[.pointer (some pb)])) (hb : w.cell? pb = some (.slice A n c)) (hn : n ≤ 9223372036854775807) : Calls Tryz.prog 35 #[.int .i64 k, .pointer (some pr)] w fun e w' => e = .returned (.bool (!inI n k)) ∧ w' = w := by
  have HC : Sl _ := ⟨inRk_any k pb A n c w hb hn⟩; have hrun : ∀ (args : Array Value) (w : World), (callFunc 32 args).run Tryz.prog w = .ok (.enter 32 args) w := fun a w => by go_simp
  clear hb; go_enter Tryz.func35, Tryz.ntmps35; go_wp2_with fail; refine HC.out.mono ?_; rintro e w1 ⟨rfl, rfl⟩; go_wp2_with fail; go_ret; exact ⟨rfl, rfl⟩
set_option maxHeartbeats 1600000 in
set_option maxRecDepth 100000 in
theorem idxOutRk_any (A : Option Addr) (n c : Nat) (l : List Int) (pr pb : Addr) (B : Option Addr) (m d : Nat) (w : World) (hr : w.cell? pr = some (.func (.func 32) #[] #[.pointer (some pb)])) (hb : w.cell? pb = some (.slice B m d)) (hm : m ≤ 9223372036854775807) (hl : II w A n l) (hn : n ≤ 9223372036854775807) : Calls Tryz.prog 64 #[.slice A n c, .func (.func 35) #[] #[.pointer (some pr)]] w fun e w' => (∃ z : Int, e = .returned (.int .i64 z) ∧ (0 ≤ z ↔ ∃ j, j < n ∧ inI m (gt l j) = false)) ∧ w' = w := by
  have hrun : ∀ (args : Array Value) (w : World), (callFunc 35 args).run Tryz.prog w = .ok (.enter 35 args) w := fun a w => by go_simp
  have HL : Sl _ := ⟨hl⟩; have HLN : Sl _ := ⟨hl.1⟩; have HO : Sl _ := ⟨fun z => outRk_any z pr pb B m d w hr hb hm⟩; clear hl hr hb; go_enter Tryz.func64, Tryz.ntmps64; go_wp2_with fail
  go_loop [5, 8] (fun s5 s8 => ∃ (k : Nat) (v5 : Value), k ≤ n ∧ s8 = .int .i64 k ∧ s5 = v5 ∧ Sl (∀ j, j < k → inI m (gt l j) = true)) (fun _ s8 => n - (RowKit.intOf s8).toNat)
  case atStart => exact ⟨0, _, Nat.zero_le _, rfl, rfl, ⟨fun j hj => absurd hj (Nat.not_lt_zero _)⟩⟩
  case round =>
    obtain ⟨k, v5, hk, rfl, rfl, HK⟩ := hrel
    by_cases hkn : k < n
    · obtain ⟨ad, rfl, hab, c1⟩ := HL.out.cell (j := k) hkn; have hlt : (k : Int) < (n : Int) := (by omega); obtain ⟨x, hx⟩ : ∃ x, gt l k = x := ⟨_, rfl⟩; rw [hx] at c1; have HX : Sl _ := ⟨hx⟩; clear hx; have HO1 := HO.out x; obtain ⟨b, hb⟩ : ∃ b, inI m x = b := ⟨_, rfl⟩; rw [hb] at HO1; have HO2 : Sl _ := ⟨HO1⟩; have HB : Sl _ := ⟨hb⟩; clear hb HO1; go_wp2_with fail; refine HO2.out.mono ?_; rintro e w1 ⟨rfl, rfl⟩
      cases b
      · go_wp2_with fail; go_ret; exact ⟨⟨_, rfl, ⟨fun _ => ⟨k, hkn, by rw [HX.out]; exact HB.out⟩, fun _ => by omega⟩⟩, rfl⟩
      · go_wp2_with fail; refine ⟨⟨k + 1, _, hkn, by go_num, rfl, ⟨fun j hj => ?_⟩⟩, by simp [RowKit.intOf]; omega⟩; rcases Nat.lt_or_ge j k with h | h
        · exact HK.out j h
        · rw [show j = k by omega, HX.out]; exact HB.out
    · obtain rfl : k = n := (by omega); go_wp2_with fail; go_ret; refine ⟨⟨-1, rfl, ⟨fun h => absurd h (by decide), ?_⟩⟩, rfl⟩; rintro ⟨j, hj, h⟩; rw [HK.out j hj] at h; cases h
end Go.Proofs.YtafadpaljanghaaGreatDoor
namespace Go.Proofs.YtafadpaljanghaaGreatDoor
set_option linter.unusedSimpArgs false
open Go.RowKit
set_option linter.unusedVariables false
def vF (num den : Int) : Prop := (1 ≤ den ∧ den ≤ 15) ∧ (1 ≤ num ∧ num ≤ 64 * den) ∧ Nat.gcd num.natAbs den.natAbs = 1
instance (a b : Int) : Decidable (vF a b) := inferInstanceAs (Decidable (_ ∧ _ ∧ _))
set_option maxHeartbeats 1600000 in
set_option maxRecDepth 100000 in
theorem wvalid_any (num den : Int) (w : World) : Calls Tryz.prog 54 #[.agg #[.int .i64 num, .int .i64 den]] w fun e w' => e = .returned (.bool (decide (vF num den))) ∧ Below w.heap.size w w' := by
  have hu : Below w.heap.size w (w.alloc (.cells #[.int .i64 num, .int .i64 den] 23)) := (Below.refl _ _).alloc (Nat.le_refl _) _; have HU : Sl _ := ⟨hu⟩; clear hu; obtain ⟨r, hr⟩ : ∃ r, decide (vF num den) = r := ⟨_, rfl⟩; rw [hr]; have HR : Sl _ := ⟨hr⟩; clear hr
  by_cases hok : (1 ≤ den ∧ den ≤ 15) ∧ (1 ≤ num ∧ num ≤ 64 * den)
  · obtain ⟨⟨h1, h2⟩, h3, h4⟩ := hok; obtain ⟨n, rfl⟩ := Int.eq_ofNat_of_zero_le (show 0 ≤ num by omega); obtain ⟨d, rfl⟩ := Int.eq_ofNat_of_zero_le (show 0 ≤ den by omega); have HG : Sl _ := ⟨fun W : World => wgcd_any n d W (by omega) (by omega)⟩
    have HV : Sl (r = (((Nat.gcd n d : Nat) : Int) == 1)) := ⟨by
      rw [← HR.out, Bool.eq_iff_iff, decide_eq_true_iff, beq_iff_eq]; unfold vF; simp only [Int.natAbs_natCast]
      omega⟩
    have hw : IntKind.i64.wrap (64 * (d : Int)) = 64 * (d : Int) := (by rw [IntKind.wrap_i64]; omega); have g1 : ¬ (d : Int) < 1 := (by omega); have g2 : ¬ 15 < (d : Int) := (by omega); have g3 : ¬ (n : Int) < 1 := (by omega); have g4 : ¬ 64 * (d : Int) < (n : Int) := (by omega); generalize Nat.gcd n d = g at *
    go_enter Tryz.func54, Tryz.ntmps54; go_wp2_with fail; refine (HG.out _).mono ?_; rintro e w1 ⟨rfl, m, rfl⟩; go_wp2_with fail; go_ret; exact ⟨by rw [HV.out]; rfl, below_drewN HU.out m⟩
  · have HV : Sl (r = false) := ⟨by
      rw [← HR.out, decide_eq_false_iff_not]; unfold vF; intro h
      exact hok ⟨h.1, h.2.1⟩⟩
    have hcase : den < 1 ∨ (¬ den < 1 ∧ 15 < den) ∨ (¬ den < 1 ∧ ¬ 15 < den ∧ num < 1) ∨ (¬ den < 1 ∧ ¬ 15 < den ∧ ¬ num < 1 ∧ 64 * den < num) := (by omega); clear hok HR; rcases hcase with h1 | ⟨h1, h2⟩ | ⟨h1, h2, h3⟩ | ⟨h1, h2, h3, h4⟩
    · have d1 : decide (1 ≤ den) = false := decide_eq_false (by omega); go_enter Tryz.func54, Tryz.ntmps54; go_wp2_with fail; go_ret; exact ⟨by rw [HV.out]; rfl, HU.out⟩
    · have d1 : decide (1 ≤ den) = true := decide_eq_true (by omega); have d2 : decide (den ≤ 15) = false := decide_eq_false (by omega); go_enter Tryz.func54, Tryz.ntmps54; go_wp2_with fail; go_ret; exact ⟨by rw [HV.out]; rfl, HU.out⟩
    · have d1 : decide (1 ≤ den) = true := decide_eq_true (by omega); have d2 : decide (den ≤ 15) = true := decide_eq_true (by omega); have d3 : decide (1 ≤ num) = false := decide_eq_false (by omega); go_enter Tryz.func54, Tryz.ntmps54; go_wp2_with fail; go_ret; exact ⟨by rw [HV.out]; rfl, HU.out⟩
    · have d1 : decide (1 ≤ den) = true := decide_eq_true (by omega); have d2 : decide (den ≤ 15) = true := decide_eq_true (by omega); have d3 : decide (1 ≤ num) = true := decide_eq_true (by omega); have hw : IntKind.i64.wrap (64 * den) = 64 * den := (by rw [IntKind.wrap_i64]; omega); have d4 : decide (num ≤ 64 * den) = false := decide_eq_false (by omega); go_enter Tryz.func54, Tryz.ntmps54; go_wp2_with fail; go_ret; exact ⟨by rw [HV.out]; rfl, HU.out⟩
end Go.Proofs.YtafadpaljanghaaGreatDoor
namespace Go.Proofs.YtafadpaljanghaaGreatDoor
set_option linter.unusedSimpArgs false
open Go.RowKit
set_option linter.unusedVariables false
def tx (u : Nat) : ByteArray := ⟨(Lib.decDigits u).toArray⟩
theorem tx_size {u : Nat} (h : u < 100) : (tx u).size ≤ 2 := by
  unfold tx; have e : (⟨(Lib.decDigits u).toArray⟩ : ByteArray).size = (Lib.decDigits u).length := (by simp [ByteArray.size]); rw [e, Lib.decDigits]
  split
  · simp
  · rw [Lib.decDigits, dif_pos (by omega)]; simp
theorem itoa_tx {u : Nat} (h : u < 100) (W : World) : Calls Tryz.prog 55 #[.int .i64 u] W fun e w' => e = .returned (.string (tx u)) ∧ w' = W := Tryz.strconv_Itoa_small u h W
set_option maxHeartbeats 3200000 in
set_option maxRecDepth 100000 in
theorem feet_any (num den : Int) (w : World) : Calls Tryz.prog 24 #[.agg #[.int .i64 num, .int .i64 den]] w fun e w' => (∃ s, e = .returned (.tuple #[.string s, .int .i64 (if vF num den then 0 else 2)])) ∧ Below w.heap.size w w' := by
  have hu : Below w.heap.size w (w.alloc (.cells #[.int .i64 num, .int .i64 den] 23)) := (Below.refl _ _).alloc (Nat.le_refl _) _; have X0 := Blk.new w 23 #[.int .i64 num, .int .i64 den]; have HV : Sl _ := ⟨fun W : World => wvalid_any num den W⟩
  by_cases hv : vF num den
  · rw [if_pos hv]; rw [decide_eq_true hv] at HV; obtain ⟨⟨h1, h2⟩, ⟨h3, h4⟩, _⟩ := hv; obtain ⟨n, rfl⟩ := Int.eq_ofNat_of_zero_le (show 0 ≤ num by omega); obtain ⟨d, rfl⟩ := Int.eq_ofNat_of_zero_le (show 0 ≤ den by omega); have hd0 : ¬ (d : Int) = 0 := (by omega); have hq : (n : Int).tdiv (d : Int) = ((n / d : Nat) : Int) := (by rw [Int.tdiv_eq_ediv_of_nonneg (by omega)]; rfl); have hr : (n : Int).tmod (d : Int) = ((n % d : Nat) : Int) := (by rw [Int.tmod_eq_emod_of_nonneg (by omega)]; rfl)
    have hq64 : n / d < 100 := by
      have : n / d ≤ 64 := (by rw [Nat.div_le_iff_le_mul_add_pred (by omega)]; omega); omega
    have hr15 : n % d < 100 := (by have := Nat.mod_lt n (show d > 0 by omega); omega); have hd15 : d < 100 := (by omega); obtain ⟨q, hqe⟩ : ∃ q, n / d = q := ⟨_, rfl⟩; obtain ⟨r, hre⟩ : ∃ r, n % d = r := ⟨_, rfl⟩; rw [hqe] at hq hq64; rw [hre] at hr hr15; have HIq : Sl _ := ⟨fun W : World => itoa_tx hq64 W⟩; have HIr : Sl _ := ⟨fun W : World => itoa_tx hr15 W⟩; have HId : Sl _ := ⟨fun W : World => itoa_tx hd15 W⟩; have sq := tx_size hq64; have sr := tx_size hr15; have sd := tx_size hd15; generalize tx q = tq at *
    generalize tx r = tr at *
    generalize tx d = td at *
    clear hqe hre h3 h4 h1 h2; go_enter Tryz.func24, Tryz.ntmps24; go_wp2_with fail; generalize w.alloc (.cells #[.int .i64 (n : Int), .int .i64 (d : Int)] 23) = w0 at *
    refine (HV.out w0).mono ?_; rintro e w1 ⟨rfl, hb⟩; have u1 := hu.trans (hb.mono hu.size); have X1 := X0.below hb X0.lt; have x0 := X1.cell 0; have x1 := X1.cell 1; simp at x0 x1; clear hu hb X0 HV; go_wp2_with fail
    go_quiet (fail)
    have u2 := below_drewN u1 nq; have X2 : Blk (w1.drewN nq) w.heap.size _ _ := X1.drewN nq; clear u1 X1 x0 x1; generalize w1.drewN nq = w2 at *
    have x0 := X2.cell 0; have x1 := X2.cell 1; simp at x0 x1; go_wp2_with fail; have hd2 : RowKit.Below w.heap.size w w2.drew := below_drewN u2 1; have xx1 : w2.drew.cell? ⟨w.heap.size, 1, none⟩ = some (.int .i64 d) := x1
    go_region_with (first
      | (go_at_call 55; (with_reducible refine (HIr.out _).mono ?_); rintro e w3 ⟨rfl, rfl⟩)
      | (go_at_call 55; (with_reducible refine (HId.out _).mono ?_); rintro e w4 ⟨rfl, rfl⟩)
      | fail)
    all_goals (
      clear x0 x1 X2 u2; generalize w2.drew = w5 at *
      by_cases hd1 : (d : Int) = 1
      · have hb1 : ((d : Int) == 1) = true := (by rw [hd1]; rfl); go_wp2_with fail; refine (HIq.out _).mono ?_; rintro e w6 ⟨rfl, rfl⟩; go_wp2_with fail; go_ret2; exact ⟨⟨_, rfl⟩, hd2⟩
      · have hb1 : ((d : Int) == 1) = false := (by rw [beq_eq_false_iff_ne]; exact hd1)
        by_cases hq0 : (q : Int) = 0
        · have hb2 : ((q : Int) == 0) = true := (by rw [hq0]; rfl); go_wp2_with fail; go_ret2; exact ⟨⟨_, rfl⟩, hd2⟩
        · have hb2 : ((q : Int) == 0) = false := (by rw [beq_eq_false_iff_ne]; exact hq0); go_wp2_with fail; refine (HIq.out _).mono ?_; rintro e w6 ⟨rfl, rfl⟩; go_wp2_with fail; go_ret2
          exact ⟨⟨_, rfl⟩, hd2⟩)
  · rw [if_neg hv]; rw [decide_eq_false hv] at HV; have HU : Sl _ := ⟨hu⟩; clear hv hu X0; go_enter Tryz.func24, Tryz.ntmps24; go_wp2_with fail; refine (HV.out _).mono ?_; rintro e w1 ⟨rfl, hb⟩; go_wp2_with fail; go_ret2; exact ⟨⟨_, rfl⟩, HU.out.trans (hb.mono HU.out.size)⟩
end Go.Proofs.YtafadpaljanghaaGreatDoor
namespace Go.Proofs.YtafadpaljanghaaGreatDoor
set_option linter.unusedSimpArgs false
open Go.RowKit
set_option linter.unusedVariables false
theorem inI_true {n : Nat} {k : Int} (h : inI n k = true) : 0 ≤ k ∧ k < (n : Int) := by
  unfold inI at h; rw [Bool.and_eq_true, decide_eq_true_eq, decide_eq_true_eq] at h; exact h
def ftE (num den : Int) : Int := if vF num den then 0 else 2
def smBad (R : List RkV) (k : Int) : Bool := inI R.length k && (ftE (R[k.toNat]?.getD rk0).num (R[k.toNat]?.getD rk0).den != 0)
set_option maxHeartbeats 3200000 in
set_option maxRecDepth 100000 in
theorem smRk_any (k : Int) (pr pb : Addr) (A : Option Addr) (n c : Nat) (R : List RkV) (w : World) (hr : w.cell? pr = some (.func (.func 32) #[] #[.pointer (some pb)])) (hb : w.cell? pb = some (.slice A n c)) (hn : n ≤ 9223372036854775807) (hR : RKS w A n R) : Calls Tryz.prog 34 #[.int .i64 k, .pointer (some pr), .pointer (some pb)] w fun e w' => e = .returned (.bool (smBad R k)) ∧ Below w.heap.size w w' := by
  have hrun : ∀ (args : Array Value) (w : World), (callFunc 32 args).run Tryz.prog w = .ok (.enter 32 args) w := fun a w => by go_simp
  have hC := inRk_any k pb A n c w hb hn; unfold smBad; rw [hR.len]
  cases hk : inI n k
  · rw [hk] at hC; have HC : Sl _ := ⟨hC⟩; clear hC hk hR; rw [Bool.false_and]; go_enter Tryz.func34, Tryz.ntmps34; go_wp2_with fail; refine HC.out.mono ?_; rintro e w1 ⟨rfl, rfl⟩; go_wp2_with fail; go_ret; exact ⟨rfl, Below.refl _ _⟩
  · rw [hk] at hC; have HC : Sl _ := ⟨hC⟩; have h2 := inI_true hk; clear hC hk; obtain ⟨i, rfl⟩ := Int.eq_ofNat_of_zero_le h2.1; have hi : i < n := (by omega); have hiI : (i : Int) < (n : Int) := h2.2; obtain ⟨ad, r, rfl, hri, _, _, c2, c3, _⟩ := hR.cells hi; rw [Bool.true_and, Int.toNat_natCast, hri, Option.getD_some]; have HS : Sl (∀ W : World, Calls Tryz.prog 24 #[.agg #[.int .i64 r.num, .int .i64 r.den]] W fun e w' => (∃ s, e = .returned (.tuple #[.string s, .int .i64 (ftE r.num r.den)])) ∧ Below W.heap.size W w') := ⟨fun W : World => feet_any r.num r.den W⟩; clear hR hri h2; obtain ⟨num, hnum⟩ : ∃ z, r.num = z := ⟨_, rfl⟩; obtain ⟨den, hden⟩ : ∃ z, r.den = z := ⟨_, rfl⟩; rw [hnum, hden] at HS ⊢; rw [hnum] at c2; rw [hden] at c3; clear hnum hden; have d2 : w.cell? ⟨(ad.add (i * 6)).block, (ad.add (i * 6)).off + 2, none⟩ = some (.int .i64 num) := c2; have d3 : w.cell? ⟨(ad.add (i * 6)).block, (ad.add (i * 6)).off + 2 + 1, none⟩ = some (.int .i64 den) := c3; clear c2 c3; obtain ⟨q2, hq2⟩ : ∃ z, ftE num den = z := ⟨_, rfl⟩; rw [hq2] at HS; rw [hq2]; clear hq2; go_enter Tryz.func34, Tryz.ntmps34; go_wp2_with fail; refine HC.out.mono ?_; rintro e w1 ⟨rfl, rfl⟩; go_wp2_with fail; refine (HS.out _).mono ?_; rintro e w2 ⟨⟨s, rfl⟩, hb2⟩; have HB2 : Sl _ := ⟨hb2⟩; clear hb2; go_wp2_with fail; go_ret; exact ⟨rfl, HB2.out⟩
def anyI (P : Int → Bool) (l : List Int) (n : Nat) : Bool := (List.range n).any fun j => P (gt l j)
theorem anyI_iff {P : Int → Bool} {l : List Int} {n : Nat} {z : Int} (h : 0 ≤ z ↔ ∃ j, j < n ∧ P (gt l j) = true) : anyI P l n = decide (0 ≤ z) := by
  unfold anyI; rw [Bool.eq_iff_iff, decide_eq_true_iff, List.any_eq_true, h]; constructor
  · rintro ⟨j, hj, hp⟩; exact ⟨j, List.mem_range.1 hj, hp⟩
  · rintro ⟨j, hj, hp⟩; exact ⟨j, List.mem_range.2 hj, hp⟩
set_option maxHeartbeats 1600000 in
set_option maxRecDepth 100000 in
theorem hasOutRk_any (A : Option Addr) (n c : Nat) (l : List Int) (pr pb : Addr) (B : Option Addr) (m d : Nat) (w : World) (hr : w.cell? pr = some (.func (.func 32) #[] #[.pointer (some pb)])) (hb : w.cell? pb = some (.slice B m d)) (hm : m ≤ 9223372036854775807) (hl : II w A n l) (hn : n ≤ 9223372036854775807) : Calls Tryz.prog 33 #[.slice A n c, .func (.func 35) #[] #[.pointer (some pr)]] w fun e w' => e = .returned (.bool (anyI (fun k => !inI m k) l n)) ∧ w' = w := by
  have HI : Sl _ := ⟨idxOutRk_any A n c l pr pb B m d w hr hb hm hl hn⟩; clear hl hr hb; obtain ⟨r, hr⟩ : ∃ r, anyI (fun k => !inI m k) l n = r := ⟨_, rfl⟩; have HR : Sl _ := ⟨hr⟩; rw [hr]; clear hr; go_enter Tryz.func33, Tryz.ntmps33; go_wp2_with fail; refine HI.out.mono ?_; rintro e w1 ⟨⟨z, rfl, hz⟩, rfl⟩
  have HV : Sl (r = decide (0 ≤ z)) := ⟨by
    rw [← HR.out]
    exact anyI_iff (hz.trans ⟨fun ⟨j, hj, h⟩ => ⟨j, hj, by simp only [h]; rfl⟩, fun ⟨j, hj, h⟩ => ⟨j, hj, by simpa using h⟩⟩)⟩
  clear hz; go_wp2_with fail; go_ret; exact ⟨by rw [HV.out]; rfl, rfl⟩
set_option maxHeartbeats 3200000 in
set_option maxRecDepth 100000 in
theorem idxSmRk_any (A : Option Addr) (n c : Nat) (l : List Int) (pr pb : Addr) (B : Option Addr) (m d : Nat) (R : List RkV) (w : World) (hpr : pr.block < w.heap.size) (hpb : pb.block < w.heap.size) (hr : w.cell? pr = some (.func (.func 32) #[] #[.pointer (some pb)])) (hb : w.cell? pb = some (.slice B m d)) (hm : m ≤ 9223372036854775807) (hR : RKS w B m R) (hl : II w A n l) (hn : n ≤ 9223372036854775807) : Calls Tryz.prog 64 #[.slice A n c, .func (.func 34) #[] #[.pointer (some pr), .pointer (some pb)]] w fun e w' => (∃ z : Int, e = .returned (.int .i64 z) ∧ (0 ≤ z ↔ ∃ j, j < n ∧ smBad R (gt l j) = true)) ∧ Below w.heap.size w w' := by
  have hrun : ∀ (args : Array Value) (w : World), (callFunc 34 args).run Tryz.prog w = .ok (.enter 34 args) w := fun a w => by go_simp
  have HL : Sl _ := ⟨hl⟩; have HLN : Sl _ := ⟨hl.1⟩; have HO : Sl (∀ (W : World), Below w.heap.size w W → ∀ z : Int, Calls Tryz.prog 34 #[.int .i64 z, .pointer (some pr), .pointer (some pb)] W fun e w' => e = .returned (.bool (smBad R z)) ∧ Below W.heap.size W w') := ⟨fun W h z => smRk_any z pr pb B m d R W (by rw [h.cell hpr]; exact hr) (by rw [h.cell hpb]; exact hb) hm (hR.below h)⟩; clear hl hr hb hR hpr hpb; go_enter Tryz.func64, Tryz.ntmps64; go_wp2_with fail
  go_loopw [5, 8] (fun s5 s8 wr => ∃ (k : Nat) (v5 : Value), k ≤ n ∧ s8 = .int .i64 k ∧ s5 = v5 ∧ Sl ((∀ j, j < k → smBad R (gt l j) = false) ∧ Below w.heap.size w wr)) (fun _ s8 _ => n - (RowKit.intOf s8).toNat)
  case atStart => exact ⟨0, _, Nat.zero_le _, rfl, rfl, ⟨fun j hj => absurd hj (Nat.not_lt_zero _), Below.refl _ _⟩⟩
  case round =>
    obtain ⟨k, v5, hk, rfl, rfl, HK⟩ := hrel
    by_cases hkn : k < n
    · obtain ⟨ad, rfl, hab, c1⟩ := (II.below HL.out HK.out.2).cell (j := k) hkn; have hlt : (k : Int) < (n : Int) := (by omega); obtain ⟨x, hx⟩ : ∃ x, gt l k = x := ⟨_, rfl⟩; rw [hx] at c1; have HX : Sl _ := ⟨hx⟩; clear hx; have HO1 := HO.out wr HK.out.2 x; obtain ⟨b, hb⟩ : ∃ b, smBad R x = b := ⟨_, rfl⟩; rw [hb] at HO1; have HO2 : Sl _ := ⟨HO1⟩; have HB : Sl _ := ⟨hb⟩; clear hb HO1; go_wp2_with fail; refine HO2.out.mono ?_; rintro e w1 ⟨rfl, hw⟩; have HW : Sl (Below w.heap.size w w1) := ⟨HK.out.2.trans (hw.mono HK.out.2.size)⟩; clear hw
      cases b
      · go_wp2_with fail; refine ⟨⟨k + 1, _, hkn, by go_num, rfl, ⟨fun j hj => ?_, HW.out⟩⟩, by simp [RowKit.intOf]; omega⟩; rcases Nat.lt_or_ge j k with h | h
        · exact HK.out.1 j h
        · rw [show j = k by omega, HX.out]; exact HB.out
      · go_wp2_with fail; go_ret; exact ⟨⟨_, rfl, ⟨fun _ => ⟨k, hkn, by rw [HX.out]; exact HB.out⟩, fun _ => by omega⟩⟩, HW.out⟩
    · obtain rfl : k = n := (by omega); go_wp2_with fail; go_ret; refine ⟨⟨-1, rfl, ⟨fun h => absurd h (by decide), ?_⟩⟩, HK.out.2⟩; rintro ⟨j, hj, h⟩; rw [HK.out.1 j hj] at h; cases h
set_option maxHeartbeats 1600000 in
set_option maxRecDepth 100000 in
theorem hasSmRk_any (A : Option Addr) (n c : Nat) (l : List Int) (pr pb : Addr) (B : Option Addr) (m d : Nat) (R : List RkV) (w : World) (hpr : pr.block < w.heap.size) (hpb : pb.block < w.heap.size) (hr : w.cell? pr = some (.func (.func 32) #[] #[.pointer (some pb)])) (hb : w.cell? pb = some (.slice B m d)) (hm : m ≤ 9223372036854775807) (hR : RKS w B m R) (hl : II w A n l) (hn : n ≤ 9223372036854775807) : Calls Tryz.prog 33 #[.slice A n c, .func (.func 34) #[] #[.pointer (some pr), .pointer (some pb)]] w fun e w' => e = .returned (.bool (anyI (smBad R) l n)) ∧ Below w.heap.size w w' := by
  have HI : Sl _ := ⟨idxSmRk_any A n c l pr pb B m d R w hpr hpb hr hb hm hR hl hn⟩; clear hl hr hb hR hpr hpb; obtain ⟨r, hr⟩ : ∃ r, anyI (smBad R) l n = r := ⟨_, rfl⟩; have HR : Sl _ := ⟨hr⟩; rw [hr]; clear hr; go_enter Tryz.func33, Tryz.ntmps33; go_wp2_with fail; refine HI.out.mono ?_; rintro e w1 ⟨⟨z, rfl, hz⟩, hw⟩; have HV : Sl (r = decide (0 ≤ z)) := ⟨by rw [← HR.out]; exact anyI_iff hz⟩; have HW : Sl _ := ⟨hw⟩; clear hz hw; go_wp2_with fail; go_ret; exact ⟨by rw [HV.out]; rfl, HW.out⟩
end Go.Proofs.YtafadpaljanghaaGreatDoor
