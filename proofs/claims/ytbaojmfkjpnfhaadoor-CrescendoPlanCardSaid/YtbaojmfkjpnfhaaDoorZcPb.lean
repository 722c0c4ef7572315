/- Plain law: what Plan's groups are, and that no division has a lesser step (CrescendoLeast). -/
import Derived.Test.YtbaojmfkjpnfhaaDoorZcP
import Derived.Test.YtbaojmfkjpnfhaaDoorSiG
import Derived.Test.YtbaojmfkjpnfhaaDoorSiF
import Derived.Test.YtbaojmfkjpnfhaaDoorSiH
namespace Go.Proofs.YtbaojmfkjpnfhaaDoor
set_option linter.unusedSimpArgs false
set_option linter.unusedVariables false
def endG (l : List Int) (S : Int) : Nat → Nat → Nat → Nat
  | _, f, 0 => f
  | 0, f, _ + 1 => f
  | n + 1, f, j + 1 => endG l S n (max f (rem l S n)) j
theorem grpE_len (l : List Int) (S : Int) : ∀ n f, (grpE l S n f).length = n
  | 0, _ => rfl
  | n+1, f => by rw [grpE, List.length_cons, grpE_len l S n]
theorem grpE_get (l : List Int) (S : Int) : ∀ n f j, j < n → (grpE l S n f)[j]? = some (endG l S n f j, endG l S n f (j + 1))
  | 0, f, j, h => absurd h (Nat.not_lt_zero _)
  | n+1, f, 0, _ => by
    rw [grpE, List.getElem?_cons_zero]
    cases n <;> rfl
  | n+1, f, j+1, h => by
    rw [grpE, List.getElem?_cons_succ, grpE_get l S n _ j (by omega)]; rfl
theorem endG_mono (l : List Int) (S : Int) : ∀ n f j, endG l S n f j ≤ endG l S n f (j + 1)
  | 0, f, 0 => Nat.le_refl _
  | 0, f, j+1 => Nat.le_refl _
  | n+1, f, 0 => by
    have : endG l S (n + 1) f 1 = endG l S n (max f (rem l S n)) 0 := rfl; rw [this]; have e : endG l S n (max f (rem l S n)) 0 = max f (rem l S n) := (by cases n <;> rfl); rw [e]; exact Nat.le_max_left _ _
  | n+1, f, j+1 => endG_mono l S n _ j
def sumI (ws : List Int) (l : List Int) : Int := (l.map fun x => gt ws x.toNat).foldl (· + ·) 0
theorem foldl_add (l : List Int) : ∀ a : Int, l.foldl (· + ·) a = a + l.foldl (· + ·) 0 := by
  induction l with
  | nil => intro a; simp
  | cons x l ih => intro a; rw [List.foldl_cons, ih, List.foldl_cons, ih (0 + x)]; omega
theorem sum_take (l : List Int) : ∀ k, (l.take k).foldl (· + ·) 0 = psm l k
  | 0 => rfl
  | k+1 => by
    rw [psm, ← sum_take l k, List.take_add_one, List.foldl_append]
    cases h : l[k]? with
    | none => rw [gt, h]; simp
    | some x => rw [gt, h]; simp
theorem sum_cut (ws od : List Int) (p : Nat × Nat) (hp : p.1 ≤ p.2) : sumI ws (cutL od p) = psm (od.map fun x => gt ws x.toNat) p.2 - psm (od.map fun x => gt ws x.toNat) p.1 := by
  unfold sumI cutL; rw [← sum_take _ p.2, ← sum_take _ p.1, List.map_drop, List.map_take]; generalize od.map (fun x => gt ws x.toNat) = m; have e : m.take p.2 = (m.take p.2).take p.1 ++ (m.take p.2).drop p.1 := (List.take_append_drop _ _).symm; have e2 : (m.take p.2).take p.1 = m.take p.1 := (by rw [List.take_take, Nat.min_eq_left hp]); have := congrArg (fun l => l.foldl (· + ·) (0 : Int)) e; simp only [List.foldl_append, e2] at this; have h := foldl_add ((m.take p.2).drop p.1) ((m.take p.1).foldl (· + ·) 0); omega
theorem fstE_ok {f : Nat → Int} : ∀ n k, (∀ j, k ≤ j → j < k + n → f j = 0) → fstE f n k = 0
  | 0, _, _ => rfl
  | n+1, k, h => by
    rw [fstE, if_pos (h k (Nat.le_refl _) (by omega))]; exact fstE_ok n (k + 1) (fun j h1 h2 => h j (by omega) (by omega))
structure WsOK (ws : List Int) (n : Nat) : Prop where
  len : ws.length ≤ 80
  n1 : 1 ≤ n ∧ n ≤ 60
  w : ∀ j, 0 ≤ gt ws j ∧ gt ws j ≤ 1073741824
section
variable {ws : List Int} {n : Nat}
theorem WsOK.e (h : WsOK ws n) : planE ws (n : Int) = 0 := by
  unfold planE; have h1 := h.len; have h2 := h.n1; rw [if_neg (by omega), if_neg (by omega)]
  exact fstE_ok _ _ (fun j _ _ => by
    have := h.w j; unfold rngW
    rw [if_neg (by omega)])
theorem WsOK.wt (h : WsOK ws n) (j : Nat) : 0 ≤ gt (wtL ws) j := by
  unfold wtL; rcases Nat.lt_or_ge j (ordL ws).length with hj | hj
  · rw [gt, List.getElem?_map, List.getElem?_eq_getElem hj]; exact (h.w _).1
  · rw [gt, List.getElem?_map, List.getElem?_eq_none hj]; exact Int.le_refl _
theorem WsOK.s (h : WsOK ws n) : planS ws (n : Int) = lst (wtL ws) (n - 1) 0 := by
  unfold planS; rw [if_pos h.e, Int.toNat_natCast]
theorem WsOK.s0 (h : WsOK ws n) : 0 ≤ planS ws (n : Int) := by rw [h.s]; exact (lst_pos h.wt _ _ (Nat.zero_le _)).1
theorem WsOK.g (h : WsOK ws n) : planG ws (n : Int) = (grpE (wtL ws) (planS ws (n : Int)) n 0).map (cutL (ordL ws)) := by
  unfold planG; rw [if_pos h.e, Int.toNat_natCast]
theorem WsOK.get (h : WsOK ws n) {j : Nat} (hj : j < n) : (planG ws (n : Int))[j]? = some (cutL (ordL ws) (endG (wtL ws) (planS ws (n : Int)) n 0 j, endG (wtL ws) (planS ws (n : Int)) n 0 (j + 1))) := by
  rw [h.g, List.getElem?_map, grpE_get _ _ _ _ _ hj]; rfl
theorem WsOK.sum (h : WsOK ws n) {j : Nat} (hj : j < n) {g : List Int} (hg : (planG ws (n : Int))[j]? = some g) : sumI ws g = psm (wtL ws) (endG (wtL ws) (planS ws (n : Int)) n 0 (j + 1)) - psm (wtL ws) (endG (wtL ws) (planS ws (n : Int)) n 0 j) := by
  rw [h.get hj] at hg; injection hg with hg
  rw [← hg, sum_cut ws (ordL ws) _ (endG_mono _ _ _ _ _)]; rfl
def atS (sz : List Int) (len n : Nat) : Nat → Nat
  | 0 => 0
  | i+1 => atS sz len n i + (if i + 1 < n then min ((sz[i]?.getD 0).toNat) (len - atS sz len n i) else len - atS sz len n i)
def othS (wt : List Int) (sz : List Int) (len n : Nat) : Nat → Int
  | 0 => 0
  | i+1 => max (othS wt sz len n i) (psm wt (atS sz len n (i + 1)) - psm wt (atS sz len n i))
theorem atS_mono (sz : List Int) (len n i : Nat) : atS sz len n i ≤ atS sz len n (i + 1) := by rw [atS]; omega
theorem atS_le (sz : List Int) (len n : Nat) : ∀ i, atS sz len n i ≤ len
  | 0 => Nat.zero_le _
  | i+1 => by
    have := atS_le sz len n i; rw [atS]
    split <;> omega
theorem atS_last (sz : List Int) (len n : Nat) (hn : 1 ≤ n) : atS sz len n n = len := by
  obtain ⟨m, rfl⟩ : ∃ m, n = m + 1 := ⟨n - 1, by omega⟩; have := atS_le sz len (m + 1) m; rw [atS, if_neg (by omega)]; omega
theorem othS_ge (wt sz : List Int) (len n : Nat) : ∀ i j, j < i → psm wt (atS sz len n (j + 1)) - psm wt (atS sz len n j) ≤ othS wt sz len n i
  | 0, j, h => absurd h (Nat.not_lt_zero _)
  | i+1, j, h => by
    rw [othS]; rcases Nat.lt_or_ge j i with h1 | h1
    · have := othS_ge wt sz len n i j h1; omega
    · obtain rfl : j = i := (by omega); omega
theorem WsOK.least (h : WsOK ws n) (sz : List Int) : planS ws (n : Int) ≤ othS (wtL ws) sz ws.length n n := by
  have hn := h.n1; rw [h.s]; refine lst_least h.wt (n - 1) 0 (atS sz ws.length n) rfl ?_ (fun j _ => atS_mono _ _ _ _) (fun j hj => othS_ge _ _ _ _ n j (by omega)); rw [show n - 1 + 1 = n by omega, atS_last _ _ _ hn.1, wtL_len]
end
end Go.Proofs.YtbaojmfkjpnfhaaDoor
namespace Go.Proofs.YtbaojmfkjpnfhaaDoor
set_option linter.unusedSimpArgs false
open Go.RowKit
set_option linter.unusedVariables false
def UK (k : IntKind) (w : World) (A : Option Addr) (n : Nat) (l : List Int) : Prop := l.length = n ∧ Reads w w.heap.size 1 A n (l.map (Value.int k))
theorem UK.below {k : IntKind} {w w' : World} {A : Option Addr} {n : Nat} {l : List Int} (h : UK k w A n l) (hb : Below w.heap.size w w') : UK k w' A n l := ⟨h.1, (h.2.below hb).more hb.size⟩
theorem UK.cell {k : IntKind} {w : World} {A : Option Addr} {n : Nat} {l : List Int} (h : UK k w A n l) {j : Nat} (hj : j < n) : ∃ ad, A = some ad ∧ ad.block < w.heap.size ∧ w.cell? (ad.add j) = some (.int k (gt l j)) := by
  obtain ⟨ad, e, hb, hc⟩ := h.2.2 (by omega); have hl := h.1; refine ⟨ad, e, hb, hc _ _ ?_⟩; rw [List.getElem?_map, List.getElem?_eq_getElem (by omega), gt, List.getElem?_eq_getElem (by omega)]; rfl
end Go.Proofs.YtbaojmfkjpnfhaaDoor
namespace Go.Proofs.YtbaojmfkjpnfhaaDoor
open Go.ChangeShapes Go.WideShapes Go.ChangeAt Go.RowKit Go.Deep
set_option linter.unusedVariables false
set_option linter.unusedSimpArgs false
set_option maxRecDepth 100000 in
theorem uk_trod {H : Type} {enc : TypeId × Value → H} {W : World} {fuel : Nat} {v : Value} {x : DataW H × List MemPlace} {t e : TypeId} {k : IntKind} (ht : Tryd.prog.underlying t = some (.slice e)) (he : Tryd.prog.underlying e = some (.int k)) (hc : Tryd.prog.cellsOf e = 1) (h : DataW.trod enc Tryd.prog W 0 (fun _ => true) true fuel t [v] = some x) (hb : ∀ p ∈ x.2, p.block < W.heap.size) :
    ∃ A n c l, v = .slice A n c ∧ UK k W A n l ∧ (n ≤ c ∧ c ≤ maxLen) ∧ ∀ z ∈ l, (Lit.int k z).wf = true := by
  rcases open_ints ht he hc h with ⟨hv, _⟩ | ⟨a, len, cap, zs, hv, _, hlc, hcm, hzl, hx, hcell, hwf⟩
  · simp at hv; exact ⟨none, 0, 0, [], hv, ⟨rfl, by simp, fun h => absurd h (Nat.lt_irrefl _)⟩, ⟨by simp, by decide⟩, by simp⟩
  · simp at hv; subst hv; simp only [if_true] at hzl; rw [hx] at hb; refine ⟨some a, len, cap, zs.take len, rfl, ⟨by rw [List.length_take]; omega, by simp; omega, fun h0 => ⟨a, rfl, ?_, fun j u hu => ?_⟩⟩, ⟨hlc, hcm⟩, fun z hz => hwf z (List.mem_of_mem_take hz)⟩
    · exact hb _ (MemPlace.mem_row.2 ⟨0, by omega, rfl⟩)
    · rw [List.getElem?_map] at hu; rcases Nat.lt_or_ge j len with hj | hj
      · rw [List.getElem?_take_of_lt hj, List.getElem?_eq_getElem (by omega)] at hu; simp at hu; subst hu; rw [hcell j (by omega)]; have e : zs.getD j 0 = zs[j]'(by omega) := (by simp [List.getD, List.getElem?_eq_getElem (show j < zs.length by omega)]); rw [e]
      · rw [List.getElem?_eq_none (by simp; omega)] at hu
        cases hu
end Go.Proofs.YtbaojmfkjpnfhaaDoor
namespace Go.Proofs.YtbaojmfkjpnfhaaDoor
open Go.ChangeShapes Go.WideShapes Go.ChangeAt Go.RowKit Go.Deep
set_option linter.unusedVariables false
set_option linter.unusedSimpArgs false
set_option maxRecDepth 100000 in
theorem l64s_arg {H : Type} {enc : TypeId × Value → H} {W : World} {base : Nat} {v : Value} {d : DataW H} {ps : List MemPlace} (hval : Value.okWide Tryd.prog W .any base 22 v) (h : DataW.Trod enc Tryd.prog W 0 (fun _ => true) true 22 v d ps) (hb : ∀ p ∈ ps, p.block < W.heap.size) :
    ∃ A n c l, v = .slice A n c ∧ II W A n l ∧ (n ≤ c ∧ c ≤ maxLen) ∧ ∀ z ∈ l, i64 z := by
  obtain ⟨a0, len0, cap0, rfl⟩ := okWide_slice Tryd.underlying22 hval; obtain ⟨fuel, h⟩ := h; obtain ⟨A, n, c, l, h1, h2, h3, h4⟩ := uk_trod Tryd.underlying22 Tryd.underlying2 (by kernel_rfl) h hb; exact ⟨A, n, c, l, h1, h2, h3, fun z hz => wf_i64 (h4 z hz)⟩
end Go.Proofs.YtbaojmfkjpnfhaaDoor
namespace Go.Proofs.YtbaojmfkjpnfhaaDoor
set_option linter.unusedSimpArgs false
set_option linter.unusedVariables false
theorem insO_pass (ws : List Int) (x : Int) : ∀ A B : List Int, (∀ y ∈ A, ¬ dueI ws x < dueI ws y) → (∀ y ∈ B, dueI ws x < dueI ws y) → insO ws x (A ++ B) = A ++ x :: B
  | [], [], _, _ => rfl
  | [], y :: B, _, h2 => by
    show (if dueI ws x < dueI ws y then x :: y :: B else y :: insO ws x B) = _; rw [if_pos (h2 y List.mem_cons_self)]; rfl
  | a :: A, B, h1, h2 => by
    show (if dueI ws x < dueI ws a then x :: a :: (A ++ B) else a :: insO ws x (A ++ B)) = _; rw [if_neg (h1 a List.mem_cons_self), insO_pass ws x A B (fun y hy => h1 y (List.mem_cons_of_mem _ hy)) h2]; rfl
theorem ins_at (ws : List Int) (x : Int) (A B : List Int) (hs : (A ++ B).Pairwise (fun a b => dueI ws a < dueI ws b)) (hx : ∀ y ∈ A ++ B, 0 ≤ y ∧ y < x) (hx2 : x < 1000)
    (hB : ∀ y ∈ B, gt ws x.toNat < gt ws y.toNat) (hA : ∀ y, A.getLast? = some y → gt ws y.toNat ≤ gt ws x.toNat) : insO ws x (A ++ B) = A ++ x :: B := by
  refine insO_pass ws x A B (fun y hy => ?_) (fun y hy => ?_)
  · have hne : A ≠ [] := List.ne_nil_of_mem hy; obtain ⟨z, hz⟩ : ∃ z, A.getLast? = some z := ⟨_, List.getLast?_eq_some_getLast hne⟩; have h1 := hA z hz; have hzA : z ∈ A := List.mem_of_getLast? hz; have h2 := hx z (List.mem_append_left _ hzA); have h3 : dueI ws z < dueI ws x := (by unfold dueI; generalize gt ws z.toNat = p at *; generalize gt ws x.toNat = q at *; omega)
    have h4 : y = z ∨ dueI ws y < dueI ws z := by
      have hsA := (List.pairwise_append.1 hs).1; obtain ⟨j, hj, rfl⟩ := List.getElem_of_mem hy; rw [List.getLast?_eq_getElem?] at hz; obtain ⟨hl, hz⟩ := List.getElem?_eq_some_iff.1 hz; rcases Nat.lt_or_ge j (A.length - 1) with h5 | h5
      · right
        rw [← hz]; exact List.pairwise_iff_getElem.1 hsA j (A.length - 1) hj hl h5
      · left
        have : j = A.length - 1 := (by omega); subst this; exact hz
    rcases h4 with rfl | h4 <;> omega
  · have h1 := hB y hy; have h2 := hx y (List.mem_append_right _ hy); unfold dueI; generalize gt ws y.toNat = p at *
    generalize gt ws x.toNat = q at *
    omega
end Go.Proofs.YtbaojmfkjpnfhaaDoor
namespace Go.Proofs.YtbaojmfkjpnfhaaDoor
set_option linter.unusedSimpArgs false
open Go.RowKit
set_option linter.unusedVariables false
theorem OI.at_ {w : World} {base : Nat} {A : Option Addr} {n c : Nat} {l : List Int} (h : OI w base A n c l) (hn : 0 < n) : ∃ g, A = some ⟨g, 0, none⟩ ∧ base ≤ g ∧ g < w.heap.size ∧ (∀ j, w.frozen? ⟨g, j, none⟩ = false) ∧ ∀ j, j < n → w.cell? ⟨g, j, none⟩ = some (.int .i64 (gt l j)) := by
  have hl := h.len; have hr := Reads.of_own h; rcases h.2 with ⟨h0, h1⟩ | ⟨g, cap, cur, e1, h2, hh, hr2⟩
  · omega
  · injection e1 with e1 _ _
    subst e1; have hB : Blk w g 3 cur := hh; refine ⟨g, rfl, h2, hB.lt, hB.frozen, fun j hj => ?_⟩; obtain ⟨ad, e, _, hc⟩ := hr.2 hn; injection e with e
    subst e; have := hc j (.int .i64 (gt l j)) (by rw [List.getElem?_map, List.getElem?_eq_getElem (by omega), gt, List.getElem?_eq_getElem (by omega)]; rfl); rw [show (⟨g, 0, none⟩ : Addr).add j = ⟨g, j, none⟩ by unfold Addr.add; split <;> simp_all] at this; exact this
theorem OI.set {w : World} {base g : Nat} {n c : Nat} {l : List Int} (h : OI w base (some ⟨g, 0, none⟩) n c l) (k : Nat) (z : Int) : OI (w.setCell ⟨g, k, none⟩ (.int .i64 z)) base (some ⟨g, 0, none⟩) n c (l.set k z) := by
  refine ⟨by rw [List.length_map, List.length_set]; have := h.1; rwa [List.length_map] at this, ?_⟩; rcases h.2 with ⟨h0, h1⟩ | ⟨g', cap, cur, e1, h2, hh, h3, h4, h5, h6⟩
  · cases h0
  · injection e1 with e1 e2 e3
    injection e1 with e1
    injection e1 with e1 _ _
    subst e1; subst e3; have hB : Blk w g 3 cur := hh; refine .inr ⟨g, c, _, rfl, h2, hB.set_ k _, h3, h4, by simpa using h5, ?_⟩; rw [Array.toList_setIfInBounds, List.map_set, ← h6, List.take_set]; rfl
end Go.Proofs.YtbaojmfkjpnfhaaDoor
namespace Go.Proofs.YtbaojmfkjpnfhaaDoor
set_option linter.unusedSimpArgs false
open Go.RowKit
set_option linter.unusedVariables false
theorem swap_set (A B : List Int) (y x : Int) : (((A ++ [y]) ++ x :: B).set (A.length + 1) y).set A.length x = A ++ x :: y :: B := by
  rw [show (A ++ [y]) ++ x :: B = A ++ y :: x :: B by simp]; rw [List.set_append_right _ _ (by omega), List.set_append_right _ _ (by omega)]; simp
theorem gt_mid (A B : List Int) (x : Int) : gt (A ++ x :: B) A.length = x := by unfold gt; simp
theorem gt_pre (A B : List Int) (y x : Int) : gt ((A ++ [y]) ++ x :: B) A.length = y := by unfold gt; simp
set_option maxHeartbeats 6400000 in
set_option maxRecDepth 100000 in
theorem crOrder_any (A : Option Addr) (n c : Nat) (ws : List Int) (w : World) (hl : II w A n ws) (hn : n ≤ 1000) :
    Calls Tryd.prog 19 #[.slice A n c] w fun e w' => (∃ O co, e = .returned (.slice O n co) ∧ OI w' w.heap.size O n co (ordL ws)) ∧ Below w.heap.size w w' := by
  have HL : Sl _ := ⟨hl⟩; have HLEN : Sl (ws.length = n) := ⟨hl.1⟩; clear hl; go_enter Tryd.func19, Tryd.ntmps19; go_wp2_with fail
  go_loopw [3, 4] (fun s3 s4 wv => ∃ (i : Nat) (O : Option Addr) (co : Nat), i ≤ n ∧ s3 = .slice O i co ∧ s4 = .int .i64 i ∧ Sl (Below w.heap.size w wv ∧ OI wv w.heap.size O i co (ordF ws i))) (fun _ s4 _ => n - (RowKit.intOf s4).toNat)
  case atStart => exact ⟨0, none, 0, Nat.zero_le _, rfl, rfl, ⟨Below.refl _ _, OI.nil _ _⟩⟩
  case round =>
    obtain ⟨i, O, co, hi, rfl, rfl, HK⟩ := hrel; have HB : Sl _ := ⟨HK.out.1⟩; have HO : Sl _ := ⟨HK.out.2⟩; clear HK; have hn1000 : (n : Int) ≤ 1000 := (by omega)
    by_cases hin : i < n
    · have hiI : decide ((i : Int) < (n : Int)) = true := decide_eq_true (by omega); have hiI2 : (i : Int) < (n : Int) := (by omega); go_wp2_with (at_builtin; go_loud (refine wpList_append_oi rfl (.tmp 13) (.tmp 15) rfl w.heap.size O i co (ordF ws i) rfl (HO.out.alloc _) (some ⟨wr.heap.size, 0, none⟩) 1 1 [(i : Int)] rfl (II.made _ _ _) (by omega) (Nat.le_trans HB.out.size (by simp)) ?_); rintro O2 c2 w2 zo zg zt; have HZ : Sl _ := ⟨And.intro zo zg⟩; clear zo zg zt); have hb2 : Below w.heap.size w w2 := below_grown (HB.out.alloc HB.out.size _) HZ.out.2 (Nat.le_trans HB.out.size (by simp)) (fun q hq => (World.ownsRow.lt HO.out q hq).1); obtain ⟨g, rfl, hg1, _, _, _⟩ := HZ.out.1.at_ (Nat.succ_pos i); have HG : Sl (w.heap.size ≤ g) := ⟨hg1⟩; have HB2 : Sl (Below w.heap.size w w2) := ⟨hb2⟩; have HO2 : Sl (OI w2 w.heap.size (some ⟨g, 0, none⟩) (i + 1) c2 (ordF ws i ++ [(i : Int)])) := ⟨HZ.out.1⟩; clear HZ HO HB hb2 hg1
      go_loopw [5] (fun s5 wv => ∃ (P Q : List Int), s5 = .int .i64 (P.length : Int) ∧ Sl (P ++ Q = ordF ws i ∧ (∀ y ∈ Q, gt ws i < gt ws y.toNat) ∧ Below w.heap.size w wv ∧ OI wv w.heap.size (some ⟨g, 0, none⟩) (i + 1) c2 (P ++ (i : Int) :: Q))) (fun s5 _ => (RowKit.intOf s5).toNat)
      case atStart => exact ⟨ordF ws i, [], by rw [ordF_len], ⟨by simp, fun y hy => (by cases hy), HB2.out, HO2.out⟩⟩
      case round =>
        clear HB2 HO2; obtain ⟨P, Q, rfl, HK⟩ := hrel; have hS0 : Below wr.heap.size wr wr.drew := below_drewN (Below.refl _ _) 1; have HI : Sl (∀ y ∈ P ++ Q, 0 ≤ y ∧ y < (i : Int)) := ⟨fun y hy => by rw [HK.out.1] at hy; exact (ordF_mem ws i y).1 hy⟩
        have HEND : Sl ((∀ y, P.getLast? = some y → gt ws y.toNat ≤ gt ws i) → ordF ws (i + 1) = P ++ (i : Int) :: Q) := ⟨fun hA => by
          rw [ordF, ← HK.out.1]
          exact ins_at ws (i : Int) P Q (by rw [HK.out.1]; exact ordF_srt (by rw [HLEN.out]; exact hn) i (by rw [HLEN.out]; exact hi)) HI.out (by omega) HK.out.2.1 hA⟩
        have HBR : Sl _ := ⟨HK.out.2.2.1⟩; have HOR : Sl _ := ⟨HK.out.2.2.2⟩; rcases List.eq_nil_or_concat P with hP | ⟨P', y, hP⟩
        · subst hP; have HE : Sl _ := ⟨HEND.out (fun y hy => by cases hy)⟩; clear HEND HI; rw [show (([] : List Int).length : Int) = 0 from rfl]; go_wp2_with fail; have hm := hS0; refine wp_region_held_drew (S := fun w' => Below wr.heap.size wr w') (by kernel_rfl) hm (fun hHeld => ?_); clear hm; refine wpAnyH_pure 0 (v := .int .i64 0) rfl (by kernel_rfl) (by kernel_rfl) (by kernel_rfl) (fun _ _ _ h => h) rfl (fun _ => rfl) (by assumption) ?_; simp only [Act.put, sS0, sS1, sS2]; refine wpAnyH_pure 1 (v := .bool false) rfl (by kernel_rfl) (by kernel_rfl) (by kernel_rfl) (fun _ _ _ h => h) rfl (fun _ => by go_simp) (by assumption) ?_; simp only [Act.put, sS0, sS1, sS2]; refine wpAnyH_pure 2 (v := .bool false) rfl (by kernel_rfl) (by kernel_rfl) (by kernel_rfl) (fun _ _ _ h => h) rfl (fun _ => rfl) (by assumption) ?_; simp only [Act.put, sS0, sS1, sS2]; refine wpAnyH_no 3 rfl (by kernel_rfl) (by kernel_rfl) (by kernel_rfl) (fun _ _ _ h => h) (by rfl) (by assumption) ?_; simp only [Act.put, sS0, sS1, sS2]; refine wpAnyH_no 4 rfl (by kernel_rfl) (by kernel_rfl) (by kernel_rfl) (fun _ _ _ h => h) (by rfl) (by assumption) ?_; simp only [Act.put, sS0, sS1, sS2]; refine wpAnyH_no 5 rfl (by kernel_rfl) (by kernel_rfl) (by kernel_rfl) (fun _ _ _ h => h) (by rfl) (by assumption) ?_; simp only [Act.put, sS0, sS1, sS2]; refine wpAnyH_no 6 rfl (by kernel_rfl) (by kernel_rfl) (by kernel_rfl) (fun _ _ _ h => h) (by rfl) (by assumption) ?_; simp only [Act.put, sS0, sS1, sS2]; refine wpAnyH_no 7 rfl (by kernel_rfl) (by kernel_rfl) (by kernel_rfl) (fun _ _ _ h => h) (by rfl) (by assumption) ?_; simp only [Act.put, sS0, sS1, sS2]; refine wpAnyH_no 8 rfl (by kernel_rfl) (by kernel_rfl) (by kernel_rfl) (fun _ _ _ h => h) (by rfl) (by assumption) ?_; simp only [Act.put, sS0, sS1, sS2]; refine wpAnyH_no 9 rfl (by kernel_rfl) (by kernel_rfl) (by kernel_rfl) (fun _ _ _ h => h) (by rfl) (by assumption) ?_; simp only [Act.put, sS0, sS1, sS2]; refine wpAnyH_no 10 rfl (by kernel_rfl) (by kernel_rfl) (by kernel_rfl) (fun _ _ _ h => h) (by rfl) (by assumption) ?_; simp only [Act.put, sS0, sS1, sS2]; refine wpAnyH_no 11 rfl (by kernel_rfl) (by kernel_rfl) (by kernel_rfl) (fun _ _ _ h => h) (by rfl) (by assumption) ?_; simp only [Act.put, sS0, sS1, sS2]; refine wpAnyH_no 12 rfl (by kernel_rfl) (by kernel_rfl) (by kernel_rfl) (fun _ _ _ h => h) (by rfl) (by assumption) ?_; simp only [Act.put, sS0, sS1, sS2]; refine wpAnyH_no 13 rfl (by kernel_rfl) (by kernel_rfl) (by kernel_rfl) (fun _ _ _ h => h) (by rfl) (by assumption) ?_; simp only [Act.put, sS0, sS1, sS2]; refine wpAnyH_no 14 rfl (by kernel_rfl) (by kernel_rfl) (by kernel_rfl) (fun _ _ _ h => h) (by rfl) (by assumption) ?_; simp only [Act.put, sS0, sS1, sS2]; refine wpAnyH_no 15 rfl (by kernel_rfl) (by kernel_rfl) (by kernel_rfl) (fun _ _ _ h => h) (by rfl) (by assumption) ?_; simp only [Act.put, sS0, sS1, sS2]; refine wpAnyH_no 16 rfl (by kernel_rfl) (by kernel_rfl) (by kernel_rfl) (fun _ _ _ h => h) (by rfl) (by assumption) ?_
          simp only [Act.put, sS0, sS1, sS2]; refine wpAnyH_no 17 rfl (by kernel_rfl) (by kernel_rfl) (by kernel_rfl) (fun _ _ _ h => h) (by rfl) (by assumption) ?_; simp only [Act.put, sS0, sS1, sS2]; refine wpAnyH_no 18 rfl (by kernel_rfl) (by kernel_rfl) (by kernel_rfl) (fun _ _ _ h => h) (by rfl) (by assumption) ?_; simp only [Act.put, sS0, sS1, sS2]; refine wpAnyH_pure 19 (v := .bool false) rfl (by kernel_rfl) (by kernel_rfl) (by kernel_rfl) (fun _ _ _ h => h) rfl (fun _ => by go_simp) (by assumption) ?_; simp only [Act.put, sS0, sS1, sS2]; refine wpAnyH_done (by kernel_rfl) ?_ _; clear hHeld; go_wp2_with fail; exact ⟨⟨i + 1, _, c2, by omega, rfl, by go_num, ⟨below_drewN HBR.out 1, by rw [HE.out]; exact HOR.out.below (below_drewN (Below.refl _ _) 1)⟩⟩, by simp [RowKit.intOf]; omega⟩
        · rw [List.concat_eq_append] at hP; subst hP; have hyI := HI.out y (by simp); obtain ⟨p, rfl⟩ := Int.eq_ofNat_of_zero_le hyI.1; have hKI : (((P' ++ [(p : Int)]).length : Nat) : Int) = ((P'.length + 1 : Nat) : Int) := (by simp); rw [hKI]; obtain ⟨K, hK⟩ : ∃ K, P'.length = K := ⟨_, rfl⟩
          have hKi : K + 1 ≤ i := by
            have h1 := congrArg List.length HK.out.1; rw [ordF_len] at h1; simp at h1; omega
          obtain ⟨g', hg', _, hgl, hfz, hcl⟩ := HOR.out.at_ (Nat.succ_pos i); injection hg' with hg'
          injection hg' with hg' _ _
          subst hg'; have q1 := hcl (K + 1) (by omega); have q2 := hcl K (by omega); rw [show gt ((P' ++ [(p : Int)]) ++ (i : Int) :: Q) (K + 1) = (i : Int) by rw [← hK, show P'.length + 1 = (P' ++ [(p : Int)]).length by simp]; exact gt_mid _ _ _] at q1; rw [show gt ((P' ++ [(p : Int)]) ++ (i : Int) :: Q) K = (p : Int) by rw [← hK]; exact gt_pre _ _ _ _] at q2; obtain ⟨aw, eA, hab, k1⟩ := (HL.out.below HBR.out).cell (j := i) hin; obtain ⟨aw2, eA2, _, k2⟩ := (HL.out.below HBR.out).cell (j := p) (by omega); have e3 : aw = aw2 := Option.some.inj (eA.symm.trans eA2); subst e3; obtain ⟨u, hu⟩ : ∃ u, gt ws i = u := ⟨_, rfl⟩; obtain ⟨v, hv⟩ : ∃ v, gt ws p = v := ⟨_, rfl⟩; rw [hu] at k1; rw [hv] at k2; rw [hK]; obtain ⟨J, hJ⟩ : ∃ J, K + 1 = J := ⟨_, rfl⟩; rw [hJ] at q1 ⊢; have HQ : Sl (∀ W, Below wr.heap.size wr W → (W.cell? ⟨g, J, none⟩ = some (.int .i64 (i : Int)) ∧ W.cell? ⟨g, K, none⟩ = some (.int .i64 (p : Int))) ∧ W.cell? (aw.add i) = some (.int .i64 u) ∧ W.cell? (aw.add p) = some (.int .i64 v)) := ⟨fun W hW => ⟨⟨(hW.cell hgl).trans q1, (hW.cell hgl).trans q2⟩, (hW.cell (by rw [block_of_add]; exact hab)).trans k1, (hW.cell (by rw [block_of_add]; exact hab)).trans k2⟩⟩; clear eA2; subst eA; have HP : Sl (P'.length = K ∧ K + 1 = J ∧ gt ws i = u ∧ gt ws p = v) := ⟨hK, hJ, hu, hv⟩; have HKK2 : Sl ((P' ++ [(p : Int)]) ++ Q = ordF ws i ∧ ∀ y ∈ Q, gt ws i < gt ws y.toNat) := ⟨HK.out.1, HK.out.2.1⟩; have hJ0 : (0 : Int) < (J : Int) := (by omega); have hJN : 0 < J := (by omega); have hJ1 : decide ((0 : Int) < (J : Int)) = true := decide_eq_true hJ0; have hJ2 : (0 : Int) ≤ (J : Int) := (by omega); have hJ3 : (J : Int) < (i : Int) + 1 := (by omega); have hK0 : (0 : Int) ≤ (K : Int) := (by omega); have hK3 : (K : Int) < (i : Int) + 1 := (by omega); have hJ4 : (J : Int) < ((i + 1 : Nat) : Int) := (by omega); have hK4 : (K : Int) < ((i + 1 : Nat) : Int) := (by omega); have hp0 : (0 : Int) ≤ (p : Int) := (by omega); have hp1 : (p : Int) < (n : Int) := (by have := hyI.2; omega); have hi0 : (0 : Int) ≤ (i : Int) := (by omega); have HKJ : Sl ((J : Int) - 1 = (K : Int)) := ⟨by omega⟩; have hJ1000 : (J : Int) ≤ 1000 := (by omega); clear q1 q2 k1 k2 hu hv hK hJ hfz hcl hKi hKI hyI HK HI hab hgl
          by_cases huv : u < v
          · have huv1 : decide (u < v) = true := decide_eq_true huv; have HUV : Sl (u < v) := ⟨huv⟩; go_wp2_with fail; have hm := hS0; refine wp_region_held_drew (S := fun w' => Below wr.heap.size wr w') (by kernel_rfl) hm (fun hHeld => ?_); clear hm; refine wpAnyH_pure 0 (v := .int .i64 (J : Int)) rfl (by kernel_rfl) (by kernel_rfl) (by kernel_rfl) (fun _ _ _ h => h) rfl (fun _ => rfl) (by assumption) ?_; simp only [Act.put, sS0, sS1, sS2]; refine wpAnyH_pure 1 (v := .bool true) rfl (by kernel_rfl) (by kernel_rfl) (by kernel_rfl) (fun _ _ _ h => h) rfl (fun _ => by go_simp) (by assumption) ?_; simp only [Act.put, sS0, sS1, sS2]; refine wpAnyH_pure 2 (v := .bool true) rfl (by kernel_rfl) (by kernel_rfl) (by kernel_rfl) (fun _ _ _ h => h) rfl (fun _ => rfl) (by assumption) ?_; simp only [Act.put, sS0, sS1, sS2]; refine wpAnyH_pureg 3 (v := .slice (some aw) n c) rfl (by kernel_rfl) (by kernel_rfl) (by kernel_rfl) (fun _ _ _ h => h) (by rfl) (fun _ => rfl) (by assumption) ?_; simp only [Act.put, sS0, sS1, sS2]; refine wpAnyH_pureg 4 (v := .slice (some ⟨g, 0, none⟩) (i + 1) c2) rfl (by kernel_rfl) (by kernel_rfl) (by kernel_rfl) (fun _ _ _ h => h) (by rfl) (fun _ => rfl) (by assumption) ?_; simp only [Act.put, sS0, sS1, sS2]; refine wpAnyH_pureg 5 (v := .int .i64 (J : Int)) rfl (by kernel_rfl) (by kernel_rfl) (by kernel_rfl) (fun _ _ _ h => h) (by rfl) (fun _ => rfl) (by assumption) ?_; simp only [Act.put, sS0, sS1, sS2]; refine wpAnyH_pureg 6 (v := .pointer (some ⟨g, J, none⟩)) rfl (by kernel_rfl) (by kernel_rfl) (by kernel_rfl) (fun _ _ _ h => h) (by rfl) (fun _ => by go_simp) (by assumption) ?_; simp only [Act.put, sS0, sS1, sS2]
            refine wpAnyH_cellg 7 (v := .int .i64 (i : Int)) rfl (by rfl) (fun w' h => by
              have hc := (HQ.out w' h).1.1
              go_simp) (by kernel_rfl) (by kernel_rfl) (by kernel_rfl) (fun _ _ _ h => h) (by assumption) ?_
            simp only [Act.put, sS0, sS1, sS2]; refine wpAnyH_pureg 8 (v := .pointer (some (aw.add i))) rfl (by kernel_rfl) (by kernel_rfl) (by kernel_rfl) (fun _ _ _ h => h) (by rfl) (fun _ => by go_simp) (by assumption) ?_; simp only [Act.put, sS0, sS1, sS2]
            refine wpAnyH_cellg 9 (v := .int .i64 u) rfl (by rfl) (fun w' h => by
              have hc := (HQ.out w' h).2.1
              go_simp) (by kernel_rfl) (by kernel_rfl) (by kernel_rfl) (fun _ _ _ h => h) (by assumption) ?_
            simp only [Act.put, sS0, sS1, sS2]; refine wpAnyH_pureg 10 (v := .slice (some aw) n c) rfl (by kernel_rfl) (by kernel_rfl) (by kernel_rfl) (fun _ _ _ h => h) (by rfl) (fun _ => rfl) (by assumption) ?_; simp only [Act.put, sS0, sS1, sS2]; refine wpAnyH_pureg 11 (v := .slice (some ⟨g, 0, none⟩) (i + 1) c2) rfl (by kernel_rfl) (by kernel_rfl) (by kernel_rfl) (fun _ _ _ h => h) (by rfl) (fun _ => rfl) (by assumption) ?_; simp only [Act.put, sS0, sS1, sS2]; refine wpAnyH_pureg 12 (v := .int .i64 (J : Int)) rfl (by kernel_rfl) (by kernel_rfl) (by kernel_rfl) (fun _ _ _ h => h) (by rfl) (fun _ => rfl) (by assumption) ?_; simp only [Act.put, sS0, sS1, sS2]; refine wpAnyH_pureg 13 (v := .int .i64 (K : Int)) rfl (by kernel_rfl) (by kernel_rfl) (by kernel_rfl) (fun _ _ _ h => h) (by rfl) (fun _ => by go_simp; rw [IntKind.wrap_i64]; have := HKJ.out; omega) (by assumption) ?_; simp only [Act.put, sS0, sS1, sS2]; refine wpAnyH_pureg 14 (v := .pointer (some ⟨g, K, none⟩)) rfl (by kernel_rfl) (by kernel_rfl) (by kernel_rfl) (fun _ _ _ h => h) (by rfl) (fun _ => by go_simp) (by assumption) ?_; simp only [Act.put, sS0, sS1, sS2]
            refine wpAnyH_cellg 15 (v := .int .i64 (p : Int)) rfl (by rfl) (fun w' h => by
              have hc := (HQ.out w' h).1.2
              go_simp) (by kernel_rfl) (by kernel_rfl) (by kernel_rfl) (fun _ _ _ h => h) (by assumption) ?_
            simp only [Act.put, sS0, sS1, sS2]; refine wpAnyH_pureg 16 (v := .pointer (some (aw.add p))) rfl (by kernel_rfl) (by kernel_rfl) (by kernel_rfl) (fun _ _ _ h => h) (by rfl) (fun _ => by go_simp) (by assumption) ?_; simp only [Act.put, sS0, sS1, sS2]
            refine wpAnyH_cellg 17 (v := .int .i64 v) rfl (by rfl) (fun w' h => by
              have hc := (HQ.out w' h).2.2
              go_simp) (by kernel_rfl) (by kernel_rfl) (by kernel_rfl) (fun _ _ _ h => h) (by assumption) ?_
            simp only [Act.put, sS0, sS1, sS2]; refine wpAnyH_pureg 18 (v := .bool true) rfl (by kernel_rfl) (by kernel_rfl) (by kernel_rfl) (fun _ _ _ h => h) (by rfl) (fun _ => by go_simp) (by assumption) ?_; simp only [Act.put, sS0, sS1, sS2]; refine wpAnyH_pure 19 (v := .bool true) rfl (by kernel_rfl) (by kernel_rfl) (by kernel_rfl) (fun _ _ _ h => h) rfl (fun _ => by go_simp) (by assumption) ?_; simp only [Act.put, sS0, sS1, sS2]; refine wpAnyH_done (by kernel_rfl) ?_ _; clear hHeld; have HB7 : Sl (Below w.heap.size w wr.drew) := ⟨below_drewN HBR.out 1⟩; have HO7 : Sl (OI wr.drew w.heap.size (some ⟨g, 0, none⟩) (i + 1) c2 ((P' ++ [(p : Int)]) ++ (i : Int) :: Q)) := ⟨HOR.out.below (below_drewN (Below.refl _ _) 1)⟩; have HQ7 := (HQ.out _ (below_drewN (Below.refl _ _) 1)).1; have q1 : wr.drew.cell? ⟨g, J, none⟩ = some (.int .i64 (i : Int)) := HQ7.1; have q2 : wr.drew.cell? ⟨g, K, none⟩ = some (.int .i64 (p : Int)) := HQ7.2; clear HQ HQ7 hS0 HBR HOR HEND; generalize wr.drew = w7 at *
            obtain ⟨g', hg', _, _, hfz, _⟩ := HO7.out.at_ (Nat.succ_pos i); injection hg' with hg'
            injection hg' with hg' _ _
            subst hg'; have f1 := hfz J; clear hfz huv huv1; have hKJ := HKJ.out
            go_upto_region 11 with fail
            have HB8' := HB7.out.setCell (p := ⟨g, J, none⟩) HG.out (.int .i64 (p : Int)); have HO8' := HO7.out.set J (p : Int); have HB8 : Sl (Below w.heap.size w (w7.setCell ⟨g, J, none⟩ (.int .i64 (p : Int)))) := ⟨HB8'⟩; have HO8 : Sl (OI (w7.setCell ⟨g, J, none⟩ (.int .i64 (p : Int))) w.heap.size (some ⟨g, 0, none⟩) (i + 1) c2 (((P' ++ [(p : Int)]) ++ (i : Int) :: Q).set J (p : Int))) := ⟨HO8'⟩; clear HB8' HO8' q1 q2 f1 HB7 HO7; generalize w7.setCell ⟨g, J, none⟩ (.int .i64 (p : Int)) = w8 at *
            obtain ⟨g', hg', _, _, hfz, hcl⟩ := HO8.out.at_ (Nat.succ_pos i); injection hg' with hg'
            injection hg' with hg' _ _
            subst hg'; have f1 := hfz K; have q1 := hcl K (by have := HP.out.2.1; omega); obtain ⟨z, hz⟩ : ∃ z, gt (((P' ++ [(p : Int)]) ++ (i : Int) :: Q).set J (p : Int)) K = z := ⟨_, rfl⟩; rw [hz] at q1; clear hfz hcl hz; go_wp2_with fail
            have e2 : (((P' ++ [(p : Int)]) ++ (i : Int) :: Q).set J (p : Int)).set K (i : Int) = P' ++ (i : Int) :: (p : Int) :: Q := by
              rw [← HP.out.2.1, ← HP.out.1]; exact swap_set P' Q _ _
            exact ⟨⟨P', (p : Int) :: Q, by rw [HP.out.1], ⟨by rw [← HKK2.out.1]; simp, fun y hy => by
              rcases List.mem_cons.1 hy with rfl | hy
              · rw [Int.toNat_natCast, HP.out.2.2.1, HP.out.2.2.2]; exact HUV.out
              · exact HKK2.out.2 y hy, HB8.out.setCell (p := ⟨g, K, none⟩) HG.out _, by rw [← e2]; exact HO8.out.set K _⟩⟩, by simp [RowKit.intOf]; omega⟩
          · have huv1 : decide (u < v) = false := decide_eq_false huv
            have HE : Sl _ := ⟨HEND.out (fun y hy => by
              have : y = (p : Int) := (by simpa using hy.symm); rw [this, Int.toNat_natCast, HP.out.2.2.1, HP.out.2.2.2]
              omega)⟩
            clear HEND; go_wp2_with fail; have hm := hS0; refine wp_region_held_drew (S := fun w' => Below wr.heap.size wr w') (by kernel_rfl) hm (fun hHeld => ?_); clear hm; refine wpAnyH_pure 0 (v := .int .i64 (J : Int)) rfl (by kernel_rfl) (by kernel_rfl) (by kernel_rfl) (fun _ _ _ h => h) rfl (fun _ => rfl) (by assumption) ?_; simp only [Act.put, sS0, sS1, sS2]; refine wpAnyH_pure 1 (v := .bool true) rfl (by kernel_rfl) (by kernel_rfl) (by kernel_rfl) (fun _ _ _ h => h) rfl (fun _ => by go_simp) (by assumption) ?_; simp only [Act.put, sS0, sS1, sS2]; refine wpAnyH_pure 2 (v := .bool true) rfl (by kernel_rfl) (by kernel_rfl) (by kernel_rfl) (fun _ _ _ h => h) rfl (fun _ => rfl) (by assumption) ?_; simp only [Act.put, sS0, sS1, sS2]; refine wpAnyH_pureg 3 (v := .slice (some aw) n c) rfl (by kernel_rfl) (by kernel_rfl) (by kernel_rfl) (fun _ _ _ h => h) (by rfl) (fun _ => rfl) (by assumption) ?_; simp only [Act.put, sS0, sS1, sS2]; refine wpAnyH_pureg 4 (v := .slice (some ⟨g, 0, none⟩) (i + 1) c2) rfl (by kernel_rfl) (by kernel_rfl) (by kernel_rfl) (fun _ _ _ h => h) (by rfl) (fun _ => rfl) (by assumption) ?_; simp only [Act.put, sS0, sS1, sS2]; refine wpAnyH_pureg 5 (v := .int .i64 (J : Int)) rfl (by kernel_rfl) (by kernel_rfl) (by kernel_rfl) (fun _ _ _ h => h) (by rfl) (fun _ => rfl) (by assumption) ?_; simp only [Act.put, sS0, sS1, sS2]; refine wpAnyH_pureg 6 (v := .pointer (some ⟨g, J, none⟩)) rfl (by kernel_rfl) (by kernel_rfl) (by kernel_rfl) (fun _ _ _ h => h) (by rfl) (fun _ => by go_simp) (by assumption) ?_; simp only [Act.put, sS0, sS1, sS2]
            refine wpAnyH_cellg 7 (v := .int .i64 (i : Int)) rfl (by rfl) (fun w' h => by
              have hc := (HQ.out w' h).1.1
              go_simp) (by kernel_rfl) (by kernel_rfl) (by kernel_rfl) (fun _ _ _ h => h) (by assumption) ?_
            simp only [Act.put, sS0, sS1, sS2]; refine wpAnyH_pureg 8 (v := .pointer (some (aw.add i))) rfl (by kernel_rfl) (by kernel_rfl) (by kernel_rfl) (fun _ _ _ h => h) (by rfl) (fun _ => by go_simp) (by assumption) ?_; simp only [Act.put, sS0, sS1, sS2]
            refine wpAnyH_cellg 9 (v := .int .i64 u) rfl (by rfl) (fun w' h => by
              have hc := (HQ.out w' h).2.1
              go_simp) (by kernel_rfl) (by kernel_rfl) (by kernel_rfl) (fun _ _ _ h => h) (by assumption) ?_
            simp only [Act.put, sS0, sS1, sS2]; refine wpAnyH_pureg 10 (v := .slice (some aw) n c) rfl (by kernel_rfl) (by kernel_rfl) (by kernel_rfl) (fun _ _ _ h => h) (by rfl) (fun _ => rfl) (by assumption) ?_; simp only [Act.put, sS0, sS1, sS2]; refine wpAnyH_pureg 11 (v := .slice (some ⟨g, 0, none⟩) (i + 1) c2) rfl (by kernel_rfl) (by kernel_rfl) (by kernel_rfl) (fun _ _ _ h => h) (by rfl) (fun _ => rfl) (by assumption) ?_; simp only [Act.put, sS0, sS1, sS2]; refine wpAnyH_pureg 12 (v := .int .i64 (J : Int)) rfl (by kernel_rfl) (by kernel_rfl) (by kernel_rfl) (fun _ _ _ h => h) (by rfl) (fun _ => rfl) (by assumption) ?_; simp only [Act.put, sS0, sS1, sS2]; refine wpAnyH_pureg 13 (v := .int .i64 (K : Int)) rfl (by kernel_rfl) (by kernel_rfl) (by kernel_rfl) (fun _ _ _ h => h) (by rfl) (fun _ => by go_simp; rw [IntKind.wrap_i64]; have := HKJ.out; omega) (by assumption) ?_; simp only [Act.put, sS0, sS1, sS2]; refine wpAnyH_pureg 14 (v := .pointer (some ⟨g, K, none⟩)) rfl (by kernel_rfl) (by kernel_rfl) (by kernel_rfl) (fun _ _ _ h => h) (by rfl) (fun _ => by go_simp) (by assumption) ?_; simp only [Act.put, sS0, sS1, sS2]
            refine wpAnyH_cellg 15 (v := .int .i64 (p : Int)) rfl (by rfl) (fun w' h => by
              have hc := (HQ.out w' h).1.2
              go_simp) (by kernel_rfl) (by kernel_rfl) (by kernel_rfl) (fun _ _ _ h => h) (by assumption) ?_
            simp only [Act.put, sS0, sS1, sS2]; refine wpAnyH_pureg 16 (v := .pointer (some (aw.add p))) rfl (by kernel_rfl) (by kernel_rfl) (by kernel_rfl) (fun _ _ _ h => h) (by rfl) (fun _ => by go_simp) (by assumption) ?_; simp only [Act.put, sS0, sS1, sS2]
            refine wpAnyH_cellg 17 (v := .int .i64 v) rfl (by rfl) (fun w' h => by
              have hc := (HQ.out w' h).2.2
              go_simp) (by kernel_rfl) (by kernel_rfl) (by kernel_rfl) (fun _ _ _ h => h) (by assumption) ?_
            simp only [Act.put, sS0, sS1, sS2]; refine wpAnyH_pureg 18 (v := .bool false) rfl (by kernel_rfl) (by kernel_rfl) (by kernel_rfl) (fun _ _ _ h => h) (by rfl) (fun _ => by go_simp) (by assumption) ?_; simp only [Act.put, sS0, sS1, sS2]; refine wpAnyH_pure 19 (v := .bool false) rfl (by kernel_rfl) (by kernel_rfl) (by kernel_rfl) (fun _ _ _ h => h) rfl (fun _ => by go_simp) (by assumption) ?_; simp only [Act.put, sS0, sS1, sS2]; refine wpAnyH_done (by kernel_rfl) ?_ _; clear hHeld; go_wp2_with fail; exact ⟨⟨i + 1, _, c2, by omega, rfl, by go_num, ⟨below_drewN HBR.out 1, by rw [HE.out]; exact HOR.out.below (below_drewN (Below.refl _ _) 1)⟩⟩, by simp [RowKit.intOf]; omega⟩
    · obtain rfl : n = i := (by omega); go_wp2_with fail; go_ret; exact ⟨⟨O, co, rfl, by rw [ordL, HLEN.out]; exact HO.out⟩, HB.out⟩
end Go.Proofs.YtbaojmfkjpnfhaaDoor
namespace Go.Proofs.YtbaojmfkjpnfhaaDoor
set_option linter.unusedSimpArgs false
set_option linter.unusedVariables false
theorem mnF_succ (f : Nat → Int) (i t : Nat) : mnF f i (t + 1) = if f (i + (t + 1)) < mnF f i t then f (i + (t + 1)) else mnF f i t := rfl
theorem lst_one (l : List Int) (i : Nat) : lst l 0 i = psm l l.length - psm l i := rfl
theorem lst_more (l : List Int) (g i : Nat) : lst l (g + 1) i = mnF (fun k => max (psm l k - psm l i) (lst l g k)) i (l.length - i) := rfl
theorem ends_iff {l : List Int} (h : ∀ j, 0 ≤ gt l j) {S : Int} (hS : 0 ≤ S) (g k : Nat) (hk : k ≤ l.length) : (if g = 0 then decide (k < l.length) else decide (S < lst l (g - 1) k)) = decide (k < rem l S g) := by
  cases g with
  | zero => rfl
  | succ g =>
    rw [if_neg (by omega), show g + 1 - 1 = g by omega]; exact decide_eq_decide.2 (end_iff h hS g k hk)
end Go.Proofs.YtbaojmfkjpnfhaaDoor
namespace Go.Proofs.YtbaojmfkjpnfhaaDoor
set_option linter.unusedSimpArgs false
open Go.RowKit
set_option linter.unusedVariables false
def LRow (w : World) (g n : Nat) (f : Nat → Int) : Prop := ∃ cs : Array Value, Blk w g 2 cs ∧ cs.size = n ∧ ∀ j, j < n → cs[j]? = some (.int .i64 (f j))
theorem LRow.cell {w : World} {g n : Nat} {f : Nat → Int} (h : LRow w g n f) {j : Nat} (hj : j < n) : w.cell? ⟨g, j, none⟩ = some (.int .i64 (f j)) := by
  obtain ⟨cs, hB, _, h2⟩ := h; rw [hB.cell]; exact h2 j hj
theorem LRow.lt {w : World} {g n : Nat} {f : Nat → Int} (h : LRow w g n f) : g < w.heap.size := by obtain ⟨cs, hB, _⟩ := h; exact hB.lt
theorem LRow.frozen {w : World} {g n : Nat} {f : Nat → Int} (h : LRow w g n f) (j : Nat) : w.frozen? ⟨g, j, none⟩ = false := by obtain ⟨cs, hB, _⟩ := h; exact hB.frozen j
theorem LRow.mv {w w' : World} {b g n : Nat} {f : Nat → Int} (h : LRow w b n f) (hm : Mv g w w') (hne : b ≠ g) : LRow w' b n f := by obtain ⟨cs, hB, h1⟩ := h; exact ⟨cs, hB.mv hm hne, h1⟩
theorem LRow.below {w w' : World} {b n : Nat} {f : Nat → Int} (h : LRow w b n f) (hb : Below w.heap.size w w') : LRow w' b n f := by obtain ⟨cs, hB, h1⟩ := h; exact ⟨cs, hB.below hb hB.lt, h1⟩
theorem LRow.set {w : World} {g n : Nat} {f : Nat → Int} (h : LRow w g n f) (i : Nat) (x : Int) : LRow (w.setCell ⟨g, i, none⟩ (.int .i64 x)) g n (fun k => if k = i then x else f k) := by
  obtain ⟨cs, hB, h1, h2⟩ := h; refine ⟨_, hB.set_ i _, by simpa using h1, fun j hj => ?_⟩
  by_cases hji : j = i
  · subst hji; rw [Array.getElem?_setIfInBounds_self_of_lt (by omega)]; simp
  · rw [Array.getElem?_setIfInBounds_ne (fun h => hji h.symm)]; simp only [hji, if_false]; exact h2 j hj
structure LT (w : World) (wt : List Int) (bo N n : Nat) (B : Nat → Nat) (g h : Nat) : Prop where
  out : ∃ cs : Array Value, Blk w bo 22 cs ∧ cs.size = N + 1 ∧ ∀ j, 1 ≤ j → j ≤ h → cs[j]? = some (.slice (some ⟨B j, 0, none⟩) (n + 1) (n + 1))
  row : ∀ j, 1 ≤ j → j ≤ g → LRow w (B j) (n + 1) (lst wt (j - 1))
  asc : ∀ i j, 1 ≤ i → i < j → j ≤ h → B i < B j
section
variable {w w' : World} {wt : List Int} {bo N n : Nat} {B : Nat → Nat} {g h : Nat}
theorem LT.cell (hT : LT w wt bo N n B g h) {j : Nat} (h1 : 1 ≤ j) (h2 : j ≤ h) : w.cell? ⟨bo, j, none⟩ = some (.slice (some ⟨B j, 0, none⟩) (n + 1) (n + 1)) := by
  obtain ⟨cs, hB, _, hc⟩ := hT.out; rw [hB.cell]; exact hc j h1 h2
theorem LT.lt (hT : LT w wt bo N n B g h) : bo < w.heap.size := by obtain ⟨cs, hB, _⟩ := hT.out; exact hB.lt
theorem LT.frozen (hT : LT w wt bo N n B g h) (j : Nat) : w.frozen? ⟨bo, j, none⟩ = false := by obtain ⟨cs, hB, _⟩ := hT.out; exact hB.frozen j
theorem LT.below (hT : LT w wt bo N n B g h) (hb : Below w.heap.size w w') : LT w' wt bo N n B g h := by
  obtain ⟨cs, hB, h1⟩ := hT.out; exact ⟨⟨cs, hB.below hb hB.lt, h1⟩, fun j a b => (hT.row j a b).below hb, hT.asc⟩
theorem LT.ne (hT : LT w wt bo N n B g h) {b m : Nat} {f : Nat → Int} (hr : LRow w b m f) : bo ≠ b := by
  obtain ⟨cs, hB, _⟩ := hT.out; obtain ⟨ds, hD, _⟩ := hr; exact hB.ne_ hD (by decide)
theorem LT.set (hT : LT w wt bo N n B g h) (hg : g < h) {m : Nat} {f : Nat → Int} (hr : LRow w (B h) m f) (i : Nat) (x : Int) : LT (w.setCell ⟨B h, i, none⟩ (.int .i64 x)) wt bo N n B g h := by
  have hne := hT.ne hr; obtain ⟨cs, hB, h1⟩ := hT.out; refine ⟨⟨cs, hB.far (p := ⟨B h, i, none⟩) hne _, h1⟩, fun j a b => ?_, hT.asc⟩; obtain ⟨ds, hD, h2⟩ := hT.row j a b; exact ⟨ds, hD.far (p := ⟨B h, i, none⟩) (by have := hT.asc j h a (by omega) (Nat.le_refl _); show B j ≠ B h; omega) _, h2⟩
theorem LT.close (hT : LT w wt bo N n B g (g + 1)) {f : Nat → Int} (hr : LRow w (B (g + 1)) (n + 1) f) (hf : ∀ j, j ≤ n → f j = lst wt g j) : LT w wt bo N n B (g + 1) (g + 1) := by
  refine ⟨hT.out, fun j a b => ?_, hT.asc⟩; rcases Nat.lt_or_ge g j with h1 | h1
  · obtain rfl : j = g + 1 := (by omega); obtain ⟨cs, hB, h2, h3⟩ := hr; exact ⟨cs, hB, h2, fun k hk => by rw [h3 k hk, hf k (by omega)]; rfl⟩
  · exact hT.row j a h1
theorem madeL {z : Value} {n j : Nat} (hj : j < n) : (madeCells #[z] n)[j]? = some z := by
  unfold madeCells; simp [hj, Nat.mod_one]
theorem LT.start (w : World) (wt : List Int) (N n : Nat) : LT (w.alloc (.cells (madeCells #[.slice none 0 0] (N + 1)) 22)) wt w.heap.size N n (fun _ => 0) 0 0 :=
  ⟨⟨_, Blk.new w _ _, by rw [size_madeCells], fun j a b => by omega⟩, fun j a b => by omega, fun i j a b c => by omega⟩
theorem LRow.made (W : World) (n : Nat) : LRow (W.alloc (.cells (madeCells #[.int .i64 0] n) 2)) W.heap.size n (fun _ => 0) :=
  ⟨_, Blk.new W _ _, by rw [size_madeCells], fun j hj => madeL hj⟩
theorem LT.more (hT : LT w wt bo N n B g g) (hg : g + 1 ≤ N) : LT ((w.setCell ⟨bo, g + 1, none⟩ (.slice (some ⟨w.heap.size, 0, none⟩) (n + 1) (n + 1))).alloc (.cells (madeCells #[.int .i64 0] (n + 1)) 2)) wt bo N n (fun j => if j = g + 1 then w.heap.size else B j) g (g + 1) ∧
    LRow ((w.setCell ⟨bo, g + 1, none⟩ (.slice (some ⟨w.heap.size, 0, none⟩) (n + 1) (n + 1))).alloc (.cells (madeCells #[.int .i64 0] (n + 1)) 2)) ((fun j => if j = g + 1 then w.heap.size else B j) (g + 1)) (n + 1) (fun _ => 0) := by
  have hlt := hT.lt; obtain ⟨cs, hB, h1, h2⟩ := hT.out; refine ⟨⟨⟨_, (hB.set_ (g + 1) _).alloc _, by simpa using h1, fun j a b => ?_⟩, fun j a b => ?_, fun i j a b c => ?_⟩, ?_⟩
  · by_cases hj : j = g + 1
    · subst hj; rw [Array.getElem?_setIfInBounds_self_of_lt (by omega)]; simp
    · rw [Array.getElem?_setIfInBounds_ne (fun h => hj h.symm)]; simp only [hj, if_false]; exact h2 j a (by omega)
  · simp only [show j ≠ g + 1 by omega, if_false]; obtain ⟨ds, hD, h3⟩ := hT.row j a b; refine ⟨ds, (hD.far (p := ⟨bo, g + 1, none⟩) ?_ _).alloc _, h3⟩; exact (hB.ne_ hD (by decide)).symm
  · have hi : i ≠ g + 1 := (by omega); simp only [hi, if_false]
    by_cases hj : j = g + 1
    · simp only [hj, if_true]; exact (hT.row i a (by omega)).lt
    · simp only [hj, if_false]; exact hT.asc i j a b (by omega)
  · simp only [if_true]; have := LRow.made (w.setCell ⟨bo, g + 1, none⟩ (.slice (some ⟨w.heap.size, 0, none⟩) (n + 1) (n + 1))) (n + 1)
    rwa [show (w.setCell ⟨bo, g + 1, none⟩ (.slice (some ⟨w.heap.size, 0, none⟩) (n + 1) (n + 1))).heap.size = w.heap.size by simp [World.setCell]] at this
end
theorem infoLsl : ∃ i, Tryd.prog.info? 22 = some i ∧ i.zero = some (.slice none 0 0) ∧ i.size = 1 ∧ i.bytes = 24 := by
  have h : (Tryd.prog.info? 22).map (fun i => (i.zero, i.size, i.bytes)) = some (some (.slice none 0 0), 1, 24) := (by kernel_rfl); obtain ⟨i, hi, he⟩ := Option.map_eq_some_iff.1 h; injection he with e1 e2
  injection e2 with e2 e3
  exact ⟨i, hi, e1, e2, e3⟩
theorem make_longs (n : Nat) (hn : n ≤ 1000000) (W : World) : (Instr.makeSlice 22 (.int .i64 (n : Int)) (.int .i64 (n : Int))).run Tryd.prog W = .ok (.slice (some ⟨W.heap.size, 0, none⟩) n n) (W.alloc (.cells (madeCells #[.int .i64 0] n) 2)) := by
  obtain ⟨i, h1, h2, h3, h4⟩ := infoL64; have h := run_make (P := Tryd.prog) W 22 2 i _ Tryd.underlying22 h1 h2 .i64 .i64 (n : Int) (n : Int) (by omega) (Int.le_refl _) (by rw [h4]; omega) (by omega); rw [h3] at h; simpa [Value.cells] using h
theorem make_lrows (n : Nat) (hn : n ≤ 1000000) (W : World) : (Instr.makeSlice 57 (.int .i64 (n : Int)) (.int .i64 (n : Int))).run Tryd.prog W = .ok (.slice (some ⟨W.heap.size, 0, none⟩) n n) (W.alloc (.cells (madeCells #[.slice none 0 0] n) 22)) := by
  obtain ⟨i, h1, h2, h3, h4⟩ := infoLsl; have h := run_make (P := Tryd.prog) W 57 22 i _ Tryd.underlying57 h1 h2 .i64 .i64 (n : Int) (n : Int) (by omega) (Int.le_refl _) (by rw [h4]; omega) (by omega); rw [h3] at h; simpa [Value.cells] using h
theorem OI.mt (w : World) (base g : Nat) (hB : Blk w g 3 #[]) (hg : base ≤ g) : OI w base (some ⟨g, 0, none⟩) 0 0 [] :=
  ⟨rfl, .inr ⟨g, 0, #[], rfl, hg, hB, Nat.le_refl _, Nat.zero_le _, rfl, rfl⟩⟩
theorem OG.mono {w : World} {base base' : Nat} {A : Option Addr} {n c : Nat} {L : List SlV} (h : OG w base A n c L) (hb : base' ≤ base) : OG w base' A n c L := by
  refine ⟨⟨h.row.1, ?_⟩, fun s hs => (h.all s hs).mono hb⟩; rcases h.row.2 with h0 | ⟨g, cap, cur, e, h1, h2⟩
  · exact .inl h0
  · exact .inr ⟨g, cap, cur, e, Nat.le_trans hb h1, h2⟩
def smM (wt : List Int) (i m : Nat) : Int := if m = 0 then 0 else psm wt (i + m - 1) - psm wt i
theorem smM_one (wt : List Int) (i : Nat) : smM wt i 1 = 0 := by unfold smM; rw [if_neg (by omega), show i + 1 - 1 = i by omega]; omega
theorem smM_succ (wt : List Int) (i : Nat) {m : Nat} (hm : 0 < m) : smM wt i (m + 1) = smM wt i m + gt wt (i + m - 1) := by
  unfold smM; rw [if_neg (by omega), if_neg (by omega), show i + (m + 1) - 1 = (i + m - 1) + 1 by omega, psm]; omega
structure InM (wt : List Int) (g i m : Nat) (cur : Nat → Int) : Prop where
  done : ∀ j, j < i → cur j = lst wt g j
  one : g = 0 → i + m = wt.length + 1 → cur i = lst wt 0 i
  more : 0 < g → 0 < m → cur i = mnF (fun k => max (psm wt k - psm wt i) (lst wt (g - 1) k)) i (m - 1)
theorem InM.start {wt : List Int} {g i : Nat} {cur : Nat → Int} (h : ∀ j, j < i → cur j = lst wt g j) (hi : i ≤ wt.length) : InM wt g i 0 cur := ⟨h, fun _ h => by omega, fun _ h => absurd h (Nat.lt_irrefl _)⟩
theorem InM.end_ {wt : List Int} {g i m : Nat} {cur : Nat → Int} (h : InM wt g i m cur) (hm : i + m = wt.length + 1) (hi : i ≤ wt.length) : ∀ j, j < i + 1 → cur j = lst wt g j := fun j hj => by
  rcases Nat.lt_or_ge j i with h1 | h1
  · exact h.done j h1
  · obtain rfl : j = i := (by omega); rcases Nat.eq_zero_or_pos g with h0 | h0
    · subst h0; exact h.one rfl hm
    · rw [h.more h0 (by omega)]; obtain ⟨g', rfl⟩ : ∃ g', g = g' + 1 := ⟨g - 1, by omega⟩; rw [lst_more, show m - 1 = wt.length - j by omega]; rfl
theorem InM.skip {wt : List Int} {i m : Nat} {cur : Nat → Int} (h : InM wt 0 i m cur) (hm : i + m < wt.length) : InM wt 0 i (m + 1) cur := ⟨h.done, fun _ h => by omega, fun h => absurd h (Nat.lt_irrefl _)⟩
theorem InM.put {wt : List Int} {g i m : Nat} {cur : Nat → Int} (h : InM wt g i m cur) {x : Int} (h0 : g = 0 → i + m = wt.length → x = lst wt 0 i) (h1 : 0 < g → x = mnF (fun k => max (psm wt k - psm wt i) (lst wt (g - 1) k)) i m) (h2 : g = 0 → i + m = wt.length) : InM wt g i (m + 1) (fun k => if k = i then x else cur k) := by
  refine ⟨fun j hj => ?_, fun e _ => ?_, fun e _ => ?_⟩
  · simp only [show j ≠ i by omega, if_false]; exact h.done j hj
  · simp only [if_true]; exact h0 e (h2 e)
  · simp only [if_true]; rw [show m + 1 - 1 = m by omega]; exact h1 e
theorem InM.keep {wt : List Int} {g i m : Nat} {cur : Nat → Int} (h : InM wt g i m cur) (hg : 0 < g) (hm : 0 < m) (hx : ¬ max (psm wt (i + m) - psm wt i) (lst wt (g - 1) (i + m)) < cur i) : InM wt g i (m + 1) cur := by
  refine ⟨h.done, fun e => by omega, fun _ _ => ?_⟩; have e := h.more hg hm; obtain ⟨m', rfl⟩ : ∃ m', m = m' + 1 := ⟨m - 1, by omega⟩; rw [show m' + 1 - 1 = m' by omega] at e; rw [e] at hx; rw [e, show m' + 1 + 1 - 1 = m' + 1 by omega, mnF_succ, if_neg hx]
theorem InM.less {wt : List Int} {g i m : Nat} {cur : Nat → Int} (h : InM wt g i m cur) (hg : 0 < g) (hm : 0 < m) (hx : max (psm wt (i + m) - psm wt i) (lst wt (g - 1) (i + m)) < cur i) : max (psm wt (i + m) - psm wt i) (lst wt (g - 1) (i + m)) = mnF (fun k => max (psm wt k - psm wt i) (lst wt (g - 1) k)) i m := by
  have e := h.more hg hm; obtain ⟨m', rfl⟩ : ∃ m', m = m' + 1 := ⟨m - 1, by omega⟩; rw [e, show m' + 1 - 1 = m' by omega] at hx; rw [mnF_succ, if_pos hx]
end Go.Proofs.YtbaojmfkjpnfhaaDoor
namespace Go.Proofs.YtbaojmfkjpnfhaaDoor
set_option linter.unusedSimpArgs false
open Go.RowKit
set_option linter.unusedVariables false
theorem gtO_mem {l : List Int} {k : Nat} (h : k < l.length) : gt l k ∈ l := by
  rw [gt, List.getElem?_eq_getElem h]; exact List.getElem_mem h
set_option maxHeartbeats 12800000 in
set_option maxRecDepth 100000 in
theorem rcPlan_any (A : Option Addr) (n c : Nat) (ws : List Int) (steps : Int) (w : World) (hl : II w A n ws) (hn : n ≤ maxLen) (hs : i64 steps) :
    Calls Tryd.prog 6 #[.slice A n c, .int .i64 steps] w fun e w' => PlnR w.heap.size (planG ws steps) (planS ws steps) (planE ws steps) e w' ∧ Below w.heap.size w w' := by
  have HLN : Sl (ws.length = n) := ⟨hl.1⟩; have HL : Sl _ := ⟨hl⟩; have HE : Sl (planE ws steps = if 80 < n then 3 else if steps < 1 ∨ 60 < steps then 2 else fstE (rngW ws) n 0) := ⟨by rw [← hl.1]; rfl⟩
  have HNO : Sl (∀ e, planE ws steps = e → e ≠ 0 → planG ws steps = [] ∧ planS ws steps = 0) := ⟨fun e h1 h2 => by
    unfold planG planS; rw [if_neg (by rw [h1]; exact h2), if_neg (by rw [h1]; exact h2)]
    exact ⟨rfl, rfl⟩⟩
  unfold maxLen at hn; clear hl; obtain ⟨E, hE⟩ : ∃ E, planE ws steps = E := ⟨_, rfl⟩; obtain ⟨S, hS⟩ : ∃ S, planS ws steps = S := ⟨_, rfl⟩; obtain ⟨G, hG⟩ : ∃ G, planG ws steps = G := ⟨_, rfl⟩
  have HGS : Sl (E = 0 → S = lst (wtL ws) (steps.toNat - 1) 0 ∧ G = (grpE (wtL ws) S steps.toNat 0).map (cutL (ordL ws))) := ⟨fun h => by
    unfold planG at hG; unfold planS at hS; rw [if_pos (by rw [hE, h])] at hG hS
    exact ⟨hS.symm, by rw [← hG, ← hS]; unfold planS; rw [if_pos (by rw [hE, h])]⟩⟩
  rw [hE] at HE HNO; rw [hE, hS, hG]; rw [hS, hG] at HNO; replace HNO : Sl (E ≠ 0 → G = [] ∧ S = 0) := ⟨fun h => HNO.out E rfl h⟩; clear hE hS hG; go_enter Tryd.func6, Tryd.ntmps6
  by_cases h80 : 80 < n
  · have q1 : (80 : Int) < (n : Int) := (by omega); have q1d : decide ((80 : Int) < (n : Int)) = true := decide_eq_true q1; have HV : Sl (E = 3) := ⟨by rw [HE.out, if_pos h80]⟩; clear h80; go_wp2_with fail
    (try simp only [Exit.inBlock, Exit.then])
    refine bodyPost_ret (v := .tuple #[.slice none 0 0, .int .i64 0, .int .i64 3]) (by simp [results, Tryd.results6, go_sem]) rfl ?_; obtain ⟨h1, h2⟩ := HNO.out (by rw [HV.out]; decide); rw [h1, h2, HV.out]; exact ⟨PlnR.no, Below.refl _ _⟩
  have q1 : ¬ (80 : Int) < (n : Int) := (by omega); have q1d : decide ((80 : Int) < (n : Int)) = false := decide_eq_false q1; rw [if_neg h80] at HE; have hn80 : (n : Int) ≤ 80 := (by omega); have HN80 : Sl (n ≤ 80) := ⟨by omega⟩
  by_cases h1 : steps < 1
  · have q2d : decide (steps < 1) = true := decide_eq_true h1; have q2e : decide (steps ≤ 0) = true := decide_eq_true (by omega); have HV : Sl (E = 2) := ⟨by rw [HE.out]; exact if_pos (.inl h1)⟩; clear h80; go_wp2_with fail
    (try simp only [Exit.inBlock, Exit.then])
    refine bodyPost_ret (v := .tuple #[.slice none 0 0, .int .i64 0, .int .i64 2]) (by simp [results, Tryd.results6, go_sem]) rfl ?_; obtain ⟨h1, h2⟩ := HNO.out (by rw [HV.out]; decide); rw [h1, h2, HV.out]; exact ⟨PlnR.no, Below.refl _ _⟩
  have q2d : decide (steps < 1) = false := decide_eq_false h1
  by_cases h2 : 60 < steps
  · have q3d : decide (60 < steps) = true := decide_eq_true h2; have HV : Sl (E = 2) := ⟨by rw [HE.out]; exact if_pos (.inr h2)⟩; clear h80; go_wp2_with fail
    (try simp only [Exit.inBlock, Exit.then])
    refine bodyPost_ret (v := .tuple #[.slice none 0 0, .int .i64 0, .int .i64 2]) (by simp [results, Tryd.results6, go_sem]) rfl ?_; obtain ⟨h1, h2⟩ := HNO.out (by rw [HV.out]; decide); rw [h1, h2, HV.out]; exact ⟨PlnR.no, Below.refl _ _⟩
  have q3d : decide (60 < steps) = false := decide_eq_false h2; replace HE : Sl (E = fstE (rngW ws) n 0) := ⟨by rw [HE.out, if_neg (by omega)]⟩; obtain ⟨N, rfl⟩ := Int.eq_ofNat_of_zero_le (show 0 ≤ steps by omega); have HST : Sl (1 ≤ N ∧ N ≤ 60) := ⟨by omega⟩; have hst1 : (1 : Int) ≤ (N : Int) := (by omega); have hst6 : (N : Int) ≤ 60 := (by omega); clear h1 h2 h80 hs; go_wp2_with fail; clear q1 q1d q2d q3d; rw [Int.toNat_natCast] at HGS
  go_loopw [7] (fun s7 wv => ∃ k : Nat, k ≤ n ∧ s7 = .int .i64 k ∧ Sl (Below w.heap.size w wv) ∧ Sl (fstE (rngW ws) (n - k) k = E)) (fun s7 _ => n - (RowKit.intOf s7).toNat)
  case atStart => exact ⟨0, Nat.zero_le _, rfl, ⟨Below.refl _ _⟩, ⟨HE.out.symm⟩⟩
  case round =>
    obtain ⟨k, hk, rfl, HB, HK⟩ := hrel
    by_cases hkn : k < n
    · have hkI : decide ((k : Int) < (n : Int)) = true := decide_eq_true (by omega); have hkI2 : (k : Int) < (n : Int) := (by omega); obtain ⟨ad, hA2, hab, c1⟩ := (HL.out.below HB.out).cell (j := k) hkn; have HSX : Sl (E = if rngW ws k = 0 then fstE (rngW ws) (n - (k + 1)) (k + 1) else rngW ws k) := ⟨by rw [← HK.out, show n - k = (n - (k + 1)) + 1 by omega]; rfl⟩; have HRW : Sl (rngW ws k = if gt ws k < 0 ∨ 1073741824 < gt ws k then 7 else 0) := ⟨rfl⟩; obtain ⟨z, hz⟩ : ∃ z, gt ws k = z := ⟨_, rfl⟩; rw [hz] at c1 HRW; rw [hA2]; have HA2 : Sl _ := ⟨hA2⟩; clear hz hA2 HK
      by_cases p1 : z < 0
      · have p1d : decide (z < 0) = true := decide_eq_true p1; have h7 : rngW ws k = 7 := (by rw [HRW.out]; exact if_pos (.inl p1)); have HV : Sl (E = 7) := ⟨by rw [HSX.out, h7]; rfl⟩; clear h7; go_wp2_with fail
        (try simp only [Exit.inBlock, Exit.then])
        refine bodyPost_ret (v := .tuple #[.slice none 0 0, .int .i64 0, .int .i64 7]) (by simp [results, Tryd.results6, go_sem]) rfl ?_; obtain ⟨h1, h2⟩ := HNO.out (by rw [HV.out]; decide); rw [h1, h2, HV.out]; exact ⟨PlnR.no, HB.out⟩
      · have p1d : decide (z < 0) = false := decide_eq_false p1
        by_cases p2 : 1073741824 < z
        · have p2d : decide (1073741824 < z) = true := decide_eq_true p2; have h7 : rngW ws k = 7 := (by rw [HRW.out]; exact if_pos (.inr p2)); have HV : Sl (E = 7) := ⟨by rw [HSX.out, h7]; rfl⟩; clear h7; go_wp2_with fail
          (try simp only [Exit.inBlock, Exit.then])
          refine bodyPost_ret (v := .tuple #[.slice none 0 0, .int .i64 0, .int .i64 7]) (by simp [results, Tryd.results6, go_sem]) rfl ?_; obtain ⟨h1, h2⟩ := HNO.out (by rw [HV.out]; decide); rw [h1, h2, HV.out]; exact ⟨PlnR.no, HB.out⟩
        · have p2d : decide (1073741824 < z) = false := decide_eq_false p2; have HV : Sl (fstE (rngW ws) (n - (k + 1)) (k + 1) = E) := ⟨by rw [HSX.out, if_pos]; rw [HRW.out, if_neg (by omega)]⟩; go_wp2_with fail; exact ⟨⟨k + 1, by omega, by go_num, HB, HV⟩, by simp [RowKit.intOf]; omega⟩
    · obtain rfl : n = k := (by omega); have hE0 : E = 0 := (by rw [← HK.out, Nat.sub_self]; rfl); subst hE0; have HRNG : Sl (fstE (rngW ws) ws.length 0 = 0) := ⟨by rw [HLN.out]; exact HE.out.symm⟩; have HBD : Sl (∀ j, 0 ≤ gt (wtL ws) j ∧ gt (wtL ws) j ≤ 1073741824) := ⟨wtL_bd HRNG.out⟩; have HWL : Sl ((wtL ws).length = n) := ⟨by rw [wtL_len]; exact HLN.out⟩; obtain ⟨hS, hG⟩ := HGS.out rfl; have HS : Sl _ := ⟨hS⟩; have HG : Sl _ := ⟨hG⟩; clear hS hG HGS HK hkn hk HE HNO HRNG; go_wp2_with fail; refine (crOrder_any A n c ws _ (HL.out.below HB.out) (by have := HN80.out; omega)).mono ?_; rintro e w8 ⟨⟨O, co, rfl, zo⟩, zb⟩; have HO : Sl (II w8 O n (ordL ws)) := ⟨zo.ii⟩; have HCB : Sl (n ≤ co ∧ co ≤ 9223372036854775807) := ⟨by have := zo.cap; unfold maxLen at this; exact this⟩; have HL8 : Sl (II w8 A n ws) := ⟨(HL.out.below HB.out).below zb⟩; have HB8 : Sl (Below w.heap.size w w8) := ⟨HB.out.trans (zb.mono HB.out.size)⟩; clear zo zb HB; have hmr : ∀ W : World, (Instr.makeSlice 57 (.int .i64 ((N : Int) + 1)) (.int .i64 ((N : Int) + 1))).run Tryd.prog W = .ok (.slice (some ⟨W.heap.size, 0, none⟩) (N + 1) (N + 1)) (W.alloc (.cells (madeCells #[.slice none 0 0] (N + 1)) 22)) := fun W => make_lrows (N + 1) (by have := HST.out; omega) W
      go_upto_region 13 with fail
      have HT0 : Sl _ := ⟨LT.start w8 (wtL ws) N n⟩; have hb9 : Below w8.heap.size w8 (w8.alloc (.cells (madeCells #[.slice none 0 0] (N + 1)) 22)) := (Below.refl _ _).alloc (Nat.le_refl _) _; have HB9 : Sl _ := ⟨hb9⟩; clear hb9 hmr; generalize w8.alloc (.cells (madeCells #[.slice none 0 0] (N + 1)) 22) = w9 at *
      obtain ⟨bo, hbo⟩ : ∃ bo, bo = w8.heap.size := ⟨_, rfl⟩; rw [← hbo] at HT0 ⊢; have HBO : Sl (w8.heap.size ≤ bo) := ⟨by omega⟩; clear hbo
      have HPS : Sl (∀ a b, a ≤ n → -85899345920 ≤ psm (wtL ws) a - psm (wtL ws) b ∨ n < b) := ⟨fun a b ha => by
        rcases Nat.lt_or_ge n b with h | h
        · exact .inr h
        · have h1 := psm_le HBD.out a; have h2 := psm_le HBD.out b; have := HN80.out
          exact .inl (by omega)⟩
      go_wp2_with fail
      go_loopw [11] (fun s11 wv => ∃ (g : Nat) (B : Nat → Nat), g ≤ N ∧ s11 = .int .i64 ((g + 1 : Nat) : Int) ∧ Sl (Below w8.heap.size w8 wv ∧ LT wv (wtL ws) bo N n B g g)) (fun s11 _ => N + 1 - (RowKit.intOf s11).toNat)
      case atStart => exact ⟨0, _, Nat.zero_le _, rfl, ⟨HB9.out, HT0.out⟩⟩
      case round =>
        clear HB9 HT0; obtain ⟨g, B, hg, rfl, HK⟩ := hrel; have HBR : Sl _ := ⟨HK.out.1⟩; have HT : Sl _ := ⟨HK.out.2⟩; clear HK; obtain ⟨G', hG'⟩ : ∃ G', g + 1 = G' := ⟨_, rfl⟩; rw [hG']; have HGG : Sl (g + 1 = G') := ⟨hG'⟩
        by_cases hgN : g < N
        · have hGI : decide ((G' : Int) ≤ (N : Int)) = true := decide_eq_true (by omega); have hGI2 : (G' : Int) ≤ (N : Int) := (by omega); have hGI3 : (0 : Int) ≤ (G' : Int) := (by omega); have hGI4 : (G' : Int) < (N : Int) + 1 := (by omega); have f1 := HT.out.frozen G'; have hlt := HT.out.lt
          obtain ⟨u0, c1⟩ : ∃ u0, wr.cell? ⟨bo, G', none⟩ = some u0 := by
            obtain ⟨cs, hB, h1, _⟩ := HT.out.out; rw [hB.cell, Array.getElem?_eq_getElem (by omega)]; exact ⟨_, rfl⟩
          have hmk : ∀ W : World, (Instr.makeSlice 22 (.int .i64 ((n : Int) + 1)) (.int .i64 ((n : Int) + 1))).run Tryd.prog W = .ok (.slice (some ⟨W.heap.size, 0, none⟩) (n + 1) (n + 1)) (W.alloc (.cells (madeCells #[.int .i64 0] (n + 1)) 2)) := fun W => make_longs (n + 1) (by have := HN80.out; omega) W
          clear hG'
          go_upto_region 17 with fail
          have hM := HT.out.more (n := n) (by omega); rw [HGG.out] at hM; have hbx : Below w8.heap.size w8 ((wr.setCell ⟨bo, G', none⟩ (.slice (some ⟨wr.heap.size, 0, none⟩) (n + 1) (n + 1))).alloc (.cells (madeCells #[.int .i64 0] (n + 1)) 2)) := (HBR.out.setCell (p := ⟨bo, G', none⟩) HBO.out _).alloc (Nat.le_trans HBR.out.size (by simp [World.setCell])) _; have HBX : Sl _ := ⟨hbx⟩; have HLB : Sl (w8.heap.size ≤ (fun j => if j = G' then wr.heap.size else B j) G') := ⟨by simp only [if_true]; exact HBR.out.size⟩; have HTX : Sl _ := ⟨hM.1⟩; have HRX : Sl _ := ⟨hM.2⟩; clear hM hbx hmk c1 f1 hlt HT HBR; generalize (fun j => if j = G' then wr.heap.size else B j) = B' at *
          generalize (wr.setCell ⟨bo, G', none⟩ (.slice (some ⟨wr.heap.size, 0, none⟩) (n + 1) (n + 1))).alloc (.cells (madeCells #[.int .i64 0] (n + 1)) 2) = wx at *
          go_wp2_with fail
          go_loopw [12] (fun s12 wv => ∃ (i : Nat) (cur : Nat → Int), i ≤ n + 1 ∧ s12 = .int .i64 (i : Int) ∧ Sl (Below w8.heap.size w8 wv ∧ LT wv (wtL ws) bo N n B' g G' ∧ LRow wv (B' G') (n + 1) cur ∧ ∀ j, j < i → cur j = lst (wtL ws) g j)) (fun s12 _ => n + 1 - (RowKit.intOf s12).toNat)
          case atStart => exact ⟨0, _, Nat.zero_le _, rfl, ⟨HBX.out, HTX.out, HRX.out, fun j h => absurd h (Nat.not_lt_zero _)⟩⟩
          case round =>
            clear HBX HTX HRX; obtain ⟨i, cur, hi, rfl, HK⟩ := hrel
            by_cases hin : i ≤ n
            · have hiI : decide ((i : Int) ≤ (n : Int)) = true := decide_eq_true (by omega); have hiI2 : (i : Int) ≤ (n : Int) := (by omega); go_wp2_with fail
              go_loopw [13, 14] (fun s13 s14 wv => ∃ (m : Nat) (cur : Nat → Int), i + m ≤ n + 1 ∧ s13 = .int .i64 (smM (wtL ws) i m) ∧ s14 = .int .i64 ((i + m : Nat) : Int) ∧ Sl (Below w8.heap.size w8 wv ∧ LT wv (wtL ws) bo N n B' g G' ∧ LRow wv (B' G') (n + 1) cur ∧ InM (wtL ws) g i m cur)) (fun _ s14 _ => n + 1 - (RowKit.intOf s14).toNat)
              case atStart => exact ⟨0, cur, by omega, rfl, rfl, ⟨HK.out.1, HK.out.2.1, HK.out.2.2.1, InM.start HK.out.2.2.2 (by rw [HWL.out]; exact hin)⟩⟩
              case round =>
                clear HK; obtain ⟨m, cur, hm, rfl, rfl, HK⟩ := hrel; have HBR : Sl _ := ⟨HK.out.1⟩; have HT : Sl _ := ⟨HK.out.2.1⟩; have HR : Sl _ := ⟨HK.out.2.2.1⟩; have HI : Sl _ := ⟨HK.out.2.2.2⟩; clear HK; have HGE : Sl (G' ≤ N ∧ 1 ≤ G') := ⟨by have := HGG.out; omega⟩
                by_cases hkn : i + m ≤ n
                · have k1 := HT.out.cell (j := G') HGE.out.2 (Nat.le_refl _); have k2 := HR.out.cell (j := i) (by omega); have f2 := HR.out.frozen i; have hGI3 : (0 : Int) ≤ (G' : Int) := (by omega); have hGI4 : (G' : Int) < (N : Int) + 1 := (by omega); have hi0 : (0 : Int) ≤ (i : Int) := (by omega); have hi1 : (i : Int) < (n : Int) + 1 := (by omega)
                  by_cases hm0 : m = 0
                  · subst hm0; have hsm : smM (wtL ws) i 0 = 0 := rfl; rw [hsm, Nat.add_zero]; have HSM : Sl (smM (wtL ws) i (0 + 1) = 0) := ⟨smM_one _ _⟩; rw [Nat.add_zero] at hkn; clear hsm; have hki : decide ((i : Int) < (i : Int)) = false := (by simp); have hkI : decide ((i : Int) ≤ (n : Int)) = true := decide_eq_true (by omega); have hkI2 : (i : Int) ≤ (n : Int) := (by omega); have hk0 : (0 : Int) ≤ (i : Int) := (by omega); have hk1 : (i : Int) < (n : Int) + 1 := (by omega)
                    by_cases hg0 : g = 0
                    · have hG1 : G' = 1 := (by have := HGG.out; omega); have hGe : ((G' : Int) == 1) = true := (by rw [beq_iff_eq]; omega); have hGf : decide ((1 : Int) < (G' : Int)) = false := decide_eq_false (by omega)
                      by_cases hkl : i < n
                      · have hkd : decide ((i : Int) < (n : Int)) = true := decide_eq_true (by omega); have HI2 : Sl (InM (wtL ws) g i (0 + 1) cur) := ⟨by have h := HI.out; rw [hg0] at h ⊢; exact h.skip (by rw [HWL.out]; omega)⟩; clear hg0 hG1; go_wp2_with fail; exact ⟨⟨0 + 1, cur, by omega, by rw [HSM.out], by go_num, ⟨HBR.out, HT.out, HR.out, HI2.out⟩⟩, by simp [RowKit.intOf]; omega⟩
                      · have hkd : decide ((i : Int) < (n : Int)) = false := decide_eq_false (by omega); have HX : Sl (0 = lst (wtL ws) 0 i) := ⟨by rw [lst_one, HWL.out]; rw [show i = n by omega]; omega⟩; have HI2 : Sl (InM (wtL ws) g i (0 + 1) (fun k => if k = i then 0 else cur k)) := ⟨HI.out.put (fun _ _ => HX.out) (fun h => by omega) (fun _ => by rw [HWL.out]; omega)⟩; clear hg0 hG1; go_wp2_with fail; exact ⟨⟨0 + 1, fun k => if k = i then 0 else cur k, by omega, by rw [HSM.out], by go_num, ⟨HBR.out.setCell (p := ⟨B' G', i, none⟩) HLB.out _, HT.out.set (by have := HGG.out; omega) HR.out i _, HR.out.set i _, HI2.out⟩⟩, by simp [RowKit.intOf]; omega⟩
                    · have hGe : ((G' : Int) == 1) = false := (by rw [beq_eq_false_iff_ne]; have := HGG.out; omega); have hGf : decide ((1 : Int) < (G' : Int)) = true := decide_eq_true (by have := HGG.out; omega); have hGw : IntKind.i64.wrap ((G' : Int) - 1) = (g : Int) := (by have := HGG.out; have := HST.out; rw [IntKind.wrap_i64]; omega); have hg1 : (0 : Int) ≤ (g : Int) := (by omega); have hg2 : (g : Int) < (N : Int) + 1 := (by omega); have k5 := HT.out.cell (j := g) (by omega) (by have := HGG.out; omega); have k6 := (HT.out.row g (by omega) (Nat.le_refl _)).cell (j := i) (by omega); obtain ⟨y, hy⟩ : ∃ y, lst (wtL ws) (g - 1) i = y := ⟨_, rfl⟩; rw [hy] at k6; obtain ⟨x, hx⟩ : ∃ x, max (0 : Int) y = x := ⟨_, rfl⟩; have HXF : Sl (x = max (psm (wtL ws) i - psm (wtL ws) i) (lst (wtL ws) (g - 1) i)) := ⟨by rw [hy, ← hx]; rw [Int.sub_self]⟩; have HG0 : Sl (0 < g) := ⟨by omega⟩; have HI2 : Sl (InM (wtL ws) g i (0 + 1) (fun k => if k = i then x else cur k)) := ⟨HI.out.put (fun h => by have := HG0.out; omega) (fun _ => by rw [HXF.out]; rfl) (fun h => by have := HG0.out; omega)⟩; clear hg0 hy; go_wp2_with fail; exact ⟨⟨0 + 1, fun k => if k = i then x else cur k, by omega, by rw [HSM.out], by go_num, ⟨HBR.out.setCell (p := ⟨B' G', i, none⟩) HLB.out _, HT.out.set (by have := HGG.out; omega) HR.out i _, HR.out.set i _, HI2.out⟩⟩, by simp [RowKit.intOf]; omega⟩
                  · obtain ⟨k, hk⟩ : ∃ k, i + m = k := ⟨_, rfl⟩; rw [hk]; obtain ⟨J, hJ⟩ : ∃ J, k = J + 1 := ⟨k - 1, by omega⟩; have HSM0 : Sl (smM (wtL ws) i (m + 1) = smM (wtL ws) i m + gt (wtL ws) J) := ⟨by rw [smM_succ _ _ (by omega), hk, hJ]; rfl⟩; have hJn : J < ws.length := (by rw [HLN.out]; omega); have HWJ : Sl (gt (wtL ws) J = gt ws (gt (ordL ws) J).toNat) := ⟨wt_gt ws hJn⟩; have HSV : Sl (smM (wtL ws) i (m + 1) = psm (wtL ws) k - psm (wtL ws) i) := ⟨by unfold smM; rw [if_neg (by omega), show i + (m + 1) - 1 = k by omega]⟩; have HSV0 : Sl (smM (wtL ws) i m = psm (wtL ws) J - psm (wtL ws) i) := ⟨by unfold smM; rw [if_neg hm0, show i + m - 1 = J by omega]⟩; obtain ⟨aO, hO, _, k3⟩ := (HO.out.below HBR.out).cell (j := J) (by omega); have hmem : gt (ordL ws) J ∈ ordL ws := gtO_mem (by rw [ordL, ordF_len]; exact hJn); have hzb := (ordF_mem ws _ _).1 hmem; rw [HLN.out] at hzb; obtain ⟨z, hz⟩ := Int.eq_ofNat_of_zero_le hzb.1; rw [hz] at k3 hzb HWJ; rw [Int.toNat_natCast] at HWJ; have hz0 : (0 : Int) ≤ (z : Int) := hzb.1; have hz1 : (z : Int) < (n : Int) := hzb.2; obtain ⟨aw, hA3, _, k4⟩ := (HL8.out.below HBR.out).cell (j := z) (by omega); obtain ⟨v, hv⟩ : ∃ v, gt ws z = v := ⟨_, rfl⟩; rw [hv] at k4 HWJ; have hvb := HBD.out J; rw [HWJ.out] at hvb HSM0; obtain ⟨σ, hσ⟩ : ∃ σ, smM (wtL ws) i m = σ := ⟨_, rfl⟩; rw [hσ] at HSM0 HSV0 ⊢; obtain ⟨τ, hτ⟩ : ∃ τ, smM (wtL ws) i (m + 1) = τ := ⟨_, rfl⟩; have HSM : Sl _ := ⟨hτ⟩; rw [hτ] at HSM0 HSV
                    have hwσ : IntKind.i64.wrap (σ + v) = τ := by
                      have b1 := psm_le HBD.out J; have b2 := psm_le HBD.out i; have := HN80.out; rw [HSM0.out, IntKind.wrap_i64]; have := HSV0.out; omega
                    have hwJ : IntKind.i64.wrap ((k : Int) - 1) = (J : Int) := (by have := HN80.out; rw [IntKind.wrap_i64]; omega); have hJ0 : (0 : Int) ≤ (J : Int) := (by omega); have hJ1 : (J : Int) < (n : Int) := (by omega); have hki : decide ((i : Int) < (k : Int)) = true := decide_eq_true (by omega); have hki3 : (i : Int) < (k : Int) := (by omega); have hki2 : ((k : Int) == (i : Int)) = false := (by rw [beq_eq_false_iff_ne]; omega); have HK2 : Sl (i + m = k ∧ 0 < m) := ⟨hk, by omega⟩; have hkn2 : k ≤ n := (by omega); have HO3 : Sl _ := ⟨hO⟩; have HA3 : Sl _ := ⟨hA3⟩; rw [hO, hA3]; clear hk hσ hτ hv hz hzb hmem hJn hvb HSM0 HSV0 hO hA3 hm0 hJ hkn; have hkI : decide ((k : Int) ≤ (n : Int)) = true := decide_eq_true (by omega); have hkI2 : (k : Int) ≤ (n : Int) := (by omega); have hk0 : (0 : Int) ≤ (k : Int) := (by omega); have hk1 : (k : Int) < (n : Int) + 1 := (by omega)
                    by_cases hg0 : g = 0
                    · have hG1 : G' = 1 := (by have := HGG.out; omega); have hGe : ((G' : Int) == 1) = true := (by rw [beq_iff_eq]; omega); have hGf : decide ((1 : Int) < (G' : Int)) = false := decide_eq_false (by omega)
                      by_cases hkl : k < n
                      · have hkd : decide ((k : Int) < (n : Int)) = true := decide_eq_true (by omega); have HI2 : Sl (InM (wtL ws) g i (m + 1) cur) := ⟨by have h := HI.out; rw [hg0] at h ⊢; exact h.skip (by rw [HWL.out]; have := HK2.out.1; omega)⟩; clear hg0 hG1; go_wp2_with fail; exact ⟨⟨m + 1, cur, by have := HK2.out.1; omega, by rw [HSM.out], by have := HK2.out.1; go_num, ⟨HBR.out, HT.out, HR.out, HI2.out⟩⟩, by have := HK2.out.1; simp [RowKit.intOf]; omega⟩
                      · have hkd : decide ((k : Int) < (n : Int)) = false := decide_eq_false (by omega); have HX : Sl (τ = lst (wtL ws) 0 i) := ⟨by rw [lst_one, HWL.out, HSV.out]; rw [show k = n by omega]⟩; have HI2 : Sl (InM (wtL ws) g i (m + 1) (fun k => if k = i then τ else cur k)) := ⟨HI.out.put (fun _ _ => HX.out) (fun h => by omega) (fun _ => by rw [HWL.out]; have := HK2.out.1; omega)⟩; clear hg0 hG1; go_wp2_with fail; exact ⟨⟨m + 1, fun k => if k = i then τ else cur k, by have := HK2.out.1; omega, by rw [HSM.out], by have := HK2.out.1; go_num, ⟨HBR.out.setCell (p := ⟨B' G', i, none⟩) HLB.out _, HT.out.set (by have := HGG.out; omega) HR.out i _, HR.out.set i _, HI2.out⟩⟩, by have := HK2.out.1; simp [RowKit.intOf]; omega⟩
                    · have hGe : ((G' : Int) == 1) = false := (by rw [beq_eq_false_iff_ne]; have := HGG.out; omega); have hGf : decide ((1 : Int) < (G' : Int)) = true := decide_eq_true (by have := HGG.out; omega); have hGw : IntKind.i64.wrap ((G' : Int) - 1) = (g : Int) := (by have := HGG.out; have := HST.out; rw [IntKind.wrap_i64]; omega); have hg1 : (0 : Int) ≤ (g : Int) := (by omega); have hg2 : (g : Int) < (N : Int) + 1 := (by omega); have k5 := HT.out.cell (j := g) (by omega) (by have := HGG.out; omega); have k6 := (HT.out.row g (by omega) (Nat.le_refl _)).cell (j := k) (by omega); obtain ⟨y, hy⟩ : ∃ y, lst (wtL ws) (g - 1) k = y := ⟨_, rfl⟩; rw [hy] at k6; obtain ⟨x, hx⟩ : ∃ x, max τ y = x := ⟨_, rfl⟩; have HXF : Sl (x = max (psm (wtL ws) k - psm (wtL ws) i) (lst (wtL ws) (g - 1) k)) := ⟨by rw [hy, ← hx, HSV.out]⟩; have HG0 : Sl (0 < g) := ⟨by omega⟩; obtain ⟨u, hu⟩ : ∃ u, cur i = u := ⟨_, rfl⟩; rw [hu] at k2; have HU : Sl (cur i = u) := ⟨hu⟩; clear hu hy
                      by_cases hxu : x < u
                      · have hxd : decide (x < u) = true := decide_eq_true hxu
                        have HI2 : Sl (InM (wtL ws) g i (m + 1) (fun k => if k = i then x else cur k)) := ⟨HI.out.put (fun h => by have := HG0.out; omega) (fun _ => by
                          have e := HK2.out.1; have h := HI.out.less HG0.out HK2.out.2 (by rw [e, ← HXF.out, HU.out]; exact hxu); rw [e, ← HXF.out] at h
                          exact h) (fun h => by have := HG0.out; omega)⟩
                        clear hg0; go_wp2_with fail; exact ⟨⟨m + 1, fun k => if k = i then x else cur k, by have := HK2.out.1; omega, by rw [HSM.out], by have := HK2.out.1; go_num, ⟨HBR.out.setCell (p := ⟨B' G', i, none⟩) HLB.out _, HT.out.set (by have := HGG.out; omega) HR.out i _, HR.out.set i _, HI2.out⟩⟩, by have := HK2.out.1; simp [RowKit.intOf]; omega⟩
                      · have hxd : decide (x < u) = false := decide_eq_false hxu; have HI2 : Sl (InM (wtL ws) g i (m + 1) cur) := ⟨HI.out.keep HG0.out HK2.out.2 (by rw [HK2.out.1, ← HXF.out, HU.out]; exact hxu)⟩; clear hg0; go_wp2_with fail; exact ⟨⟨m + 1, cur, by have := HK2.out.1; omega, by rw [HSM.out], by have := HK2.out.1; go_num, ⟨HBR.out, HT.out, HR.out, HI2.out⟩⟩, by have := HK2.out.1; simp [RowKit.intOf]; omega⟩
                · have hkd : decide (((i + m : Nat) : Int) ≤ (n : Int)) = false := decide_eq_false (by omega); have HE2 : Sl _ := ⟨HI.out.end_ (by rw [HWL.out]; omega) (by rw [HWL.out]; exact hin)⟩; go_wp2_with fail; exact ⟨⟨i + 1, cur, by omega, by go_num, ⟨HBR.out, HT.out, HR.out, HE2.out⟩⟩, by simp [RowKit.intOf]; omega⟩
            · have hid : decide ((i : Int) ≤ (n : Int)) = false := decide_eq_false (by omega); have HTC : Sl (LT wr (wtL ws) bo N n B' (g + 1) (g + 1)) := ⟨LT.close (by rw [HGG.out]; exact HK.out.2.1) (by rw [HGG.out]; exact HK.out.2.2.1) (fun j hj => HK.out.2.2.2 j (by omega))⟩; have HBR : Sl _ := ⟨HK.out.1⟩; clear HK; go_wp2_with fail; exact ⟨⟨g + 1, B', by omega, by rw [HGG.out]; go_num, ⟨HBR.out, HTC.out⟩⟩, by have := HGG.out; simp [RowKit.intOf]; omega⟩
        · obtain rfl : N = g := (by omega); have hGI : decide ((G' : Int) ≤ (N : Int)) = false := decide_eq_false (by have := HGG.out; omega); have hGI5 : (N : Int) < (G' : Int) := (by have := HGG.out; omega); clear hG' hgN hg; have k1 := HT.out.cell (j := N) HST.out.1 (Nat.le_refl _); have k2 := (HT.out.row N HST.out.1 (Nat.le_refl _)).cell (j := 0) (by omega); rw [← HS.out] at k2; have hS0 : (0 : Int) ≤ (N : Int) := (by omega)
          have HSP : Sl (0 ≤ S ∧ S ≤ 85899345920) := ⟨by
            have h1 := lst_pos (fun j => (HBD.out j).1) (N - 1) 0 (Nat.zero_le _); have h2 := psm_le HBD.out (wtL ws).length; rw [← HS.out] at h1; rw [HWL.out] at h1 h2; have := HN80.out
            omega⟩
          go_wp2_with fail; clear k1 k2 hS0 hGI hGI5 HGG; have HGR : Sl (G = (grpE (wtL ws) S N 0).map (cutL (ordL ws))) := ⟨HG.out⟩; have HOB : Sl (II wr O n (ordL ws)) := ⟨HO.out.below HBR.out⟩; have HBW0 : Sl (Below w.heap.size w wr) := ⟨HB8.out.trans (HBR.out.mono HB8.out.size)⟩; skip; clear HG HO HBR HL8 HB8 HL HBO HLN; generalize wr = wq at *
          go_loopw [17, 18, 19] (fun s17 s18 s19 wv => ∃ (m f : Nat) (Gs : Option Addr) (kg cg : Nat) (LL : List SlV), m ≤ N ∧ s17 = .slice Gs kg cg ∧ s18 = .int .i64 (f : Int) ∧ s19 = .int .i64 (m : Int) ∧ Sl (f ≤ n ∧ kg + m = N) ∧ Sl (Below wq.heap.size wq wv ∧ OG wv wq.heap.size Gs kg cg LL) ∧ Sl (LL.map SlV.l ++ (grpE (wtL ws) S m f).map (cutL (ordL ws)) = G)) (fun _ _ s19 _ => (RowKit.intOf s19).toNat)
          case atStart => exact ⟨N, 0, none, 0, 0, [], Nat.le_refl _, rfl, rfl, rfl, ⟨Nat.zero_le _, by omega⟩, ⟨Below.refl _ _, OG.nil _ _⟩, ⟨HGR.out.symm⟩⟩
          case round =>
            obtain ⟨m, f, Gs, kg, cg, LL, hm, rfl, rfl, rfl, HF, HM, HR⟩ := hrel
            by_cases hm0 : m = 0
            · subst hm0; have hmI : decide ((1 : Int) ≤ 0) = false := (by decide); have HG2 : Sl (LL.map SlV.l = G) := ⟨by rw [← HR.out, grpE]; simp⟩; have HBW : Sl _ := ⟨HM.out.1⟩; have HOG : Sl _ := ⟨HM.out.2⟩; clear HM HR; go_wp2_with fail
              (try simp only [Exit.inBlock, Exit.then])
              refine bodyPost_ret (v := .tuple #[.slice Gs kg cg, .int .i64 S, .int .i64 0]) (by simp [results, Tryd.results6, go_sem]) rfl ?_; exact ⟨⟨Gs, kg, cg, LL, rfl, HOG.out.mono HBW0.out.size, HG2.out⟩, HBW0.out.trans (HBW.out.mono HBW0.out.size)⟩
            · obtain ⟨m', rfl⟩ : ∃ m', m = m' + 1 := ⟨m - 1, by omega⟩; have hmI : decide ((1 : Int) ≤ ((m' + 1 : Nat) : Int)) = true := decide_eq_true (by omega); have hmI2 : (1 : Int) ≤ ((m' + 1 : Nat) : Int) := (by omega); have hmI3 : (1 : Int) ≤ (m' : Int) + 1 := (by omega); have hmI4 : (0 : Int) ≤ (m' : Int) := (by omega); have hgr : grpE (wtL ws) S (m' + 1) f = (f, max f (rem (wtL ws) S m')) :: grpE (wtL ws) S m' (max f (rem (wtL ws) S m')) := (by rw [grpE]); rw [hgr] at HR; have HRL := rem_le (wtL ws) S m'; rw [HWL.out] at HRL; obtain ⟨rm, hrm⟩ : ∃ rm, rem (wtL ws) S m' = rm := ⟨_, rfl⟩; have HRM : Sl _ := ⟨hrm⟩; rw [hrm] at HR HRL; obtain ⟨u, hu⟩ : ∃ u, max f rm = u := ⟨_, rfl⟩; rw [hu] at HR; have HU : Sl (f ≤ u ∧ u ≤ n ∧ u ≤ co ∧ rm ≤ u ∧ (u = f ∨ u = rm)) := ⟨by have := HF.out.1; have := HCB.out; omega⟩; have hmw : IntKind.i64.wrap ((m' : Int) + 1 - 1) = (m' : Int) := (by have := HST.out; rw [IntKind.wrap_i64]; omega); have hm61 : (m' : Int) + 1 ≤ 60 := (by have := HST.out; omega); clear hgr hrm hu hm0 HRL; go_wp2_with fail; clear hmI hmI2
              go_loopw [20] (fun s20 wv => ∃ k : Nat, f ≤ k ∧ k ≤ u ∧ s20 = .int .i64 (k : Int) ∧ Sl (Below wq.heap.size wq wv ∧ OG wv wq.heap.size Gs kg cg LL)) (fun s20 _ => u - (RowKit.intOf s20).toNat)
              case atStart => exact ⟨f, Nat.le_refl _, HU.out.1, rfl, HM⟩
              case round =>
                clear HM; obtain ⟨k, hfk, hku, rfl, HM⟩ := hrel; have hkn : k ≤ n := (by have := HU.out; omega); have hk0 : (0 : Int) ≤ (k : Int) := (by omega); have hk1 : (k : Int) < (n : Int) + 1 := (by omega); have hEND := ends_iff (fun j => (HBD.out j).1) HSP.out.1 m' k (by rw [HWL.out]; exact hkn); rw [HRM.out, HWL.out] at hEND; have hT := HT.out.below HM.out.1; have HENDS : Sl _ := ⟨hEND⟩; clear hEND
                by_cases hm1 : m' = 0
                · subst hm1; have HE2 : Sl (decide (k < n) = decide (k < rm)) := ⟨by have := HENDS.out; rwa [if_pos rfl] at this⟩; have e1 : (((0 : Nat) : Int) + 1 == 1) = true := (by decide); have e2 : decide ((1 : Int) < ((0 : Nat) : Int) + 1) = false := (by decide)
                  by_cases hkr : k < rm
                  · have hkd : decide ((k : Int) < (n : Int)) = true := decide_eq_true (by have := HE2.out; rw [decide_eq_true hkr, decide_eq_true_iff] at this; omega); have hkd2 : (k : Int) < (n : Int) := of_decide_eq_true hkd; clear HENDS HE2; go_wp2_with fail; exact ⟨⟨k + 1, by omega, by have := HU.out; omega, by go_num, HM⟩, by have := HU.out; simp [RowKit.intOf]; omega⟩
                  · have hkd : decide ((k : Int) < (n : Int)) = false := decide_eq_false (by have := HE2.out; rw [decide_eq_false hkr, decide_eq_false_iff_not] at this; omega); have hkd2 : ¬ (k : Int) < (n : Int) := of_decide_eq_false hkd; clear HENDS HE2; have hkm : k = u := (by have := HU.out; omega); subst hkm; have hcut := ((HOB.out.below HM.out.1).take HU.out.2.1).drop (c := co) HU.out.1 HU.out.2.2.1; have HCUT : Sl _ := ⟨hcut⟩; have HBW : Sl _ := ⟨HM.out.1⟩; have HOG : Sl _ := ⟨HM.out.2⟩; have HKG : Sl (kg + 1 ≤ 1000000) := ⟨by have := HF.out.2; have := HST.out; omega⟩; have hfu : (f : Int) ≤ (k : Int) := (by have := HU.out; omega); have hucb : (k : Int) ≤ (co : Int) := (by have := HU.out; omega); clear hcut HM hT
                    by_cases hcf : co = f
                    · rw [if_pos hcf] at HCUT; have hcf2 : (co = f) = True := eq_true hcf; clear hcf
                      go_wp2_with (at_builtin; first
                        | go_loud (refine wpList_append_oi rfl (.tmp 177) (.tmp 181) rfl wq.heap.size (some ⟨wr.heap.size, 0, none⟩) 0 0 [] rfl (OI.mt _ _ _ (Blk.new wr _ _) HBW.out.size) _ (k - f) _ _ rfl (HCUT.out.below ((Below.refl _ _).alloc (Nat.le_refl _) _)) (by have := HU.out; have := HN80.out; omega) (Nat.le_trans HBW.out.size (by simp)) ?_; rintro A' c' w5 zo zg zt; rw [Nat.zero_add, List.nil_append] at zo; have HZ5 : Sl _ := ⟨zo⟩; have HB5 : Sl (Below wr.heap.size wr w5) := ⟨below_grown ((Below.refl wr.heap.size wr).alloc (Nat.le_refl _) _) zg (by simp) (fun q hq => by injection hq with hq; exact Nat.le_of_eq hq)⟩; clear zo zg zt)
                        | go_loud (refine wpList_append_og rfl (.tmp 176) (.tmp 183) rfl wq.heap.size Gs kg cg LL rfl w5 37 ⟨A', k - f, c', cutL (ordL ws) (f, k)⟩ rfl (HOG.out.below HB5.out) HZ5.out rfl HKG.out (Nat.le_trans HBW.out.size HB5.out.size) ?_; rintro G2 c2 w6 zo zg; have HZ : Sl _ := ⟨And.intro zo zg⟩; clear zo zg))
                      have HB6 : Sl (Below wq.heap.size wq w6) := ⟨below_grown ((HBW.out.trans (HB5.out.mono HBW.out.size)).alloc (Nat.le_trans HBW.out.size HB5.out.size) _) HZ.out.2 (Nat.le_trans (Nat.le_trans HBW.out.size HB5.out.size) (by simp)) (fun q hq => (World.ownsRow.lt HOG.out.row q hq).1)⟩; refine ⟨⟨_, _, _, ⟨0, by omega, k, G2, kg + 1, c2, rfl, rfl, rfl, ⟨HU.out.2.1, by have := HF.out.2; omega⟩, LL ++ [⟨A', k - f, c', cutL (ordL ws) (f, k)⟩], ⟨HB6.out, HZ.out.1⟩, ⟨by rw [← HR.out]; simp⟩⟩, rfl, rfl, rfl⟩, ?_⟩; simp [RowKit.intOf]
                    · rw [if_neg hcf] at HCUT
                      go_wp2_with (at_builtin; first
                        | go_loud (refine wpList_append_oi rfl (.tmp 177) (.tmp 181) rfl wq.heap.size (some ⟨wr.heap.size, 0, none⟩) 0 0 [] rfl (OI.mt _ _ _ (Blk.new wr _ _) HBW.out.size) _ (k - f) _ _ rfl (HCUT.out.below ((Below.refl _ _).alloc (Nat.le_refl _) _)) (by have := HU.out; have := HN80.out; omega) (Nat.le_trans HBW.out.size (by simp)) ?_; rintro A' c' w5 zo zg zt; rw [Nat.zero_add, List.nil_append] at zo; have HZ5 : Sl _ := ⟨zo⟩; have HB5 : Sl (Below wr.heap.size wr w5) := ⟨below_grown ((Below.refl wr.heap.size wr).alloc (Nat.le_refl _) _) zg (by simp) (fun q hq => by injection hq with hq; exact Nat.le_of_eq hq)⟩; clear zo zg zt)
                        | go_loud (refine wpList_append_og rfl (.tmp 176) (.tmp 183) rfl wq.heap.size Gs kg cg LL rfl w5 37 ⟨A', k - f, c', cutL (ordL ws) (f, k)⟩ rfl (HOG.out.below HB5.out) HZ5.out rfl HKG.out (Nat.le_trans HBW.out.size HB5.out.size) ?_; rintro G2 c2 w6 zo zg; have HZ : Sl _ := ⟨And.intro zo zg⟩; clear zo zg))
                      have HB6 : Sl (Below wq.heap.size wq w6) := ⟨below_grown ((HBW.out.trans (HB5.out.mono HBW.out.size)).alloc (Nat.le_trans HBW.out.size HB5.out.size) _) HZ.out.2 (Nat.le_trans (Nat.le_trans HBW.out.size HB5.out.size) (by simp)) (fun q hq => (World.ownsRow.lt HOG.out.row q hq).1)⟩; refine ⟨⟨_, _, _, ⟨0, by omega, k, G2, kg + 1, c2, rfl, rfl, rfl, ⟨HU.out.2.1, by have := HF.out.2; omega⟩, LL ++ [⟨A', k - f, c', cutL (ordL ws) (f, k)⟩], ⟨HB6.out, HZ.out.1⟩, ⟨by rw [← HR.out]; simp⟩⟩, rfl, rfl, rfl⟩, ?_⟩; simp [RowKit.intOf]
                · have HE2 : Sl (decide (S < lst (wtL ws) (m' - 1) k) = decide (k < rm)) := ⟨by have := HENDS.out; rwa [if_neg hm1] at this⟩; have e1 : ((m' : Int) + 1 == 1) = false := (by rw [beq_eq_false_iff_ne]; omega); have e2 : decide ((1 : Int) < (m' : Int) + 1) = true := decide_eq_true (by omega); have e3 : (1 : Int) < (m' : Int) + 1 := (by omega); have k1 := hT.cell (j := m') (by omega) (by omega); have k2 := (hT.row m' (by omega) (by omega)).cell (j := k) (by omega); obtain ⟨y, hy⟩ : ∃ y, lst (wtL ws) (m' - 1) k = y := ⟨_, rfl⟩; rw [hy] at k2 HE2; clear hy HENDS; have hmN : (m' : Int) < (N : Int) + 1 := (by omega)
                  by_cases hkr : k < rm
                  · have hkd : decide (S < y) = true := (by rw [HE2.out]; exact decide_eq_true hkr); have hkd2 : S < y := of_decide_eq_true hkd; clear HE2; go_wp2_with fail; exact ⟨⟨k + 1, by omega, by have := HU.out; omega, by go_num, HM⟩, by have := HU.out; simp [RowKit.intOf]; omega⟩
                  · have hkd : decide (S < y) = false := (by rw [HE2.out]; exact decide_eq_false hkr); have hkd2 : ¬ S < y := of_decide_eq_false hkd; clear HE2; have hkm : k = u := (by have := HU.out; omega); subst hkm; have hcut := ((HOB.out.below HM.out.1).take HU.out.2.1).drop (c := co) HU.out.1 HU.out.2.2.1; have HCUT : Sl _ := ⟨hcut⟩; have HBW : Sl _ := ⟨HM.out.1⟩; have HOG : Sl _ := ⟨HM.out.2⟩; have HKG : Sl (kg + 1 ≤ 1000000) := ⟨by have := HF.out.2; have := HST.out; omega⟩; have hfu : (f : Int) ≤ (k : Int) := (by have := HU.out; omega); have hucb : (k : Int) ≤ (co : Int) := (by have := HU.out; omega); clear hcut HM hT
                    by_cases hcf : co = f
                    · rw [if_pos hcf] at HCUT; have hcf2 : (co = f) = True := eq_true hcf; clear hcf
                      go_wp2_with (at_builtin; first
                        | go_loud (refine wpList_append_oi rfl (.tmp 177) (.tmp 181) rfl wq.heap.size (some ⟨wr.heap.size, 0, none⟩) 0 0 [] rfl (OI.mt _ _ _ (Blk.new wr _ _) HBW.out.size) _ (k - f) _ _ rfl (HCUT.out.below ((Below.refl _ _).alloc (Nat.le_refl _) _)) (by have := HU.out; have := HN80.out; omega) (Nat.le_trans HBW.out.size (by simp)) ?_; rintro A' c' w5 zo zg zt; rw [Nat.zero_add, List.nil_append] at zo; have HZ5 : Sl _ := ⟨zo⟩; have HB5 : Sl (Below wr.heap.size wr w5) := ⟨below_grown ((Below.refl wr.heap.size wr).alloc (Nat.le_refl _) _) zg (by simp) (fun q hq => by injection hq with hq; exact Nat.le_of_eq hq)⟩; clear zo zg zt)
                        | go_loud (refine wpList_append_og rfl (.tmp 176) (.tmp 183) rfl wq.heap.size Gs kg cg LL rfl w5 37 ⟨A', k - f, c', cutL (ordL ws) (f, k)⟩ rfl (HOG.out.below HB5.out) HZ5.out rfl HKG.out (Nat.le_trans HBW.out.size HB5.out.size) ?_; rintro G2 c2 w6 zo zg; have HZ : Sl _ := ⟨And.intro zo zg⟩; clear zo zg))
                      have HB6 : Sl (Below wq.heap.size wq w6) := ⟨below_grown ((HBW.out.trans (HB5.out.mono HBW.out.size)).alloc (Nat.le_trans HBW.out.size HB5.out.size) _) HZ.out.2 (Nat.le_trans (Nat.le_trans HBW.out.size HB5.out.size) (by simp)) (fun q hq => (World.ownsRow.lt HOG.out.row q hq).1)⟩; refine ⟨⟨_, _, _, ⟨m', by omega, k, G2, kg + 1, c2, rfl, rfl, rfl, ⟨HU.out.2.1, by have := HF.out.2; omega⟩, LL ++ [⟨A', k - f, c', cutL (ordL ws) (f, k)⟩], ⟨HB6.out, HZ.out.1⟩, ⟨by rw [← HR.out]; simp⟩⟩, rfl, rfl, rfl⟩, ?_⟩; simp [RowKit.intOf]; omega
                    · rw [if_neg hcf] at HCUT
                      go_wp2_with (at_builtin; first
                        | go_loud (refine wpList_append_oi rfl (.tmp 177) (.tmp 181) rfl wq.heap.size (some ⟨wr.heap.size, 0, none⟩) 0 0 [] rfl (OI.mt _ _ _ (Blk.new wr _ _) HBW.out.size) _ (k - f) _ _ rfl (HCUT.out.below ((Below.refl _ _).alloc (Nat.le_refl _) _)) (by have := HU.out; have := HN80.out; omega) (Nat.le_trans HBW.out.size (by simp)) ?_; rintro A' c' w5 zo zg zt; rw [Nat.zero_add, List.nil_append] at zo; have HZ5 : Sl _ := ⟨zo⟩; have HB5 : Sl (Below wr.heap.size wr w5) := ⟨below_grown ((Below.refl wr.heap.size wr).alloc (Nat.le_refl _) _) zg (by simp) (fun q hq => by injection hq with hq; exact Nat.le_of_eq hq)⟩; clear zo zg zt)
                        | go_loud (refine wpList_append_og rfl (.tmp 176) (.tmp 183) rfl wq.heap.size Gs kg cg LL rfl w5 37 ⟨A', k - f, c', cutL (ordL ws) (f, k)⟩ rfl (HOG.out.below HB5.out) HZ5.out rfl HKG.out (Nat.le_trans HBW.out.size HB5.out.size) ?_; rintro G2 c2 w6 zo zg; have HZ : Sl _ := ⟨And.intro zo zg⟩; clear zo zg))
                      have HB6 : Sl (Below wq.heap.size wq w6) := ⟨below_grown ((HBW.out.trans (HB5.out.mono HBW.out.size)).alloc (Nat.le_trans HBW.out.size HB5.out.size) _) HZ.out.2 (Nat.le_trans (Nat.le_trans HBW.out.size HB5.out.size) (by simp)) (fun q hq => (World.ownsRow.lt HOG.out.row q hq).1)⟩; refine ⟨⟨_, _, _, ⟨m', by omega, k, G2, kg + 1, c2, rfl, rfl, rfl, ⟨HU.out.2.1, by have := HF.out.2; omega⟩, LL ++ [⟨A', k - f, c', cutL (ordL ws) (f, k)⟩], ⟨HB6.out, HZ.out.1⟩, ⟨by rw [← HR.out]; simp⟩⟩, rfl, rfl, rfl⟩, ?_⟩; simp [RowKit.intOf]; omega
end Go.Proofs.YtbaojmfkjpnfhaaDoor
namespace Go.Proofs.YtbaojmfkjpnfhaaDoor
set_option linter.unusedSimpArgs false
open Go.RowKit
set_option linter.unusedVariables false
theorem OL.mt (w : World) (base g : Nat) (hB : Blk w g 2 #[]) (hg : base ≤ g) : OL w base (some ⟨g, 0, none⟩) 0 0 [] :=
  ⟨rfl, .inr ⟨g, 0, #[], rfl, hg, hB, Nat.le_refl _, Nat.zero_le _, rfl, rfl⟩⟩
theorem planG_len (ws : List Int) (steps : Int) : ∀ l ∈ planG ws steps, l.length ≤ ws.length := fun l hl => by
  unfold planG at hl
  split at hl
  · obtain ⟨p, _, rfl⟩ := List.mem_map.1 hl; have : (ordL ws).length = ws.length := (by rw [ordL, ordF_len]); unfold cutL; rw [List.length_drop, List.length_take]; omega
  · cases hl
theorem OG.len_of {w : World} {base : Nat} {A : Option Addr} {n c : Nat} {L : List SlV} (h : OG w base A n c L) {s : SlV} (hs : s ∈ L) : s.n = s.l.length := ((h.all s hs).len).symm
set_option maxHeartbeats 6400000 in
set_option maxRecDepth 100000 in
theorem crescendoPlan_any (A : Option Addr) (n c : Nat) (ws : List Int) (steps : Int) (w : World) (hl : II w A n ws) (hn : n ≤ maxLen) (hs : i64 steps) :
    Calls Tryd.prog 3 #[.slice A n c, .int .i64 steps] w fun e w' => e = .returned (.bool true) ∧ Below w.heap.size w w' := by
  have HL : Sl _ := ⟨hl⟩; have HLN : Sl (ws.length = n) := ⟨hl.1⟩; have HS : Sl _ := ⟨hs⟩; unfold maxLen at hn; clear hl hs; go_enter Tryd.func3, Tryd.ntmps3
  by_cases h2 : 200 < n
  · have q1 : (200 : Int) < (n : Int) := (by omega); have q1d : decide ((200 : Int) < (n : Int)) = true := decide_eq_true q1; clear h2; go_wp2_with fail; refine (shown_any _).mono ?_; rintro e w9 ⟨rfl, hb⟩; have HB9 : Sl _ := ⟨hb⟩; clear hb; go_wp2_with fail; go_ret; exact ⟨rfl, HB9.out⟩
  have q1 : ¬ (200 : Int) < (n : Int) := (by omega); have q1d : decide ((200 : Int) < (n : Int)) = false := decide_eq_false q1; have HN : Sl (n ≤ 200) := ⟨by omega⟩; clear h2; go_wp2_with (at_builtin; go_loud (refine wpList_append_ol rfl (.tmp 17) (.tmp 18) rfl w.heap.size (some ⟨w.heap.size, 0, none⟩) 0 0 [] rfl (OL.mt _ _ _ (Blk.new w _ _) (Nat.le_refl _)) A n c ws rfl (HL.out.below ((Below.refl _ _).alloc (Nat.le_refl _) _)) (by have := HN.out; omega) (by simp) ?_; rintro A1 c1 w1 zo zg zt; rw [Nat.zero_add, List.nil_append] at zo; have HO1 : Sl _ := ⟨zo⟩; have HB1 : Sl (Below w.heap.size w w1) := ⟨below_grown ((Below.refl w.heap.size w).alloc (Nat.le_refl _) _) zg (by simp) (fun q hq => by injection hq with hq; exact Nat.le_of_eq hq)⟩; clear zo zg zt)); refine (crPlan_any A1 n c1 ws steps w1 HO1.out.ii (by unfold maxLen; omega) HS.out).mono ?_; rintro e w2 ⟨⟨GA, ka, ca, LA, rfl, hga, hla⟩, hb2⟩; have HB2 : Sl (Below w.heap.size w w2) := ⟨HB1.out.trans (hb2.mono HB1.out.size)⟩; have HO2 : Sl (II w2 A1 n ws) := ⟨HO1.out.ii.below hb2⟩; have HGA : Sl _ := ⟨hga⟩; have HLA : Sl _ := ⟨hla⟩; clear hga hla hb2 HO1 HB1; go_wp2_with fail; refine (rcPlan_any A n c ws steps w2 (HL.out.below HB2.out) (by unfold maxLen; omega) HS.out).mono ?_; rintro e w3 ⟨⟨GB, kb, cb, LB, rfl, hgb, hlb⟩, hb3⟩
  have hka : ka = kb := by
    have h1 := HGA.out.len; have h2 := hgb.len; have h3 : (LA.map SlV.l).length = (LB.map SlV.l).length := (by rw [HLA.out, hlb]); rw [List.length_map, List.length_map] at h3; omega
  subst hka; have HB3 : Sl (Below w.heap.size w w3) := ⟨HB2.out.trans (hb3.mono HB2.out.size)⟩; have HO3 : Sl (II w3 A1 n ws) := ⟨HO2.out.below hb3⟩; have HL3 : Sl (II w3 A n ws) := ⟨HL.out.below HB3.out⟩; have HLE : Sl (LA.map SlV.l = LB.map SlV.l) := ⟨by rw [HLA.out, hlb]⟩
  have HSZ : Sl (∀ s ∈ LA, s.n ≤ 1000000) := ⟨fun s hs => by
    have h1 := planG_len ws steps s.l (by rw [← HLA.out]; exact List.mem_map.2 ⟨s, hs, rfl⟩); have h2 := HGA.out.len_of hs; have := HN.out; rw [HLN.out] at h1
    omega⟩
  have HKA : Sl (ka ≤ 1000000) := ⟨by
    have h1 := HGA.out.len; have h2 := congrArg List.length HLA.out; rw [List.length_map] at h2
    have h3 : (planG ws steps).length ≤ 60 := by
      unfold planG
      split
      · rename_i h0; rw [List.length_map, grpE_len]; unfold planE at h0
        split at h0
        · cases h0
        · split at h0
          · cases h0
          · omega
      · exact Nat.zero_le _
    omega⟩
  have HGA3 : Sl (GG w3 GA ka LA) := ⟨(GG.of_og HGA.out).below hb3⟩; have HGB3 : Sl (GG w3 GB ka LB) := ⟨GG.of_og hgb⟩; generalize planS ws steps = S at *
  generalize planE ws steps = E at *
  clear hgb hlb hb3 HLA HGA HO2 HB2 HL; go_wp2_with fail
  go_loopw [12] (fun s12 wv => ∃ i : Nat, i ≤ n ∧ s12 = .int .i64 (i : Int) ∧ Sl (Below w3.heap.size w3 wv)) (fun s12 _ => n - (RowKit.intOf s12).toNat)
  case atStart => exact ⟨0, Nat.zero_le _, rfl, ⟨Below.refl _ _⟩⟩
  case round =>
    obtain ⟨i, hi, rfl, HB⟩ := hrel
    by_cases hin : i < n
    · have hiI : decide ((i : Int) < (n : Int)) = true := decide_eq_true (by omega); have hiI2 : (i : Int) < (n : Int) := (by omega); obtain ⟨a1, e1, hb1, k1⟩ := (HO3.out.below HB.out).cell (j := i) hin; obtain ⟨a2, e2, hb2, k2⟩ := (HL3.out.below HB.out).cell (j := i) hin; obtain ⟨z, hz⟩ : ∃ z, gt ws i = z := ⟨_, rfl⟩; rw [hz] at k1 k2; rw [e1, e2]; have HE1 : Sl _ := ⟨e1⟩; have HE2 : Sl _ := ⟨e2⟩; have hn200 : (n : Int) ≤ 200 := (by have := HN.out; omega); clear e1 e2 hz; go_wp2_with fail
      go_quiet (fail)
      go_wp2_with fail; exact ⟨⟨i + 1, by omega, by go_num, ⟨below_drewN HB.out nq⟩⟩, by simp [RowKit.intOf]; omega⟩
    · obtain rfl : n = i := (by omega); have hiI : decide ((n : Int) < (n : Int)) = false := (by simp); clear hin hi; go_wp2_with fail; refine (groups_any GA GB ka ca cb LA LB wr (HGA3.out.below HB.out) (HGB3.out.below HB.out) HKA.out HLE.out HSZ.out).mono ?_; rintro e w4 ⟨rfl, hb4⟩; have HB4 : Sl (Below w.heap.size w w4) := ⟨HB3.out.trans ((HB.out.trans (hb4.mono HB.out.size)).mono HB3.out.size)⟩; clear hb4; have hSS : (S == S) = true := (by simp); have hEE : (E == E) = true := (by simp); go_wp2_with fail; refine (shown_any _).mono ?_; rintro e w5 ⟨rfl, hb5⟩; have HB5 : Sl (Below w.heap.size w w5) := ⟨HB4.out.trans (hb5.mono HB4.out.size)⟩; clear hb5; go_wp2_with fail; go_ret; exact ⟨rfl, HB5.out⟩
end Go.Proofs.YtbaojmfkjpnfhaaDoor
