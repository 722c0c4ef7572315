/- Plain law: quotations by replacing all quotes, and back. No program in sight. -/
import Derived.Test.YtabkpbbjodfolaaGreatDoorZvM
import Derived.Lib.ReplaceLaws
import Derived.Test.YtabkpbbjodfolaaGreatDoorZvE
import Derived.Lib.SlicesS
namespace Go.Proofs.YtabkpbbjodfolaaGreatDoor
set_option linter.unusedSimpArgs false
set_option linter.unusedVariables false
theorem split34 {t : By} (h : (34 : UInt8) ∈ t) : ∃ p r, t = p ++ 34 :: r ∧ (34 : UInt8) ∉ p := by
  have hc := List.takeWhile_append_dropWhile (p := fun x => decide (x ≠ (34 : UInt8))) (l := t)
  have hn : (34 : UInt8) ∉ t.takeWhile (· ≠ 34) := fun hm => by
    have := List.all_takeWhile (p := fun x => decide (x ≠ (34 : UInt8))) (l := t); rw [List.all_eq_true] at this; simpa using this 34 hm
  cases hd : t.dropWhile (· ≠ 34) with
  | nil =>
    rw [hd, List.append_nil] at hc; rw [hc] at hn; exact absurd h hn
  | cons d r =>
    have := List.head?_dropWhile_not (p := fun x => decide (x ≠ (34 : UInt8))) (l := t); rw [hd] at this; simp at this; rw [hd, this] at hc; exact ⟨_, r, hc.symm, hn⟩
theorem dbl_no : ∀ {p : By}, (34 : UInt8) ∉ p → dbl p = p
  | [], _ => rfl
  | c :: p, h => by
    simp only [List.mem_cons, not_or] at h; rw [dbl, if_neg (fun e => h.1 e.symm), dbl_no h.2]
theorem dbl_app : ∀ (p r : By), (34 : UInt8) ∉ p → dbl (p ++ 34 :: r) = p ++ 34 :: 34 :: dbl r
  | [], r, _ => by rw [List.nil_append, dbl, if_pos rfl]; rfl
  | c :: p, r, h => by
    simp only [List.mem_cons, not_or] at h; rw [List.cons_append, dbl, if_neg (fun e => h.1 e.symm), dbl_app p r h.2]; rfl
theorem index34 : ∀ (p sub x : By), (34 : UInt8) ∉ p → Lib.index (p ++ (34 :: sub ++ x)) (34 :: sub) = p.length
  | [], sub, x, _ => by
    rw [List.nil_append, List.cons_append, Lib.index, if_pos]
    · rfl
    · rw [← List.cons_append]; exact List.isPrefixOf_iff_prefix.2 (List.prefix_append _ _)
  | c :: p, sub, x, h => by
    simp only [List.mem_cons, not_or] at h; have ih := index34 p sub x h.2
    have hf : ¬ ((34 :: sub).isPrefixOf (c :: (p ++ (34 :: sub ++ x))) = true) := by
      rw [List.isPrefixOf_cons_cons]; intro e; rw [Bool.and_eq_true, beq_iff_eq] at e; exact h.1 e.1
    rw [List.cons_append, Lib.index, if_neg hf, ih]; rw [if_neg]
    · simp
    · intro e; rw [beq_iff_eq] at e; omega
theorem index_no : ∀ (p sub : By), (34 : UInt8) ∉ p → Lib.index p (34 :: sub) = -1
  | [], sub, _ => rfl
  | c :: p, sub, h => by
    simp only [List.mem_cons, not_or] at h
    have hf : ¬ ((34 :: sub).isPrefixOf (c :: p) = true) := by
      rw [List.isPrefixOf_cons_cons]; intro e; rw [Bool.and_eq_true, beq_iff_eq] at e; exact h.1 e.1
    rw [Lib.index, if_neg hf, index_no p sub h.2]; rfl
theorem repl_up : ∀ (n : Nat) (t : By), t.length < n → Lib.replaceK [34] [34, 34] (Lib.count t [34]) t = dbl t
  | 0, t, h => absurd h (Nat.not_lt_zero _)
  | n + 1, t, h => by
    by_cases hm : (34 : UInt8) ∈ t
    · obtain ⟨p, r, rfl, hp⟩ := split34 hm; have hi := index34 p [] r hp; have hi : Lib.index (p ++ 34 :: r) [34] = p.length := hi; have hd : (p ++ 34 :: r).drop (p.length + 1) = r := (by simp [List.drop_append]); have hd' : (p ++ 34 :: r).drop (p.length + [(34 : UInt8)].length) = r := hd; rw [Lib.count_hit (by simp) hi, Nat.add_comm, Lib.replaceK_hit _ _ _ _ _ hi, hd', repl_up n r (by simp at h; omega), dbl_app p r hp]; simp
    · rw [Lib.count_miss (index_no t [] hm), Lib.replaceK, dbl_no hm]
theorem repl_down : ∀ (n : Nat) (t : By), t.length < n → Lib.replaceK [34, 34] [34] (Lib.count (dbl t) [34, 34]) (dbl t) = t
  | 0, t, h => absurd h (Nat.not_lt_zero _)
  | n + 1, t, h => by
    by_cases hm : (34 : UInt8) ∈ t
    · obtain ⟨p, r, rfl, hp⟩ := split34 hm; rw [dbl_app p r hp]; have hi := index34 p [34] (dbl r) hp; have hi : Lib.index (p ++ 34 :: 34 :: dbl r) [34, 34] = p.length := hi; have hd' : (p ++ 34 :: 34 :: dbl r).drop (p.length + [(34 : UInt8), 34].length) = dbl r := (by simp [List.drop_append]); rw [Lib.count_hit (by simp) hi, Nat.add_comm, Lib.replaceK_hit _ _ _ _ _ hi, hd', repl_down n r (by simp at h; omega)]; simp
    · rw [dbl_no hm, Lib.count_miss (index_no t [34] hm), Lib.replaceK]
theorem replAll_up (t : By) : Lib.replaceAll t [34] [34, 34] = dbl t := by
  unfold Lib.replaceAll Lib.replace Lib.replaceNum; rw [if_neg (by decide), if_pos (.inl (by decide))]; exact repl_up _ t (Nat.lt_succ_self _)
theorem replAll_down (t : By) : Lib.replaceAll (dbl t) [34, 34] [34] = t := by
  unfold Lib.replaceAll Lib.replace Lib.replaceNum; rw [if_neg (by decide), if_pos (.inl (by decide))]; exact repl_down _ t (Nat.lt_succ_self _)
theorem unq_repl (m : By) : unq (34 :: (m ++ [34])) = (if txt (Lib.replaceAll m [34, 34] [34]) = true ∧ quo (Lib.replaceAll m [34, 34] [34]) = 34 :: (m ++ [34]) then some (Lib.replaceAll m [34, 34] [34]) else none) := by
  split
  · rename_i h; exact unq_iff.2 ⟨h.2.symm, h.1⟩
  · rename_i h
    cases hu : unq (34 :: (m ++ [34])) with
    | none => rfl
    | some t =>
      obtain ⟨e, ht⟩ := unq_iff.1 hu
      have em : m = dbl t := by
        unfold quo at e; injection e with _ e
        exact List.append_cancel_right e
      rw [em, replAll_down] at h; exact absurd ⟨ht, rfl⟩ h
theorem unq_no {s : By} (h : s.length < 2 ∨ s.head? ≠ some 34 ∨ s.getLast? ≠ some 34) : unq s = none := by
  cases hu : unq s with
  | none => rfl
  | some t =>
    obtain ⟨rfl, _⟩ := unq_iff.1 hu; rcases h with h | h | h
    · simp [quo] at h; omega
    · exact absurd rfl h
    · refine absurd ?_ h; unfold quo; rw [List.getLast?_cons, List.getLast?_append]; simp
end Go.Proofs.YtabkpbbjodfolaaGreatDoor
namespace Go.Proofs.YtabkpbbjodfolaaGreatDoor
set_option linter.unusedSimpArgs false
set_option linter.unusedVariables false
def jn : List By → By
  | [] => []
  | [x] => x
  | x :: y :: l => x ++ 32 :: jn (y :: l)
theorem jn_cons {x : By} {l : List By} (h : l ≠ []) : jn (x :: l) = x ++ 32 :: jn l := by
  cases l with
  | nil => exact absurd rfl h
  | cons y l => rfl
theorem jn_pcs : ∀ (n : Nat) (st : Bool) (l : By), l.length < n → jn (pcs st l) = l
  | 0, st, l, h => absurd h (Nat.not_lt_zero _)
  | n + 1, st, l, h => by
    cases hp : pcs st l with
    | nil => exact absurd hp (pcs_ne _ _)
    | cons a b =>
      rcases pcs_head _ _ _ _ hp with ⟨rfl, rfl⟩ | ⟨r, rfl, rfl⟩
      · rfl
      · rw [jn_cons (pcs_ne _ _), jn_pcs n false r (by simp at h; omega)]
theorem pcs_jn : ∀ l : List By, l ≠ [] → (∀ x ∈ l, (34 : UInt8) ∉ x ∧ (32 : UInt8) ∉ x) → pcs false (jn l) = l
  | [], h, _ => absurd rfl h
  | [x], _, h => by
    have := pcs_plain x [] (h x (by simp)).1 (h x (by simp)).2; rw [List.append_nil] at this; rw [show jn [x] = x from rfl, this]; simp [pcs, consU]
  | x :: y :: l, _, h => by
    have hx := h x (by simp); have e3 : pcs false (32 :: jn (y :: l)) = [] :: pcs false (jn (y :: l)) := (by rw [pcs, if_neg (by decide), if_pos ⟨rfl, rfl⟩]); rw [jn_cons (by simp), pcs_plain x _ hx.1 hx.2, e3, pcs_jn (y :: l) (by simp) (fun z hz => h z (List.mem_cons_of_mem _ hz))]; simp [consU]
def splX (ln : By) : Int × List Fl := if 4096 < ln.length then (3, []) else if ln = [] then (0, []) else match mapO fldP (pcs false ln) with
  | none => (6, [])
  | some fl => if 64 < fl.length then (3, []) else (0, fl)
theorem fldP_plain {p : By} (h : rgt p = true) : fldP p = some (false, p) := by
  unfold fldP
  have h34 : (34 : UInt8) ∉ p := by
    intro e; unfold rgt at h; simp [e] at h
  rw [if_neg, if_pos h]
  cases p with
  | nil => simp
  | cons a b => simp at h34 ⊢; exact fun e => h34.1 e.symm
theorem fldP_back {p : By} {f : Fl} (h : fldP p = some f) (hq : f.1 = false) : f.2 = p ∧ rgt p = true := by
  unfold fldP at h
  split at h
  · obtain ⟨t, _, rfl⟩ := Option.map_eq_some_iff.1 h
    cases hq
  · split at h
    · rename_i h2; injection h with h
      subst h; exact ⟨rfl, h2⟩
    · cases h
theorem mapO_plain : ∀ l : List By, (∀ x ∈ l, rgt x = true) → mapO fldP l = some (l.map fun x => (false, x))
  | [], _ => rfl
  | a :: l, h => by
    rw [mapO, fldP_plain (h a (by simp))]; simp only []; rw [mapO_plain l (fun x hx => h x (List.mem_cons_of_mem _ hx))]; rfl
theorem mapO_back : ∀ (l : List By) (fl : List Fl), mapO fldP l = some fl → (∀ f ∈ fl, f.1 = false) → fl.map (·.2) = l ∧ ∀ x ∈ l, rgt x = true
  | [], fl, h, _ => by
    rw [mapO] at h; injection h with h
    subst h; exact ⟨rfl, by simp⟩
  | a :: l, fl, h, hq => by
    rw [mapO] at h
    cases ha : fldP a with
    | none => rw [ha] at h; cases h
    | some f =>
      rw [ha] at h; simp only [] at h; obtain ⟨fl', h1, rfl⟩ := Option.map_eq_some_iff.1 h; obtain ⟨k1, k2⟩ := mapO_back l fl' h1 (fun g hg => hq g (List.mem_cons_of_mem _ hg)); obtain ⟨k3, k4⟩ := fldP_back ha (hq f (by simp)); refine ⟨by simp [k1, k3], fun x hx => ?_⟩; rcases List.mem_cons.1 hx with rfl | hx
      · exact k4
      · exact k2 x hx
theorem rgt_no3 {x : By} (h : rgt x = true) : (34 : UInt8) ∉ x ∧ (32 : UInt8) ∉ x := by
  unfold rgt prt at h; simp only [Bool.and_eq_true, decide_eq_true_eq, List.all_eq_true] at h; exact ⟨h.2, fun e => by have := (h.1.2 32 e).1; simp at this⟩
theorem splX_jn {l : List By} (h0 : l ≠ []) (h : ∀ x ∈ l, rgt x = true) (hl : (jn l).length ≤ 4096) (hn : l.length ≤ 64) : splX (jn l) = (0, l.map fun x => (false, x)) := by
  have hne : jn l ≠ [] := by
    intro e; have := pcs_jn l h0 (fun x hx => rgt_no3 (h x hx)); rw [e] at this; simp [pcs] at this; rw [← this] at h; have := h [] (by simp); simp [rgt] at this
  unfold splX; rw [if_neg (by omega), if_neg hne, pcs_jn l h0 (fun x hx => rgt_no3 (h x hx)), mapO_plain l h]; simp only [List.length_map]; rw [if_neg (by omega)]
theorem splX_back {ln : By} {fl : List Fl} (h : splX ln = (0, fl)) (hq : ∀ f ∈ fl, f.1 = false) (h0 : fl ≠ []) : ln = jn (fl.map (·.2)) ∧ ∀ f ∈ fl, rgt f.2 = true := by
  unfold splX at h
  split at h
  · simp at h
  · split at h
    · injection h with _ h; exact absurd h.symm h0
    · split at h
      · simp at h
      · rename_i fl' hm
        split at h
        · simp at h
        · injection h with _ h
          subst h; obtain ⟨k1, k2⟩ := mapO_back _ _ hm hq; refine ⟨by rw [k1]; exact (jn_pcs _ false ln (Nat.lt_succ_self _)).symm, fun f hf => k2 f.2 ?_⟩; rw [← k1]; exact List.mem_map_of_mem hf
def lnK (ls : List By) : By := (ls.map (· ++ [10])).flatten
def splL : By → List By
  | [] => []
  | c :: l => if c = 10 then [] :: splL l else consU [c] (splL l)
theorem splL_app : ∀ (x r : By), (10 : UInt8) ∉ x → splL (x ++ 10 :: r) = x :: splL r
  | [], r, _ => by rw [List.nil_append, splL, if_pos rfl]
  | c :: x, r, h => by
    simp only [List.mem_cons, not_or] at h; rw [List.cons_append, splL, if_neg (fun e => h.1 e.symm), splL_app x r h.2]; rfl
theorem splL_lnK : ∀ ls : List By, (∀ x ∈ ls, (10 : UInt8) ∉ x) → splL (lnK ls) = ls
  | [], _ => rfl
  | x :: ls, h => by
    have e : lnK (x :: ls) = x ++ 10 :: lnK ls := (by simp [lnK]); rw [e, splL_app x _ (h x (by simp)), splL_lnK ls (fun y hy => h y (List.mem_cons_of_mem _ hy))]
theorem lnK_splL : ∀ (n : Nat) (t : By), t.length < n → (t = [] ∨ t.getLast? = some 10) → lnK (splL t) = t
  | 0, t, h, _ => absurd h (Nat.not_lt_zero _)
  | n + 1, t, h, ht => by
    by_cases h10 : (10 : UInt8) ∈ t
    · obtain ⟨x, r, rfl, hx⟩ : ∃ x r, t = x ++ 10 :: r ∧ (10 : UInt8) ∉ x := by
        obtain ⟨x, r, e, hx⟩ := List.append_of_mem h10 |> fun ⟨x, r, e⟩ => (⟨t.takeWhile (· ≠ 10), (t.dropWhile (· ≠ 10)).tail, by
          have hc := List.takeWhile_append_dropWhile (p := fun x => decide (x ≠ (10 : UInt8))) (l := t)
          cases hd : t.dropWhile (· ≠ 10) with
          | nil =>
            rw [hd, List.append_nil] at hc; have := List.all_takeWhile (p := fun x => decide (x ≠ (10 : UInt8))) (l := t); rw [hc, List.all_eq_true] at this; exact absurd (this 10 h10) (by simp)
          | cons d r' =>
            have := List.head?_dropWhile_not (p := fun x => decide (x ≠ (10 : UInt8))) (l := t); rw [hd] at this; simp at this; rw [hd, this] at hc
            exact hc.symm, fun hm => by
          have := List.all_takeWhile (p := fun x => decide (x ≠ (10 : UInt8))) (l := t); rw [List.all_eq_true] at this
          simpa using this 10 hm⟩ : ∃ x r, t = x ++ 10 :: r ∧ (10 : UInt8) ∉ x)
        exact ⟨x, r, e, hx⟩
      have e : splL (x ++ 10 :: r) = x :: splL r := splL_app x r hx
      have hr : r = [] ∨ r.getLast? = some 10 := by
        cases r with
        | nil => exact .inl rfl
        | cons a b =>
          rcases ht with ht | ht
          · simp at ht
          · right
            rw [List.getLast?_append] at ht; simpa using ht
      have e2 : lnK (x :: splL r) = x ++ 10 :: lnK (splL r) := (by simp [lnK]); rw [e, e2, lnK_splL n r (by simp at h; omega) hr]
    · rcases ht with rfl | ht
      · rfl
      · exact absurd (List.mem_of_getLast? ht) h10
theorem splL_no : ∀ (t : By) (x : By), x ∈ splL t → (10 : UInt8) ∉ x
  | [], x, h => by simp [splL] at h
  | c :: l, x, h => by
    rw [splL] at h
    split at h
    · rcases List.mem_cons.1 h with rfl | h
      · simp
      · exact splL_no l x h
    · rename_i hc
      cases hs : splL l with
      | nil =>
        rw [hs] at h; simp [consU] at h; subst h; simp; exact fun e => hc e.symm
      | cons a b =>
        rw [hs] at h; simp only [consU, List.mem_cons] at h; rcases h with rfl | h
        · have := splL_no l a (by rw [hs]; simp); simp [this]; exact fun e => hc e.symm
        · exact splL_no l x (by rw [hs]; simp [h])
def linX (t : By) : Int × List By := if 1048576 < t.length then (3, []) else if t = [] then (0, []) else if t.getLast? = some 10 then (if 5000 < t.count 10 then (3, []) else (0, splL t)) else (6, [])
theorem count_lnK : ∀ ls : List By, (∀ x ∈ ls, (10 : UInt8) ∉ x) → (lnK ls).count 10 = ls.length
  | [], _ => rfl
  | x :: ls, h => by
    have e : lnK (x :: ls) = x ++ 10 :: lnK ls := (by simp [lnK]); rw [e, List.count_append, List.count_cons, count_lnK ls (fun y hy => h y (List.mem_cons_of_mem _ hy)), List.count_eq_zero.2 (h x (by simp))]; simp
theorem linX_lnK {ls : List By} (h : ∀ x ∈ ls, (10 : UInt8) ∉ x) (hl : (lnK ls).length ≤ 1048576) (hn : ls.length ≤ 5000) : linX (lnK ls) = (0, ls) := by
  unfold linX; rw [if_neg (by omega)]
  cases ls with
  | nil => rfl
  | cons x r =>
    have hlast : (lnK (x :: r)).getLast? = some 10 := by
      obtain ⟨a, b, e⟩ : ∃ a b, x :: r = a ++ [b] := ⟨(x :: r).dropLast, (x :: r).getLast (by simp), (List.dropLast_concat_getLast (by simp)).symm⟩; rw [e]; simp [lnK]
    have hne : lnK (x :: r) ≠ [] := by
      intro e; rw [e] at hlast
      cases hlast
    rw [if_neg hne, if_pos hlast, count_lnK _ h, if_neg (by omega), splL_lnK _ h]
theorem linX_back {t : By} {ls : List By} (h : linX t = (0, ls)) : lnK ls = t ∧ ∀ x ∈ ls, (10 : UInt8) ∉ x := by
  unfold linX at h
  split at h
  · simp at h
  · split at h
    · rename_i h0; injection h with _ h
      subst h; exact ⟨h0.symm ▸ rfl, by simp⟩
    · split at h
      · rename_i hl
        split at h
        · simp at h
        · injection h with _ h
          subst h; exact ⟨lnK_splL _ t (Nat.lt_succ_self _) (.inr hl), splL_no t⟩
      · simp at h
end Go.Proofs.YtabkpbbjodfolaaGreatDoor
namespace Go.Proofs.YtabkpbbjodfolaaGreatDoor
set_option linter.unusedSimpArgs false
set_option linter.unusedVariables false
end Go.Proofs.YtabkpbbjodfolaaGreatDoor
namespace Go.Proofs.YtabkpbbjodfolaaGreatDoor
set_option linter.unusedSimpArgs false
open Go.RowKit
set_option linter.unusedVariables false
def bs (t : By) : ByteArray := ⟨t.toArray⟩
theorem bs_by (t : By) : (bs t).data.toList = t := by simp [bs]
theorem by_bs (s : ByteArray) : bs s.data.toList = s := by
  cases s
  simp [bs]
theorem bs_size (t : By) : (bs t).size = t.length := by
  show (bs t).data.size = _; simp [bs]
theorem bs_app (a b : By) : bs a ++ bs b = bs (a ++ b) := by
  rw [← by_bs (bs a ++ bs b), ByteArray.data_append, Array.toList_append, bs_by, bs_by]
def MXp (w : World) (b : Nat) : Prop := ∃ m : Int, w.cell? ⟨b, 0, none⟩ = some (.int .i64 m)
def RplC (b : Nat) : Prop := ∀ (s old new : By) (W : World), MXp W b → 1 ≤ old.length → old.length ≤ 2 → new.length ≤ 2 → s.length ≤ 100000 → Calls Tryz.prog 172 #[.string (bs s), .string (bs old), .string (bs new)] W fun e w' => e = .returned (.string (bs (Lib.replaceAll s old new))) ∧ Below W.heap.size W w'
theorem MXp.below {w w' : World} {b : Nat} (h : MXp w b) (hb : Below w.heap.size w w') : MXp w' b := by
  obtain ⟨m, hm⟩ := h; exact ⟨m, (hb.cell (p := ⟨b, 0, none⟩) (World.block_lt_of_cell? _ _ hm)).trans hm⟩
theorem replK_len : ∀ (k : Nat) (t : By), (Lib.replaceK [34, 34] [34] k t).length ≤ t.length
  | 0, t => Nat.le_refl _
  | k + 1, t => by
    rw [Lib.replaceK]
    split
    · exact Nat.le_refl _
    · rename_i h; have h0 := Lib.index_ge t [34, 34]
      have h1 : 0 ≤ Lib.index t [34, 34] := by
        have : ¬ (Lib.index t [34, 34] = -1) := fun e => h (by rw [e]; rfl)
        omega
      have h2 := Lib.index_room t [34, 34] h1; have h3 := replK_len k (t.drop ((Lib.index t [34, 34]).toNat + [(34 : UInt8), 34].length)); simp only [List.length_append, List.length_take, List.length_drop, List.length_cons, List.length_nil] at h2 h3 ⊢; omega
theorem replAll_len (t : By) : (Lib.replaceAll t [34, 34] [34]).length ≤ t.length := by
  unfold Lib.replaceAll Lib.replace
  split
  · exact Nat.le_refl _
  · exact replK_len _ _
theorem dbl_len (t : By) : (dbl t).length ≤ 2 * t.length := by
  induction t with
  | nil => simp [dbl]
  | cons c t ih =>
    rw [dbl]
    split
    · simp; omega
    · simp; omega
def quoE (t : By) : Int := if txt t = true then 0 else 2
def quoX (t : By) : By := if txt t = true then quo t else []
set_option maxHeartbeats 3200000 in
set_option maxRecDepth 100000 in
theorem wquote_any {b : Nat} (HR : RplC b) (t : By) (ht : t.length ≤ 100000) (w : World) (hX : MXp w b) : Calls Tryz.prog 173 #[.string (bs t)] w fun e w' => e = .returned (.tuple #[.string (bs (quoX t)), .int .i64 (quoE t)]) ∧ Below w.heap.size w w' := by
  have HT : Sl _ := ⟨wtext_any (bs t) (by rw [bs_size]; unfold maxLen; omega) w⟩; have HRR : Sl _ := ⟨HR t [34] [34, 34] w hX (by simp) (by simp) (by simp) ht⟩; rw [replAll_up] at HRR; rw [bs_by] at HT; have hsz : (bs (dbl t)).size ≤ 1000000 := (by rw [bs_size]; have := dbl_len t; omega); have HS : Sl _ := ⟨hsz⟩; have e1 : bs [34] = (⟨#[34]⟩ : ByteArray) := rfl; have e2 : bs [34, 34] = (⟨#[34, 34]⟩ : ByteArray) := rfl; rw [e1, e2] at HRR; clear e2 hsz
  cases h : txt t with
  | false =>
    have HV : Sl (quoX t = [] ∧ quoE t = 2) := ⟨by unfold quoX quoE; rw [h]; exact ⟨rfl, rfl⟩⟩; rw [HV.out.1, HV.out.2]; rw [h] at HT; clear h; go_enter Tryz.func173, Tryz.ntmps173; go_wp2_with fail; refine HT.out.mono ?_; rintro e w1 ⟨rfl, rfl⟩; go_wp2_with fail; refine bodyPost_ret (v := _) (by simp [results, Tryz.results173, go_sem]; rfl) rfl ?_; exact ⟨rfl, Below.refl _ _⟩
  | true =>
    have HV : Sl (quoX t = quo t ∧ quoE t = 0) := ⟨by unfold quoX quoE; rw [h]; exact ⟨rfl, rfl⟩⟩; rw [HV.out.1, HV.out.2]; rw [h] at HT; clear h; have HQ : Sl (bs (quo t) = ⟨#[34]⟩ ++ bs (dbl t) ++ ⟨#[34]⟩) := ⟨by rw [← e1, bs_app, bs_app]; rfl⟩; rw [HQ.out]; clear e1; obtain ⟨D, hD⟩ : ∃ D, bs (dbl t) = D := ⟨_, rfl⟩; rw [hD] at HRR HS ⊢; clear hD; have hs := HS.out; go_enter Tryz.func173, Tryz.ntmps173; go_wp2_with fail; refine HT.out.mono ?_; rintro e w1 ⟨rfl, rfl⟩; go_wp2_with fail; refine HRR.out.mono ?_; rintro e w2 ⟨rfl, hb⟩; have HB : Sl _ := ⟨hb⟩; clear hb; go_wp2_with fail; refine bodyPost_ret (v := _) (by simp [results, Tryz.results173, go_sem]; rfl) rfl ?_; exact ⟨rfl, HB.out⟩
def unqE (t : By) : Int := match unq t with
  | some _ => 0
  | none => 6
def unqX (t : By) : By := (unq t).getD []
theorem shape34 {t : By} (h2 : 2 ≤ t.length) (h0 : t.head? = some 34) (hl : t.getLast? = some 34) : ∃ m, t = 34 :: (m ++ [34]) := by
  cases t with
  | nil => simp at h2
  | cons c l =>
    injection h0 with h0
    subst h0; have hne : l ≠ [] := (by intro e; rw [e] at h2; simp at h2); have e := List.dropLast_concat_getLast hne; rw [List.getLast?_cons_of_ne_nil hne, List.getLast?_eq_some_getLast hne] at hl; injection hl with hl
    rw [hl] at e; exact ⟨l.dropLast, by rw [e]⟩
set_option maxHeartbeats 6400000 in
set_option maxRecDepth 100000 in
theorem wunq_any {b : Nat} (HR : RplC b) (s : ByteArray) (hs : s.size ≤ 100000) (w : World) (hX : MXp w b) : Calls Tryz.prog 129 #[.string s] w fun e w' => e = .returned (.tuple #[.string (bs (unqX s.data.toList)), .int .i64 (unqE s.data.toList)]) ∧ Below w.heap.size w w' := by
  by_cases h2 : s.size < 2
  · have hu : unq s.data.toList = none := unq_no (.inl h2); have HV : Sl (unqX s.data.toList = [] ∧ unqE s.data.toList = 6) := ⟨by unfold unqX unqE; rw [hu]; exact ⟨rfl, rfl⟩⟩; rw [HV.out.1, HV.out.2]; have h3 : decide ((s.size : Int) < 2) = true := decide_eq_true (by omega); have h4 : (s.size : Int) < 2 := (by omega); clear hu h2; go_enter Tryz.func129, Tryz.ntmps129; go_wp2_with fail; refine bodyPost_ret (v := _) (by simp [results, Tryz.results129, go_sem]; rfl) rfl ?_; exact ⟨rfl, Below.refl _ _⟩
  · have h3 : decide ((s.size : Int) < 2) = false := decide_eq_false (by omega); have h4 : ¬ (s.size : Int) < 2 := (by omega); have hi0 : 0 < s.size := (by omega); have hl1 : s.size - 1 < s.size := (by omega); have hsI : (s.size : Int) - 1 = ((s.size - 1 : Nat) : Int) := (by omega); have hget : ∀ (k : Nat) (hk : k < s.size), s[k] = s.data.toList[k]'(by simpa using hk) := fun k hk => by simp [ByteArray.getElem_eq_getElem_data]
    have hlen : s.data.toList.length = s.size := rfl; have H0 : Sl (s.data.toList.head? = some s[0]) := ⟨by rw [hget 0 hi0, List.head?_eq_getElem?, List.getElem?_eq_getElem (by omega)]⟩; have H1 : Sl (s.data.toList.getLast? = some s[s.size - 1]) := ⟨by rw [hget _ hl1, List.getLast?_eq_getElem?, List.getElem?_eq_getElem (by omega)]; rfl⟩; obtain ⟨c0, hc0⟩ : ∃ c0, s[0] = c0 := ⟨_, rfl⟩; obtain ⟨c1, hc1⟩ : ∃ c1, s[s.size - 1] = c1 := ⟨_, rfl⟩; rw [hc0] at H0; rw [hc1] at H1; have HC0 : Sl (((s[0].toNat : Nat) : Int) = (c0.toNat : Int)) := ⟨by rw [hc0]⟩; have HC1 : Sl (((s[s.size - 1].toNat : Nat) : Int) = (c1.toNat : Int)) := ⟨by rw [hc1]⟩; have hz : ∀ c : UInt8, c ≠ 34 → ¬ ((c.toNat : Int) = 34) := fun c hc e => hc (UInt8.toNat_inj.1 (by show c.toNat = 34; omega))
    have HZ : Sl _ := ⟨hz⟩; clear hget hlen hc0 hc1 hz
    by_cases hq0 : c0 = 34
    · subst hq0; have k0 : ((s[0].toNat : Nat) : Int) = 34 := HC0.out; have k0b : (((s[0].toNat : Nat) : Int) != 34) = false := (by rw [k0]; rfl)
      by_cases hq1 : c1 = 34
      · subst hq1; have k1 : ((s[s.size - 1].toNat : Nat) : Int) = 34 := HC1.out; have k1b : (((s[s.size - 1].toNat : Nat) : Int) != 34) = false := (by rw [k1]; rfl); obtain ⟨m, hm⟩ := shape34 (by show 2 ≤ s.size; omega) H0.out H1.out; have HM : Sl (s.data.toList = 34 :: (m ++ [34])) := ⟨hm⟩
        have hml : m.length + 2 = s.size := by
          have : s.data.toList.length = (34 :: (m ++ [34])).length := (by rw [hm]); have e : s.data.toList.length = s.size := rfl; rw [e] at this; simp at this; omega
        have HL : Sl (m.length + 2 = s.size) := ⟨hml⟩; obtain ⟨t, htt⟩ : ∃ t, Lib.replaceAll m [34, 34] [34] = t := ⟨_, rfl⟩; have HU : Sl (unq s.data.toList = if txt t = true ∧ quo t = s.data.toList then some t else none) := ⟨by rw [HM.out, unq_repl, htt]⟩; have HR1 : Sl _ := ⟨HR m [34, 34] [34] w hX (by simp) (by simp) (by simp) (by omega)⟩; rw [htt] at HR1
        have HLT : Sl (t.length ≤ 100000) := ⟨by
          have := replAll_len m; rw [htt] at this
          omega⟩
        have HR2 : Sl _ := ⟨fun (W : World) (hW : MXp W b) => wquote_any HR t HLT.out W hW⟩
        have hext : s.extract 1 (s.size - 1) = bs m := by
          rw [← by_bs (s.extract 1 (s.size - 1))]; congr 1; rw [Lib.extract_data, hm]; simp only [List.drop_succ_cons, List.drop_zero]; have : s.size - 1 - 1 = m.length := (by omega); rw [this]; simp
        have HX : Sl _ := ⟨hX⟩; have hc34 : (⟨#[34, 34]⟩ : ByteArray) = bs [34, 34] := rfl; have hc3 : (⟨#[34]⟩ : ByteArray) = bs [34] := rfl; rw [← hc34, ← hc3] at HR1; clear hm hml htt hX HC0 HC1 hc34 hc3; go_enter Tryz.func129, Tryz.ntmps129; go_wp2_with fail; refine HR1.out.mono ?_; rintro e w1 ⟨rfl, hb⟩; have HB : Sl _ := ⟨hb⟩; have hx1 : MXp w1 b := HX.out.below hb; have HC := HR2.out w1 hx1; clear HR1 HR2 hb hx1; go_wp2_with fail; refine HC.mono ?_; rintro e w2 ⟨rfl, hb⟩; have HB2 : Sl _ := ⟨HB.out.trans (hb.mono HB.out.size)⟩; clear HC hb
        by_cases ht : txt t = true
        · have HE : Sl (quoE t = 0 ∧ quoX t = quo t) := ⟨by unfold quoE quoX; rw [if_pos ht, if_pos ht]; exact ⟨rfl, rfl⟩⟩; rw [HE.out.1, HE.out.2]
          by_cases hq : quo t = s.data.toList
          · have HU2 : Sl (unqX s.data.toList = t ∧ unqE s.data.toList = 0) := ⟨by unfold unqX unqE; rw [HU.out, if_pos ⟨ht, hq⟩]; exact ⟨rfl, rfl⟩⟩; have hs1 : bs (quo t) = s := (by rw [hq, by_bs]); rw [hs1]; clear hs1 hq ht; go_wp2_with fail; refine bodyPost_ret (v := _) (by simp [results, Tryz.results129, go_sem]; rfl) rfl ?_; exact ⟨by rw [HU2.out.1, HU2.out.2], HB2.out⟩
          · have HU2 : Sl (unqX s.data.toList = [] ∧ unqE s.data.toList = 6) := ⟨by unfold unqX unqE; rw [HU.out, if_neg (fun e => hq e.2)]; exact ⟨rfl, rfl⟩⟩; have hs1 : ¬ (bs (quo t) = s) := fun e => hq (by rw [← e, bs_by])
            obtain ⟨Z, hZ⟩ : ∃ Z, bs (quo t) = Z := ⟨_, rfl⟩; rw [hZ] at hs1 ⊢; clear hZ hq ht; have hs2 : (Z.toList == s.toList) = false := (Lib.bytes_beq_false_iff Z s).2 hs1; go_wp2_with fail; refine bodyPost_ret (v := _) (by simp [results, Tryz.results129, go_sem]; rfl) rfl ?_; exact ⟨by rw [HU2.out.1, HU2.out.2]; rfl, HB2.out⟩
        · have HE : Sl (quoE t = 2 ∧ quoX t = []) := ⟨by unfold quoE quoX; rw [if_neg ht, if_neg ht]; exact ⟨rfl, rfl⟩⟩; rw [HE.out.1, HE.out.2]; have HU2 : Sl (unqX s.data.toList = [] ∧ unqE s.data.toList = 6) := ⟨by unfold unqX unqE; rw [HU.out, if_neg (fun e => ht e.1)]; exact ⟨rfl, rfl⟩⟩; clear ht; go_wp2_with fail; refine bodyPost_ret (v := _) (by simp [results, Tryz.results129, go_sem]; rfl) rfl ?_; exact ⟨by rw [HU2.out.1, HU2.out.2]; rfl, HB2.out⟩
      · have HU2 : Sl (unqX s.data.toList = [] ∧ unqE s.data.toList = 6) := ⟨by unfold unqX unqE; rw [unq_no (.inr (.inr (by rw [H1.out]; simpa using hq1)))]; exact ⟨rfl, rfl⟩⟩; rw [HU2.out.1, HU2.out.2]; have k1 : ¬ (((s[s.size - 1].toNat : Nat) : Int) = 34) := (by rw [HC1.out]; exact HZ.out c1 hq1); have k1b : (((s[s.size - 1].toNat : Nat) : Int) != 34) = true := (by simpa using k1); clear hq1; go_enter Tryz.func129, Tryz.ntmps129; go_wp2_with fail; refine bodyPost_ret (v := _) (by simp [results, Tryz.results129, go_sem]; rfl) rfl ?_; exact ⟨rfl, Below.refl _ _⟩
    · have HU2 : Sl (unqX s.data.toList = [] ∧ unqE s.data.toList = 6) := ⟨by unfold unqX unqE; rw [unq_no (.inr (.inl (by rw [H0.out]; simpa using hq0)))]; exact ⟨rfl, rfl⟩⟩; rw [HU2.out.1, HU2.out.2]; have k0 : ¬ (((s[0].toNat : Nat) : Int) = 34) := (by rw [HC0.out]; exact HZ.out c0 hq0); have k0b : (((s[0].toNat : Nat) : Int) != 34) = true := (by simpa using k0); clear hq0; go_enter Tryz.func129, Tryz.ntmps129; go_wp2_with fail; refine bodyPost_ret (v := _) (by simp [results, Tryz.results129, go_sem]; rfl) rfl ?_; exact ⟨rfl, Below.refl _ _⟩
end Go.Proofs.YtabkpbbjodfolaaGreatDoor
