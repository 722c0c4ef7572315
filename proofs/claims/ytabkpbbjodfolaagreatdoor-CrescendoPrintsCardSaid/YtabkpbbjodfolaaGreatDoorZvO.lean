/- Rows of crescendo that list five tables and Go's bound of its scanning: the list, a world for the witness, a list of registrations as an argument. -/
import Derived.Test.YtabkpbbjodfolaaGreatDoorZvM
import Derived.Test.YtabkpbbjodfolaaGreatDoorZvN
import Derived.Lay
import Derived.ChangeMaps5
import Derived.Shelf.Vars
namespace Go.Proofs.YtabkpbbjodfolaaGreatDoor
open Go.ChangeShapes Go.WideShapes Go.ChangeAt Go.RowKit Go.Deep
set_option linter.unusedVariables false
set_option linter.unusedSimpArgs false
def laidLP : List (String × DataW Unit) := [("math/bits.deBruijn32tab", Rows.laid_math_bits_deBruijn32tab), ("math/bits.deBruijn64tab", Rows.laid_math_bits_deBruijn64tab), ("internal/strconv.uint64pow10", Rows.laid_internal_strconv_uint64pow10), ("unicode/utf8.acceptRanges", Rows.laid_unicode_utf8_acceptRanges), ("unicode/utf8.first", Rows.laid_unicode_utf8_first)]
theorem mxp_laid {W : World} (hs : W.ShapedOpen Tryz.prog) : MXp W 0 :=
  Go.Proofs.cell_of_shapedOpen_int (zero := #[.int .i64 0]) (t := 3) hs (of_decide_eq_true (by kernel_rfl)) (by kernel_rfl) rfl (by kernel_rfl) (by kernel_rfl) Tryz.underlying3
noncomputable def laidWorldP (os : Os) : World := World.laidAll Tryz.prog os laidLP
theorem laid_metP (os : Os) (args : Array Value) : laidMet Tryz.prog laidLP ((laidWorldP os).forCall (fun _ _ => 0) ⟨#[], args, []⟩).memory :=
  laidMet_laidAll args (by kernel_rfl) (by kernel_rfl)
set_option maxRecDepth 100000 in
theorem regs_arg {H : Type} {enc : TypeId × Value → H} {W : World} {base : Nat} {v : Value} {d : DataW H} {ps : List MemPlace} (hval : Value.okWide Tryz.prog W .any base 36 v) (h : DataW.Trod enc Tryz.prog W 0 (fun _ => true) true 36 v d ps) (hb : ∀ p ∈ ps, p.block < W.heap.size) :
    ∃ T n c L, v = .slice T n c ∧ TbM W T n c L := by
  have c1 : Tryz.prog.cellsOf 36 = 1 := (by kernel_rfl); obtain ⟨fuel, hf⟩ := h; obtain ⟨T0, n0, c0, hv0⟩ := okWide_slice Tryz.underlying36 hval; subst hv0; obtain ⟨T, n, c, R, e1, a1, b1, f1⟩ := rows_div hf (fun p hp => hb p (by simpa using hp)); exact ⟨T, n, c, R, e1, a1, b1, f1⟩
end Go.Proofs.YtabkpbbjodfolaaGreatDoor
namespace Go.Proofs.YtabkpbbjodfolaaGreatDoor
set_option linter.unusedSimpArgs false
set_option linter.unusedVariables false
abbrev Rv := List Int × List Int
structure PsT where
  L : List Rv
  c : Nat
def kF : By := [102, 114, 97, 109, 101]
def kM : By := [109, 111, 114, 101]
def lateK : Bool → List By → Bool
  | _, [] => true
  | late, x :: l => if x.head? = some 43 then lateK true l else if late = true ∨ (64 : UInt8) ∉ x then false else lateK late l
def lastR (L : List Rv) : Rv := L.getLast?.getD ([], [])
def psOk (s : PsT) : List Fl → Bool
  | [] => false
  | h :: tl => decide (tl.length ≤ 20) && (h :: tl).all (fun f => !f.1) && (if h.2 = kF then lateK false (tl.map (·.2)) else if h.2 = kM then decide (1 ≤ tl.length) && decide (s.c = 20) && lateK (decide ((lastR s.L).2 ≠ [])) (tl.map (·.2)) else false)
def ixB : Nat → List By → By → Int
  | _, [], _ => -1
  | k, a :: l, x => if a = x then (k : Int) else ixB (k + 1) l x
def putE (l : List Int) (n : Int) : Int := if n < 0 then 4 else match l.getLast? with
  | some z => if n ≤ z then 8 else 0
  | none => 0
section
variable (SN CN : List By)
def addE (r : Rv) (x : By) : Int := if x.head? = some 43 then putE r.2 (ixB 0 CN x) else putE r.1 (ixB 0 SN x)
def addR (r : Rv) (x : By) : Rv := if x.head? = some 43 then (r.1, r.2 ++ [ixB 0 CN x]) else (r.1 ++ [ixB 0 SN x], r.2)
def addsX : Rv → List By → Int × Rv
  | r, [] => (0, r)
  | r, x :: l => if addE SN CN r x = 0 then addsX (addR SN CN r x) l else (addE SN CN r x, r)
def lnX (s : PsT) (fl : List Fl) : Int × PsT :=
  if psOk s fl = true then
    if (fl.head?.getD (false, [])).2 = kM then
      (let q := addsX SN CN (lastR s.L) (fl.tail.map (·.2)); if q.1 = 0 then (0, ⟨s.L.dropLast ++ [q.2], fl.length - 1⟩) else (q.1, s))
    else (let q := addsX SN CN ([], []) (fl.tail.map (·.2)); if q.1 = 0 then (if 500 ≤ s.L.length then (3, s) else (0, ⟨s.L ++ [q.2], fl.length - 1⟩)) else (q.1, s))
  else (6, s)
def lnsX : PsT → Nat → List By → Int × Int × List Rv
  | s, _, [] => (0, 0, s.L)
  | s, k, ln :: l => if (splX ln).1 = 0 then (if (lnX SN CN s (splX ln).2).1 = 0 then lnsX (lnX SN CN s (splX ln).2).2 (k + 1) l else ((lnX SN CN s (splX ln).2).1, (k : Int) + 1, [])) else ((splX ln).1, (k : Int) + 1, [])
def parX (t : By) : Int × Int × List Rv := if (linX t).1 = 0 then lnsX SN CN ⟨[], 0⟩ 0 (linX t).2 else ((linX t).1, 0, [])
def nmL (r : Rv) : List By := r.1.map (fun i => SN[i.toNat]?.getD []) ++ r.2.map (fun i => CN[i.toNat]?.getD [])
def frL : Nat → By → List By → List By
  | 0, kw, X => [jn (kw :: X.take 20)]
  | f + 1, kw, X => if 20 < X.length then jn (kw :: X.take 20) :: frL f kM (X.drop 20) else [jn (kw :: X.take 20)]
def prL (L : List Rv) : List By := L.flatMap fun r => frL 5 kF (nmL SN CN r)
def ascK (N : Nat) (l : List Int) : Prop := l.Pairwise (· < ·) ∧ ∀ x ∈ l, 0 ≤ x ∧ x < (N : Int)
def rvOk (r : Rv) : Prop := ascK SN.length r.1 ∧ ascK CN.length r.2
end
theorem ixB_some : ∀ (k : Nat) (l : List By) (x : By) (n : Int), ixB k l x = n → 0 ≤ n → (k : Int) ≤ n ∧ n < (k : Int) + l.length ∧ l[(n - k).toNat]? = some x
  | k, [], x, n, h, h0 => by simp [ixB] at h; omega
  | k, a :: l, x, n, h, h0 => by
    rw [ixB] at h
    split at h
    · rename_i e; subst e h; exact ⟨Int.le_refl _, by simp; omega, by simp⟩
    · obtain ⟨h1, h2, h3⟩ := ixB_some (k + 1) l x n h h0; refine ⟨by omega, by simp at h2 ⊢; omega, ?_⟩; have : (n - k).toNat = (n - ((k + 1 : Nat) : Int)).toNat + 1 := (by omega); rw [this, List.getElem?_cons_succ]; exact h3
theorem ixB_get : ∀ (k : Nat) (l : List By) (i : Nat) (x : By), l.Nodup → l[i]? = some x → ixB k l x = (k + i : Nat)
  | k, [], i, x, _, h => by simp at h
  | k, a :: l, 0, x, _, h => by
    simp at h; rw [ixB, if_pos h]; rfl
  | k, a :: l, i + 1, x, hn, h => by
    rw [List.getElem?_cons_succ] at h; have hm := List.mem_of_getElem? h; rw [List.nodup_cons] at hn; rw [ixB, if_neg (fun (e : a = x) => hn.1 (e ▸ hm)), ixB_get (k + 1) l i x hn.2 h]; omega
theorem putE_asc {l : List Int} {n : Int} {N : Nat} (h : putE l n = 0) (ha : ascK N l) (hn : n < N) : ascK N (l ++ [n]) := by
  unfold putE at h
  split at h
  · omega
  · rename_i h0; refine ⟨List.pairwise_append.2 ⟨ha.1, by simp, fun a ha' b hb => ?_⟩, fun x hx => ?_⟩
    · rw [List.mem_singleton.1 hb]; obtain ⟨l', z, rfl⟩ : ∃ l' z, l = l' ++ [z] := ⟨l.dropLast, l.getLast (List.ne_nil_of_mem ha'), (List.dropLast_concat_getLast _).symm⟩; simp only [List.getLast?_append, List.getLast?_singleton, Option.some_or] at h
      split at h
      · omega
      · rcases List.mem_append.1 ha' with h1 | h1
        · have := (List.pairwise_append.1 ha.1).2.2 a h1 z (by simp); omega
        · rw [List.mem_singleton.1 h1]; omega
    · rcases List.mem_append.1 hx with hx | hx
      · exact ha.2 x hx
      · rw [List.mem_singleton.1 hx]; omega
theorem asc_len {N : Nat} {l : List Int} (h : ascK N l) : l.length ≤ N := by
  have key : ∀ (l : List Int) (b : Int), l.Pairwise (· < ·) → (∀ x ∈ l, b ≤ x ∧ x < (N : Int)) → b ≤ N → (l.length : Int) ≤ N - b := by
    intro l
    induction l with
    | nil => intro b _ _ hb; simp; omega
    | cons a l ih =>
      intro b hp hm hb; rw [List.pairwise_cons] at hp; have h1 := hm a (by simp); have := ih (a + 1) hp.2 (fun x hx => ⟨by have := hp.1 x hx; omega, (hm x (List.mem_cons_of_mem _ hx)).2⟩) (by omega); simp only [List.length_cons]; omega
  have := key l 0 h.1 h.2 (by omega); omega
end Go.Proofs.YtabkpbbjodfolaaGreatDoor
namespace Go.Proofs.YtabkpbbjodfolaaGreatDoor
set_option linter.unusedSimpArgs false
set_option linter.unusedVariables false
section
variable {SN CN : List By}
theorem nmL_len (r : Rv) : (nmL SN CN r).length = r.1.length + r.2.length := by simp [nmL]
theorem addE_ok {r : Rv} {x : By} (h : addE SN CN r x = 0) (hr : rvOk SN CN r) {late : Bool} (hl : x.head? ≠ some 43 → late = false) (h2 : late = false → r.2 = []) :
    rvOk SN CN (addR SN CN r x) ∧ nmL SN CN (addR SN CN r x) = nmL SN CN r ++ [x] ∧ ((x.head? = some 43 ∨ late = true) ∨ (addR SN CN r x).2 = []) := by
  unfold addE at h; unfold addR
  split at h
  · rename_i hc; rw [if_pos hc]
    have hn : 0 ≤ ixB 0 CN x := by
      unfold putE at h
      split at h
      · omega
      · omega
    obtain ⟨_, k2, k3⟩ := ixB_some 0 CN x _ rfl hn; refine ⟨⟨hr.1, putE_asc h hr.2 (by simpa using k2)⟩, ?_, .inl (.inl hc)⟩; have k3 : CN[(ixB 0 CN x).toNat]? = some x := (by simpa using k3); simp [nmL, k3]
  · rename_i hc; rw [if_neg hc]
    have hn : 0 ≤ ixB 0 SN x := by
      unfold putE at h
      split at h
      · omega
      · omega
    obtain ⟨_, k2, k3⟩ := ixB_some 0 SN x _ rfl hn; have e2 := h2 (hl hc); refine ⟨⟨putE_asc h hr.1 (by simpa using k2), hr.2⟩, ?_, .inr e2⟩; have k3 : SN[(ixB 0 SN x).toNat]? = some x := (by simpa using k3); simp [nmL, k3, e2]
theorem adds_nm : ∀ (tl : List By) (late : Bool) (now r : Rv), addsX SN CN now tl = (0, r) → lateK late tl = true → (late = false → now.2 = []) → rvOk SN CN now → rvOk SN CN r ∧ nmL SN CN r = nmL SN CN now ++ tl
  | [], late, now, r, h, _, _, ho => by
    rw [addsX] at h; injection h with _ h
    subst h; exact ⟨ho, by simp⟩
  | x :: tl, late, now, r, h, hl, h2, ho => by
    rw [addsX] at h
    split at h
    · rename_i hz; rw [lateK] at hl
      split at hl
      · rename_i hc; obtain ⟨k1, k2, _⟩ := addE_ok (late := late) hz ho (fun e => absurd hc e) h2; obtain ⟨m1, m2⟩ := adds_nm tl true _ r h hl (fun e => by cases e) k1; exact ⟨m1, by rw [m2, k2]; simp⟩
      · rename_i hc
        split at hl
        · cases hl
        · rename_i hn
          have hlf : late = false := by
            cases late with
            | false => rfl
            | true => exact absurd (.inl rfl) hn
          obtain ⟨k1, k2, k3⟩ := addE_ok (late := late) hz ho (fun _ => hlf) h2
          obtain ⟨m1, m2⟩ := adds_nm tl late _ r h hl (fun _ => by
            rcases k3 with (k3 | k3) | k3
            · exact absurd k3 hc
            · rw [hlf] at k3; cases k3
            · exact k3) k1
          exact ⟨m1, by rw [m2, k2]; simp⟩
    · rename_i hz; injection h with h _
      exact absurd h hz
theorem frL_more : ∀ (f : Nat) (kw : By) (X : List By) (q : Nat) (tl : List By), X.length = 20 * q + 20 → q + 1 ≤ f → 1 ≤ tl.length → tl.length ≤ 20 → frL f kw (X ++ tl) = frL f kw X ++ [jn (kM :: tl)]
  | 0, kw, X, q, tl, h, hf, _, _ => by omega
  | f + 1, kw, X, q, tl, h, hf, h1, h2 => by
    rw [frL, if_pos (by rw [List.length_append]; omega), List.take_append_of_le_length (by omega), List.drop_append_of_le_length (by omega)]
    cases q with
    | zero =>
      have e : X.drop 20 = [] := List.drop_eq_nil_of_le (by omega); rw [e, List.nil_append, frL, if_neg (by omega)]
      cases f with
      | zero => rw [frL, List.take_of_length_le h2]; rfl
      | succ f => rw [frL, if_neg (by omega), List.take_of_length_le h2]; rfl
    | succ q =>
      rw [frL_more f kM (X.drop 20) q tl (by rw [List.length_drop]; omega) (by omega) h1 h2, frL, if_pos (by omega)]; rfl
structure PInv (SN CN : List By) (s : PsT) (ls : List By) : Prop where
  txt : prL SN CN s.L = ls
  ok : ∀ r ∈ s.L, rvOk SN CN r
  len : s.L.length ≤ 500
  c20 : s.c ≤ 20
  emp : s.L = [] → s.c = 0
  last : ∀ r, s.L.getLast? = some r → ∃ q, (nmL SN CN r).length = 20 * q + s.c ∧ (s.c = 0 → q = 0)
theorem prL_app (L : List Rv) (r : Rv) : prL SN CN (L ++ [r]) = prL SN CN L ++ frL 5 kF (nmL SN CN r) := by simp [prL]
theorem rv0 : rvOk SN CN ([], []) := ⟨⟨List.Pairwise.nil, by simp⟩, ⟨List.Pairwise.nil, by simp⟩⟩
theorem PInv.line (hN : SN.length + CN.length ≤ 104) {s s' : PsT} {ls : List By} (h : PInv SN CN s ls) {ln : By} {fl : List Fl} (hs : splX ln = (0, fl)) (hl : lnX SN CN s fl = (0, s')) : PInv SN CN s' (ls ++ [ln]) := by
  unfold lnX at hl
  split at hl
  · rename_i hok
    cases fl with
    | nil => simp [psOk] at hok
    | cons f tl =>
      simp only [psOk, Bool.and_eq_true, decide_eq_true_eq] at hok; obtain ⟨⟨h20, hq⟩, hk⟩ := hok
      have hq' : ∀ g ∈ f :: tl, g.1 = false := fun g hg => by
        have := List.all_eq_true.1 hq g hg; simpa using this
      obtain ⟨hln, hrg⟩ := splX_back hs hq' (by simp); simp only [List.head?_cons, Option.getD_some, List.tail_cons, List.length_cons, Nat.add_sub_cancel] at hl; rw [List.map_cons] at hln; obtain ⟨nm, hnm⟩ : ∃ nm, tl.map (·.2) = nm := ⟨_, rfl⟩; have hlen : nm.length = tl.length := (by rw [← hnm]; simp); rw [hnm] at hl hk hln
      by_cases hM : f.2 = kM
      · rw [if_pos hM] at hl; have hkF : ¬ (f.2 = kF) := (by rw [hM]; decide); rw [if_neg hkF, if_pos hM] at hk; simp only [Bool.and_eq_true, decide_eq_true_eq] at hk; obtain ⟨⟨k1, k2⟩, k3⟩ := hk
        split at hl
        · rename_i hz; injection hl with _ hl
          subst hl; have hLne : s.L ≠ [] := fun e => by have := h.emp e; omega
          obtain ⟨L0, r0, hL⟩ : ∃ L0 r0, s.L = L0 ++ [r0] := ⟨s.L.dropLast, s.L.getLast hLne, (List.dropLast_concat_getLast hLne).symm⟩; have hlast : s.L.getLast? = some r0 := (by rw [hL]; simp); obtain ⟨q, hq1, _⟩ := h.last r0 hlast; have e1 : lastR s.L = r0 := (by unfold lastR; rw [hlast]; rfl); rw [e1] at hz k3 ⊢; obtain ⟨r, hr⟩ : ∃ r, (addsX SN CN r0 nm).2 = r := ⟨_, rfl⟩; rw [hr]; have hA : addsX SN CN r0 nm = (0, r) := (by rw [← hr, ← hz]); obtain ⟨m1, m2⟩ := adds_nm nm _ r0 r hA k3 (fun e => by simpa using e) (h.ok r0 (by rw [hL]; simp)); have hb := nmL_len (SN := SN) (CN := CN) r; have hb1 := asc_len m1.1; have hb2 := asc_len m1.2; have hll : (nmL SN CN r).length = 20 * q + 20 + tl.length := (by rw [m2, List.length_append, hq1, hlen]; omega); have htx := h.txt; rw [hL, prL_app] at htx; rw [hL, List.dropLast_concat]; refine ⟨?_, fun x hx => ?_, ?_, h20, fun e => by simp at e, fun x hx => ?_⟩
          · show prL SN CN (L0 ++ [r]) = _; rw [prL_app, m2, frL_more 5 kF _ q nm (by rw [hq1, k2]) (by omega) (by omega) (by omega), ← htx, hln, hM, List.append_assoc]
          · rcases List.mem_append.1 hx with hx | hx
            · exact h.ok x (by rw [hL]; exact List.mem_append.2 (.inl hx))
            · rw [List.mem_singleton.1 hx]; exact m1
          · have := h.len; rw [hL] at this; simpa using this
          · have hx : (L0 ++ [r]).getLast? = some x := hx; rw [List.getLast?_append] at hx; have hx : r = x := (by simpa using hx); subst hx; exact ⟨q + 1, by show _ = 20 * (q + 1) + tl.length; omega, fun e => by have e : tl.length = 0 := e; omega⟩
        · rename_i hz; injection hl with hl _
          exact absurd hl hz
      · rw [if_neg hM] at hl
        by_cases hF : f.2 = kF
        · rw [if_pos hF] at hk
          split at hl
          · rename_i hz
            split at hl
            · simp at hl
            · rename_i h500; injection hl with _ hl
              subst hl; obtain ⟨r, hr⟩ : ∃ r, (addsX SN CN ([], []) nm).2 = r := ⟨_, rfl⟩; rw [hr]; have hA : addsX SN CN ([], []) nm = (0, r) := (by rw [← hr, ← hz]); obtain ⟨m1, m2⟩ := adds_nm nm false ([], []) r hA hk (fun _ => rfl) rv0; have m2 : nmL SN CN r = nm := (by rw [m2]; simp [nmL]); have hfr : frL 5 kF (nmL SN CN r) = [jn (kF :: nm)] := (by rw [m2, frL, if_neg (by omega), List.take_of_length_le (by omega)]); refine ⟨?_, fun x hx => ?_, ?_, h20, fun e => by simp at e, fun x hx => ?_⟩
              · show prL SN CN (s.L ++ [r]) = _; rw [prL_app, hfr, h.txt, hln, hF]
              · rcases List.mem_append.1 hx with hx | hx
                · exact h.ok x hx
                · rw [List.mem_singleton.1 hx]; exact m1
              · show (s.L ++ [r]).length ≤ 500; rw [List.length_append, List.length_singleton]; omega
              · have hx : (s.L ++ [r]).getLast? = some x := hx; rw [List.getLast?_append] at hx; have hx : r = x := (by simpa using hx); subst hx; exact ⟨0, by rw [m2]; show _ = 20 * 0 + tl.length; omega, fun _ => rfl⟩
          · rename_i hz; injection hl with hl _
            exact absurd hl hz
        · rw [if_neg hF, if_neg hM] at hk
          cases hk
  · simp at hl
end
end Go.Proofs.YtabkpbbjodfolaaGreatDoor
namespace Go.Proofs.YtabkpbbjodfolaaGreatDoor
set_option linter.unusedSimpArgs false
set_option linter.unusedVariables false
structure NmOk (SN CN : List By) : Prop where
  sn : SN.Nodup
  cn : CN.Nodup
  s : ∀ x ∈ SN, rgt x = true ∧ x.head? ≠ some 43 ∧ (64 : UInt8) ∈ x ∧ x.length ≤ 33
  c : ∀ x ∈ CN, rgt x = true ∧ x.head? = some 43 ∧ x.length ≤ 33
def rvT (m : Nat) (r : Rv) : Rv := (r.1.take m, r.2.take (m - r.1.length))
theorem rvT_zero (r : Rv) : rvT 0 r = ([], []) := by simp [rvT]
theorem rvT_all {r : Rv} {m : Nat} (h : r.1.length + r.2.length ≤ m) : rvT m r = r := by
  unfold rvT; rw [List.take_of_length_le (by omega), List.take_of_length_le (by omega)]
theorem putE_take {N : Nat} {l : List Int} (h : ascK N l) {j : Nat} (hj : j < l.length) : putE (l.take j) l[j] = 0 := by
  unfold putE; have h0 := (h.2 l[j] (List.getElem_mem _)).1; rw [if_neg (by omega)]
  cases j with
  | zero => simp
  | succ j =>
    have e : l.take (j + 1) = l.take j ++ [l[j]] := (by rw [List.take_add_one, List.getElem?_eq_getElem (by omega)]; rfl); rw [e, List.getLast?_append]; simp only [List.getLast?_singleton, Option.some_or]; have := List.pairwise_iff_getElem.1 h.1 j (j + 1) (by omega) hj (by omega); rw [if_neg (by omega)]
section
variable {SN CN : List By}
theorem nmL_s {r : Rv} (ho : rvOk SN CN r) {m : Nat} (hm : m < r.1.length) : ∃ x, (nmL SN CN r)[m]? = some x ∧ SN[(r.1[m]).toNat]? = some x := by
  have h1 := ho.1.2 r.1[m] (List.getElem_mem _); have h2 : (r.1[m]).toNat < SN.length := (by omega); refine ⟨SN[(r.1[m]).toNat], ?_, List.getElem?_eq_getElem h2⟩; unfold nmL; rw [List.getElem?_append_left (by simpa using hm), List.getElem?_map, List.getElem?_eq_getElem hm]; simp [List.getElem?_eq_getElem h2]
theorem nmL_c {r : Rv} (ho : rvOk SN CN r) {m : Nat} (h1 : r.1.length ≤ m) (hm : m - r.1.length < r.2.length) : ∃ x, (nmL SN CN r)[m]? = some x ∧ CN[(r.2[m - r.1.length]).toNat]? = some x := by
  have h2 := ho.2.2 r.2[m - r.1.length] (List.getElem_mem _); have h3 : (r.2[m - r.1.length]).toNat < CN.length := (by omega); refine ⟨CN[(r.2[m - r.1.length]).toNat], ?_, List.getElem?_eq_getElem h3⟩; unfold nmL; rw [List.getElem?_append_right (by simpa using h1), List.length_map, List.getElem?_map, List.getElem?_eq_getElem hm]; simp [List.getElem?_eq_getElem h3]
theorem step_one (hN : NmOk SN CN) {r : Rv} (ho : rvOk SN CN r) {m : Nat} (hm : m < r.1.length + r.2.length) : ∃ x, (nmL SN CN r)[m]? = some x ∧ addE SN CN (rvT m r) x = 0 ∧ addR SN CN (rvT m r) x = rvT (m + 1) r ∧
    (m < r.1.length → x.head? ≠ some 43 ∧ (64 : UInt8) ∈ x) ∧ (r.1.length ≤ m → x.head? = some 43) ∧ rgt x = true ∧ x.length ≤ 33 := by
  by_cases h : m < r.1.length
  · obtain ⟨x, h1, h2⟩ := nmL_s ho h; have hx := hN.s x (List.mem_of_getElem? h2)
    have hi : ixB 0 SN x = r.1[m] := by
      rw [ixB_get 0 SN _ x hN.sn h2]; have := (ho.1.2 r.1[m] (List.getElem_mem _)).1; omega
    refine ⟨x, h1, ?_, ?_, fun _ => ⟨hx.2.1, hx.2.2.1⟩, fun e => by omega, hx.1, hx.2.2.2⟩
    · unfold addE; rw [if_neg hx.2.1, hi]; exact putE_take ho.1 h
    · unfold addR; rw [if_neg hx.2.1, hi]; have e1 : m - r.1.length = 0 := (by omega); have e2 : m + 1 - r.1.length = 0 := (by omega); unfold rvT; rw [e1, e2, List.take_add_one, List.getElem?_eq_getElem h]; simp
  · have h' : r.1.length ≤ m := (by omega); have hj : m - r.1.length < r.2.length := (by omega); obtain ⟨x, h1, h2⟩ := nmL_c ho h' hj; have hx := hN.c x (List.mem_of_getElem? h2)
    have hi : ixB 0 CN x = r.2[m - r.1.length] := by
      rw [ixB_get 0 CN _ x hN.cn h2]; have := (ho.2.2 r.2[m - r.1.length] (List.getElem_mem _)).1; omega
    refine ⟨x, h1, ?_, ?_, fun e => absurd e h, fun _ => hx.2.1, hx.1, hx.2.2⟩
    · unfold addE; rw [if_pos hx.2.1, hi]; exact putE_take ho.2 hj
    · unfold addR; rw [if_pos hx.2.1, hi]; have e2 : m + 1 - r.1.length = (m - r.1.length) + 1 := (by omega); unfold rvT; rw [e2, List.take_add_one (l := r.2), List.getElem?_eq_getElem hj, List.take_of_length_le (l := r.1) (by omega), List.take_of_length_le (l := r.1) (by omega)]; rfl
theorem step_all (hN : NmOk SN CN) {r : Rv} (ho : rvOk SN CN r) : ∀ (p m : Nat), addsX SN CN (rvT m r) (((nmL SN CN r).drop m).take p) = (0, rvT (m + p) r) ∧ lateK (decide ((rvT m r).2 ≠ [])) (((nmL SN CN r).drop m).take p) = true ∧
    ∀ x ∈ ((nmL SN CN r).drop m).take p, rgt x = true ∧ x.length ≤ 33
  | 0, m => by
    rw [List.take_zero]; exact ⟨rfl, rfl, by simp⟩
  | p + 1, m => by
    by_cases hm : m < r.1.length + r.2.length
    · obtain ⟨x, h1, h2, h3, h4, h5, h6, h7⟩ := step_one hN ho hm; obtain ⟨i1, i2, i3⟩ := step_all hN ho p (m + 1); have hl : m < (nmL SN CN r).length := (by rw [nmL_len]; exact hm); have hx : (nmL SN CN r)[m] = x := (by rw [List.getElem?_eq_getElem hl] at h1; injection h1)
      have e : ((nmL SN CN r).drop m).take (p + 1) = x :: ((nmL SN CN r).drop (m + 1)).take p := by
        rw [List.drop_eq_getElem_cons hl, List.take_succ_cons, hx]
      rw [e]; refine ⟨?_, ?_, fun y hy => ?_⟩
      · rw [addsX, if_pos h2, h3, i1, Nat.add_right_comm m 1 p]; rfl
      · rw [lateK]
        by_cases hc : m < r.1.length
        · have e0 : (rvT m r).2 = [] := (by unfold rvT; rw [show m - r.1.length = 0 by omega]; rfl); have e1 : (rvT (m + 1) r).2 = [] := (by unfold rvT; rw [show m + 1 - r.1.length = 0 by omega]; rfl); rw [e1] at i2; rw [if_neg (h4 hc).1, e0, if_neg]
          · exact i2
          · rintro (h | h)
            · simp at h
            · exact h (h4 hc).2
        · rw [if_pos (h5 (by omega))]
          have e1 : (rvT (m + 1) r).2 ≠ [] := by
            unfold rvT; intro he; have := congrArg List.length he; simp only [List.length_take, List.length_nil] at this; omega
          simp only [ne_eq, e1, not_false_eq_true, decide_true] at i2; exact i2
      · rcases List.mem_cons.1 hy with rfl | hy
        · exact ⟨h6, h7⟩
        · exact i3 y hy
    · have e : (nmL SN CN r).drop m = [] := List.drop_eq_nil_of_le (by rw [nmL_len]; omega); rw [e, List.take_nil]; refine ⟨?_, rfl, by simp⟩; rw [addsX, rvT_all (by omega), rvT_all (by omega)]
theorem jn_len : ∀ (kw : By) (l : List By), (∀ x ∈ l, x.length ≤ 33) → (jn (kw :: l)).length ≤ kw.length + 34 * l.length
  | kw, [], _ => by simp [jn]
  | kw, x :: l, h => by
    have := jn_len x l (fun y hy => h y (List.mem_cons_of_mem _ hy)); have h2 := h x (by simp); rw [jn_cons (by simp)]; simp only [List.length_append, List.length_cons] at this ⊢; omega
theorem spl_line {kw : By} (hk : rgt kw = true) (h5 : kw.length ≤ 5) {X : List By} (h : ∀ x ∈ X.take 20, rgt x = true ∧ x.length ≤ 33) : splX (jn (kw :: X.take 20)) = (0, (kw :: X.take 20).map fun x => (false, x)) := by
  have h20 : (X.take 20).length ≤ 20 := (by rw [List.length_take]; omega); refine splX_jn (by simp) (fun x hx => ?_) ?_ ?_
  · rcases List.mem_cons.1 hx with rfl | hx
    · exact hk
    · exact (h x hx).1
  · have := jn_len kw (X.take 20) (fun x hx => (h x hx).2); omega
  · rw [List.length_cons]; omega
theorem snd_map (l : List By) : (l.map fun x => ((false, x) : Fl)).map (·.2) = l := by
  rw [List.map_map]; exact List.map_id' l
theorem psAll (l : List By) : (l.map fun x => ((false, x) : Fl)).all (fun f => !f.1) = true := by
  rw [List.all_eq_true]; intro f hf; obtain ⟨x, _, rfl⟩ := List.mem_map.1 hf; rfl
theorem lnX_frame (hN : NmOk SN CN) {r : Rv} (ho : rvOk SN CN r) (s : PsT) (h : s.L.length < 500) :
    lnX SN CN s ((kF :: (nmL SN CN r).take 20).map fun x => (false, x)) = (0, ⟨s.L ++ [rvT 20 r], ((nmL SN CN r).take 20).length⟩) := by
  obtain ⟨i1, i2, _⟩ := step_all hN ho 20 0; rw [rvT_zero, List.drop_zero, Nat.zero_add] at i1; rw [rvT_zero, List.drop_zero] at i2; have h20 : ((nmL SN CN r).take 20).length ≤ 20 := (by rw [List.length_take]; omega)
  have hok : psOk s ((kF :: (nmL SN CN r).take 20).map fun x => (false, x)) = true := by
    rw [List.map_cons, psOk]; simp only [Bool.and_eq_true, decide_eq_true_eq]; refine ⟨⟨by rw [List.length_map]; exact h20, ?_⟩, ?_⟩
    · have := psAll (kF :: (nmL SN CN r).take 20)
      rwa [List.map_cons] at this
    · rw [if_pos trivial, snd_map]; exact i2
  unfold lnX; rw [if_pos hok]; simp only [List.map_cons, List.head?_cons, Option.getD_some, List.tail_cons, snd_map, List.length_cons, List.length_map, Nat.add_sub_cancel]; rw [if_neg (by decide), i1]; simp only [if_true]; rw [if_neg (by omega)]
theorem lnX_more (hN : NmOk SN CN) {r : Rv} (ho : rvOk SN CN r) (L0 : List Rv) (m : Nat) (h : m < r.1.length + r.2.length) :
    lnX SN CN ⟨L0 ++ [rvT m r], 20⟩ ((kM :: ((nmL SN CN r).drop m).take 20).map fun x => (false, x)) = (0, ⟨L0 ++ [rvT (m + 20) r], (((nmL SN CN r).drop m).take 20).length⟩) := by
  obtain ⟨i1, i2, _⟩ := step_all hN ho 20 m; have h20 : (((nmL SN CN r).drop m).take 20).length ≤ 20 := (by rw [List.length_take]; omega); have h1 : 1 ≤ (((nmL SN CN r).drop m).take 20).length := (by rw [List.length_take, List.length_drop, nmL_len]; omega); have hlast : lastR (L0 ++ [rvT m r]) = rvT m r := (by unfold lastR; simp)
  have hok : psOk ⟨L0 ++ [rvT m r], 20⟩ ((kM :: ((nmL SN CN r).drop m).take 20).map fun x => (false, x)) = true := by
    rw [List.map_cons, psOk]; simp only [Bool.and_eq_true, decide_eq_true_eq]; refine ⟨⟨by rw [List.length_map]; exact h20, ?_⟩, ?_⟩
    · have := psAll (kM :: ((nmL SN CN r).drop m).take 20)
      rwa [List.map_cons] at this
    · rw [if_neg (by decide), if_pos trivial, snd_map, hlast]; simp only [Bool.and_eq_true, decide_eq_true_eq]; exact ⟨⟨by rw [List.length_map]; exact h1, trivial⟩, i2⟩
  unfold lnX; rw [if_pos hok]; simp only [List.map_cons, List.head?_cons, Option.getD_some, List.tail_cons, snd_map, List.length_cons, List.length_map, Nat.add_sub_cancel]; rw [if_pos trivial, hlast, i1]; simp only [if_true, List.dropLast_concat]
theorem rgt_kM : rgt kM = true := by decide
theorem rgt_kF : rgt kF = true := by decide
theorem lns_more (hN : NmOk SN CN) {r : Rv} (ho : rvOk SN CN r) (L0 : List Rv) : ∀ (f m k : Nat) (rest : List By), m < r.1.length + r.2.length → r.1.length + r.2.length ≤ m + 20 * (f + 1) →
    ∃ c' k', lnsX SN CN ⟨L0 ++ [rvT m r], 20⟩ k (frL f kM ((nmL SN CN r).drop m) ++ rest) = lnsX SN CN ⟨L0 ++ [r], c'⟩ k' rest
  | f, m, k, rest, h, hf => by
    have hs := spl_line rgt_kM (by decide) (X := (nmL SN CN r).drop m) (step_all hN ho 20 m).2.2; have hl := lnX_more hN ho L0 m h; have e2 : ((nmL SN CN r).drop m).length = r.1.length + r.2.length - m := (by rw [List.length_drop, nmL_len])
    by_cases h20 : 20 < ((nmL SN CN r).drop m).length
    · cases f with
      | zero => omega
      | succ f =>
        rw [frL, if_pos h20, List.cons_append, lnsX, hs]; simp only [if_true]; rw [hl]; simp only [if_true]; have e3 : (((nmL SN CN r).drop m).take 20).length = 20 := (by rw [List.length_take]; omega); rw [e3, List.drop_drop]; exact lns_more hN ho L0 f (m + 20) (k + 1) rest (by omega) (by omega)
    · have e4 : frL f kM ((nmL SN CN r).drop m) = [jn (kM :: ((nmL SN CN r).drop m).take 20)] := by
        cases f with
        | zero => rfl
        | succ f => rw [frL, if_neg h20]
      rw [e4, List.cons_append, List.nil_append, lnsX, hs]; simp only [if_true]; rw [hl]; simp only [if_true]; rw [rvT_all (by omega)]; exact ⟨_, _, rfl⟩
theorem lns_frame (hN : NmOk SN CN) {r : Rv} (ho : rvOk SN CN r) (hc : r.1.length + r.2.length ≤ 104) (s : PsT) (h : s.L.length < 500) (k : Nat) (rest : List By) :
    ∃ c' k', lnsX SN CN s k (frL 5 kF (nmL SN CN r) ++ rest) = lnsX SN CN ⟨s.L ++ [r], c'⟩ k' rest := by
  have hs := spl_line rgt_kF (by decide) (X := nmL SN CN r) (by have := (step_all hN ho 20 0).2.2; rwa [List.drop_zero] at this); have hl := lnX_frame hN ho s h
  by_cases h20 : 20 < (nmL SN CN r).length
  · rw [frL, if_pos h20, List.cons_append, lnsX, hs]; simp only [if_true]; rw [hl]; simp only [if_true]; have e3 : ((nmL SN CN r).take 20).length = 20 := (by rw [List.length_take]; omega); rw [nmL_len] at h20; rw [e3]; exact lns_more hN ho s.L 4 20 (k + 1) rest (by omega) (by omega)
  · rw [frL, if_neg h20, List.cons_append, List.nil_append, lnsX, hs]; simp only [if_true]; rw [hl]; simp only [if_true]; rw [nmL_len] at h20; rw [rvT_all (by omega)]; exact ⟨_, _, rfl⟩
theorem lns_forth (hN : NmOk SN CN) (h104 : SN.length + CN.length ≤ 104) : ∀ (L : List Rv) (s : PsT) (k : Nat), (∀ r ∈ L, rvOk SN CN r) → s.L.length + L.length ≤ 500 → lnsX SN CN s k (prL SN CN L) = (0, 0, s.L ++ L)
  | [], s, k, _, _ => by simp [prL, lnsX]
  | r :: L, s, k, ho, hl => by
    have e : prL SN CN (r :: L) = frL 5 kF (nmL SN CN r) ++ prL SN CN L := (by simp [prL]); have hr := ho r (by simp); have b1 := asc_len hr.1; have b2 := asc_len hr.2; simp only [List.length_cons] at hl; obtain ⟨c', k', h⟩ := lns_frame hN hr (by omega) s (by omega) k (prL SN CN L); rw [e, h, lns_forth hN h104 L _ k' (fun x hx => ho x (List.mem_cons_of_mem _ hx)) (by simp; omega)]; simp
theorem nm_no10 (hN : NmOk SN CN) {r : Rv} (ho : rvOk SN CN r) : ∀ x ∈ nmL SN CN r, rgt x = true ∧ x.length ≤ 33 := by
  have := (step_all hN ho (nmL SN CN r).length 0).2.2
  rwa [List.drop_zero, List.take_length] at this
theorem rgt_no10 {x : By} (h : rgt x = true) : (10 : UInt8) ∉ x := by
  unfold rgt prt at h; simp only [Bool.and_eq_true, decide_eq_true_eq, List.all_eq_true] at h; exact fun e => by have := (h.1.2 10 e).1; simp at this
theorem jn_no10 : ∀ l : List By, (∀ x ∈ l, (10 : UInt8) ∉ x) → (10 : UInt8) ∉ jn l
  | [], _ => by simp [jn]
  | [x], h => h x (by simp)
  | x :: y :: l, h => by
    rw [jn_cons (by simp)]; have h1 := h x (by simp); have h2 := jn_no10 (y :: l) (fun z hz => h z (List.mem_cons_of_mem _ hz)); simp [h1, h2]
theorem frL_no10 : ∀ (f : Nat) (kw : By) (X : List By), (10 : UInt8) ∉ kw → (∀ x ∈ X, (10 : UInt8) ∉ x) → ∀ y ∈ frL f kw X, (10 : UInt8) ∉ y
  | 0, kw, X, hk, h, y, hy => by
    rw [frL, List.mem_singleton] at hy; subst hy
    exact jn_no10 _ (fun x hx => by
      rcases List.mem_cons.1 hx with rfl | hx
      · exact hk
      · exact h x (List.mem_of_mem_take hx))
  | f + 1, kw, X, hk, h, y, hy => by
    have h0 : (10 : UInt8) ∉ jn (kw :: X.take 20) := jn_no10 _ (fun x hx => by
      rcases List.mem_cons.1 hx with rfl | hx
      · exact hk
      · exact h x (List.mem_of_mem_take hx))
    rw [frL] at hy
    split at hy
    · rcases List.mem_cons.1 hy with rfl | hy
      · exact h0
      · exact frL_no10 f kM (X.drop 20) (by decide) (fun x hx => h x (List.mem_of_mem_drop hx)) y hy
    · rw [List.mem_singleton.1 hy]; exact h0
theorem lnK_app (a b : List By) : lnK (a ++ b) = lnK a ++ lnK b := by simp [lnK]
theorem frL_size : ∀ (f : Nat) (kw : By) (X : List By), kw.length ≤ 5 → (∀ x ∈ X, x.length ≤ 33) → (lnK (frL f kw X)).length ≤ 34 * X.length + 6 * (f + 1) ∧ (frL f kw X).length ≤ f + 1
  | 0, kw, X, hk, h => by
    have := jn_len kw (X.take 20) (fun x hx => h x (List.mem_of_mem_take hx)); have h2 : (X.take 20).length ≤ X.length := (by rw [List.length_take]; omega); rw [frL]; simp only [lnK, List.map_cons, List.map_nil, List.flatten_cons, List.flatten_nil, List.append_nil, List.length_append, List.length_cons, List.length_nil]; omega
  | f + 1, kw, X, hk, h => by
    have := jn_len kw (X.take 20) (fun x hx => h x (List.mem_of_mem_take hx)); have h2 : (X.take 20).length ≤ X.length := (by rw [List.length_take]; omega); rw [frL]
    split
    · obtain ⟨i1, i2⟩ := frL_size f kM (X.drop 20) (by decide) (fun x hx => h x (List.mem_of_mem_drop hx)); have e : lnK (jn (kw :: X.take 20) :: frL f kM (X.drop 20)) = jn (kw :: X.take 20) ++ [10] ++ lnK (frL f kM (X.drop 20)) := rfl; rw [e]; simp only [List.length_append, List.length_cons, List.length_nil, List.length_drop, List.length_take] at *
      omega
    · simp only [lnK, List.map_cons, List.map_nil, List.flatten_cons, List.flatten_nil, List.append_nil, List.length_append, List.length_cons, List.length_nil]; omega
theorem prL_size (hN : NmOk SN CN) : ∀ L : List Rv, (∀ r ∈ L, rvOk SN CN r) → (lnK (prL SN CN L)).length ≤ 34 * (L.map fun r => r.1.length + r.2.length).sum + 36 * L.length ∧ (prL SN CN L).length ≤ 6 * L.length ∧ ∀ y ∈ prL SN CN L, (10 : UInt8) ∉ y
  | [], _ => ⟨by simp [prL, lnK], by simp [prL], by simp [prL]⟩
  | r :: L, ho => by
    have e : prL SN CN (r :: L) = frL 5 kF (nmL SN CN r) ++ prL SN CN L := (by simp [prL]); obtain ⟨i1, i2, i3⟩ := prL_size hN L (fun x hx => ho x (List.mem_cons_of_mem _ hx)); have hr := ho r (by simp); have hx := nm_no10 hN hr; obtain ⟨j1, j2⟩ := frL_size 5 kF (nmL SN CN r) (by decide) (fun x hx' => (hx x hx').2); rw [nmL_len] at j1; rw [e, lnK_app]; simp only [List.length_append, List.map_cons, List.sum_cons, List.length_cons]; refine ⟨by omega, by omega, fun y hy => ?_⟩; rcases List.mem_append.1 hy with hy | hy
    · exact frL_no10 5 kF _ (by decide) (fun x hx' => rgt_no10 (hx x hx').1) y hy
    · exact i3 y hy
theorem par_forth (hN : NmOk SN CN) (h104 : SN.length + CN.length ≤ 104) {L : List Rv} (ho : ∀ r ∈ L, rvOk SN CN r) (hl : L.length ≤ 500) (hs : (L.map fun r => r.1.length + r.2.length).sum ≤ 2000) : parX SN CN (lnK (prL SN CN L)) = (0, 0, L) := by
  obtain ⟨i1, i2, i3⟩ := prL_size hN L ho; have h := linX_lnK i3 (by omega) (by omega); unfold parX; rw [h]; simp only [if_true]; have := lns_forth hN h104 L ⟨[], 0⟩ 0 ho (by simpa using hl); simpa using this
end
end Go.Proofs.YtabkpbbjodfolaaGreatDoor
namespace Go.Proofs.YtabkpbbjodfolaaGreatDoor
set_option linter.unusedSimpArgs false
set_option linter.unusedVariables false
def ptx : Nat → List By → By
  | _, [] => []
  | i, x :: X => (if 0 < i ∧ i % 20 = 0 then 10 :: kM else []) ++ (32 :: x) ++ ptx (i + 1) X
theorem ptx_app : ∀ (A B : List By) (i : Nat), ptx i (A ++ B) = ptx i A ++ ptx (i + A.length) B
  | [], B, i => by simp [ptx]
  | a :: A, B, i => by
    rw [List.cons_append, ptx, ptx, ptx_app A B (i + 1), List.length_cons, Nat.add_right_comm i 1 A.length]; simp only [List.append_assoc, Nat.add_assoc]
theorem ptx_shift : ∀ (B : List By) (i : Nat), 0 < i → ptx (i + 20) B = ptx i B
  | [], i, _ => rfl
  | b :: B, i, h => by
    have e : (0 < i + 20 ∧ (i + 20) % 20 = 0) ↔ (0 < i ∧ i % 20 = 0) := (by omega); rw [ptx, ptx, Nat.add_right_comm i 20 1, ptx_shift B (i + 1) (by omega)]; simp only [e]
theorem ptx_20 {B : List By} (h : B ≠ []) : ptx 20 B = (10 :: kM) ++ ptx 0 B := by
  cases B with
  | nil => exact absurd rfl h
  | cons b B =>
    rw [ptx, ptx, if_pos (by decide), if_neg (by decide), ptx_shift B 1 (by decide)]; simp
theorem jn_ptx : ∀ (X : List By) (kw : By) (i : Nat), i + X.length ≤ 20 → jn (kw :: X) = kw ++ ptx i X
  | [], kw, i, _ => by simp [jn, ptx]
  | x :: X, kw, i, h => by
    rw [List.length_cons] at h; rw [jn_cons (by simp), jn_ptx X x (i + 1) (by omega), ptx, if_neg (by omega)]; simp
theorem frL_ptx : ∀ (f : Nat) (kw : By) (X : List By), X.length ≤ 20 * (f + 1) → lnK (frL f kw X) = kw ++ ptx 0 X ++ [10]
  | 0, kw, X, h => by
    rw [frL, List.take_of_length_le (by omega), jn_ptx X kw 0 (by omega)]; simp [lnK]
  | f + 1, kw, X, h => by
    rw [frL]
    split
    · rename_i h20; have e : lnK (jn (kw :: X.take 20) :: frL f kM (X.drop 20)) = jn (kw :: X.take 20) ++ [10] ++ lnK (frL f kM (X.drop 20)) := rfl; have hl : (X.take 20).length = 20 := (by rw [List.length_take]; omega)
      have hne : X.drop 20 ≠ [] := by
        intro e; have := congrArg List.length e; rw [List.length_drop, List.length_nil] at this; omega
      have hx : ptx 0 X = ptx 0 (X.take 20) ++ ((10 :: kM) ++ ptx 0 (X.drop 20)) := by
        have h1 := ptx_app (X.take 20) (X.drop 20) 0; rw [List.take_append_drop, hl, Nat.zero_add, ptx_20 hne] at h1; exact h1
      rw [e, frL_ptx f kM (X.drop 20) (by rw [List.length_drop]; omega), jn_ptx (X.take 20) kw 0 (by omega), hx]; simp
    · rw [List.take_of_length_le (by omega), jn_ptx X kw 0 (by omega)]; simp [lnK]
theorem ptx_succ {X : List By} {k : Nat} {x : By} (h : X[k]? = some x) : ptx 0 (X.take (k + 1)) = ptx 0 (X.take k) ++ (if 0 < k ∧ k % 20 = 0 then 10 :: kM else []) ++ (32 :: x) := by
  have hk := (List.getElem?_eq_some_iff.1 h).1; rw [List.take_add_one, h, Option.toList_some, ptx_app, List.length_take, Nat.zero_add, Nat.min_eq_left (by omega), ptx, ptx]; simp
theorem ptx_len : ∀ (X : List By) (i : Nat), (∀ x ∈ X, x.length ≤ 33) → (ptx i X).length ≤ 39 * X.length
  | [], i, _ => by simp [ptx]
  | x :: X, i, h => by
    have h1 := ptx_len X (i + 1) (fun y hy => h y (List.mem_cons_of_mem _ hy)); have h2 := h x (by simp)
    have h3 : (if 0 < i ∧ i % 20 = 0 then 10 :: kM else []).length ≤ 5 := by
      split
      · decide
      · simp
    rw [ptx]; simp only [List.length_append, List.length_cons] at h1 h3 ⊢; omega
end Go.Proofs.YtabkpbbjodfolaaGreatDoor
