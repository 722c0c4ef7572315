/- The reference of ratios: Text. (Printed by genrxe.py.) -/
import Derived.Test.YtalodfjplegibaaGreatDoorZtA
import Derived.Test.YtalodfjplegibaaGreatDoorRxB
import Derived.Test.YtalodfjplegibaaGreatDoorRatO
import Derived.Laws.Strings
import Derived.Test.YtalodfjplegibaaGreatDoorMulC
import Derived.Deep.RegionHeld3
namespace Go.Proofs.YtalodfjplegibaaGreatDoor
set_option linter.unusedSimpArgs false
open Go.RowKit
set_option linter.unusedVariables false
theorem xbytes_eq {a b : ByteArray} (h : a.toList = b.toList) : a = b := by
  have e : ∀ x : ByteArray, x.toList = x.data.toList := fun x => Go.ByteArray.toList_eq x
  rw [e, e] at h
  cases a; cases b
  simpa using h
theorem TR.plain {w : World} {A : Option Addr} {n : Nat} {l : List (Nat × Int)} (h : TR w A n l) {i : Nat} {nn : Nat} {kk : Int} (hi : l[i]? = some (nn, kk)) :
    ∃ gb o, A = some ⟨gb, o, none⟩ ∧ gb < w.heap.size ∧ w.cell? ⟨gb, o + i * 2, none⟩ = some (.int .i64 (nn : Int)) ∧ w.cell? ⟨gb, o + i * 2 + 1, none⟩ = some (.int .i64 kk) := by
  obtain ⟨ad, rfl, hab, e1, e2⟩ := h.cells hi; have hl0 : 0 < l.length := Nat.lt_of_le_of_lt (Nat.zero_le i) (List.getElem?_eq_some_iff.1 hi).1; obtain ⟨ad', e0, _, c0, _⟩ := h.cells (List.getElem?_eq_getElem hl0); injection e0 with e0
  subst e0; obtain ⟨gb, o, sp⟩ := ad
  have hsp : sp = none := by
    cases sp with
    | none => rfl
    | some s =>
      have e : (⟨gb, o, some s⟩ : Addr).add (0 * 2) = ⟨gb, o, some s⟩ := (by simp [Addr.add]); rw [e] at c0; unfold World.cell? at c0
      split at c0
      · simp at c0
      · cases c0
  subst hsp
  have e : ∀ k : Nat, (⟨gb, o, none⟩ : Addr).add k = ⟨gb, o + k, none⟩ := fun k => by
    unfold Addr.add
    by_cases h : k = 0
    · subst h; simp
    · simp [h]
  rw [e] at e1 e2; exact ⟨gb, o, rfl, hab, e1, e2⟩
theorem wdsR_at {r : RV} {j i : Nat} (h : (termsN r 6)[j]? = some (prime i, r.num i)) : (wdsR r)[j]? = some (wrR (prime i) (r.num i) r.d) := by
  unfold wdsR; rw [List.getElem?_map, h]; rfl
end Go.Proofs.YtalodfjplegibaaGreatDoor
namespace Go.Proofs.YtalodfjplegibaaGreatDoor
set_option linter.unusedSimpArgs false
open Go.RowKit
set_option linter.unusedVariables false
def nmR : Nat → List UInt8 → Nat → Nat × Nat
  | 0, _, n => (n, 0)
  | _+1, [], n => (n, 0)
  | f+1, b :: l, n => if isDig b = true then ((nmR f l (n * 10 + (b.toNat - 48))).1, (nmR f l (n * 10 + (b.toNat - 48))).2 + 1) else (n, 0)
theorem nmR_le : ∀ (f : Nat) (l : List UInt8) (n : Nat), (nmR f l n).2 ≤ f ∧ (nmR f l n).2 ≤ l.length
  | 0, _, _ => ⟨Nat.le_refl _, Nat.zero_le _⟩
  | _+1, [], _ => ⟨Nat.zero_le _, Nat.le_refl _⟩
  | f+1, b :: l, n => by
    rw [nmR]; have ih := nmR_le f l (n * 10 + (b.toNat - 48))
    split
    · simp only [List.length_cons]; omega
    · simp
theorem nmR_lt : ∀ (f : Nat) (l : List UInt8) (n : Nat), (nmR f l n).1 < (n + 1) * 10 ^ f
  | 0, _, n => by rw [nmR]; simp
  | f+1, [], n => by
    rw [nmR]; have : 0 < 10 ^ (f + 1) := Nat.pow_pos (by decide)
    calc n < n + 1 := Nat.lt_succ_self n
      _ ≤ (n + 1) * 10 ^ (f + 1) := Nat.le_mul_of_pos_right _ this
  | f+1, b :: l, n => by
    rw [nmR]; have ih := nmR_lt f l (n * 10 + (b.toNat - 48))
    split
    · rename_i h; have hd := isDig_iff.1 h; have e : (n + 1) * 10 ^ (f + 1) = ((n + 1) * 10) * 10 ^ f := (by rw [Nat.pow_succ, Nat.mul_comm (10 ^ f) 10, Nat.mul_assoc]); rw [e]; exact Nat.lt_of_lt_of_le ih (Nat.mul_le_mul_right _ (by omega))
    · have : 0 < 10 ^ (f + 1) := Nat.pow_pos (by decide)
      calc n < n + 1 := Nat.lt_succ_self n
        _ ≤ (n + 1) * 10 ^ (f + 1) := Nat.le_mul_of_pos_right _ this
theorem nmR_all : ∀ (f : Nat) (ds rest : List UInt8) (n : Nat), ds.all isDig = true → ds.length ≤ f → (∀ b, rest.head? = some b → isDig b = false) → nmR f (ds ++ rest) n = (numV n ds, ds.length)
  | 0, [], rest, n, _, _, _ => rfl
  | 0, d :: ds, rest, n, _, h, _ => absurd h (by simp)
  | f+1, [], rest, n, _, _, hr => by
    cases rest with
    | nil => rfl
    | cons b r =>
      have := hr b rfl; rw [List.nil_append, nmR, if_neg (by rw [this]; decide)]; rfl
  | f+1, d :: ds, rest, n, ha, hl, hr => by
    rw [List.all_cons, Bool.and_eq_true] at ha; rw [List.cons_append, nmR, if_pos ha.1, nmR_all f ds rest _ ha.2 (by simpa using hl) hr, numV_cons]; rfl
def nmV (l : List UInt8) : Int := if (nmR 6 l 0).2 = 0 then -1 else ((nmR 6 l 0).1 : Int)
theorem nmV_bd (l : List UInt8) : -1 ≤ nmV l ∧ nmV l < 1000000 := by
  have h := nmR_lt 6 l 0; have e : (0 + 1) * 10 ^ 6 = 1000000 := (by decide); rw [e] at h; unfold nmV
  split <;> omega
theorem drop_end {s : ByteArray} {j : Nat} (h : s.size ≤ j) : s.data.toList.drop j = [] := List.drop_eq_nil_of_le (by rw [Array.length_toList]; exact h)
structure NmK (L : List UInt8) (D : List UInt8) (k n : Nat) : Prop where
  eq : nmR 6 L 0 = ((nmR (6 - k) D n).1, (nmR (6 - k) D n).2 + k)
  le : k ≤ 6
  lt : n < 10 ^ k
theorem NmK.start (L : List UInt8) : NmK L L 0 0 := ⟨rfl, by decide, by decide⟩
theorem NmK.next {L D : List UInt8} {k n : Nat} {b : UInt8} (h : NmK L (b :: D) k n) (hk : k < 6) (hb : isDig b = true) : NmK L D (k + 1) (10 * n + (b.toNat - 48)) := by
  refine ⟨?_, hk, ?_⟩
  · rw [h.eq, show 6 - k = (6 - (k + 1)) + 1 by omega, nmR, if_pos hb, Nat.mul_comm n 10]; simp only [Nat.add_assoc, Nat.add_comm 1 k]
  · have hd := isDig_iff.1 hb; have := h.lt; rw [Nat.pow_succ]; omega
theorem NmK.stop {L D : List UInt8} {k n : Nat} (h : NmK L D k n) (hs : k = 6 ∨ D = [] ∨ ∃ b r, D = b :: r ∧ isDig b = false) : nmR 6 L 0 = (n, k) := by
  rw [h.eq]; rcases hs with rfl | rfl | ⟨b, r, rfl, hb⟩
  · rw [Nat.sub_self, nmR, Nat.zero_add]
  · rcases hk : 6 - k with _ | f
    · rw [nmR, Nat.zero_add]
    · rw [nmR, Nat.zero_add]
  · rcases hk : 6 - k with _ | f
    · rw [nmR, Nat.zero_add]
    · rw [nmR, if_neg (by rw [hb]; decide), Nat.zero_add]
theorem NmK.small {L D : List UInt8} {k n : Nat} (h : NmK L D k n) : n < 1000000 := by
  have h1 := Nat.pow_le_pow_right (show 0 < 10 by decide) h.le; have e : 10 ^ 6 = 1000000 := (by decide); have := h.lt; omega
end Go.Proofs.YtalodfjplegibaaGreatDoor
namespace Go.Proofs.YtalodfjplegibaaGreatDoor
set_option linter.unusedSimpArgs false
open Go.RowKit
set_option linter.unusedVariables false
def pK (n : Int) : Nat → Int
  | 0 => -1
  | i+1 => if (prime i : Int) = n then (i : Int) else pK n i
theorem pK_bd (n : Int) : ∀ i, -1 ≤ pK n i ∧ pK n i < (i : Int)
  | 0 => ⟨Int.le_refl _, by show (-1 : Int) < ((0 : Nat) : Int); decide⟩
  | i+1 => by
    rw [pK]; have := pK_bd n i
    split <;> omega
def termL (L : List UInt8) : Option (Int × Bool × Int × Int × Nat) :=
  if pK (nmV L) 6 < 0 then none else match L.drop (nmR 6 L 0).2 with
  | [] => none
  | b :: L2 => if b.toNat = 94 then
      (match L2 with
      | [] => some (pK (nmV L) 6, false, nmV [], 1, (nmR 6 L 0).2 + 1 + (nmR 6 [] 0).2)
      | d :: L3 => if d.toNat = 45 then
          (match L3.drop (nmR 6 L3 0).2 with
          | [] => some (pK (nmV L) 6, true, nmV L3, 1, (nmR 6 L 0).2 + 2 + (nmR 6 L3 0).2)
          | f :: L5 => if f.toNat = 47 then some (pK (nmV L) 6, true, nmV L3, nmV L5, (nmR 6 L 0).2 + 2 + (nmR 6 L3 0).2 + 1 + (nmR 6 L5 0).2)
            else some (pK (nmV L) 6, true, nmV L3, 1, (nmR 6 L 0).2 + 2 + (nmR 6 L3 0).2))
        else (match (d :: L3).drop (nmR 6 (d :: L3) 0).2 with
          | [] => some (pK (nmV L) 6, false, nmV (d :: L3), 1, (nmR 6 L 0).2 + 1 + (nmR 6 (d :: L3) 0).2)
          | f :: L5 => if f.toNat = 47 then some (pK (nmV L) 6, false, nmV (d :: L3), nmV L5, (nmR 6 L 0).2 + 1 + (nmR 6 (d :: L3) 0).2 + 1 + (nmR 6 L5 0).2)
            else some (pK (nmV L) 6, false, nmV (d :: L3), 1, (nmR 6 L 0).2 + 1 + (nmR 6 (d :: L3) 0).2)))
    else none
theorem termL_d {L L2 : List UInt8} {b : UInt8} (h0 : ¬ pK (nmV L) 6 < 0) (h : L.drop (nmR 6 L 0).2 = b :: L2) (hb : b.toNat = 94) (hn : ∀ d r, L2 = d :: r → ¬ d.toNat = 45) (h4 : L2.drop (nmR 6 L2 0).2 = [] ∨ ∃ f r, L2.drop (nmR 6 L2 0).2 = f :: r ∧ ¬ f.toNat = 47) :
    termL L = some (pK (nmV L) 6, false, nmV L2, 1, (nmR 6 L 0).2 + 1 + (nmR 6 L2 0).2) := by
  unfold termL; rw [if_neg h0, h]; simp only [if_pos hb]
  cases L2 with
  | nil => rfl
  | cons d r =>
    simp only [if_neg (hn d r rfl)]; rcases h4 with h4 | ⟨f, r2, h4, h5⟩
    · rw [h4]
    · rw [h4]; simp only [if_neg h5]
theorem termL_e {L L2 : List UInt8} {b : UInt8} (h0 : ¬ pK (nmV L) 6 < 0) (h : L.drop (nmR 6 L 0).2 = b :: L2) (hb : b.toNat = 94) (hn : ∀ d r, L2 = d :: r → ¬ d.toNat = 45) {f : UInt8} {r : List UInt8} (h4 : L2.drop (nmR 6 L2 0).2 = f :: r) (h5 : f.toNat = 47) :
    termL L = some (pK (nmV L) 6, false, nmV L2, nmV r, (nmR 6 L 0).2 + 1 + (nmR 6 L2 0).2 + 1 + (nmR 6 r 0).2) := by
  unfold termL; rw [if_neg h0, h]; simp only [if_pos hb]
  cases L2 with
  | nil => rw [List.drop_nil] at h4; cases h4
  | cons d r2 =>
    simp only [if_neg (hn d r2 rfl)]; rw [h4]; simp only [if_pos h5]
theorem termL_f {L L3 : List UInt8} {b d : UInt8} (h0 : ¬ pK (nmV L) 6 < 0) (h : L.drop (nmR 6 L 0).2 = b :: d :: L3) (hb : b.toNat = 94) (hn : d.toNat = 45) (h4 : L3.drop (nmR 6 L3 0).2 = [] ∨ ∃ f r, L3.drop (nmR 6 L3 0).2 = f :: r ∧ ¬ f.toNat = 47) :
    termL L = some (pK (nmV L) 6, true, nmV L3, 1, (nmR 6 L 0).2 + 2 + (nmR 6 L3 0).2) := by
  unfold termL; rw [if_neg h0, h]; simp only [if_pos hb, if_pos hn]; rcases h4 with h4 | ⟨f, r2, h4, h5⟩
  · rw [h4]
  · rw [h4]; simp only [if_neg h5]
theorem termL_g {L L3 : List UInt8} {b d : UInt8} (h0 : ¬ pK (nmV L) 6 < 0) (h : L.drop (nmR 6 L 0).2 = b :: d :: L3) (hb : b.toNat = 94) (hn : d.toNat = 45) {f : UInt8} {r : List UInt8} (h4 : L3.drop (nmR 6 L3 0).2 = f :: r) (h5 : f.toNat = 47) :
    termL L = some (pK (nmV L) 6, true, nmV L3, nmV r, (nmR 6 L 0).2 + 2 + (nmR 6 L3 0).2 + 1 + (nmR 6 r 0).2) := by
  unfold termL; rw [if_neg h0, h]; simp only [if_pos hb, if_pos hn]; rw [h4]; simp only [if_pos h5]
theorem itoa_nat_head {u : Nat} (x : List UInt8) : ∀ b, ((Lib.decDigits u) ++ x).head? = some b → isDig b = true := fun b hb => by
  obtain ⟨c, r, hc, h1, h2⟩ := dec_cons u; rw [hc] at hb; injection hb with hb
  subst hb; exact isDig_iff.2 ⟨h1, h2⟩
theorem nmR_dec {u : Nat} (hu : u < 1000000) {rest : List UInt8} (hr : ∀ b, rest.head? = some b → isDig b = false) : nmR 6 (Lib.decDigits u ++ rest) 0 = (u, (Lib.decDigits u).length) := by
  have h := nmR_all 6 (Lib.decDigits u) rest 0 (decDigits_all u) (by have := dec_len 6 u (by omega); omega) hr; rw [numV_decDigits] at h; exact h
theorem dec_pos (u : Nat) : 0 < (Lib.decDigits u).length := by
  obtain ⟨c, r, hc, _⟩ := dec_cons u; rw [hc]; simp
theorem nmV_dec {u : Nat} (hu : u < 1000000) {rest : List UInt8} (hr : ∀ b, rest.head? = some b → isDig b = false) : nmV (Lib.decDigits u ++ rest) = (u : Int) := by
  have := dec_pos u; unfold nmV; rw [nmR_dec hu hr, if_neg (by show ¬ (Lib.decDigits u).length = 0; omega)]
theorem pK_prime {i : Nat} (hi : i < 6) : pK (prime i : Int) 6 = (i : Int) := by
  rcases (show i = 0 ∨ i = 1 ∨ i = 2 ∨ i = 3 ∨ i = 4 ∨ i = 5 by omega) with rfl | rfl | rfl | rfl | rfl | rfl <;> decide
def Aft (rest : List UInt8) : Prop := rest = [] ∨ ∃ r, rest = 32 :: r
theorem Aft.dig {rest : List UInt8} (h : Aft rest) : ∀ b, rest.head? = some b → isDig b = false := fun b hb => by
  rcases h with rfl | ⟨r, rfl⟩
  · cases hb
  · injection hb with hb; subst hb; decide
theorem Aft.slash {rest : List UInt8} (h : Aft rest) : rest = [] ∨ ∃ f r, rest = f :: r ∧ ¬ f.toNat = 47 := by
  rcases h with rfl | ⟨r, rfl⟩
  · exact .inl rfl
  · exact .inr ⟨32, r, rfl, by decide⟩
theorem drop_len_append {a b : List UInt8} : (a ++ b).drop a.length = b := List.drop_left
theorem ex_read {d : Int} (hd : 1 ≤ d ∧ d ≤ 1000) {k : Int} {rest : List UInt8} (hr : Aft rest) {u : Nat} (hu : u < 1000000) {f : Int} (hf : d.tdiv (gR k d : Nat) = f) (hf1 : 1 ≤ f) (hf2 : f ≤ 1000) :
    let X := Lib.decDigits u ++ ((if ((gR k d : Nat) : Int) < d then 47 :: Lib.itoa f else []) ++ rest)
    (nmR 6 X 0 = (u, (Lib.decDigits u).length) ∧ nmV X = (u : Int)) ∧
    (¬ ((gR k d : Nat) : Int) < d → (X.drop (Lib.decDigits u).length = [] ∨ ∃ f r, X.drop (Lib.decDigits u).length = f :: r ∧ ¬ f.toNat = 47) ∧ f = 1) ∧
    (((gR k d : Nat) : Int) < d → ∃ r, X.drop (Lib.decDigits u).length = 47 :: r ∧ nmV r = f ∧ (nmR 6 r 0).2 = (Lib.itoa f).length) := by
  intro X
  by_cases h : ((gR k d : Nat) : Int) < d
  · have hh : ∀ b, ((if ((gR k d : Nat) : Int) < d then (47 : UInt8) :: Lib.itoa f else []) ++ rest).head? = some b → isDig b = false := fun b hb => by
      rw [if_pos h] at hb; injection hb with hb; subst hb; decide
    refine ⟨⟨nmR_dec hu hh, nmV_dec hu hh⟩, fun h2 => absurd h h2, fun _ => ⟨Lib.itoa f ++ rest, ?_, ?_, ?_⟩⟩
    · show (Lib.decDigits u ++ _).drop _ = _; rw [drop_len_append, if_pos h]; rfl
    · obtain ⟨v, rfl⟩ := Int.eq_ofNat_of_zero_le (show 0 ≤ f by omega); rw [xit_nat]; exact nmV_dec (by omega) hr.dig
    · obtain ⟨v, rfl⟩ := Int.eq_ofNat_of_zero_le (show 0 ≤ f by omega); rw [xit_nat, nmR_dec (by omega) hr.dig]
  · have hh : ∀ b, ((if ((gR k d : Nat) : Int) < d then (47 : UInt8) :: Lib.itoa f else []) ++ rest).head? = some b → isDig b = false := by
      rw [if_neg h, List.nil_append]; exact hr.dig
    refine ⟨⟨nmR_dec hu hh, nmV_dec hu hh⟩, fun _ => ⟨?_, ?_⟩, fun h2 => absurd h2 h⟩
    · show (Lib.decDigits u ++ _).drop _ = [] ∨ ∃ f r, (Lib.decDigits u ++ _).drop _ = f :: r ∧ _; rw [drop_len_append, if_neg h, List.nil_append]; exact hr.slash
    · have h2 : ((gR k d : Nat) : Int) = d := (by have := (gR_pos hd.1 (k := k)).2; omega); rw [← hf, h2, Int.tdiv_self (by omega)]
theorem termL_word {i : Nat} (hi : i < 6) {k d : Int} (hk : inR k) (hd : 1 ≤ d ∧ d ≤ 1000) {rest : List UInt8} (hr : Aft rest) :
    termL (wrR (prime i) k d ++ rest) = some ((i : Int), decide (k.tdiv (gR k d : Nat) < 0), ((k.tdiv (gR k d : Nat)).natAbs : Int), d.tdiv (gR k d : Nat), (wrR (prime i) k d).length) := by
  have hgb := gR_bd (k := k) hd.1; have hk1 := hk.1; have hk2 := hk.2; have hp := prime_le hi; obtain ⟨e, he⟩ : ∃ e, k.tdiv (gR k d : Nat) = e := ⟨_, rfl⟩; obtain ⟨f, hf⟩ : ∃ f, d.tdiv (gR k d : Nat) = f := ⟨_, rfl⟩; rw [he, hf] at hgb; have hx := fun (u : Nat) (hu : u < 1000000) => ex_read hd (k := k) hr hu hf (by omega) (by omega)
  simp only [] at hx; unfold wrR exR; rw [he, hf]; obtain ⟨T, hT⟩ : ∃ T, (if ((gR k d : Nat) : Int) < d then (47 : UInt8) :: Lib.itoa f else []) = T := ⟨_, rfl⟩
  have hTl : T.length = if ((gR k d : Nat) : Int) < d then 1 + (Lib.itoa f).length else 0 := by
    rw [← hT]
    split
    · rw [List.length_cons]; omega
    · rfl
  rw [hT] at hx ⊢
  have eL : Lib.itoa (prime i : Int) ++ 94 :: (Lib.itoa e ++ T) ++ rest = Lib.decDigits (prime i) ++ 94 :: (Lib.itoa e ++ (T ++ rest)) := by
    rw [xit_nat]; simp
  rw [eL]
  have h94 : ∀ b, ((94 : UInt8) :: (Lib.itoa e ++ (T ++ rest))).head? = some b → isDig b = false := fun b hb => by
    injection hb with hb; subst hb; decide
  have h1 := nmR_dec (u := prime i) (by omega) h94; have h2 := nmV_dec (u := prime i) (by omega) h94; have h3 : ¬ pK (nmV (Lib.decDigits (prime i) ++ 94 :: (Lib.itoa e ++ (T ++ rest)))) 6 < 0 := (by rw [h2, pK_prime hi]; omega)
  have h4 : (Lib.decDigits (prime i) ++ 94 :: (Lib.itoa e ++ (T ++ rest))).drop (nmR 6 (Lib.decDigits (prime i) ++ 94 :: (Lib.itoa e ++ (T ++ rest))) 0).2 = 94 :: (Lib.itoa e ++ (T ++ rest)) := by
    rw [h1]; exact drop_len_append
  have hpl : (Lib.itoa (prime i : Int)).length = (Lib.decDigits (prime i)).length := (by rw [xit_nat])
  by_cases he0 : e < 0
  · obtain ⟨u, hu⟩ : ∃ u : Nat, e = -(u : Int) := ⟨e.natAbs, by omega⟩; have hu6 : u < 1000000 := (by omega); have hue : ((e.natAbs : Nat) : Int) = (u : Int) := (by omega); obtain ⟨⟨x1, x2⟩, x3, x4⟩ := hx u hu6
    have ei : Lib.itoa e = 45 :: Lib.decDigits u := by
      rw [hu]; unfold Lib.itoa; rw [if_pos (by omega)]; have : (-(u : Int)).natAbs = u := (by omega); rw [this]
    rw [ei, List.cons_append] at h3 h4 ⊢; have hul : (Lib.itoa e).length = 1 + (Lib.decDigits u).length := (by rw [ei, List.length_cons]; omega); rw [hue, decide_eq_true he0]; rw [ei, List.cons_append] at h2
    by_cases hg : ((gR k d : Nat) : Int) < d
    · obtain ⟨r, r1, r2, r3⟩ := x4 hg; rw [if_pos hg] at hTl; rw [termL_g h3 h4 (by decide) (by decide) (by rw [x1]; exact r1) (by decide), h2, pK_prime hi, x2, r2, x1, r3]; rw [ei, List.cons_append] at h1; rw [h1]; simp only [List.length_append, List.length_cons, hpl, hTl]; congr 5; clear x1 x2 x3 x4 h1 h2 h3 h4; omega
    · obtain ⟨r1, r2⟩ := x3 hg; rw [if_neg hg] at hTl; rw [termL_f h3 h4 (by decide) (by decide) (by rw [x1]; exact r1), h2, pK_prime hi, x2, x1, r2]; rw [ei, List.cons_append] at h1; rw [h1]; simp only [List.length_append, List.length_cons, hpl, hTl]; congr 5; clear x1 x2 x3 x4 h1 h2 h3 h4; omega
  · obtain ⟨u, hu⟩ := Int.eq_ofNat_of_zero_le (show 0 ≤ e by omega); have hu6 : u < 1000000 := (by omega); have hue : ((e.natAbs : Nat) : Int) = (u : Int) := (by omega); obtain ⟨⟨x1, x2⟩, x3, x4⟩ := hx u hu6; have ei : Lib.itoa e = Lib.decDigits u := (by rw [hu, xit_nat]); rw [ei] at h1 h2 h3 h4 ⊢; rw [hue, decide_eq_false he0]
    have hn : ∀ b r, Lib.decDigits u ++ (T ++ rest) = b :: r → ¬ b.toNat = 45 := fun b r hb => by
      have := itoa_nat_head (u := u) (T ++ rest) b (by rw [hb]; rfl); have := isDig_iff.1 this; omega
    by_cases hg : ((gR k d : Nat) : Int) < d
    · obtain ⟨r, r1, r2, r3⟩ := x4 hg; rw [if_pos hg] at hTl; rw [termL_e h3 h4 (by decide) hn (by rw [x1]; exact r1) (by decide), h2, pK_prime hi, x2, r2, x1, r3, h1]; simp only [List.length_append, List.length_cons, hpl, hTl]; congr 5; clear x1 x2 x3 x4 h1 h2 h3 h4; omega
    · obtain ⟨r1, r2⟩ := x3 hg; rw [if_neg hg] at hTl; rw [termL_d h3 h4 (by decide) hn (by rw [x1]; exact r1), h2, pK_prime hi, x2, x1, r2, h1]; simp only [List.length_append, List.length_cons, hpl, hTl]; congr 5; clear x1 x2 x3 x4 h1 h2 h3 h4; omega
end Go.Proofs.YtalodfjplegibaaGreatDoor
namespace Go.Proofs.YtalodfjplegibaaGreatDoor
set_option linter.unusedSimpArgs false
open Go.RowKit
set_option linter.unusedVariables false
end Go.Proofs.YtalodfjplegibaaGreatDoor
namespace Go.Proofs.YtalodfjplegibaaGreatDoor
set_option linter.unusedSimpArgs false
open Go.RowKit
set_option linter.unusedVariables false
end Go.Proofs.YtalodfjplegibaaGreatDoor
