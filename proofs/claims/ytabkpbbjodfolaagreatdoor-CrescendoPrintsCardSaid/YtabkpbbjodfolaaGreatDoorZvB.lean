/- Mixtures in memory: breaks, rows of integers. -/
import Derived.Test.YtabkpbbjodfolaaGreatDoorZvA
import Derived.Deep.Slices
import Derived.Deep.Strs
import Derived.Maps.Own
import Derived.Maps.Views
import Derived.StringKeys
import Derived.Lib.BitFns
import Derived.Test.YtabkpbbjodfolaaGreatDoorShelf
namespace Go.Proofs.YtabkpbbjodfolaaGreatDoor
set_option linter.unusedSimpArgs false
open Go.RowKit
set_option linter.unusedVariables false
def i64 (z : Int) : Prop := -9223372036854775808 ≤ z ∧ z < 9223372036854775808
def iv (z : Int) : Value := .int .i64 z
def II (w : World) (A : Option Addr) (n : Nat) (l : List Int) : Prop := l.length = n ∧ Reads w w.heap.size 1 A n (l.map iv)
theorem II.below {w w' : World} {A : Option Addr} {n : Nat} {l : List Int} (h : II w A n l) (hb : Below w.heap.size w w') : II w' A n l := ⟨h.1, (h.2.below hb).more hb.size⟩
theorem II.nil (w : World) (A : Option Addr) : II w A 0 [] := ⟨rfl, by simp, fun h => absurd h (by omega)⟩
theorem II.cell {w : World} {A : Option Addr} {n : Nat} {l : List Int} (h : II w A n l) {j : Nat} (hj : j < n) : ∃ ad, A = some ad ∧ ad.block < w.heap.size ∧ w.cell? (ad.add j) = some (.int .i64 (gt l j)) := by
  obtain ⟨ad, e, hb, hc⟩ := h.2.2 (by omega); refine ⟨ad, e, hb, hc _ _ ?_⟩; rw [List.getElem?_map, gt_at (by rw [h.1]; exact hj)]; rfl
structure Bk where
  fr : Int
  A : Option Addr
  n : Nat
  c : Nat
  l : List Int
def Bk.cells (b : Bk) : List Value := [.int .i64 b.fr, .slice b.A b.n b.c]
theorem flatK (L : List Bk) : ∀ i b, L[i]? = some b → (L.flatMap Bk.cells)[i * 2]? = some (.int .i64 b.fr) ∧ (L.flatMap Bk.cells)[i * 2 + 1]? = some (.slice b.A b.n b.c) := by
  induction L with
  | nil => intro i x h; cases h
  | cons y l ih =>
    intro i x h
    cases i with
    | zero => cases h; simp [Bk.cells]
    | succ i =>
      have h1 := ih i x (by simpa using h); have e1 : (i + 1) * 2 = i * 2 + 1 + 1 := (by omega); rw [List.flatMap_cons, e1]; simpa [Bk.cells] using h1
structure MX (w : World) (A : Option Addr) (n : Nat) (L : List Bk) : Prop where
  len : L.length = n
  rd : Reads w w.heap.size 2 A n (L.flatMap Bk.cells)
  rk : ∀ b ∈ L, II w b.A b.n b.l
theorem MX.below {w w' : World} {A : Option Addr} {n : Nat} {L : List Bk} (h : MX w A n L) (hb : Below w.heap.size w w') : MX w' A n L :=
  ⟨h.len, (h.rd.below hb).more hb.size, fun b hm => (h.rk b hm).below hb⟩
theorem MX.cells {w : World} {A : Option Addr} {n : Nat} {L : List Bk} (h : MX w A n L) {i : Nat} {b : Bk} (hi : L[i]? = some b) :
    ∃ ad, A = some ad ∧ ad.block < w.heap.size ∧ w.cell? (ad.add (i * 2)) = some (.int .i64 b.fr) ∧ w.cell? (ad.add (i * 2 + 1)) = some (.slice b.A b.n b.c) := by
  have hn : 0 < n := (by rw [← h.len]; exact Nat.lt_of_le_of_lt (Nat.zero_le i) (List.getElem?_eq_some_iff.1 hi).1); obtain ⟨ad, e, hb, hc⟩ := h.rd.2 hn; obtain ⟨h1, h2⟩ := flatK L i b hi; exact ⟨ad, e, hb, hc _ _ h1, hc _ _ h2⟩
structure MXA (w : World) (A : Option Addr) (n c : Nat) (L : List Bk) : Prop where
  mx : MX w A n L
  cap : n ≤ c ∧ c ≤ maxLen
  fr : ∀ b ∈ L, i64 b.fr
  rc : ∀ b ∈ L, b.n ≤ b.c ∧ b.c ≤ maxLen
  ri : ∀ b ∈ L, ∀ z ∈ b.l, i64 z
theorem MXA.below {w w' : World} {A : Option Addr} {n c : Nat} {L : List Bk} (h : MXA w A n c L) (hb : Below w.heap.size w w') : MXA w' A n c L := ⟨h.mx.below hb, h.cap, h.fr, h.rc, h.ri⟩
end Go.Proofs.YtabkpbbjodfolaaGreatDoor
namespace Go.Proofs.YtabkpbbjodfolaaGreatDoor
open Go.ChangeShapes Go.WideShapes Go.ChangeAt Go.RowKit Go.Deep
set_option linter.unusedVariables false
set_option linter.unusedSimpArgs false
set_option maxRecDepth 100000 in
theorem ints_trod {H : Type} {enc : TypeId × Value → H} {W : World} {fuel : Nat} {v : Value} {x : DataW H × List MemPlace} (h : DataW.trod enc Tryz.prog W 0 (fun _ => true) true fuel 43 [v] = some x) (hb : ∀ p ∈ x.2, p.block < W.heap.size) :
    ∃ A n c l, v = .slice A n c ∧ II W A n l ∧ (n ≤ c ∧ c ≤ maxLen) ∧ ∀ z ∈ l, i64 z := by
  rcases open_ints Tryz.underlying43 Tryz.underlying3 (by kernel_rfl) h with ⟨hv, _⟩ | ⟨a, len, cap, zs, hv, _, hlc, hcm, hzl, hx, hcell, hwf⟩
  · simp at hv; exact ⟨none, 0, 0, [], hv, II.nil _ _, ⟨by simp, by decide⟩, by simp⟩
  · simp at hv; subst hv; simp only [if_true] at hzl; rw [hx] at hb; refine ⟨some a, len, cap, zs.take len, rfl, ⟨by rw [List.length_take]; omega, by simp; omega, fun h0 => ⟨a, rfl, ?_, fun j u hu => ?_⟩⟩, ⟨hlc, hcm⟩, fun z hz => wf_i64 (hwf z (List.mem_of_mem_take hz))⟩
    · exact hb _ (MemPlace.mem_row.2 ⟨0, by omega, rfl⟩)
    · rw [List.getElem?_map] at hu; rcases Nat.lt_or_ge j len with hj | hj
      · rw [List.getElem?_take_of_lt hj, List.getElem?_eq_getElem (by omega)] at hu; simp at hu; subst hu; rw [hcell j (by omega)]; have e : zs.getD j 0 = zs[j]'(by omega) := (by simp [List.getD, List.getElem?_eq_getElem (show j < zs.length by omega)]); rw [e]; rfl
      · rw [List.getElem?_eq_none (by simp; omega)] at hu
        cases hu
end Go.Proofs.YtabkpbbjodfolaaGreatDoor
namespace Go.Proofs.YtabkpbbjodfolaaGreatDoor
open Go.ChangeShapes Go.WideShapes Go.ChangeAt Go.RowKit Go.Deep
set_option linter.unusedVariables false
set_option linter.unusedSimpArgs false
end Go.Proofs.YtabkpbbjodfolaaGreatDoor
namespace Go.Proofs.YtabkpbbjodfolaaGreatDoor
set_option linter.unusedSimpArgs false
open Go.RowKit
set_option linter.unusedVariables false
def ltrI (z : Int) : Bool := decide (97 ≤ bits .or .u8 z 32) && decide (bits .or .u8 z 32 ≤ 122)
def digI (z : Int) : Bool := decide (48 ≤ z) && decide (z ≤ 57)
theorem letter_any (z : Int) (w : World) : Calls Tryz.prog 182 #[.int .u8 z] w fun e w' => e = .returned (.bool (ltrI z)) ∧ w' = w := by
  obtain ⟨y, hy⟩ : ∃ y, bits .or .u8 z 32 = y := ⟨_, rfl⟩; have HC : Sl (ltrI z = (decide (97 ≤ y) && decide (y ≤ 122))) := ⟨by unfold ltrI; rw [hy]⟩
  by_cases h : 97 ≤ y
  · have hb : decide (97 ≤ y) = true := decide_eq_true h; rw [hb] at HC; go_enter Tryz.func182, Tryz.ntmps182; go_wp2_with fail; go_ret; exact ⟨by first | rfl | (rw [HC.out]; simp), rfl⟩
  · have hb : decide (97 ≤ y) = false := decide_eq_false h; rw [hb] at HC; go_enter Tryz.func182, Tryz.ntmps182; go_wp2_with fail; go_ret; exact ⟨by first | rfl | (rw [HC.out]; rfl), rfl⟩
theorem digit_any (z : Int) (w : World) : Calls Tryz.prog 183 #[.int .u8 z] w fun e w' => e = .returned (.bool (digI z)) ∧ w' = w := by
  by_cases h : 48 ≤ z
  · have hb : decide (48 ≤ z) = true := decide_eq_true h; have HC : Sl (digI z = decide (z ≤ 57)) := ⟨by unfold digI; rw [hb]; rfl⟩; go_enter Tryz.func183, Tryz.ntmps183; go_wp2_with fail; go_ret; exact ⟨by first | rfl | (rw [HC.out]; rfl), rfl⟩
  · have hb : decide (48 ≤ z) = false := decide_eq_false h; have HC : Sl (digI z = false) := ⟨by unfold digI; rw [hb]; rfl⟩; go_enter Tryz.func183, Tryz.ntmps183; go_wp2_with fail; go_ret; exact ⟨by first | rfl | (rw [HC.out]; rfl), rfl⟩
theorem within_any (a b c : Int) (w : World) : Calls Tryz.prog 138 #[.int .i64 a, .int .i64 b, .int .i64 c] w fun e w' => e = .returned (.bool (decide (b ≤ a) && decide (a ≤ c))) ∧ w' = w := by
  by_cases h : b ≤ a
  · have hb : decide (b ≤ a) = true := decide_eq_true h; have HC : Sl ((decide (b ≤ a) && decide (a ≤ c)) = decide (a ≤ c)) := ⟨by rw [hb]; rfl⟩; go_enter Tryz.func138, Tryz.ntmps138; go_wp2_with fail; go_ret; exact ⟨by first | rfl | (rw [HC.out]; rfl), rfl⟩
  · have hb : decide (b ≤ a) = false := decide_eq_false h; have HC : Sl ((decide (b ≤ a) && decide (a ≤ c)) = false) := ⟨by rw [hb]; rfl⟩; go_enter Tryz.func138, Tryz.ntmps138; go_wp2_with fail; go_ret; exact ⟨by first | rfl | (rw [HC.out]; rfl), rfl⟩
def nmC (i : Nat) (z : Int) : Bool := ltrI z || (!decide (i = 0) && (decide (z = 95) || digI z))
def nmB (s : ByteArray) : Bool := (List.range s.size).all (fun i => nmC i ((s.data.toList.getD i 0).toNat : Int)) && (decide (1 ≤ s.size) && decide (s.size ≤ 16))
theorem nmC_byte {s : ByteArray} {i : Nat} (h : i < s.size) : s.data.toList.getD i 0 = s[i] := by
  rw [List.getD, List.getElem?_eq_getElem (by rw [Array.length_toList]; exact h)]; rfl
theorem nm_bad {s : ByteArray} {k : Nat} (h : k < s.size) (hb : nmC k ((s[k].toNat : Nat) : Int) = false) : nmB s = false := by
  unfold nmB; rw [Bool.and_eq_false_iff]; refine .inl ?_; rw [List.all_eq_false]; exact ⟨k, List.mem_range.2 h, by rw [nmC_byte h, hb]; decide⟩
theorem nm_end {s : ByteArray} (h : ∀ k (hk : k < s.size), nmC k ((s[k].toNat : Nat) : Int) = true) : nmB s = (decide (1 ≤ s.size) && decide (s.size ≤ 16)) := by
  unfold nmB
  have : (List.range s.size).all (fun i => nmC i ((s.data.toList.getD i 0).toNat : Int)) = true := List.all_eq_true.2 fun k hk => by
    have hk := List.mem_range.1 hk; rw [nmC_byte hk]; exact h k hk
  rw [this, Bool.true_and]
set_option maxHeartbeats 1600000 in
theorem name_any (s : ByteArray) (hs : s.size ≤ maxLen) (w : World) : Calls Tryz.prog 140 #[.string s] w fun e w' => e = .returned (.bool (nmB s)) ∧ w' = w := by
  unfold maxLen at hs; go_enter Tryz.func140, Tryz.ntmps140; go_wp2_with fail
  go_loopw [7] (fun s7 wr => ∃ k : Nat, k ≤ s.size ∧ s7 = .int .i64 k ∧ Sl (∀ j (hj : j < s.size), j < k → nmC j ((s[j].toNat : Nat) : Int) = true) ∧ wr = w) (fun s7 _ => s.size - (RowKit.intOf s7).toNat)
  case atStart => exact ⟨0, Nat.zero_le _, rfl, ⟨fun j _ h => absurd h (Nat.not_lt_zero _)⟩, rfl⟩
  case round =>
    obtain ⟨k, hk, rfl, HG, rfl⟩ := hrel
    by_cases hlt : k < s.size
    · have hkI : decide ((k : Int) < (s.size : Int)) = true := decide_eq_true (by omega); have hkI2 : (k : Int) < (s.size : Int) := (by omega); obtain ⟨z, hz⟩ : ∃ z : Int, ((s[k].toNat : Nat) : Int) = z := ⟨_, rfl⟩; have HLT : Sl _ := ⟨letter_any z wr⟩; have HDG : Sl _ := ⟨digit_any z wr⟩; have HZ : Sl _ := ⟨hz⟩; have HN : Sl (nmC k z = (ltrI z || (!decide (k = 0) && (decide (z = 95) || digI z)))) := ⟨rfl⟩; have HBAD : Sl (nmC k z = false → nmB s = false) := ⟨fun h => nm_bad hlt (by rw [hz]; exact h)⟩
      have HNX : Sl (nmC k z = true → ∀ j (hj : j < s.size), j < k + 1 → nmC j ((s[j].toNat : Nat) : Int) = true) := ⟨fun h j hj hjk => by
        rcases Nat.lt_or_ge j k with h1 | h1
        · exact HG.out j hj h1
        · obtain rfl : j = k := (by omega)
          rw [hz]; exact h⟩
      go_wp2_with fail; refine HLT.out.mono ?_; rintro e w1 ⟨rfl, rfl⟩
      cases hl : ltrI z with
      | true =>
        have HY : Sl (nmC k z = true) := ⟨by rw [HN.out, hl]; rfl⟩; clear hl; go_wp2_with fail; exact ⟨⟨k + 1, hlt, by go_num, ⟨HNX.out HY.out⟩, by trivial⟩, by simp [RowKit.intOf]; omega⟩
      | false =>
        have HN2 : Sl (nmC k z = (!decide (k = 0) && (decide (z = 95) || digI z))) := ⟨by rw [HN.out, hl]; rfl⟩; clear hl
        by_cases hk0 : k = 0
        · have q0 : ((k : Int) == 0) = true := (by rw [beq_iff_eq]; omega); have HBD : Sl (nmB s = false) := ⟨HBAD.out (by rw [HN2.out, decide_eq_true hk0]; rfl)⟩; clear hk0; go_wp2_with fail
          (try simp only [Exit.inBlock, Exit.then])
          go_ret; exact ⟨by first | rfl | (rw [HBD.out]; rfl), rfl⟩
        · have q0 : ((k : Int) == 0) = false := (by rw [beq_eq_false_iff_ne]; omega); have HN3 : Sl (nmC k z = (decide (z = 95) || digI z)) := ⟨by rw [HN2.out, decide_eq_false hk0]; rfl⟩
          by_cases h95 : z = 95
          · have q9 : (z != 95) = false := (by rw [bne_eq_false_iff_eq]; exact h95); have HY : Sl (nmC k z = true) := ⟨by rw [HN3.out, decide_eq_true h95]; rfl⟩; clear h95; go_wp2_with fail; exact ⟨⟨k + 1, hlt, by go_num, ⟨HNX.out HY.out⟩, by trivial⟩, by simp [RowKit.intOf]; omega⟩
          · have q9 : (z != 95) = true := (by rw [bne_iff_ne]; exact h95); have HN4 : Sl (nmC k z = digI z) := ⟨by rw [HN3.out, decide_eq_false h95]; rfl⟩; clear h95; go_wp2_with fail; refine HDG.out.mono ?_; rintro e w2 ⟨rfl, rfl⟩
            cases hd : digI z with
            | true =>
              have HY : Sl (nmC k z = true) := ⟨by rw [HN4.out, hd]⟩; clear hd; go_wp2_with fail; exact ⟨⟨k + 1, hlt, by go_num, ⟨HNX.out HY.out⟩, by trivial⟩, by simp [RowKit.intOf]; omega⟩
            | false =>
              have HBD : Sl (nmB s = false) := ⟨HBAD.out (by rw [HN4.out, hd])⟩; clear hd; go_wp2_with fail
              (try simp only [Exit.inBlock, Exit.then])
              go_ret; exact ⟨by first | rfl | (rw [HBD.out]; rfl), rfl⟩
    · have hkI : decide ((k : Int) < (s.size : Int)) = false := decide_eq_false (by omega); have HE : Sl _ := ⟨nm_end (s := s) fun j hj => HG.out j hj (by omega)⟩
      by_cases h1 : 1 ≤ s.size
      · have q1 : decide (1 ≤ (s.size : Int)) = true := decide_eq_true (by omega)
        have HR : Sl (nmB s = decide ((s.size : Int) ≤ 16)) := ⟨by
          rw [HE.out, decide_eq_true h1, Bool.true_and]
          by_cases h2 : s.size ≤ 16
          · rw [decide_eq_true h2, decide_eq_true (by omega)]
          · rw [decide_eq_false h2, decide_eq_false (by omega)]⟩
        go_wp2_with fail; go_ret; exact ⟨by first | rfl | (rw [HR.out]; rfl), rfl⟩
      · have q1 : decide (1 ≤ (s.size : Int)) = false := decide_eq_false (by omega); have HR : Sl (nmB s = false) := ⟨by rw [HE.out, decide_eq_false h1]; rfl⟩; go_wp2_with fail; go_ret; exact ⟨by first | rfl | (rw [HR.out]; rfl), rfl⟩
end Go.Proofs.YtabkpbbjodfolaaGreatDoor
namespace Go.Proofs.YtabkpbbjodfolaaGreatDoor
set_option linter.unusedSimpArgs false
open Go.RowKit Go.Maps Go.WideMaps
set_option linter.unusedVariables false
theorem law_str : Keyed Tryz.prog 9 := string_keyed Tryz.underlying9
def NM (w : World) (b n : Nat) (l : List (List UInt8)) : Prop := ∃ D : DataW Unit, w.ownsMap Tryz.prog 9 (plainElem Tryz.prog 4) b n D ∧ IsMap D ∧
  ∀ s : ByteArray, s.size ≤ maxLen → D.atKey (.string s.data.toList) (.lit (.bool false)) = .lit (.bool (decide (s.data.toList ∈ l)))
theorem elem_bool {P : Program} {e : TypeId} (he : P.underlying e = some .bool) {v : Value} {q : Bool} {ps : List MemPlace} (h : plainElem (H := Unit) P e v = some (.lit (.bool q), ps)) : v = .bool q := by
  unfold plainElem at h; rw [he] at h
  cases v <;> simp at h
  rw [h.1]
theorem bytes_data {a b : ByteArray} (h : a.data.toList = b.data.toList) : a = b := by
  cases a; cases b
  simpa using h
theorem NM.made (w : World) : NM (w.alloc (.map #[] 0)) w.heap.size 0 [] :=
  ⟨.map [], World.ownsMap_made w _ _ _, ⟨[], rfl⟩, fun s _ => by simp [DataW.atKey]⟩
theorem NM.lt {w : World} {b n : Nat} {l : List (List UInt8)} (h : NM w b n l) : b < w.heap.size := by
  obtain ⟨D, h1, _⟩ := h; exact h1.lt
theorem NM.kept {w w' : World} {b n : Nat} {l : List (List UInt8)} (h : NM w b n l) (hb : w'.heap[b]? = w.heap[b]?) : NM w' b n l := by
  obtain ⟨D, ⟨es, clock, h1, h2⟩, h3⟩ := h; exact ⟨D, ⟨es, clock, by rw [hb]; exact h1, h2⟩, h3⟩
set_option maxRecDepth 10000 in
theorem NM.look {w : World} {b n : Nat} {l : List (List UInt8)} (h : NM w b n l) {s : ByteArray} (hs : s.size ≤ maxLen) :
    (Instr.lookup 162 (.map (some b)) (.string s) false).run Tryz.prog w = .ok (.bool (decide (s.data.toList ∈ l))) w := by
  obtain ⟨D, h1, h2, h3⟩ := h; obtain ⟨v, ps, hrun, hv⟩ := h1.lookup law_str Tryz.underlying162 (e := 4) (z := .bool false) (by kernel_rfl) (plainElem_bool Tryz.underlying4 false) (keyOf_string_mk Tryz.underlying9 hs); rw [h3 s hs] at hv; rw [hrun, elem_bool Tryz.underlying4 hv]
set_option maxRecDepth 10000 in
theorem NM.put {w : World} {b n : Nat} {l : List (List UInt8)} (h : NM w b n l) {s : ByteArray} (hs : s.size ≤ maxLen) (hn : n < maxLen) :
    ∃ w', (Instr.mapUpdate 162 (.map (some b)) (.string s) (.bool true)).run Tryz.prog w = .ok () w' ∧ NM w' b (n + 1) (s.data.toList :: l) ∧ w.grownBy w' (some b) := by
  obtain ⟨D, h1, h2, h3⟩ := h; obtain ⟨w', hrun, h4, h5⟩ := h1.update law_str Tryz.underlying162 hn (keyOf_string_mk Tryz.underlying9 hs) (plainElem_bool Tryz.underlying4 true); refine ⟨w', hrun, ⟨_, h4, ?_, fun u hu => ?_⟩, h5⟩
  · obtain ⟨es, rfl⟩ := h2; exact ⟨_, DataW.put_eq ..⟩
  · by_cases hus : u = s
    · subst hus; rw [atKey_put_same h2 (by exact trivial)]; rw [decide_eq_true (List.mem_cons_self)]
    · rw [atKey_put_other (fun e => hus (by injection e with e; exact bytes_data e)), h3 u hu]; have hne : u.data.toList ≠ s.data.toList := fun e => hus (bytes_data e)
      congr 2; rw [decide_eq_decide]
      exact ⟨fun h => List.mem_cons_of_mem _ h, fun h => by
        rcases List.mem_cons.1 h with h | h
        · exact absurd h hne
        · exact h⟩
end Go.Proofs.YtabkpbbjodfolaaGreatDoor
namespace Go.Proofs.YtabkpbbjodfolaaGreatDoor
set_option linter.unusedSimpArgs false
open Go.RowKit
set_option linter.unusedVariables false
theorem wpList_put_nm {ops : Array Oper} {rest : List Oper} {o : Oper} {a : Act} {w : World} {Q : Exit → Act → World → Prop} (hg : o.guard = none) (m x v : Operand) (hop : o.op = Op.mapUpdate 162 m x v)
    (b n : Nat) (l : List (List UInt8)) (s : ByteArray) (hm : a.eval m = .map (some b)) (hx : a.eval x = .string s) (hv : a.eval v = .bool true) (h : NM w b n l) (hs : s.size ≤ maxLen) (hn : n < maxLen)
    (hK : ∀ w', NM w' b (n + 1) (s.data.toList :: l) → w.grownBy w' (some b) → wpList Tryz.prog ops Q rest (a.put o.dst undef) w') : wpList Tryz.prog ops Q (o :: rest) a w := by
  refine wpList_plain hg fun K' hK' => ?_
  obtain ⟨w', hrun, r1, r2⟩ := h.put hs hn; unfold Oper.wp; simp [execOp, hop, hm, hx, hv, hrun, Result.andThen]; exact hK' _ _ (hK w' r1 r2)
theorem nmB_size {s : ByteArray} (h : nmB s = true) : 1 ≤ s.size ∧ s.size ≤ 16 := by
  unfold nmB at h; rw [Bool.and_eq_true, Bool.and_eq_true, decide_eq_true_eq, decide_eq_true_eq] at h; exact h.2
def keyN (ks nm : ByteArray) : ByteArray := ks ++ ⟨#[32]⟩ ++ nm
set_option maxHeartbeats 1600000 in
set_option maxRecDepth 100000 in
theorem cnamed_any (g b n : Nat) (l : List (List UInt8)) (ks nm : ByteArray) (w : World) (hc : w.cell? ⟨g, 4, none⟩ = some (.map (some b))) (hN : NM w b n l) (hks : ks.size ≤ 100) (hn : n ≤ 1000000) (hnm : nm.size ≤ maxLen) :
    Calls Tryz.prog 137 #[.pointer (some ⟨g, 0, none⟩), .string ks, .string nm] w fun e w' =>
      (nmB nm = false → e = .returned (.int .i64 6) ∧ w' = w) ∧
      (nmB nm = true → (keyN ks nm).data.toList ∈ l → e = .returned (.int .i64 8) ∧ w' = w) ∧
      (nmB nm = true → (keyN ks nm).data.toList ∉ l → e = .returned (.int .i64 0) ∧ NM w' b (n + 1) ((keyN ks nm).data.toList :: l) ∧ w.grownBy w' (some b)) := by
  have HNM : Sl _ := ⟨name_any nm hnm w⟩; have HN : Sl _ := ⟨hN⟩; clear hN hnm
  cases hb : nmB nm with
  | false =>
    rw [hb] at HNM; clear hb; go_enter Tryz.func137, Tryz.ntmps137; go_wp2_with fail; refine HNM.out.mono ?_; rintro e w1 ⟨rfl, rfl⟩; go_wp2_with fail; go_ret; exact ⟨fun _ => ⟨rfl, rfl⟩, fun h => (by cases h), fun h => (by cases h)⟩
  | true =>
    have hsz := nmB_size hb; rw [hb] at HNM; clear hb; have hk1 : (keyN ks nm).size ≤ maxLen := (by unfold keyN maxLen; simp only [ByteArray.size_append]; have : (⟨#[32]⟩ : ByteArray).size = 1 := rfl; omega); have HK : Sl _ := ⟨hk1⟩; have hlk := HN.out.look hk1; have h32 : (⟨#[32]⟩ : ByteArray).size = 1 := rfl; clear hk1
    by_cases hm : (keyN ks nm).data.toList ∈ l
    · rw [decide_eq_true hm] at hlk; have HM : Sl _ := ⟨hm⟩; clear hm; unfold keyN at hlk; go_enter Tryz.func137, Tryz.ntmps137; go_wp2_with fail; refine HNM.out.mono ?_; rintro e w1 ⟨rfl, rfl⟩; go_wp2_with fail; go_ret; exact ⟨fun h => (by cases h), fun _ _ => ⟨rfl, rfl⟩, fun _ h => absurd HM.out h⟩
    · rw [decide_eq_false hm] at hlk; have HM : Sl _ := ⟨hm⟩; clear hm; unfold keyN at hlk; go_enter Tryz.func137, Tryz.ntmps137; go_wp2_with fail; refine HNM.out.mono ?_; rintro e w1 ⟨rfl, rfl⟩
      go_wp2_with ((with_reducible show wpList _ _ _ _ _ _); first
        | (refine wpList_put_nm rfl (.tmp 22) (.tmp 26) _ rfl b n l (keyN ks nm) rfl rfl rfl HN.out HK.out (by unfold maxLen; omega) ?_; intro w2 hN2 hg2))
      go_ret; exact ⟨fun h => (by cases h), fun _ h => absurd h HM.out, fun _ _ => ⟨rfl, hN2, hg2⟩⟩
end Go.Proofs.YtabkpbbjodfolaaGreatDoor
namespace Go.Proofs.YtabkpbbjodfolaaGreatDoor
set_option linter.unusedSimpArgs false
set_option linter.unusedVariables false
section
variable {a b s x y z v : Nat}
end
end Go.Proofs.YtabkpbbjodfolaaGreatDoor
namespace Go.Proofs.YtabkpbbjodfolaaGreatDoor
set_option linter.unusedSimpArgs false
open Go.RowKit
set_option linter.unusedVariables false
end Go.Proofs.YtabkpbbjodfolaaGreatDoor
