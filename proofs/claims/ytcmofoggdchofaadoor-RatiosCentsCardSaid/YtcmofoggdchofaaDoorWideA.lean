/- Package wide, first part: slices of limbs, and the functions that only read: trim, valid. -/
import Derived.Test.YtcmofoggdchofaaDoorBase
import Derived.Test.YtcmofoggdchofaaDoorNatL
namespace Go.Proofs.YtcmofoggdchofaaDoor
set_option linter.unusedSimpArgs false
set_option linter.unusedVariables false
open Go.RowKit

/-- a limb as a value -/
def lv (x : Nat) : Value := .int .u32 x
/-- the slice with address A and length n reads as the limbs l -/
def U (w : World) (A : Option Addr) (n : Nat) (l : List Nat) : Prop := Reads w w.heap.size 1 A n (l.map lv) ∧ ∀ x ∈ l, x < LB

theorem U.len {w : World} {A : Option Addr} {n : Nat} {l : List Nat} (h : U w A n l) : l.length = n := by simpa using h.1.1
theorem U.cell {w : World} {A : Option Addr} {n : Nat} {l : List Nat} (h : U w A n l) {k : Nat} (hk : k < n) : ∃ ad, A = some ad ∧ ad.block < w.heap.size ∧ w.cell? (ad.add k) = some (.int .u32 (l[k]?.getD 0 : Nat)) := by
  obtain ⟨ad, u, rfl, hb, hx, hc⟩ := h.1.at_ hk
  refine ⟨ad, rfl, hb, hc.trans ?_⟩
  rw [← hx]
  have : k < l.length := by have := h.len; omega
  simp [lv, this]
theorem U.lt {w : World} {A : Option Addr} {n : Nat} {l : List Nat} (h : U w A n l) (k : Nat) : l[k]?.getD 0 < LB := by
  by_cases hk : k < l.length
  · rw [List.getElem?_eq_getElem hk]; exact h.2 _ (List.getElem_mem _)
  · rw [List.getElem?_eq_none (by omega)]; decide
theorem U.below {w w' : World} {A : Option Addr} {n : Nat} {l : List Nat} (h : U w A n l) (hb : Below w.heap.size w w') : U w' A n l := ⟨(h.1.below hb).more hb.size, h.2⟩
theorem U.drewN {w : World} {A : Option Addr} {n : Nat} {l : List Nat} (h : U w A n l) (k : Nat) : U (w.drewN k) A n l := ⟨h.1.drewN k, h.2⟩
theorem U.take {w : World} {A : Option Addr} {n : Nat} {l : List Nat} (h : U w A n l) {k : Nat} (hk : k ≤ n) : U w A k (l.take k) := by
  have hl := h.len
  refine ⟨⟨by simp; omega, fun h0 => ?_⟩, fun x hx => h.2 x (List.mem_of_mem_take hx)⟩
  obtain ⟨ad, e, hb, hc⟩ := h.1.2 (by omega)
  refine ⟨ad, e, hb, fun j u hu => hc j u ?_⟩
  rw [List.map_take] at hu
  rw [List.getElem?_take] at hu
  split at hu
  · exact hu
  · cases hu

/-- a result: a slice of limbs -/
def Limbs (l : List Nat) (e : Ending) (w : World) : Prop := ∃ A c, e = .returned (.slice A l.length c) ∧ l.length ≤ c ∧ c ≤ maxLen ∧ U w A l.length l

set_option maxHeartbeats 400000 in
theorem trim_at (A : Option Addr) (n c : Nat) (l : List Nat) (w : World) (h : U w A n l) (hc : n ≤ c) (hm : c ≤ maxLen) :
    Calls Tryd.prog 97 #[.slice A n c] w fun e w' => (e = .returned (.slice A (trimN l).length c) ∧ (trimN l).length ≤ c ∧ U w A (trimN l).length (trimN l)) ∧ w = w' := by
  have hl := h.len
  unfold maxLen at hm
  go_enter Tryd.func97, Tryd.ntmps97
  go_wp2
  go_loop [0] (fun v => ∃ k : Nat, k ≤ n ∧ v = .slice A k c ∧ trimN (l.take k) = trimN l) (fun v => match v with | .slice _ k _ => k | _ => 0)
  case atStart => exact ⟨n, Nat.le_refl _, rfl, by rw [List.take_of_length_le (by omega)]⟩
  case round =>
    obtain ⟨k, hk, rfl, ht⟩ := hrel
    have HT := Lib.hid ht; clear ht
    have HL := Lib.hid hl; clear hl
    rcases k with _ | k
    · go_wp2
      go_ret
      refine ⟨⟨?_, ?_, ?_⟩, rfl⟩
      all_goals (rw [← HT.out]; simp [trimN_nil])
      exact ⟨⟨by simp, fun h => absurd h (by omega)⟩, by simp⟩
    · obtain ⟨ad, rfl, hb, hcell⟩ := h.cell (k := k) (by omega)
      have hlt := h.lt k
      by_cases hz : l[k]?.getD 0 = 0
      · rw [hz] at hcell
        clear hlt
        have HZ := Lib.hid hz; clear hz
        go_wp2
        exact ⟨⟨k, by omega, rfl, by rw [← HT.out, take_trim0 l k (by rw [HL.out]; omega) HZ.out]⟩, by simp⟩
      · have hzb : (((l[k]?.getD 0 : Nat) : Int) == 0) = false := by simp; omega
        go_wp2
        go_ret
        have e1 : (l.take (k+1)) = trimN l := by rw [← HT.out, take_trim1 l k (by rw [HL.out]; omega) hz]
        have e2 : (trimN l).length = k + 1 := by rw [← e1, List.length_take, HL.out]; omega
        refine ⟨⟨by rw [e2]; rfl, by omega, ?_⟩, rfl⟩
        rw [e2, ← e1]
        exact h.take hk

theorem trim_any (A : Option Addr) (n c : Nat) (l : List Nat) (w : World) (h : U w A n l) (hc : n ≤ c) (hm : c ≤ maxLen) :
    Calls Tryd.prog 97 #[.slice A n c] w fun e w' => Limbs (trimN l) e w ∧ w = w' :=
  (trim_at A n c l w h hc hm).mono fun e w' ⟨⟨h1, h2, h3⟩, h4⟩ => ⟨⟨A, c, h1, h2, hm, h3⟩, h4⟩

set_option maxHeartbeats 400000 in
theorem valid_any (A : Option Addr) (n c : Nat) (l : List Nat) (w : World) (h : U w A n l) (hc : n ≤ c) (hm : c ≤ maxLen) :
    Calls Tryd.prog 94 #[.slice A n c] w fun e w' => e = .returned (.bool (validL l)) ∧ w = w' := by
  have hl := h.len
  unfold maxLen at hm
  by_cases h5 : n ≤ 512
  · rcases n with _ | n
    · go_enter Tryd.func94, Tryd.ntmps94
      go_wp2
      go_ret
      have e : l = [] := List.eq_nil_of_length_eq_zero hl
      subst e
      exact ⟨rfl, rfl⟩
    · obtain ⟨ad, rfl, hb, hcell⟩ := h.cell (k := n) (by omega)
      have HL := Lib.hid hl; clear hl
      have g0 : (((n : Int) + 1) == 0) = false := by rw [beq_eq_false_iff_ne]; omega
      have g1 : (n : Int) + 1 ≤ 512 := by omega
      set_option maxRecDepth 10000 in
      go_enter Tryd.func94, Tryd.ntmps94
      go_wp2
      go_ret
      refine ⟨?_, rfl⟩
      show Ending.returned (.bool ((↑(l[n]?.getD 0) : Int) != 0)) = _
      have hl := HL.out
      rw [validL_succ hl h5]
      congr 2
      generalize l[n]?.getD 0 = x
      cases x <;> simp <;> omega
  · have h5' : decide (n ≤ 512) = false := by simp; omega
    go_enter Tryd.func94, Tryd.ntmps94
    go_wp2
    go_ret
    refine ⟨?_, rfl⟩
    show Ending.returned (.bool false) = _
    simp [validL, hl, h5]

theorem of_limbs (x : Nat) (h : x < LB * LB) : trimN [x % LB, x / LB] = limbs x := by
  have h2 : x / LB < LB := Nat.div_lt_of_lt_mul h
  rw [trimN_limbs (by simp [h2, Nat.mod_lt _ LB_pos])]
  congr 1
  simp [valOf]; exact Nat.mod_add_div x LB
theorem U_two (w : World) (x y : Nat) (a b : Int) (ha : a = x) (hb : b = y) (hx : x < LB) (hy : y < LB) (t : TypeId) : U (w.alloc (.cells #[.int .u32 a, .int .u32 b] t)) (some ⟨w.heap.size, 0, none⟩) 2 [x, y] := by
  subst ha hb
  refine ⟨⟨rfl, fun _ => ⟨_, rfl, by simp, fun j u hu => ?_⟩⟩, by simp [hx, hy]⟩
  match j, hu with
  | 0, hu => simp [lv] at hu; subst hu; simp [Addr.add]
  | 1, hu => simp [lv] at hu; subst hu; simp [Addr.add]
set_option maxHeartbeats 400000 in
theorem of_any (x : Nat) (w : World) (hx : x < LB * LB) :
    Calls Tryd.prog 90 #[.int .u64 x] w fun e w' => Limbs (limbs x) e w' ∧ Below w.heap.size w w' := by
  have hx' : (x:Int) < 18446744073709551616 := by unfold LB at hx; omega
  have ht := Lib.hid (of_limbs x hx)
  have hm : x % LB < LB := Nat.mod_lt _ LB_pos
  have hd : x / LB < LB := Nat.div_lt_of_lt_mul hx
  have e1 : ∀ y : Nat, ((y : Int) % 4294967296) = ((y % LB : Nat) : Int) := fun y => by simp [LB]
  have e2 : ∀ y : Nat, ((y : Int) / 4294967296) = ((y / LB : Nat) : Int) := fun y => by simp [LB]
  have E1 := Lib.hid e1
  have E2 := Lib.hid e2
  clear hx e1 e2
  go_enter Tryd.func90, Tryd.ntmps90
  go_wp2_with (refine (trim_any _ _ _ [x % LB, x / LB] _ (U_two _ _ _ _ _ (E1.out x) (E2.out x) hm hd _) (by omega) (by decide)).mono ?_; rintro e w' ⟨⟨A, c, rfl, h1, h2, h3⟩, rfl⟩)
  go_ret
  rw [← ht.out]
  exact ⟨⟨A, c, rfl, h1, h2, h3⟩, (Below.refl _ _).alloc (Nat.le_refl _) _⟩
end Go.Proofs.YtcmofoggdchofaaDoor
