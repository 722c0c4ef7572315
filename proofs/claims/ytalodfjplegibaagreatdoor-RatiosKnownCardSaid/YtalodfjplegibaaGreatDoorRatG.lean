/- Package ratios: the bounds of the logarithms of six primes: what quick and log give. -/
import Derived.Test.YtalodfjplegibaaGreatDoorRatD
import Derived.Test.YtalodfjplegibaaGreatDoorMixT
import Derived.Test.YtalodfjplegibaaGreatDoorMixE
namespace Go.Proofs.YtalodfjplegibaaGreatDoor
set_option linter.unusedSimpArgs false
open Go.RowKit
set_option linter.unusedVariables false

theorem lgL_le {D : Nat} : ∀ (r t a b s : Nat), s < 2 ^ (t + 6) → (lgL D r a b s).1 ≤ 2 ^ (t + r + 6) ∧ (lgL D r a b s).2 ≤ 2 ^ (t + r + 6)
  | 0, t, a, b, s, h => by
    unfold lgL
    exact ⟨Nat.le_of_lt h, h⟩
  | r+1, t, a, b, s, h => by
    have e6 := pow_succ2 (t + 6)
    have e : (2 : Nat) ^ (t + (r + 1) + 6) = 2 ^ (t + 6) * 2 ^ (r + 1) := by rw [← Nat.pow_add]; congr 1; omega
    have et : t + (r + 1) + 6 = t + 1 + r + 6 := by omega
    have hs1 : 2 * s + 1 < 2 ^ (t + 1 + 6) := by
      rw [show t + 1 + 6 = t + 6 + 1 by omega, e6]
      generalize (2 : Nat) ^ (t + 6) = z at *
      omega
    unfold lgL
    split
    · rw [et]; exact lgL_le r (t + 1) _ _ _ hs1
    · split
      · rw [e]
        exact ⟨Nat.mul_le_mul_right _ (Nat.le_of_lt h), Nat.mul_le_mul_right _ h⟩
      · rw [et]; exact lgL_le r (t + 1) _ _ _ (Nat.lt_of_le_of_lt (Nat.le_succ _) hs1)
theorem lgc_le (c : Bool) {n k P : Nat} (hk : k < 64) : (lgc c n k P).1 ≤ 2 ^ (P + 6) ∧ (lgc c n k P).2 ≤ 2 ^ (P + 6) := by
  have e : (2 : Nat) ^ (P + 6) = 64 * 2 ^ P := by rw [Nat.pow_add, Nat.mul_comm]
  unfold lgc
  cases c
  · have := lgL_le (D := 2 ^ (2 * P + 64)) P 0 (n * 2 ^ (2 * P + 64 - k)) (n * 2 ^ (2 * P + 64 - k)) k hk
    rw [Nat.zero_add] at this
    exact this
  · rw [e]
    exact ⟨Nat.mul_le_mul_right _ (Nat.le_of_lt hk), Nat.mul_le_mul_right _ (Nat.le_of_lt hk)⟩
theorem lgc_lg {n k : Nat} (P : Nat) (hk : Lib.bitLen n = k + 1) : lg n P = lgc (decide (n = 2 ^ k)) n k P := by
  unfold lg lgc
  rw [hk, Nat.add_sub_cancel]
  by_cases h : n = 2 ^ k
  · rw [if_pos h, decide_eq_true h]; rfl
  · rw [if_neg h, decide_eq_false h]; rfl
theorem logOK_of {n k P : Nat} (h1 : 1 ≤ n) (h2 : n < 1000000000000000) (hk : Lib.bitLen n = k + 1) (hk2 : k ≤ 50) (hn : n < 2 ^ (k + 1)) (hP : P ≤ 2048) (hc : (bits .and .i64 (n : Int) ((n : Int) - 1) == 0) = decide (n = 2 ^ k)) : LogOK n P (lg n P) := fun W => by
  rw [lgc_lg P hk]
  exact log_any n k P _ W h1 h2 hk hk2 hn hP hc
theorem logOK6 {n P : Nat} (h : n ∈ primes6) (hP : P ≤ 2048) : LogOK n P (lg n P) ∧ (lg n P).1 ≤ 2 ^ (P + 6) ∧ (lg n P).2 ≤ 2 ^ (P + 6) := by
  simp only [primes6, List.mem_cons, List.not_mem_nil, or_false] at h
  rcases h with rfl | rfl | rfl | rfl | rfl | rfl
  · exact ⟨logOK_of (k := 1) (by decide) (by decide) (by decide +kernel) (by decide) (by decide) hP (by decide +kernel), by rw [lgc_lg (k := 1) P (by decide +kernel)]; exact lgc_le _ (by decide)⟩
  · exact ⟨logOK_of (k := 1) (by decide) (by decide) (by decide +kernel) (by decide) (by decide) hP (by decide +kernel), by rw [lgc_lg (k := 1) P (by decide +kernel)]; exact lgc_le _ (by decide)⟩
  · exact ⟨logOK_of (k := 2) (by decide) (by decide) (by decide +kernel) (by decide) (by decide) hP (by decide +kernel), by rw [lgc_lg (k := 2) P (by decide +kernel)]; exact lgc_le _ (by decide)⟩
  · exact ⟨logOK_of (k := 2) (by decide) (by decide) (by decide +kernel) (by decide) (by decide) hP (by decide +kernel), by rw [lgc_lg (k := 2) P (by decide +kernel)]; exact lgc_le _ (by decide)⟩
  · exact ⟨logOK_of (k := 3) (by decide) (by decide) (by decide +kernel) (by decide) (by decide) hP (by decide +kernel), by rw [lgc_lg (k := 3) P (by decide +kernel)]; exact lgc_le _ (by decide)⟩
  · exact ⟨logOK_of (k := 3) (by decide) (by decide) (by decide +kernel) (by decide) (by decide) hP (by decide +kernel), by rw [lgc_lg (k := 3) P (by decide +kernel)]; exact lgc_le _ (by decide)⟩
theorem bd6 {n P : Nat} (h : n ∈ primes6) : Bd n P (lg n P) := by
  have hb : 0 < n ∧ n < 2 ^ 64 ∧ Lib.bitLen n - 1 ≤ 3 := by
    simp only [primes6, List.mem_cons, List.not_mem_nil, or_false] at h
    rcases h with rfl | rfl | rfl | rfl | rfl | rfl <;> exact ⟨by decide, by decide, by decide +kernel⟩
  exact lg_bd hb.1 hb.2.1 (by omega)
theorem Bd.less {n P q a b : Nat} {x : Nat × Nat} (h : Bd n (P + q) x) (h1 : a * 2 ^ q ≤ x.1) (h2 : x.2 ≤ b * 2 ^ q) : Bd n P (a, b) := by
  unfold Bd at h ⊢
  have hq : 2 ^ q ≠ 0 := Nat.ne_of_gt (Nat.pow_pos (by decide))
  rw [Nat.pow_add 2 P, Nat.pow_mul n] at h
  refine ⟨?_, ?_⟩
  · rw [← Nat.pow_le_pow_iff_left hq, ← Nat.pow_mul]
    exact Nat.le_trans (Nat.pow_le_pow_right (by decide) h1) h.1
  · rw [← Nat.pow_le_pow_iff_left hq, ← Nat.pow_mul 2]
    exact Nat.le_trans h.2 (Nat.pow_le_pow_right (by decide) h2)
theorem qk6_near : ∀ n ∈ primes6, (qk n).1 * 2 ^ 484 ≤ (B512 n).1 ∧ (B512 n).2 ≤ (qk n).2 * 2 ^ 484 ∧ (qk n).1 < 1000000000000 ∧ (qk n).2 < 1000000000000 := by decide +kernel
theorem bdq6 {n : Nat} (h : n ∈ primes6) : Bd n 28 (qk n) := (bd6 (P := 28 + 484) h).less (qk6_near n h).1 (qk6_near n h).2.1
theorem QK_of {n k : Nat} {c : Bool} (h1 : 1 ≤ n) (h2 : n < 1000000000000000) (hk : Lib.bitLen n = k + 1) (hk2 : k ≤ 50) (hn : n * 2 ^ (63 - k) < W64) (hc : (bits .and .i64 (n : Int) ((n : Int) - 1) == 0) = c) (e : qkc c n k = qk n) : QK n := fun W => by
  have h := quick_any n k c W h1 h2 hk hk2 hn hc
  rw [e] at h
  exact h
theorem QK6 {n : Nat} (h : n ∈ primes6) : QK n := by
  simp only [primes6, List.mem_cons, List.not_mem_nil, or_false] at h
  rcases h with rfl | rfl | rfl | rfl | rfl | rfl
  · exact QK_of (k := 1) (c := true) (by decide) (by decide) (by decide +kernel) (by decide) (by decide +kernel) (by decide +kernel) (by decide +kernel)
  · exact QK_of (k := 1) (c := false) (by decide) (by decide) (by decide +kernel) (by decide) (by decide +kernel) (by decide +kernel) (by decide +kernel)
  · exact QK_of (k := 2) (c := false) (by decide) (by decide) (by decide +kernel) (by decide) (by decide +kernel) (by decide +kernel) (by decide +kernel)
  · exact QK_of (k := 2) (c := false) (by decide) (by decide) (by decide +kernel) (by decide) (by decide +kernel) (by decide +kernel) (by decide +kernel)
  · exact QK_of (k := 3) (c := false) (by decide) (by decide) (by decide +kernel) (by decide) (by decide +kernel) (by decide +kernel) (by decide +kernel)
  · exact QK_of (k := 3) (c := false) (by decide) (by decide) (by decide +kernel) (by decide) (by decide +kernel) (by decide +kernel) (by decide +kernel)
/-- products of powers of six primes, as package ratios looks at them -/
def ok6 (l : List (Nat × Int)) : Prop := l.length ≤ 17 ∧ ∀ x ∈ l, x.1 ∈ primes6 ∧ x.2.natAbs ≤ 10000000000000000
theorem tot_le {K : Nat} : ∀ l : List (Nat × Int), (∀ x ∈ l, x.2.natAbs ≤ K) → tot l ≤ l.length * K
  | [], _ => by simp [tot]
  | (n, k) :: l, h => by
    have h1 := tot_le l fun x hx => h x (List.mem_cons_of_mem _ hx)
    have h2 := h _ List.mem_cons_self
    simp only [] at h2
    rw [tot, List.length_cons, Nat.add_mul, Nat.one_mul]; omega
theorem ok6.tot {l : List (Nat × Int)} (h : ok6 l) : tot l ≤ 1152921504606846976 := by
  have h1 := tot_le (K := 10000000000000000) l fun x hx => (h.2 x hx).2
  have h2 := Nat.mul_le_mul_right 10000000000000000 h.1
  omega
theorem ok6.okE {l : List (Nat × Int)} (h : ok6 l) : okE l := ⟨h.1, fun x hx => by
  obtain ⟨h1, h2⟩ := h.2 x hx
  have : ∀ n ∈ primes6, 0 < n ∧ n ≤ 1000000000000 := by decide
  exact ⟨(this _ h1).1, (this _ h1).2, h2⟩⟩
theorem ok6.good {l : List (Nat × Int)} (h : ok6 l) : Good l := ⟨fun x hx => QK6 (h.2 x hx).1, fun x hx => by have := (h.2 x hx).2; omega, fun x hx => (qk6_near _ (h.2 x hx).1).2.2⟩
theorem ok6.logs {l : List (Nat × Int)} (h : ok6 l) {P : Nat} (hP : P ≤ 2048) : LogsOK l P (fun n => lg n P) := ⟨fun x hx => (logOK6 (h.2 x hx).1 hP).1, fun x hx => ⟨(logOK6 (h.2 x hx).1 hP).2.1, (logOK6 (h.2 x hx).1 hP).2.2, by have := (h.2 x hx).2; omega⟩⟩
theorem ok6.sound {l : List (Nat × Int)} (h : ok6 l) {P : Nat} {s : Int} (hs : guessG (sumB (fun n => lg n P) l) = some s) : s = sgn l := guessG_sound (fun x hx => bd6 (h.2 x hx).1) hs
theorem ok6.quick {l : List (Nat × Int)} (h : ok6 l) {s : Int} (hs : guessF l = some s) : s = sgn l := by
  unfold guessF at hs
  rw [gsum_sumB] at hs
  exact guessG_sound (fun x hx => bdq6 (h.2 x hx).1) hs
theorem ok6.end_ {l : List (Nat × Int)} (h : ok6 l) (hs : guessG (sumB (fun n => lg n 512) l) = none) : up l = down l := decided (fun x hx => (h.2 x hx).1) h.tot hs
/-- products of powers of which package ratios shows the sign with p binary places at most -/
structure SgOK (l : List (Nat × Int)) (p : Nat) : Prop where
  p4 : p = 64 ∨ p = 128 ∨ p = 256 ∨ p = 512
  len : l.length ≤ 17
  okE : okE l
  good : Good l
  logs : ∀ P, P ≤ 2048 → LogsOK l P (fun n => lg n P)
  sound : ∀ P s, 64 ≤ P → guessG (sumB (fun n => lg n P) l) = some s → s = sgn l
  quick : ∀ s, guessF l = some s → s = sgn l
  end_ : guessG (sumB (fun n => lg n p) l) = none → up l = down l
theorem ok6.sg {l : List (Nat × Int)} (h : ok6 l) : SgOK l 512 := ⟨by decide, h.1, h.okE, h.good, fun P hP => h.logs hP, fun P s _ hs => h.sound hs, fun s hs => h.quick hs, h.end_⟩
end Go.Proofs.YtalodfjplegibaaGreatDoor
