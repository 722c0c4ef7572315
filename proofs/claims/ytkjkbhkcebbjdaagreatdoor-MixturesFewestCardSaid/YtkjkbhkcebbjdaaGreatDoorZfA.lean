/- Plain law: Go's stable sort (slices): insertion, symmetric merge, rotation; elements told by a function. No program in sight. -/
import Derived.Test.YtkjkbhkcebbjdaaGreatDoorBase
import Derived.Test.YtkjkbhkcebbjdaaGreatDoorHld
import Derived.BigRegion
import Derived.Test.YtkjkbhkcebbjdaaGreatDoorStH
import Derived.Test.YtkjkbhkcebbjdaaGreatDoorMzK
import Derived.Test.YtkjkbhkcebbjdaaGreatDoorMyZ
import Derived.Test.YtkjkbhkcebbjdaaGreatDoorMyY
namespace Go.Proofs.YtkjkbhkcebbjdaaGreatDoor
set_option linter.unusedSimpArgs false
set_option linter.unusedVariables false
section
variable {α : Type}
def swp (d : Nat → α) (i j : Nat) (k : Nat) : α := if k = i then d j else if k = j then d i else d k
inductive Pm (a b : Nat) (d : Nat → α) : (Nat → α) → Prop
  | refl : Pm a b d d
  | step {e : Nat → α} (i j : Nat) : Pm a b d e → a ≤ i → i < b → a ≤ j → j < b → Pm a b d (swp e i j)
theorem Pm.trans {a b : Nat} {d e f : Nat → α} (h : Pm a b d e) (g : Pm a b e f) : Pm a b d f := by
  induction g with
  | refl => exact h
  | step i j _ h1 h2 h3 h4 ih => exact .step i j ih h1 h2 h3 h4
theorem Pm.mono {a b a' b' : Nat} {d e : Nat → α} (h : Pm a b d e) (ha : a' ≤ a) (hb : b ≤ b') : Pm a' b' d e := by
  induction h with
  | refl => exact .refl
  | step i j _ h1 h2 h3 h4 ih => exact .step i j ih (by omega) (by omega) (by omega) (by omega)
theorem Pm.far {a b : Nat} {d e : Nat → α} (h : Pm a b d e) {k : Nat} (hk : k < a ∨ b ≤ k) : e k = d k := by
  induction h with
  | refl => rfl
  | step i j _ h1 h2 h3 h4 ih => unfold swp; rw [if_neg (by omega), if_neg (by omega), ih]
theorem Pm.all {a b : Nat} {d e : Nat → α} (h : Pm a b d e) {P : α → Prop} (hp : ∀ k, a ≤ k → k < b → P (d k)) : ∀ k, a ≤ k → k < b → P (e k) := by
  induction h with
  | refl => exact hp
  | step i j _ h1 h2 h3 h4 ih =>
    intro k k1 k2; unfold swp
    split
    · exact ih j h3 h4
    · split
      · exact ih i h1 h2
      · exact ih k k1 k2
def Srt (κ : α → Int) (d : Nat → α) (a b : Nat) : Prop := ∀ i j, a ≤ i → i ≤ j → j < b → κ (d i) ≤ κ (d j)
theorem Srt.sub {κ : α → Int} {d : Nat → α} {a b a' b' : Nat} (h : Srt κ d a b) (ha : a ≤ a') (hb : b' ≤ b) : Srt κ d a' b' := fun i j h1 h2 h3 => h i j (by omega) h2 (by omega)
theorem Srt.congr {κ : α → Int} {d e : Nat → α} {a b : Nat} (h : Srt κ d a b) (he : ∀ k, a ≤ k → k < b → e k = d k) : Srt κ e a b := fun i j h1 h2 h3 => by
  rw [he i h1 (by omega), he j (by omega) h3]; exact h i j h1 h2 h3
theorem Srt.one {κ : α → Int} {d : Nat → α} {a b : Nat} (h : b ≤ a + 1) : Srt κ d a b := fun i j h1 h2 h3 => by rw [show j = i by omega]; exact Int.le_refl _
theorem Srt.join {κ : α → Int} {d : Nat → α} {a m b : Nat} (h1 : Srt κ d a m) (h2 : Srt κ d m b) (h : ∀ i j, a ≤ i → i < m → m ≤ j → j < b → κ (d i) ≤ κ (d j)) : Srt κ d a b := fun i j i1 ij j1 => by
  rcases Nat.lt_or_ge j m with hj | hj
  · exact h1 i j i1 ij hj
  · rcases Nat.lt_or_ge i m with hi | hi
    · exact h i j i1 hi hj j1
    · exact h2 i j hi ij j1
structure Hole (κ : α → Int) (d : Nat → α) (a i j : Nat) : Prop where
  rest : ∀ p q, a ≤ p → p ≤ q → q ≤ i → p ≠ j → q ≠ j → κ (d p) ≤ κ (d q)
  low : ∀ q, j < q → q ≤ i → κ (d j) ≤ κ (d q)
theorem Hole.start {κ : α → Int} {d : Nat → α} {a i : Nat} (h : Srt κ d a i) : Hole κ d a i i := ⟨fun p q h1 h2 h3 h4 h5 => h p q h1 h2 (by omega), fun q h1 h2 => by omega⟩
theorem Hole.move {κ : α → Int} {d : Nat → α} {a i j : Nat} (h : Hole κ d a i (j + 1)) (hj : a ≤ j) (hi : j + 1 ≤ i) (hl : κ (d (j + 1)) < κ (d j)) : Hole κ (swp d (j + 1) j) a i j := by
  have e : ∀ k, swp d (j + 1) j k = if k = j + 1 then d j else if k = j then d (j + 1) else d k := fun k => rfl
  constructor
  · intro p q h1 h2 h3 h4 h5; rw [e, e]
    by_cases hp : p = j + 1
    · rw [if_pos hp]
      by_cases hq : q = j + 1
      · rw [if_pos hq]; exact Int.le_refl _
      · rw [if_neg hq, if_neg h5]; exact h.rest j q hj (by omega) h3 (by omega) hq
    · rw [if_neg hp, if_neg h4]
      by_cases hq : q = j + 1
      · rw [if_pos hq]; exact h.rest p j h1 (by omega) (by omega) hp (by omega)
      · rw [if_neg hq, if_neg h5]; exact h.rest p q h1 h2 h3 hp hq
  · intro q h1 h2; rw [e, e, if_neg (by omega), if_pos rfl]
    by_cases hq : q = j + 1
    · rw [if_pos hq]; omega
    · rw [if_neg hq, if_neg (by omega)]; exact h.low q (by omega) h2
theorem Hole.done {κ : α → Int} {d : Nat → α} {a i j : Nat} (h : Hole κ d a i j) (hj : j = a ∨ (∃ k, j = k + 1 ∧ a ≤ k ∧ ¬ κ (d j) < κ (d k))) : Srt κ d a (i + 1) := by
  intro p q h1 h2 h3
  by_cases hp : p = j
  · subst hp
    by_cases hq : q = p
    · rw [hq]; exact Int.le_refl _
    · exact h.low q (by omega) (by omega)
  · by_cases hq : q = j
    · subst hq; rcases hj with hj | ⟨k, hk, hak, hl⟩
      · omega
      · have := h.rest p k h1 (by omega) (by omega) hp (by omega); omega
    · exact h.rest p q h1 h2 (by omega) hp hq
def swr (d : Nat → α) (a b : Nat) : Nat → Nat → α
  | 0 => d
  | n+1 => swp (swr d a b n) (a + n) (b + n)
theorem swr_pm {lo hi : Nat} (d : Nat → α) (a b : Nat) : ∀ n, lo ≤ a → a + n ≤ hi → lo ≤ b → b + n ≤ hi → Pm lo hi d (swr d a b n)
  | 0, _, _, _, _ => .refl
  | n+1, h1, h2, h3, h4 => .step _ _ (swr_pm d a b n h1 (by omega) h3 (by omega)) (by omega) (by omega) (by omega) (by omega)
theorem swr_at (d : Nat → α) (a b : Nat) : ∀ n, a + n ≤ b → ∀ k, swr d a b n k = if a ≤ k ∧ k < a + n then d (k - a + b) else if b ≤ k ∧ k < b + n then d (k - b + a) else d k
  | 0, _, k => by rw [swr, if_neg (by omega), if_neg (by omega)]
  | n+1, h, k => by
    have ih := swr_at d a b n (by omega); unfold swr swp
    by_cases h1 : k = a + n
    · rw [if_pos h1, ih, if_neg (by omega), if_neg (by omega), if_pos (by omega)]; congr 1; omega
    · rw [if_neg h1]
      by_cases h2 : k = b + n
      · rw [if_pos h2, ih, if_neg (by omega), if_neg (by omega), if_neg (by omega), if_pos (by omega)]; congr 1; omega
      · rw [if_neg h2, ih]
        by_cases h3 : a ≤ k ∧ k < a + n
        · rw [if_pos h3, if_pos (by omega)]
        · rw [if_neg h3, if_neg (show ¬ (a ≤ k ∧ k < a + (n + 1)) by omega)]
          by_cases h4 : b ≤ k ∧ k < b + n
          · rw [if_pos h4, if_pos (by omega)]
          · rw [if_neg h4, if_neg (by omega)]
def rot (d : Nat → α) (a m b : Nat) (k : Nat) : α := if a ≤ k ∧ k < a + (b - m) then d (k - a + m) else if a + (b - m) ≤ k ∧ k < b then d (k - (b - m)) else d k
theorem rot_end (d : Nat → α) {m i : Nat} (h : i ≤ m) : swr d (m - i) m i = rot d (m - i) m (m + i) := by
  funext k; rw [swr_at d _ _ i (by omega)]; unfold rot
  by_cases h1 : m - i ≤ k ∧ k < m - i + i
  · rw [if_pos h1, if_pos (by omega)]
  · rw [if_neg h1, if_neg (show ¬ (m - i ≤ k ∧ k < m - i + (m + i - m)) by omega)]
    by_cases h2 : m ≤ k ∧ k < m + i
    · rw [if_pos h2, if_pos (by omega)]; congr 1; omega
    · rw [if_neg h2, if_neg (by omega)]
theorem rot_left (d : Nat → α) {m i j : Nat} (h : i ≤ m) (hj : j < i) : rot (swr d (m - i) m j) (m - (i - j)) m (m + j) = rot d (m - i) m (m + j) := by
  funext k; have e := swr_at d (m - i) m j (by omega); unfold rot; simp only [e]
  by_cases h0 : m - i ≤ k ∧ k < m - i + j
  · rw [if_neg (by omega), if_neg (by omega), if_pos h0, if_pos (by omega)]
  · rw [if_neg h0]; rw [if_neg (show ¬ (m - i ≤ k ∧ k < m - i + (m + j - m)) by omega)]
    by_cases h1 : m - (i - j) ≤ k ∧ k < m - (i - j) + (m + j - m)
    · rw [if_pos h1, if_pos (show m - i + (m + j - m) ≤ k ∧ k < m + j by omega), if_neg (by omega), if_pos (by omega)]; congr 1; omega
    · rw [if_neg h1]
      by_cases h2 : m - (i - j) + (m + j - m) ≤ k ∧ k < m + j
      · rw [if_pos h2, if_pos (show m - i + (m + j - m) ≤ k ∧ k < m + j by omega)]
        by_cases h3 : m - i ≤ k - (m + j - m) ∧ k - (m + j - m) < m - i + j
        · omega
        · rw [if_neg h3, if_neg (by omega)]
      · rw [if_neg h2, if_neg (show ¬ (m - i + (m + j - m) ≤ k ∧ k < m + j) by omega), if_neg (by omega)]
theorem rot_right (d : Nat → α) {m i j : Nat} (h : i ≤ m) (hi : i < j) : rot (swr d (m - i) (m + j - i) i) (m - i) m (m + (j - i)) = rot d (m - i) m (m + j) := by
  funext k; have e := swr_at d (m - i) (m + j - i) i (by omega); unfold rot; simp only [e]
  by_cases h0 : m + j - i ≤ k ∧ k < m + j
  · rw [if_neg (by omega), if_neg (by omega), if_neg (by omega), if_pos (by omega), if_neg (by omega), if_pos (by omega)]; congr 1; omega
  · by_cases h1 : m - i ≤ k ∧ k < m - i + (m + (j - i) - m)
    · rw [if_pos h1, if_neg (by omega), if_neg (by omega), if_pos (by omega)]
    · rw [if_neg h1]
      by_cases h2 : m - i + (m + (j - i) - m) ≤ k ∧ k < m + (j - i)
      · rw [if_pos h2, if_pos (by omega), if_pos (by omega)]; congr 1; omega
      · rw [if_neg h2, if_neg (by omega), if_neg (by omega), if_neg (by omega), if_neg (by omega)]
theorem sym_parts {κ : α → Int} {d : Nat → α} {a m b mid st : Nat} (ha : a < m) (hb : m < b) (hm : mid = (a + b) / 2) (h1 : Srt κ d a m) (h2 : Srt κ d m b)
    (s0 : a ≤ st) (s1 : st ≤ m) (s2 : st ≤ mid) (s3 : m ≤ mid + m - st) (s4 : mid + m - st ≤ b)
    (hlo : ∀ c, a ≤ c → c < st → mid + m - b ≤ c → κ (d c) ≤ κ (d (mid + m - 1 - c)))
    (hhi : ∀ c, st ≤ c → c < m → c < mid → κ (d (mid + m - 1 - c)) < κ (d c)) :
    let d' := rot d st m (mid + m - st)
    Srt κ d' a st ∧ Srt κ d' st mid ∧ Srt κ d' mid (mid + m - st) ∧ Srt κ d' (mid + m - st) b ∧ ∀ i j, a ≤ i → i < mid → mid ≤ j → j < b → κ (d' i) ≤ κ (d' j) := by
  intro d'; obtain ⟨en, hen⟩ : ∃ en, mid + m - st = en := ⟨_, rfl⟩; rw [hen] at s3 s4
  have e : ∀ k, d' k = if st ≤ k ∧ k < mid then d (k - st + m) else if mid ≤ k ∧ k < en then d (k - (en - m)) else d k := fun k => by
    show rot d st m (mid + m - st) k = _; rw [hen]; unfold rot; rw [show st + (en - m) = mid by omega]
  rw [hen]; have e1 : ∀ k, k < st → d' k = d k := fun k hk => by rw [e, if_neg (by omega), if_neg (by omega)]
  have e2 : ∀ k, st ≤ k → k < mid → d' k = d (k - st + m) := fun k hk hk2 => by rw [e, if_pos ⟨hk, hk2⟩]
  have e3 : ∀ k, mid ≤ k → k < en → d' k = d (k - (en - m)) := fun k hk hk2 => by rw [e, if_neg (by omega), if_pos ⟨hk, hk2⟩]
  have e4 : ∀ k, en ≤ k → d' k = d k := fun k hk => by rw [e, if_neg (by omega), if_neg (by omega)]
  refine ⟨fun i j i1 ij j1 => ?_, fun i j i1 ij j1 => ?_, fun i j i1 ij j1 => ?_, fun i j i1 ij j1 => ?_, fun i j i1 i2 j1 j2 => ?_⟩
  · rw [e1 i (by omega), e1 j (by omega)]; exact h1 i j i1 ij (by omega)
  · rw [e2 i (by omega) (by omega), e2 j (by omega) (by omega)]; exact h2 _ _ (by omega) (by omega) (by omega)
  · rw [e3 i (by omega) (by omega), e3 j (by omega) (by omega)]; exact h1 _ _ (by omega) (by omega) (by omega)
  · rw [e4 i (by omega), e4 j (by omega)]; exact h2 i j (by omega) ij j1
  · rcases Nat.lt_or_ge i st with hi | hi
    · rw [e1 i hi]; rcases Nat.lt_or_ge j en with hj | hj
      · rw [e3 j j1 hj]; exact h1 _ _ i1 (by omega) (by omega)
      · rw [e4 j hj]; have k1 := h1 i (st - 1) i1 (by omega) (by omega); have k2 := hlo (st - 1) (by omega) (by omega) (by omega); rw [show mid + m - 1 - (st - 1) = en by omega] at k2; have k3 := h2 en j (by omega) hj j2; omega
    · rw [e2 i hi i2]; rcases Nat.lt_or_ge j en with hj | hj
      · rw [e3 j j1 hj]; have k1 := h2 (i - st + m) (en - 1) (by omega) (by omega) (by omega); have k2 := hhi st (Nat.le_refl _) (by omega) (by omega); rw [show mid + m - 1 - st = en - 1 by omega] at k2; have k3 := h1 st (j - (en - m)) s0 (by omega) (by omega); omega
      · rw [e4 j hj]; exact h2 _ _ (by omega) (by omega) j2
def upTo (d : Nat → α) (a : Nat) : Nat → Nat → α
  | 0 => d
  | n+1 => swp (upTo d a n) (a + n) (a + n + 1)
theorem upTo_pm {lo hi : Nat} (d : Nat → α) (a : Nat) : ∀ n, lo ≤ a → a + n < hi → Pm lo hi d (upTo d a n)
  | 0, _, _ => .refl
  | n+1, h1, h2 => .step _ _ (upTo_pm d a n h1 (by omega)) (by omega) (by omega) (by omega) (by omega)
theorem upTo_at (d : Nat → α) (a : Nat) : ∀ n k, upTo d a n k = if a ≤ k ∧ k < a + n then d (k + 1) else if k = a + n then d a else d k
  | 0, k => by
    rw [upTo, if_neg (by omega)]
    split
    · congr 1
    · rfl
  | n+1, k => by
    have ih := upTo_at d a n; unfold upTo swp
    by_cases h1 : k = a + n
    · rw [if_pos h1, ih, if_neg (by omega), if_neg (by omega), if_pos (by omega)]; congr 1; omega
    · rw [if_neg h1]
      by_cases h2 : k = a + n + 1
      · rw [if_pos h2, ih, if_neg (by omega), if_pos rfl, if_neg (by omega), if_pos (by omega)]
      · rw [if_neg h2, ih]
        by_cases h3 : a ≤ k ∧ k < a + n
        · rw [if_pos h3, if_pos (by omega)]
        · rw [if_neg h3, if_neg h1, if_neg (by omega), if_neg (by omega)]
theorem upTo_srt {κ : α → Int} {d : Nat → α} {a b n : Nat} (h : Srt κ d (a + 1) b) (hn : a + n < b) (hlo : ∀ c, a < c → c ≤ a + n → κ (d c) < κ (d a)) (hhi : ∀ c, a + n < c → c < b → κ (d a) ≤ κ (d c)) : Srt κ (upTo d a n) a b := by
  intro i j i1 ij j1; rw [upTo_at, upTo_at]
  by_cases hi : a ≤ i ∧ i < a + n
  · rw [if_pos hi]
    by_cases hj : a ≤ j ∧ j < a + n
    · rw [if_pos hj]; exact h _ _ (by omega) (by omega) (by omega)
    · rw [if_neg hj]
      by_cases hj2 : j = a + n
      · rw [if_pos hj2]; have := hlo (i + 1) (by omega) (by omega); omega
      · rw [if_neg hj2]; exact h _ _ (by omega) (by omega) (by omega)
  · rw [if_neg hi, if_neg (show ¬ (a ≤ j ∧ j < a + n) by omega)]
    by_cases hi2 : i = a + n
    · rw [if_pos hi2]
      by_cases hj2 : j = a + n
      · rw [if_pos hj2]; exact Int.le_refl _
      · rw [if_neg hj2]; exact hhi j (by omega) j1
    · rw [if_neg hi2, if_neg (by omega)]; exact h _ _ (by omega) ij j1
def dnTo (d : Nat → α) (m : Nat) : Nat → Nat → α
  | 0 => d
  | n+1 => swp (dnTo d m n) (m - n) (m - n - 1)
theorem dnTo_pm {lo hi : Nat} (d : Nat → α) (m : Nat) : ∀ n, lo + n ≤ m → m < hi → Pm lo hi d (dnTo d m n)
  | 0, _, _ => .refl
  | n+1, h1, h2 => .step _ _ (dnTo_pm d m n (by omega) h2) (by omega) (by omega) (by omega) (by omega)
theorem dnTo_at (d : Nat → α) (m : Nat) : ∀ n, n ≤ m → ∀ k, dnTo d m n k = if m - n < k ∧ k ≤ m then d (k - 1) else if k = m - n then d m else d k
  | 0, _, k => by
    rw [dnTo, if_neg (by omega)]
    split
    · congr 1
    · rfl
  | n+1, hn, k => by
    have ih := dnTo_at d m n (by omega); unfold dnTo swp
    by_cases h1 : k = m - n
    · rw [if_pos h1, ih, if_neg (by omega), if_neg (by omega), if_pos (by omega)]; congr 1; omega
    · rw [if_neg h1]
      by_cases h2 : k = m - n - 1
      · rw [if_pos h2, ih, if_neg (by omega), if_pos rfl, if_neg (by omega), if_pos (by omega)]
      · rw [if_neg h2, ih]
        by_cases h3 : m - n < k ∧ k ≤ m
        · rw [if_pos h3, if_pos (by omega)]
        · rw [if_neg h3, if_neg h1, if_neg (by omega), if_neg (by omega)]
theorem dnTo_srt {κ : α → Int} {d : Nat → α} {a m n : Nat} (h : Srt κ d a m) (hn : a + n ≤ m) (hlo : ∀ c, a ≤ c → c < m - n → κ (d c) ≤ κ (d m)) (hhi : ∀ c, m - n ≤ c → c < m → κ (d m) < κ (d c)) : Srt κ (dnTo d m n) a (m + 1) := by
  intro i j i1 ij j1; rw [dnTo_at d m n (by omega), dnTo_at d m n (by omega)]
  by_cases hi : m - n < i ∧ i ≤ m
  · rw [if_pos hi, if_pos (by omega)]; exact h _ _ (by omega) (by omega) (by omega)
  · rw [if_neg hi]
    by_cases hi2 : i = m - n
    · rw [if_pos hi2]
      by_cases hj : m - n < j ∧ j ≤ m
      · rw [if_pos hj]; have := hhi (j - 1) (by omega) (by omega); omega
      · rw [if_neg hj, if_pos (by omega)]; exact Int.le_refl _
    · rw [if_neg hi2]
      by_cases hj : m - n < j ∧ j ≤ m
      · rw [if_pos hj]; exact h _ _ i1 (by omega) (by omega)
      · rw [if_neg hj]
        by_cases hj2 : j = m - n
        · rw [if_pos hj2]; exact hlo i i1 (by omega)
        · rw [if_neg hj2]; exact h _ _ i1 ij (by omega)
def Bks (κ : α → Int) (d : Nat → α) (n s lo : Nat) : Prop := ∀ v, lo + v * s < n → Srt κ d (lo + v * s) (min (lo + v * s + s) n)
theorem Bks.next {κ : α → Int} {d : Nat → α} {n s lo : Nat} (h : Bks κ d n s lo) : Bks κ d n s (lo + s) := fun v hv => by
  have := h (v + 1) (by rw [Nat.succ_mul]; omega); rw [Nat.succ_mul] at this; rw [show lo + s + v * s = lo + (v * s + s) by omega]; exact this
theorem Bks.at0 {κ : α → Int} {d : Nat → α} {n s lo : Nat} (h : Bks κ d n s lo) (hl : lo < n) : Srt κ d lo (min (lo + s) n) := by
  have := h 0 (by omega); simpa using this
theorem Bks.congr {κ : α → Int} {d e : Nat → α} {n s lo : Nat} (h : Bks κ d n s lo) (he : ∀ k, lo ≤ k → k < n → e k = d k) : Bks κ e n s lo := fun v hv => (h v hv).congr fun k k1 k2 => he k (by omega) (by omega)
theorem swp_perm (d : Nat → α) {n i j : Nat} (hi : i < n) (hj : j < n) : ((List.range n).map (swp d i j)).Perm ((List.range n).map d) := by
  rcases Nat.lt_trichotomy i j with h | h | h
  · exact key d h hj
  · subst h
    have : swp d i i = d := by
      funext k; unfold swp
      split
      · next h => rw [h]
      · rfl
    rw [this]
  · have : swp d i j = swp d j i := by
      funext k; unfold swp
      by_cases h1 : k = i
      · rw [if_pos h1]
        by_cases h2 : k = j
        · omega
        · rw [if_neg h2, if_pos h1]
      · rw [if_neg h1, if_neg h1]
    rw [this]; exact key d h hi
where
  key (d : Nat → α) {n i j : Nat} (h : i < j) (hj : j < n) : ((List.range n).map (swp d i j)).Perm ((List.range n).map d) := by
    have hr : List.range n = List.range' 0 i ++ (i :: (List.range' (i + 1) (j - i - 1) ++ (j :: List.range' (j + 1) (n - j - 1)))) := by
      rw [← List.range'_succ, show n - j - 1 + 1 = n - j by omega, show List.range' j (n - j) = List.range' (i + 1 + (j - i - 1)) (n - j) by rw [show i + 1 + (j - i - 1) = j by omega], List.range'_append_1, ← List.range'_succ,
        show List.range' i (j - i - 1 + (n - j) + 1) = List.range' (0 + i) (j - i - 1 + (n - j) + 1) by rw [Nat.zero_add], List.range'_append_1, show i + (j - i - 1 + (n - j) + 1) = n by omega, List.range_eq_range']
    rw [hr]; simp only [List.map_append, List.map_cons]; have far : ∀ k, k ≠ i → k ≠ j → swp d i j k = d k := fun k h1 h2 => by unfold swp; rw [if_neg h1, if_neg h2]
    have m1 : (List.range' 0 i).map (swp d i j) = (List.range' 0 i).map d := List.map_congr_left fun k hk => far k (by have := (List.mem_range'_1.1 hk).2; omega) (by have := (List.mem_range'_1.1 hk).2; omega)
    have m2 : (List.range' (i + 1) (j - i - 1)).map (swp d i j) = (List.range' (i + 1) (j - i - 1)).map d := List.map_congr_left fun k hk => far k (by have := (List.mem_range'_1.1 hk).1; omega) (by have := (List.mem_range'_1.1 hk).2; omega)
    have m3 : (List.range' (j + 1) (n - j - 1)).map (swp d i j) = (List.range' (j + 1) (n - j - 1)).map d := List.map_congr_left fun k hk => far k (by have := (List.mem_range'_1.1 hk).1; omega) (by have := (List.mem_range'_1.1 hk).1; omega)
    rw [m1, m2, m3, show swp d i j i = d j by unfold swp; rw [if_pos rfl], show swp d i j j = d i by unfold swp; rw [if_neg (by omega), if_pos rfl]]; refine List.Perm.append_left _ ?_; exact (List.perm_middle.cons _).trans ((List.Perm.swap _ _ _).trans (List.perm_middle.symm.cons _))
theorem Pm.perm {a n : Nat} {d e : Nat → α} (h : Pm a n d e) : ((List.range n).map e).Perm ((List.range n).map d) := by
  induction h with
  | refl => exact List.Perm.refl _
  | step i j _ h1 h2 h3 h4 ih => exact (swp_perm _ h2 h4).trans ih
end
end Go.Proofs.YtkjkbhkcebbjdaaGreatDoor
namespace Go.Proofs.YtkjkbhkcebbjdaaGreatDoor
set_option linter.unusedSimpArgs false
open Go.RowKit
set_option linter.unusedVariables false
abbrev PI := Int × Int
def PB (w : World) (g n : Nat) (d : Nat → PI) : Prop := ∃ (t : TypeId) (cs : Array Value), Blk w g t cs ∧ n * 2 ≤ cs.size ∧ ∀ j, j < n → cs[j * 2]? = some (.int .i64 (d j).1) ∧ cs[j * 2 + 1]? = some (.int .i64 (d j).2)
theorem PB.lt {w : World} {g n : Nat} {d : Nat → PI} (h : PB w g n d) : g < w.heap.size := by
  obtain ⟨t, cs, hB, _⟩ := h; exact hB.lt
theorem PB.cell {w : World} {g n : Nat} {d : Nat → PI} (h : PB w g n d) {j : Nat} (hj : j < n) : w.cell? ⟨g, j * 2, none⟩ = some (.int .i64 (d j).1) ∧ w.cell? ⟨g, j * 2 + 1, none⟩ = some (.int .i64 (d j).2) := by
  obtain ⟨t, cs, hB, _, hc⟩ := h; exact ⟨by rw [hB.cell, (hc j hj).1], by rw [hB.cell, (hc j hj).2]⟩
theorem PB.range {w : World} {g n : Nat} {d : Nat → PI} (h : PB w g n d) {j : Nat} (hj : j < n) : w.rangeAt g (j * 2) (#[.int .i64 (d j).1, .int .i64 (d j).2] : Array Value).toList := by
  obtain ⟨h1, h2⟩ := h.cell hj; intro i x hx; rcases i with _ | _ | i
  · simp at hx; subst hx; exact h1
  · simp at hx; subst hx; exact h2
  · simp at hx
theorem PB.mv {w w' : World} {b g n : Nat} {d : Nat → PI} (h : PB w b n d) (hm : Mv g w w') (hne : b ≠ g) : PB w' b n d := by
  obtain ⟨t, cs, hB, h1, h2⟩ := h; exact ⟨t, cs, hB.mv hm hne, h1, h2⟩
theorem PB.below {w w' : World} {B g n : Nat} {d : Nat → PI} (h : PB w g n d) (hb : Below B w w') (hg : g < B) : PB w' g n d := by
  obtain ⟨t, cs, hB, h1, h2⟩ := h; exact ⟨t, cs, hB.below hb hg, h1, h2⟩
theorem PB.congr {w : World} {g n : Nat} {d e : Nat → PI} (h : PB w g n d) (he : ∀ j, j < n → d j = e j) : PB w g n e := by
  obtain ⟨t, cs, hB, h1, h2⟩ := h; exact ⟨t, cs, hB, h1, fun j hj => by rw [← he j hj]; exact h2 j hj⟩
theorem PB.frozen {w : World} {g n : Nat} {d : Nat → PI} (h : PB w g n d) (j : Nat) : w.frozen? ⟨g, j, none⟩ = false := by
  obtain ⟨t, cs, hB, _⟩ := h; exact hB.frozen j
theorem PB.drewN {w : World} {g n : Nat} {d : Nat → PI} (h : PB w g n d) (k : Nat) : PB (w.drewN k) g n d := h
def upd2 (d : Nat → PI) (i : Nat) (p : PI) (k : Nat) : PI := if k = i then p else d k
theorem PB.set {w : World} {g n : Nat} {d : Nat → PI} (h : PB w g n d) {i : Nat} (hi : i < n) (x y : Int) : PB ((w.setCell ⟨g, i * 2, none⟩ (.int .i64 x)).setCell ⟨g, i * 2 + 1, none⟩ (.int .i64 y)) g n (upd2 d i (x, y)) := by
  obtain ⟨t, cs, hB, h1, h2⟩ := h; refine ⟨t, _, (hB.set_ (i * 2) _).set_ (i * 2 + 1) _, by simpa using h1, fun j hj => ?_⟩; unfold upd2
  by_cases hji : j = i
  · subst hji; rw [if_pos rfl]; refine ⟨?_, ?_⟩
    · rw [Array.getElem?_setIfInBounds_ne (by omega), Array.getElem?_setIfInBounds_self_of_lt (by omega)]
    · rw [Array.getElem?_setIfInBounds_self_of_lt (by simp; omega)]
  · rw [if_neg hji]; refine ⟨?_, ?_⟩
    · rw [Array.getElem?_setIfInBounds_ne (by omega), Array.getElem?_setIfInBounds_ne (by omega)]; exact (h2 j hj).1
    · rw [Array.getElem?_setIfInBounds_ne (by omega), Array.getElem?_setIfInBounds_ne (by omega)]; exact (h2 j hj).2
theorem PB.swap {w : World} {g n : Nat} {d : Nat → PI} (h : PB w g n d) {i j : Nat} (hi : i < n) (hj : j < n) {x y u v : Int} (hx : d i = (x, y)) (hu : d j = (u, v)) :
    PB ((((w.setCell ⟨g, i * 2, none⟩ (.int .i64 u)).setCell ⟨g, i * 2 + 1, none⟩ (.int .i64 v)).setCell ⟨g, j * 2, none⟩ (.int .i64 x)).setCell ⟨g, j * 2 + 1, none⟩ (.int .i64 y)) g n (swp d i j) := by
  refine ((h.set hi u v).set hj x y).congr fun k hk => ?_
  unfold upd2 swp
  by_cases h1 : k = j
  · rw [if_pos h1]
    by_cases h2 : k = i
    · rw [if_pos h2, ← hx, ← h2, h1]
    · rw [if_neg h2, if_pos h1, hx]
  · rw [if_neg h1, if_neg h1, hu]
theorem Mv.set4 (w : World) (g : Nat) (a b c e : Nat) (p q r s : Value) : Mv g w ((((w.setCell ⟨g, a, none⟩ p).setCell ⟨g, b, none⟩ q).setCell ⟨g, c, none⟩ r).setCell ⟨g, e, none⟩ s) :=
  Mv.trans (Mv.trans (Mv.trans (Mv.setCells w g a [p]) (Mv.setCells _ g b [q])) (Mv.setCells _ g c [r])) (Mv.setCells _ g e [s])
set_option maxHeartbeats 6400000 in
set_option maxRecDepth 100000 in
theorem swapR_any (g N cap a b n : Nat) (d : Nat → PI) (cmp : Value) (w : World) (h : PB w g N d) (hb : b + n ≤ N) (ha : a + n ≤ b) (hN : N ≤ 1000000) :
    Calls Tryz.prog 109 #[.slice (some ⟨g, 0, none⟩) N cap, .int .i64 a, .int .i64 b, .int .i64 n, cmp] w fun e w' => e = .returned (.tuple #[]) ∧ Mv g w w' ∧ PB w' g N (swr d a b n) := by
  have HP : Sl _ := ⟨h⟩; have HAB : Sl (b + n ≤ N ∧ a + n ≤ b ∧ N ≤ 1000000) := ⟨hb, ha, hN⟩; clear h hb ha hN; go_enter Tryz.func109, Tryz.ntmps109; go_wp2_with fail
  go_loopw [10] (fun s10 wr => ∃ (k : Nat), k ≤ n ∧ s10 = .int .i64 k ∧ Sl (Mv g w wr ∧ PB wr g N (swr d a b k))) (fun s10 _ => n - (RowKit.intOf s10).toNat)
  case atStart => exact ⟨0, Nat.zero_le _, rfl, ⟨Mv.refl _ _, HP.out⟩⟩
  case round =>
    obtain ⟨k, hk, rfl, HK⟩ := hrel; obtain ⟨hb, ha, hN⟩ := HAB.out
    by_cases hkn : k < n
    · have hkI : (k : Int) < (n : Int) := (by omega); obtain ⟨p, hp⟩ : ∃ p, a + k = p := ⟨_, rfl⟩; obtain ⟨q, hq⟩ : ∃ q, b + k = q := ⟨_, rfl⟩; have HPQ : Sl (a + k = p ∧ b + k = q) := ⟨hp, hq⟩; have hpI : (a : Int) + (k : Int) = (p : Int) := (by omega); have hqI : (b : Int) + (k : Int) = (q : Int) := (by omega); have hpN : p < N := (by omega); have hqN : q < N := (by omega); have hpN2 : (p : Int) < (N : Int) := (by omega); have hqN2 : (q : Int) < (N : Int) := (by omega); have hpw : IntKind.i64.wrap (p : Int) = (p : Int) := (by rw [IntKind.wrap_i64]; omega); have hqw : IntKind.i64.wrap (q : Int) = (q : Int) := (by rw [IntKind.wrap_i64]; omega); obtain ⟨cp1, cp2⟩ := HK.out.2.cell hpN; obtain ⟨cq1, cq2⟩ := HK.out.2.cell hqN; obtain ⟨P, hP⟩ : ∃ P, swr d a b k p = P := ⟨_, rfl⟩; obtain ⟨R, hR⟩ : ∃ R, swr d a b k q = R := ⟨_, rfl⟩; rw [hP] at cp1 cp2; rw [hR] at cq1 cq2; obtain ⟨x, y⟩ := P; obtain ⟨u, v⟩ := R; have HPR : Sl _ := ⟨And.intro hP hR⟩; have HNN : Sl (p < N ∧ q < N) := ⟨hpN, hqN⟩; have hne : p ≠ q := (by omega); have hk6 : k ≤ 1000000 := (by omega); have fp1 := HK.out.2.frozen (p * 2); have fp2 := HK.out.2.frozen (p * 2 + 1); have fq1 := HK.out.2.frozen (q * 2); have fq2 := HK.out.2.frozen (q * 2 + 1); simp only [] at cp1 cp2 cq1 cq2; clear hP hR hp hq hb ha hN; go_wp2_with fail
      go_region
      go_wp2_with fail; have hpb := HK.out.2.swap HNN.out.1 HNN.out.2 HPR.out.1 HPR.out.2; exact ⟨⟨k + 1, hkn, by go_num, ⟨Mv.trans HK.out.1 (Mv.trans (Mv.set4 _ _ _ _ _ _ _ _ _ _) (Mv.drew _ _)), by rw [swr, HPQ.out.1, HPQ.out.2]; exact hpb⟩⟩, by simp [RowKit.intOf]; omega⟩
    · obtain rfl : k = n := (by omega); go_wp2_with fail; go_end0; exact ⟨rfl, HK.out.1, HK.out.2⟩
end Go.Proofs.YtkjkbhkcebbjdaaGreatDoor
namespace Go.Proofs.YtkjkbhkcebbjdaaGreatDoor
set_option linter.unusedSimpArgs false
open Go.RowKit
set_option linter.unusedVariables false
def cnt1 (M : List Lw) (i : Nat) : Nat := M.countP fun x => decide (x.1 = i)
def lowF (l : List Int) (M : List Lw) (i : Nat) : Int := gt l i - 12 * (cnt1 M i : Int)
def fl1 (f : Nat → Int) (n : Nat) : List Int := (List.range n).map f
theorem fl1_frL (f : Nat → Int) (n : Nat) : (fl1 f n).map iv = frL n f := by unfold fl1 frL; rw [List.map_map]; rfl
end Go.Proofs.YtkjkbhkcebbjdaaGreatDoor
namespace Go.Proofs.YtkjkbhkcebbjdaaGreatDoor
set_option linter.unusedSimpArgs false
open Go.RowKit
set_option linter.unusedVariables false
theorem rot_pm {α : Type} {m : Nat} : ∀ (s i j : Nat) (d : Nat → α), i + j ≤ s → 0 < i → 0 < j → i ≤ m → Pm (m - i) (m + j) d (rot d (m - i) m (m + j))
  | 0, i, j, d, h, hi, hj, him => by omega
  | s+1, i, j, d, h, hi, hj, him => by
    rcases Nat.lt_trichotomy i j with hl | hl | hl
    · rw [← rot_right d him hl]; exact (swr_pm d _ _ i (Nat.le_refl _) (by omega) (by omega) (by omega)).trans ((rot_pm s i (j - i) _ (by omega) hi (by omega) him).mono (Nat.le_refl _) (by omega))
    · subst hl; rw [← rot_end d him]; exact swr_pm d _ _ i (Nat.le_refl _) (by omega) (by omega) (by omega)
    · rw [← rot_left d him hl]; exact (swr_pm d _ _ j (Nat.le_refl _) (by omega) (by omega) (by omega)).trans ((rot_pm s (i - j) j _ (by omega) (by omega) hj (by omega)).mono (by omega) (Nat.le_refl _))
set_option maxHeartbeats 6400000 in
set_option maxRecDepth 100000 in
theorem rotate_any (g N cap a m b : Nat) (d : Nat → PI) (cmp : Value) (w : World) (h : PB w g N d) (ha : a < m) (hm : m < b) (hb : b ≤ N) (hN : N ≤ 1000000) :
    Calls Tryz.prog 94 #[.slice (some ⟨g, 0, none⟩) N cap, .int .i64 a, .int .i64 m, .int .i64 b, cmp] w fun e w' => e = .returned (.tuple #[]) ∧ Mv g w w' ∧ PB w' g N (rot d a m b) := by
  have HP : Sl _ := ⟨h⟩; have HAB : Sl (a < m ∧ m < b ∧ b ≤ N ∧ N ≤ 1000000) := ⟨ha, hm, hb, hN⟩; have h1 : (m : Int) ≤ 1000000 := (by omega); have h2 : (b : Int) ≤ 1000000 := (by omega); have h3 : (a : Int) ≤ (m : Int) := (by omega); have h4 : (m : Int) ≤ (b : Int) := (by omega); obtain ⟨i0, hi0⟩ : ∃ i0, m - a = i0 := ⟨_, rfl⟩; obtain ⟨j0, hj0⟩ : ∃ j0, b - m = j0 := ⟨_, rfl⟩; have HIJ : Sl (m - a = i0 ∧ b - m = j0) := ⟨hi0, hj0⟩; have hi1 : (m : Int) - (a : Int) = (i0 : Int) := (by omega); have hj1 : (b : Int) - (m : Int) = (j0 : Int) := (by omega); have hi2 : IntKind.i64.wrap (i0 : Int) = (i0 : Int) := (by rw [IntKind.wrap_i64]; omega); have hj2 : IntKind.i64.wrap (j0 : Int) = (j0 : Int) := (by rw [IntKind.wrap_i64]; omega); clear h ha hm hb hN hi0 hj0; go_enter Tryz.func94, Tryz.ntmps94; go_wp2_with fail; clear hi1 hj1 hi2 hj2
  go_loopw [10, 11] (fun s10 s11 wr => ∃ (i j : Nat) (e : Nat → PI), 0 < i ∧ 0 < j ∧ i ≤ i0 ∧ j ≤ j0 ∧ s10 = .int .i64 i ∧ s11 = .int .i64 j ∧ Sl (Mv g w wr ∧ PB wr g N e ∧ rot e (m - i) m (m + j) = rot d a m b)) (fun s10 s11 _ => (RowKit.intOf s10).toNat + (RowKit.intOf s11).toNat)
  case atStart =>
    obtain ⟨ha, hm, hb, hN⟩ := HAB.out; have hij := HIJ.out; exact ⟨i0, j0, d, by omega, by omega, Nat.le_refl _, Nat.le_refl _, rfl, rfl, ⟨Mv.refl _ _, HP.out, by rw [show m - i0 = a by omega, show m + j0 = b by omega]⟩⟩
  case round =>
    obtain ⟨i, j, e, hi, hj, hii, hjj, rfl, rfl, HK⟩ := hrel; obtain ⟨ha, hm, hb, hN⟩ := HAB.out; have hij := HIJ.out; clear HP; obtain ⟨p, hp⟩ : ∃ p, m - i = p := ⟨_, rfl⟩; have HPP : Sl _ := ⟨hp⟩; have hpI : (m : Int) - (i : Int) = (p : Int) := (by omega); have hpw : IntKind.i64.wrap (p : Int) = (p : Int) := (by rw [IntKind.wrap_i64]; omega); have him : i ≤ m := (by omega); have hmj : m + j ≤ b := (by omega); rcases Nat.lt_trichotomy i j with hl | hl | hl
    · have hne : ((i : Int) != (j : Int)) = true := (by simp; omega); have hgt : decide ((j : Int) < (i : Int)) = false := decide_eq_false (by omega); obtain ⟨q, hq⟩ : ∃ q, m + j - i = q := ⟨_, rfl⟩; have hq0 : (m : Int) + (j : Int) ≤ 2000000 := (by omega); have hqI : (m : Int) + (j : Int) - (i : Int) = (q : Int) := (by omega); have hqw : IntKind.i64.wrap (q : Int) = (q : Int) := (by rw [IntKind.wrap_i64]; omega); obtain ⟨r, hr⟩ : ∃ r, j - i = r := ⟨_, rfl⟩; have hrI : (j : Int) - (i : Int) = (r : Int) := (by omega); have hrw : IntKind.i64.wrap (r : Int) = (r : Int) := (by rw [IntKind.wrap_i64]; omega); have HSW : Sl _ := ⟨swapR_any g N cap p q i e cmp wr HK.out.2.1 (by omega) (by omega) hN⟩; have HRT : Sl _ := ⟨rot_right e him hl⟩; have HBN : Sl (0 < r ∧ r ≤ j0 ∧ r < j) := ⟨by omega⟩; rw [hp, hq, hr] at HRT; have hkr := HK.out.2.2; rw [hp] at hkr; have HKR : Sl _ := ⟨hkr⟩; clear hkr hp hq hr ha hm hb hN hij him hmj; go_wp2_with fail; refine HSW.out.mono ?_; rintro ee w2 ⟨rfl, hm2, hp2⟩; have HW : Sl _ := ⟨And.intro hm2 hp2⟩; clear hm2 hp2 HSW; go_wp2_with fail; exact ⟨⟨i, r, _, hi, HBN.out.1, hii, HBN.out.2.1, rfl, rfl, ⟨Mv.trans HK.out.1 HW.out.1, HW.out.2, by rw [HPP.out, HRT.out]; exact HKR.out⟩⟩, by have := HBN.out.2.2; simp [RowKit.intOf]; omega⟩
    · subst hl; have hne : ((i : Int) != (i : Int)) = false := (by simp); have HSW : Sl _ := ⟨swapR_any g N cap p m i e cmp wr HK.out.2.1 (by omega) (by omega) hN⟩; have HRT : Sl _ := ⟨rot_end e him⟩; have hkr := HK.out.2.2; rw [hp] at HRT hkr; have HKR : Sl _ := ⟨hkr⟩; clear hkr hp ha hm hb hN hij him hmj; go_wp2_with fail; refine HSW.out.mono ?_; rintro ee w2 ⟨rfl, hm2, hp2⟩; have HW : Sl _ := ⟨And.intro hm2 hp2⟩; clear hm2 hp2 HSW; go_wp2_with fail; go_end0; exact ⟨rfl, Mv.trans HK.out.1 HW.out.1, by rw [← HKR.out, ← HRT.out]; exact HW.out.2⟩
    · have hne : ((i : Int) != (j : Int)) = true := (by simp; omega); have hgt : decide ((j : Int) < (i : Int)) = true := decide_eq_true (by omega); obtain ⟨r, hr⟩ : ∃ r, i - j = r := ⟨_, rfl⟩; have hrI : (i : Int) - (j : Int) = (r : Int) := (by omega); have hrw : IntKind.i64.wrap (r : Int) = (r : Int) := (by rw [IntKind.wrap_i64]; omega); have HSW : Sl _ := ⟨swapR_any g N cap p m j e cmp wr HK.out.2.1 (by omega) (by omega) hN⟩; have HRT : Sl _ := ⟨rot_left e him hl⟩; have HBN : Sl (0 < r ∧ r ≤ i0 ∧ r < i) := ⟨by omega⟩; rw [hr, hp] at HRT; have hkr := HK.out.2.2; rw [hp] at hkr; have HKR : Sl _ := ⟨hkr⟩; clear hkr hp hr ha hm hb hN hij him hmj; go_wp2_with fail; refine HSW.out.mono ?_; rintro ee w2 ⟨rfl, hm2, hp2⟩; have HW : Sl _ := ⟨And.intro hm2 hp2⟩; clear hm2 hp2 HSW; go_wp2_with fail; exact ⟨⟨r, j, _, HBN.out.1, hj, HBN.out.2.1, hjj, rfl, rfl, ⟨Mv.trans HK.out.1 HW.out.1, HW.out.2, by rw [HRT.out]; exact HKR.out⟩⟩, by have := HBN.out.2.2; simp [RowKit.intOf]; omega⟩
end Go.Proofs.YtkjkbhkcebbjdaaGreatDoor
namespace Go.Proofs.YtkjkbhkcebbjdaaGreatDoor
set_option linter.unusedSimpArgs false
open Go.RowKit
set_option linter.unusedVariables false
def due (p : PI) : Int := p.2
def KeyAt (w : World) (gf : Nat) : Prop := Blk w gf 75 #[.func (.func 35) #[] #[]]
set_option maxHeartbeats 12800000 in
set_option maxRecDepth 100000 in
theorem insSort_any (g gf N cap a b : Nat) (d : Nat → PI) (w : World) (h : PB w g N d) (hf : KeyAt w gf) (hne : gf ≠ g) (hab : a ≤ b) (hb : b ≤ N) (hN : N ≤ 1000000) :
    Calls Tryz.prog 82 #[.slice (some ⟨g, 0, none⟩) N cap, .int .i64 a, .int .i64 b, .func (.func 54) #[] #[.pointer (some ⟨gf, 0, none⟩)]] w fun e w' => e = .returned (.tuple #[]) ∧ Mv g w w' ∧ ∃ d', PB w' g N d' ∧ Pm a b d d' ∧ Srt due d' a b := by
  have hrun : ∀ (args : Array Value) (w : World), (callFunc 54 args).run Tryz.prog w = .ok (.enter 54 args) w := fun a w => by go_simp
  have HP : Sl _ := ⟨h⟩; have HF : Sl _ := ⟨hf⟩; have HAB : Sl (a ≤ b ∧ b ≤ N ∧ N ≤ 1000000 ∧ gf ≠ g) := ⟨hab, hb, hN, hne⟩; have hw0 : IntKind.i64.wrap 0 = 0 := (by decide); have h1 : (b : Int) ≤ 1000000 := (by omega); have h2 : (a : Int) ≤ (b : Int) := (by omega); clear h hf hab hb hN hne; go_enter Tryz.func82, Tryz.ntmps82; go_wp2_with fail
  go_loopw [8] (fun s8 wr => ∃ (m : Nat) (e : Nat → PI), a + 1 ≤ m ∧ (m ≤ b ∨ m = a + 1) ∧ s8 = .int .i64 m ∧ Sl (Mv g w wr ∧ PB wr g N e ∧ Pm a b d e ∧ Srt due e a m)) (fun s8 _ => b - (RowKit.intOf s8).toNat)
  case atStart => exact ⟨a + 1, d, Nat.le_refl _, .inr rfl, by go_num, ⟨Mv.refl _ _, HP.out, .refl, .one (Nat.le_refl _)⟩⟩
  case round =>
    clear HP; obtain ⟨m, e, ham, hmb, rfl, HK⟩ := hrel
    by_cases hm : m < b
    · have hmI : (m : Int) < (b : Int) := (by omega); go_wp2_with fail
      go_loopw [9] (fun s9 wq => ∃ (j : Nat) (f : Nat → PI), a ≤ j ∧ j ≤ m ∧ s9 = .int .i64 j ∧ Sl (Mv g w wq ∧ PB wq g N f ∧ Pm a b d f ∧ Hole due f a m j)) (fun s9 _ => (RowKit.intOf s9).toNat)
      case atStart => exact ⟨m, e, by omega, Nat.le_refl _, rfl, ⟨HK.out.1, HK.out.2.1, HK.out.2.2.1, .start HK.out.2.2.2⟩⟩
      case round =>
        clear HK; obtain ⟨j, f, haj, hjm, rfl, HK⟩ := hrel; obtain ⟨hab, hbN, hN, hne⟩ := HAB.out
        by_cases hja : j = a
        · subst hja; have hgt : decide ((j : Int) < (j : Int)) = false := decide_eq_false (by omega); have HDN : Sl (Srt due f j (m + 1)) := ⟨HK.out.2.2.2.done (.inl rfl)⟩; have HQ : Sl (Mv g w wr.drew ∧ PB wr.drew g N f ∧ Pm j b d f) := ⟨Mv.trans HK.out.1 (Mv.drew _ _), HK.out.2.1.drewN 1, HK.out.2.2.1⟩; have hmN : (m : Int) ≤ 1000000 := (by omega); clear HK; go_wp2_with fail; have hm : Mv wr.heap.size wr wr.drew := Mv.drew _ _; have HSW : Sl (RowKit.Below wr.heap.size wr wr.drew) := ⟨below_drewN (Below.refl _ _) 1⟩; refine wp_region_held_drew (S := fun w' => Mv wr.heap.size wr w') (by kernel_rfl) hm (fun hHeld => ?_); clear hm; refine wpAnyH_pure 0 (v := .int .i64 (j : Int)) rfl (by kernel_rfl) (by kernel_rfl) (by kernel_rfl) (fun _ _ _ h => h) rfl (fun _ => rfl) (by assumption) ?_; simp only [Act.put, sS0, sS1, sS2]; refine wpAnyH_pure 1 (v := .int .i64 (j : Int)) rfl (by kernel_rfl) (by kernel_rfl) (by kernel_rfl) (fun _ _ _ h => h) rfl (fun _ => rfl) (by assumption) ?_; simp only [Act.put, sS0, sS1, sS2]; refine wpAnyH_pure 2 (v := .bool false) rfl (by kernel_rfl) (by kernel_rfl) (by kernel_rfl) (fun _ _ _ h => h) rfl (fun _ => by go_simp) (by assumption) ?_; simp only [Act.put, sS0, sS1, sS2]; refine wpAnyH_pure 3 (v := .bool false) rfl (by kernel_rfl) (by kernel_rfl) (by kernel_rfl) (fun _ _ _ h => h) rfl (fun _ => rfl) (by assumption) ?_; simp only [Act.put, sS0, sS1, sS2]; refine wpAnyH_no 4 rfl (by kernel_rfl) (by kernel_rfl) (by kernel_rfl) (fun _ _ _ h => h) (by rfl) (by assumption) ?_; simp only [Act.put, sS0, sS1, sS2]; refine wpAnyH_no 5 rfl (by kernel_rfl) (by kernel_rfl) (by kernel_rfl) (fun _ _ _ h => h) (by rfl) (by assumption) ?_; simp only [Act.put, sS0, sS1, sS2]; refine wpAnyH_no 6 rfl (by kernel_rfl) (by kernel_rfl) (by kernel_rfl) (fun _ _ _ h => h) (by rfl) (by assumption) ?_; simp only [Act.put, sS0, sS1, sS2]; refine wpAnyH_no 7 rfl (by kernel_rfl) (by kernel_rfl) (by kernel_rfl) (fun _ _ _ h => h) (by rfl) (by assumption) ?_; simp only [Act.put, sS0, sS1, sS2]; refine wpAnyH_no 8 rfl (by kernel_rfl) (by kernel_rfl) (by kernel_rfl) (fun _ _ _ h => h) (by rfl) (by assumption) ?_; simp only [Act.put, sS0, sS1, sS2]; refine wpAnyH_no 9 rfl (by kernel_rfl) (by kernel_rfl) (by kernel_rfl) (fun _ _ _ h => h) (by rfl) (by assumption) ?_; simp only [Act.put, sS0, sS1, sS2]; refine wpAnyH_no 10 rfl (by kernel_rfl) (by kernel_rfl) (by kernel_rfl) (fun _ _ _ h => h) (by rfl) (by assumption) ?_; simp only [Act.put, sS0, sS1, sS2]; refine wpAnyH_no 11 rfl (by kernel_rfl) (by kernel_rfl) (by kernel_rfl) (fun _ _ _ h => h) (by rfl) (by assumption) ?_; simp only [Act.put, sS0, sS1, sS2]; refine wpAnyH_no 12 rfl (by kernel_rfl) (by kernel_rfl) (by kernel_rfl) (fun _ _ _ h => h) (by rfl) (by assumption) ?_; simp only [Act.put, sS0, sS1, sS2]; refine wpAnyH_no 13 rfl (by kernel_rfl) (by kernel_rfl) (by kernel_rfl) (fun _ _ _ h => h) (by rfl) (by assumption) ?_; simp only [Act.put, sS0, sS1, sS2]
          refine wpAnyH_no 14 rfl (by kernel_rfl) (by kernel_rfl) (by kernel_rfl) (fun _ _ _ h => h) (by rfl) (by assumption) ?_; simp only [Act.put, sS0, sS1, sS2]; refine wpAnyH_no 15 rfl (by kernel_rfl) (by kernel_rfl) (by kernel_rfl) (fun _ _ _ h => h) (by rfl) (by assumption) ?_; simp only [Act.put, sS0, sS1, sS2]; refine wpAnyH_pure 16 (v := .bool false) rfl (by kernel_rfl) (by kernel_rfl) (by kernel_rfl) (fun _ _ _ h => h) rfl (fun _ => by go_simp) (by assumption) ?_; simp only [Act.put, sS0, sS1, sS2]; refine wpAnyH_done (by kernel_rfl) ?_ _; clear hHeld; go_wp2_with fail; exact ⟨⟨m + 1, f, by omega, .inl hm, by go_num, ⟨HQ.out.1, HQ.out.2.1, HQ.out.2.2, HDN.out⟩⟩, by simp [RowKit.intOf]; omega⟩
        · obtain ⟨i, hi⟩ : ∃ i, j = i + 1 := ⟨j - 1, by omega⟩; have hij : (j : Int) - 1 = (i : Int) := (by omega); have hjN : j < N := (by omega); have hiN : i < N := (by omega); have hjI : (j : Int) < (N : Int) := (by omega); have hiI : (i : Int) < (N : Int) := (by omega); have haI : (a : Int) < (j : Int) := (by omega); have hjb : (j : Int) ≤ 1000000 := (by omega); have hiw : IntKind.i64.wrap (i : Int) = (i : Int) := (by rw [IntKind.wrap_i64]; omega); have hgt : decide ((a : Int) < (j : Int)) = true := decide_eq_true haI; obtain ⟨p, hp⟩ : ∃ p, f j = p := ⟨_, rfl⟩; obtain ⟨q, hq⟩ : ∃ q, f i = q := ⟨_, rfl⟩; obtain ⟨x, y⟩ := p; obtain ⟨u, v⟩ := q; have HPQ : Sl (f j = (x, y) ∧ f i = (u, v)) := ⟨hp, hq⟩; have HIJ : Sl (j = i + 1 ∧ a ≤ i ∧ j < N ∧ i < N) := ⟨hi, by omega, hjN, hiN⟩
          have HRA : Sl ((∀ w' : World, Mv wr.heap.size wr w' → w'.rangeAt g (j * 2) (#[.int .i64 x, .int .i64 y] : Array Value).toList) ∧ (∀ w' : World, Mv wr.heap.size wr w' → w'.rangeAt g (i * 2) (#[.int .i64 u, .int .i64 v] : Array Value).toList)) := ⟨by
            refine ⟨fun w' hm' => ?_, fun w' hm' => ?_⟩
            · have := (HK.out.2.1.mv hm' (by have := HK.out.2.1.lt; omega)).range hjN; rw [hp] at this; exact this
            · have := (HK.out.2.1.mv hm' (by have := HK.out.2.1.lt; omega)).range hiN
              rw [hq] at this; exact this⟩
          obtain ⟨c, hc⟩ : ∃ c, Lib.compareInt y v = c := ⟨_, rfl⟩; have HCC : Sl (c < 0 ↔ y < v) := ⟨by rw [← hc]; exact cmpi_lt y v⟩
          have HCM : Sl (∀ (W : World), RowKit.Below wr.heap.size wr W → Calls Tryz.prog 54 #[.agg #[.int .i64 x, .int .i64 y], .agg #[.int .i64 u, .int .i64 v], .pointer (some ⟨gf, 0, none⟩)] W fun e w' => e = .returned (.int .i64 c) ∧ RowKit.Below wr.heap.size wr w') := ⟨fun W hW => by
            have hk1 : Blk wr gf _ _ := HF.out.mv HK.out.1 hne; have := by1_any gf x y u v W (hk1.below hW hk1.lt); rw [hc] at this
            exact this.mono fun e w' g => ⟨g.1, hW.trans (g.2.mono hW.size)⟩⟩
          clear hc hp hq hja hi hab hbN hN hne
          by_cases hlt : y < v
          · have hcd : decide (c < 0) = true := decide_eq_true (HCC.out.2 hlt); have HLT : Sl _ := ⟨hlt⟩; clear hlt; go_wp2_with fail; have hm : Mv wr.heap.size wr wr.drew := Mv.drew _ _; have HSW : Sl (RowKit.Below wr.heap.size wr wr.drew) := ⟨below_drewN (Below.refl _ _) 1⟩; refine wp_region_held_drew (S := fun w' => Mv wr.heap.size wr w') (by kernel_rfl) hm (fun hHeld => ?_); clear hm; refine wpAnyH_pure 0 (v := .int .i64 (j : Int)) rfl (by kernel_rfl) (by kernel_rfl) (by kernel_rfl) (fun _ _ _ h => h) rfl (fun _ => rfl) (by assumption) ?_; simp only [Act.put, sS0, sS1, sS2]; refine wpAnyH_pure 1 (v := .int .i64 (a : Int)) rfl (by kernel_rfl) (by kernel_rfl) (by kernel_rfl) (fun _ _ _ h => h) rfl (fun _ => rfl) (by assumption) ?_; simp only [Act.put, sS0, sS1, sS2]; refine wpAnyH_pure 2 (v := .bool true) rfl (by kernel_rfl) (by kernel_rfl) (by kernel_rfl) (fun _ _ _ h => h) rfl (fun _ => by go_simp) (by assumption) ?_; simp only [Act.put, sS0, sS1, sS2]; refine wpAnyH_pure 3 (v := .bool true) rfl (by kernel_rfl) (by kernel_rfl) (by kernel_rfl) (fun _ _ _ h => h) rfl (fun _ => rfl) (by assumption) ?_; simp only [Act.put, sS0, sS1, sS2]; refine wpAnyH_pureg 4 (v := .func (.func 54) #[] #[.pointer (some ⟨gf, 0, none⟩)]) rfl (by kernel_rfl) (by kernel_rfl) (by kernel_rfl) (fun _ _ _ h => h) (by rfl) (fun _ => rfl) (by assumption) ?_; simp only [Act.put, sS0, sS1, sS2]; refine wpAnyH_pureg 5 (v := .slice (some ⟨g, 0, none⟩) N cap) rfl (by kernel_rfl) (by kernel_rfl) (by kernel_rfl) (fun _ _ _ h => h) (by rfl) (fun _ => rfl) (by assumption) ?_; simp only [Act.put, sS0, sS1, sS2]; refine wpAnyH_pureg 6 (v := .int .i64 (j : Int)) rfl (by kernel_rfl) (by kernel_rfl) (by kernel_rfl) (fun _ _ _ h => h) (by rfl) (fun _ => rfl) (by assumption) ?_; simp only [Act.put, sS0, sS1, sS2]; refine wpAnyH_pureg 7 (v := .pointer (some ⟨g, j * 2, none⟩)) rfl (by kernel_rfl) (by kernel_rfl) (by kernel_rfl) (fun _ _ _ h => h) (by rfl) (fun _ => by go_simp) (by assumption) ?_; simp only [Act.put, sS0, sS1, sS2]; refine wpAnyH_loadg 8 73 (.tmp 25) rfl rfl (by rfl) g (j * 2) rfl (#[.int .i64 x, .int .i64 y]) _ (fun w' h => HRA.out.1 w' h) Tryz.underlying73 rfl size_low (by kernel_rfl) (by kernel_rfl) (by kernel_rfl) (fun _ _ _ h => h) (by assumption) ?_; simp only [Act.put, sS0, sS1, sS2]; refine wpAnyH_pureg 9 (v := .slice (some ⟨g, 0, none⟩) N cap) rfl (by kernel_rfl) (by kernel_rfl) (by kernel_rfl) (fun _ _ _ h => h) (by rfl) (fun _ => rfl) (by assumption) ?_; simp only [Act.put, sS0, sS1, sS2]; refine wpAnyH_pureg 10 (v := .int .i64 (j : Int)) rfl (by kernel_rfl) (by kernel_rfl) (by kernel_rfl) (fun _ _ _ h => h) (by rfl) (fun _ => rfl) (by assumption) ?_; simp only [Act.put, sS0, sS1, sS2]; refine wpAnyH_pureg 11 (v := .int .i64 (i : Int)) rfl (by kernel_rfl) (by kernel_rfl) (by kernel_rfl) (fun _ _ _ h => h) (by rfl) (fun _ => by go_simp) (by assumption) ?_; simp only [Act.put, sS0, sS1, sS2]
            refine wpAnyH_pureg 12 (v := .pointer (some ⟨g, i * 2, none⟩)) rfl (by kernel_rfl) (by kernel_rfl) (by kernel_rfl) (fun _ _ _ h => h) (by rfl) (fun _ => by go_simp) (by assumption) ?_; simp only [Act.put, sS0, sS1, sS2]; refine wpAnyH_loadg 13 73 (.tmp 30) rfl rfl (by rfl) g (i * 2) rfl (#[.int .i64 u, .int .i64 v]) _ (fun w' h => HRA.out.2 w' h) Tryz.underlying73 rfl size_low (by kernel_rfl) (by kernel_rfl) (by kernel_rfl) (fun _ _ _ h => h) (by assumption) ?_; simp only [Act.put, sS0, sS1, sS2]; refine wpAnyH_onew 14 rfl (by kernel_rfl) (by rfl) (fun K hK => ?_); go_simp; go_at_call 54
            (with_reducible refine (HCM.out _ HSW.out).mono ?_)
            rintro ee w2 ⟨rfl, hb⟩; replace HSW : Sl (RowKit.Below wr.heap.size wr w2) := ⟨hb⟩; refine hK.out _ _ (Mv.below HSW.out) (fun hHeld => ?_); clear hK K hb
            (try simp only [Act.put, sS0, sS1, sS2])
            refine wpAnyH_pureg 15 (v := .bool true) rfl (by kernel_rfl) (by kernel_rfl) (by kernel_rfl) (fun _ _ _ h => h) (by rfl) (fun _ => by go_simp) (by assumption) ?_; simp only [Act.put, sS0, sS1, sS2]; refine wpAnyH_pure 16 (v := .bool true) rfl (by kernel_rfl) (by kernel_rfl) (by kernel_rfl) (fun _ _ _ h => h) rfl (fun _ => by go_simp) (by assumption) ?_; simp only [Act.put, sS0, sS1, sS2]; refine wpAnyH_done (by kernel_rfl) ?_ _; clear hHeld; have HP2 : Sl (PB w2 g N f) := ⟨HK.out.2.1.below HSW.out HK.out.2.1.lt⟩; have HM2 : Sl (Mv g w w2) := ⟨Mv.trans HK.out.1 (Mv.below HSW.out)⟩
            have HHO : Sl (Hole due (swp f j i) a m i) := ⟨by
              have h := HK.out.2.2.2; obtain ⟨e1, e2, _, _⟩ := HIJ.out; subst e1
              exact h.move e2 hjm (by rw [HPQ.out.1, HPQ.out.2]; exact HLT.out)⟩
            have HPM : Sl (Pm a b d (swp f j i)) := ⟨by
              obtain ⟨e1, e2, _, _⟩ := HIJ.out
              exact .step j i HK.out.2.2.1 haj (by omega) e2 (by omega)⟩
            clear HK HRA HCM HSW; obtain ⟨cj1, cj2⟩ := HP2.out.cell hjN; obtain ⟨ci1, ci2⟩ := HP2.out.cell hiN; rw [HPQ.out.1] at cj1 cj2; rw [HPQ.out.2] at ci1 ci2; have fj1 := HP2.out.frozen (j * 2); have fj2 := HP2.out.frozen (j * 2 + 1); have fi1 := HP2.out.frozen (i * 2); have fi2 := HP2.out.frozen (i * 2 + 1); have hne2 : j ≠ i := (by have := HIJ.out; omega); simp only [] at cj1 cj2 ci1 ci2; clear hcd; go_wp2_with fail
            go_region
            go_wp2_with fail; have hpb := HP2.out.swap HIJ.out.2.2.1 HIJ.out.2.2.2 HPQ.out.1 HPQ.out.2; exact ⟨⟨i, _, HIJ.out.2.1, by omega, rfl, ⟨Mv.trans HM2.out (Mv.trans (Mv.set4 _ _ _ _ _ _ _ _ _ _) (Mv.drew _ _)), hpb, HPM.out, HHO.out⟩⟩, by simp [RowKit.intOf]; omega⟩
          · have hcd : decide (c < 0) = false := decide_eq_false (fun h => hlt (HCC.out.1 h)); have HDN : Sl (Srt due f a (m + 1)) := ⟨HK.out.2.2.2.done (.inr ⟨i, HIJ.out.1, HIJ.out.2.1, by rw [HPQ.out.1, HPQ.out.2]; exact hlt⟩)⟩; have hmN : (m : Int) ≤ 1000000 := (by omega); clear hlt; go_wp2_with fail; have hm : Mv wr.heap.size wr wr.drew := Mv.drew _ _; have HSW : Sl (RowKit.Below wr.heap.size wr wr.drew) := ⟨below_drewN (Below.refl _ _) 1⟩; refine wp_region_held_drew (S := fun w' => Mv wr.heap.size wr w') (by kernel_rfl) hm (fun hHeld => ?_); clear hm; refine wpAnyH_pure 0 (v := .int .i64 (j : Int)) rfl (by kernel_rfl) (by kernel_rfl) (by kernel_rfl) (fun _ _ _ h => h) rfl (fun _ => rfl) (by assumption) ?_; simp only [Act.put, sS0, sS1, sS2]; refine wpAnyH_pure 1 (v := .int .i64 (a : Int)) rfl (by kernel_rfl) (by kernel_rfl) (by kernel_rfl) (fun _ _ _ h => h) rfl (fun _ => rfl) (by assumption) ?_; simp only [Act.put, sS0, sS1, sS2]; refine wpAnyH_pure 2 (v := .bool true) rfl (by kernel_rfl) (by kernel_rfl) (by kernel_rfl) (fun _ _ _ h => h) rfl (fun _ => by go_simp) (by assumption) ?_; simp only [Act.put, sS0, sS1, sS2]; refine wpAnyH_pure 3 (v := .bool true) rfl (by kernel_rfl) (by kernel_rfl) (by kernel_rfl) (fun _ _ _ h => h) rfl (fun _ => rfl) (by assumption) ?_; simp only [Act.put, sS0, sS1, sS2]; refine wpAnyH_pureg 4 (v := .func (.func 54) #[] #[.pointer (some ⟨gf, 0, none⟩)]) rfl (by kernel_rfl) (by kernel_rfl) (by kernel_rfl) (fun _ _ _ h => h) (by rfl) (fun _ => rfl) (by assumption) ?_; simp only [Act.put, sS0, sS1, sS2]; refine wpAnyH_pureg 5 (v := .slice (some ⟨g, 0, none⟩) N cap) rfl (by kernel_rfl) (by kernel_rfl) (by kernel_rfl) (fun _ _ _ h => h) (by rfl) (fun _ => rfl) (by assumption) ?_; simp only [Act.put, sS0, sS1, sS2]; refine wpAnyH_pureg 6 (v := .int .i64 (j : Int)) rfl (by kernel_rfl) (by kernel_rfl) (by kernel_rfl) (fun _ _ _ h => h) (by rfl) (fun _ => rfl) (by assumption) ?_; simp only [Act.put, sS0, sS1, sS2]; refine wpAnyH_pureg 7 (v := .pointer (some ⟨g, j * 2, none⟩)) rfl (by kernel_rfl) (by kernel_rfl) (by kernel_rfl) (fun _ _ _ h => h) (by rfl) (fun _ => by go_simp) (by assumption) ?_; simp only [Act.put, sS0, sS1, sS2]; refine wpAnyH_loadg 8 73 (.tmp 25) rfl rfl (by rfl) g (j * 2) rfl (#[.int .i64 x, .int .i64 y]) _ (fun w' h => HRA.out.1 w' h) Tryz.underlying73 rfl size_low (by kernel_rfl) (by kernel_rfl) (by kernel_rfl) (fun _ _ _ h => h) (by assumption) ?_; simp only [Act.put, sS0, sS1, sS2]; refine wpAnyH_pureg 9 (v := .slice (some ⟨g, 0, none⟩) N cap) rfl (by kernel_rfl) (by kernel_rfl) (by kernel_rfl) (fun _ _ _ h => h) (by rfl) (fun _ => rfl) (by assumption) ?_; simp only [Act.put, sS0, sS1, sS2]; refine wpAnyH_pureg 10 (v := .int .i64 (j : Int)) rfl (by kernel_rfl) (by kernel_rfl) (by kernel_rfl) (fun _ _ _ h => h) (by rfl) (fun _ => rfl) (by assumption) ?_; simp only [Act.put, sS0, sS1, sS2]
            refine wpAnyH_pureg 11 (v := .int .i64 (i : Int)) rfl (by kernel_rfl) (by kernel_rfl) (by kernel_rfl) (fun _ _ _ h => h) (by rfl) (fun _ => by go_simp) (by assumption) ?_; simp only [Act.put, sS0, sS1, sS2]; refine wpAnyH_pureg 12 (v := .pointer (some ⟨g, i * 2, none⟩)) rfl (by kernel_rfl) (by kernel_rfl) (by kernel_rfl) (fun _ _ _ h => h) (by rfl) (fun _ => by go_simp) (by assumption) ?_; simp only [Act.put, sS0, sS1, sS2]; refine wpAnyH_loadg 13 73 (.tmp 30) rfl rfl (by rfl) g (i * 2) rfl (#[.int .i64 u, .int .i64 v]) _ (fun w' h => HRA.out.2 w' h) Tryz.underlying73 rfl size_low (by kernel_rfl) (by kernel_rfl) (by kernel_rfl) (fun _ _ _ h => h) (by assumption) ?_; simp only [Act.put, sS0, sS1, sS2]; refine wpAnyH_onew 14 rfl (by kernel_rfl) (by rfl) (fun K hK => ?_); go_simp; go_at_call 54
            (with_reducible refine (HCM.out _ HSW.out).mono ?_)
            rintro ee w2 ⟨rfl, hb⟩; replace HSW : Sl (RowKit.Below wr.heap.size wr w2) := ⟨hb⟩; refine hK.out _ _ (Mv.below HSW.out) (fun hHeld => ?_); clear hK K hb
            (try simp only [Act.put, sS0, sS1, sS2])
            refine wpAnyH_pureg 15 (v := .bool false) rfl (by kernel_rfl) (by kernel_rfl) (by kernel_rfl) (fun _ _ _ h => h) (by rfl) (fun _ => by go_simp) (by assumption) ?_; simp only [Act.put, sS0, sS1, sS2]; refine wpAnyH_pure 16 (v := .bool false) rfl (by kernel_rfl) (by kernel_rfl) (by kernel_rfl) (fun _ _ _ h => h) rfl (fun _ => by go_simp) (by assumption) ?_; simp only [Act.put, sS0, sS1, sS2]; refine wpAnyH_done (by kernel_rfl) ?_ _; clear hHeld; have HQ : Sl (Mv g w w2 ∧ PB w2 g N f ∧ Pm a b d f) := ⟨Mv.trans HK.out.1 (Mv.below HSW.out), HK.out.2.1.below HSW.out HK.out.2.1.lt, HK.out.2.2.1⟩; clear HK HRA HCM HSW hcd; go_wp2_with fail; exact ⟨⟨m + 1, f, by omega, .inl hm, by go_num, ⟨HQ.out.1, HQ.out.2.1, HQ.out.2.2, HDN.out⟩⟩, by simp [RowKit.intOf]; omega⟩
    · have HE : Sl (Srt due e a b) := ⟨HK.out.2.2.2.sub (Nat.le_refl _) (by omega)⟩; have hmI : ¬ (m : Int) < (b : Int) := (by omega); have hmd : decide ((m : Int) < (b : Int)) = false := decide_eq_false hmI; go_wp2_with fail; go_end0; exact ⟨rfl, HK.out.1, e, HK.out.2.1, HK.out.2.2.1, HE.out⟩
end Go.Proofs.YtkjkbhkcebbjdaaGreatDoor
namespace Go.Proofs.YtkjkbhkcebbjdaaGreatDoor
set_option linter.unusedSimpArgs false
open Go.RowKit
set_option linter.unusedVariables false
set_option maxHeartbeats 12800000 in
set_option maxRecDepth 100000 in
theorem smLeft_any (g gf N cap a m b : Nat) (d : Nat → PI) (w : World) (h : PB w g N d) (hf : KeyAt w gf) (hne : gf ≠ g) (ham : a < m) (hmb : m < b) (hb : b ≤ N) (hN : N ≤ 1000000) (hs1 : Srt due d a m) (hs2 : Srt due d m b) (h1 : m = a + 1) :
    Calls Tryz.prog 83 #[.slice (some ⟨g, 0, none⟩) N cap, .int .i64 a, .int .i64 m, .int .i64 b, .func (.func 54) #[] #[.pointer (some ⟨gf, 0, none⟩)]] w fun e w' => e = .returned (.tuple #[]) ∧ Mv g w w' ∧ ∃ d', PB w' g N d' ∧ Pm a b d d' ∧ Srt due d' a b := by
  have hrun : ∀ (args : Array Value) (w : World), (callFunc 54 args).run Tryz.prog w = .ok (.enter 54 args) w := fun a w => by go_simp
  have HP : Sl _ := ⟨h⟩; have HF : Sl _ := ⟨hf⟩; have HAB : Sl (a < m ∧ m < b ∧ b ≤ N ∧ N ≤ 1000000 ∧ gf ≠ g) := ⟨ham, hmb, hb, hN, hne⟩; have HS : Sl _ := ⟨And.intro hs1 hs2⟩; have hb6 : (b : Int) ≤ 1000000 := (by omega); have hbN : (b : Int) ≤ (N : Int) := (by omega); have hab0 : (a : Int) < (m : Int) := (by omega); have hmb0 : (m : Int) < (b : Int) := (by omega); have hma : (m : Int) - (a : Int) = 1 := (by omega); have H1 : Sl (m = a + 1) := ⟨h1⟩; clear h1; clear h hf hne ham hmb hb hN hs1 hs2; go_enter Tryz.func83, Tryz.ntmps83; go_wp2_with fail; clear hma
  go_loopw [10, 11, 12] (fun s10 s11 s12 wr => ∃ (i j : Nat) (v12 : Value), s10 = .int .i64 i ∧ s11 = .int .i64 j ∧ s12 = v12 ∧ m ≤ i ∧ i ≤ j ∧ j ≤ b ∧ Sl (Mv g w wr ∧ PB wr g N d) ∧ Sl ((∀ c, m ≤ c → c < i → due (d c) < due (d a)) ∧ (∀ c, j ≤ c → c < b → due (d a) ≤ due (d c)))) (fun s10 s11 _ _ => (RowKit.intOf s11 - RowKit.intOf s10).toNat)
  case atStart => exact ⟨m, b, _, rfl, rfl, rfl, Nat.le_refl _, Nat.le_of_lt HAB.out.2.1, Nat.le_refl _, ⟨Mv.refl _ _, HP.out⟩, ⟨fun c h1 h2 => by omega, fun c h1 h2 => by omega⟩⟩
  case round =>
    clear HP; obtain ⟨i, j, v12, rfl, rfl, rfl, hmi, hij, hjb, HW, HC⟩ := hrel; obtain ⟨ham, hmb, hbN', hN, hne⟩ := HAB.out
    by_cases hlt : i < j
    · obtain ⟨h, hh⟩ : ∃ h, (i + j) / 2 = h := ⟨_, rfl⟩; have hhi : i ≤ h ∧ h < j := (by omega); have hhI : ((i : Int) + (j : Int)) / 2 = (h : Int) := (by omega); have hltI : (i : Int) < (j : Int) := (by omega); have hj6 : (j : Int) ≤ 1000000 := (by omega); have hhN : (h : Int) < (N : Int) := (by omega); have haN : (a : Int) < (N : Int) := (by omega); have hhN' : h < N := (by omega); have haN' : a < N := (by omega); have hh6 : (h : Int) ≤ 1000000 := (by omega); obtain ⟨p1, hp⟩ : ∃ p, d h = p := ⟨_, rfl⟩; obtain ⟨q1, hq⟩ : ∃ q, d a = q := ⟨_, rfl⟩; obtain ⟨x, y⟩ := p1; obtain ⟨u, v⟩ := q1; have HPQ : Sl (d h = (x, y) ∧ d a = (u, v)) := ⟨hp, hq⟩
      have HRA : Sl ((∀ w' : World, Mv wr.heap.size wr w' → w'.rangeAt g (h * 2) (#[.int .i64 x, .int .i64 y] : Array Value).toList) ∧ (∀ w' : World, Mv wr.heap.size wr w' → w'.rangeAt g (a * 2) (#[.int .i64 u, .int .i64 v] : Array Value).toList)) := ⟨by
        refine ⟨fun w' hm' => ?_, fun w' hm' => ?_⟩
        · have := (HW.out.2.mv hm' (by have := HW.out.2.lt; omega)).range (j := h) (by omega); rw [hp] at this; exact this
        · have := (HW.out.2.mv hm' (by have := HW.out.2.lt; omega)).range (j := a) (by omega)
          rw [hq] at this; exact this⟩
      obtain ⟨c, hc⟩ : ∃ c, Lib.compareInt y v = c := ⟨_, rfl⟩; have HCC : Sl (c < 0 ↔ due (d h) < due (d a)) := ⟨by rw [← hc, hp, hq]; exact cmpi_lt y v⟩
      have HCM : Sl (∀ (W : World), RowKit.Below wr.heap.size wr W → Calls Tryz.prog 54 #[.agg #[.int .i64 x, .int .i64 y], .agg #[.int .i64 u, .int .i64 v], .pointer (some ⟨gf, 0, none⟩)] W fun e w' => e = .returned (.int .i64 c) ∧ RowKit.Below wr.heap.size wr w') := ⟨fun W hW => by
        have hk1 : Blk wr gf _ _ := HF.out.mv HW.out.1 HAB.out.2.2.2.2; have := by1_any gf x y u v W (hk1.below hW hk1.lt); rw [hc] at this
        exact this.mono fun e w' g => ⟨g.1, hW.trans (g.2.mono hW.size)⟩⟩
      clear hc hp hq; clear hh hne ham hmb hbN' hN
      by_cases hyv : due (d h) < due (d a)
      · have hcd : decide (c < 0) = true := decide_eq_true (HCC.out.2 hyv); have HLT : Sl _ := ⟨hyv⟩; clear hyv; go_wp2_with fail; have hm : Mv wr.heap.size wr wr.drew := Mv.drew _ _; have HSW : Sl (RowKit.Below wr.heap.size wr wr.drew) := ⟨below_drewN (Below.refl _ _) 1⟩; refine wp_region_held_drew (S := fun w' => Mv wr.heap.size wr w') (by kernel_rfl) hm (fun hHeld => ?_); clear hm; refine wpAnyH_pure 0 (v := .func (.func 54) #[] #[.pointer (some ⟨gf, 0, none⟩)]) rfl (by kernel_rfl) (by kernel_rfl) (by kernel_rfl) (fun _ _ _ h => h) rfl (fun _ => rfl) (by assumption) ?_; simp only [Act.put, sS0, sS1, sS2]; refine wpAnyH_pure 1 (v := .slice (some ⟨g, 0, none⟩) N cap) rfl (by kernel_rfl) (by kernel_rfl) (by kernel_rfl) (fun _ _ _ h => h) rfl (fun _ => rfl) (by assumption) ?_; simp only [Act.put, sS0, sS1, sS2]; refine wpAnyH_pure 2 (v := .int .i64 (h : Int)) rfl (by kernel_rfl) (by kernel_rfl) (by kernel_rfl) (fun _ _ _ h => h) rfl (fun _ => rfl) (by assumption) ?_; simp only [Act.put, sS0, sS1, sS2]; refine wpAnyH_pure 3 (v := .pointer (some ⟨g, h * 2, none⟩)) rfl (by kernel_rfl) (by kernel_rfl) (by kernel_rfl) (fun _ _ _ h => h) rfl (fun _ => by go_simp) (by assumption) ?_; simp only [Act.put, sS0, sS1, sS2]; refine wpAnyH_load 4 73 (.tmp 43) rfl rfl rfl g (h * 2) rfl (#[.int .i64 x, .int .i64 y]) _ (fun w' h => HRA.out.1 w' h) Tryz.underlying73 rfl size_low (by kernel_rfl) (by kernel_rfl) (by kernel_rfl) (fun _ _ _ h => h) (by assumption) ?_; simp only [Act.put, sS0, sS1, sS2]; refine wpAnyH_pure 5 (v := .slice (some ⟨g, 0, none⟩) N cap) rfl (by kernel_rfl) (by kernel_rfl) (by kernel_rfl) (fun _ _ _ h => h) rfl (fun _ => rfl) (by assumption) ?_; simp only [Act.put, sS0, sS1, sS2]; refine wpAnyH_pure 6 (v := .int .i64 (a : Int)) rfl (by kernel_rfl) (by kernel_rfl) (by kernel_rfl) (fun _ _ _ h => h) rfl (fun _ => rfl) (by assumption) ?_; simp only [Act.put, sS0, sS1, sS2]; refine wpAnyH_pure 7 (v := .pointer (some ⟨g, a * 2, none⟩)) rfl (by kernel_rfl) (by kernel_rfl) (by kernel_rfl) (fun _ _ _ h => h) rfl (fun _ => by go_simp) (by assumption) ?_; simp only [Act.put, sS0, sS1, sS2]; refine wpAnyH_load 8 73 (.tmp 47) rfl rfl rfl g (a * 2) rfl (#[.int .i64 u, .int .i64 v]) _ (fun w' h => HRA.out.2 w' h) Tryz.underlying73 rfl size_low (by kernel_rfl) (by kernel_rfl) (by kernel_rfl) (fun _ _ _ h => h) (by assumption) ?_; simp only [Act.put, sS0, sS1, sS2]; refine wpAnyH_one 9 rfl (by kernel_rfl) rfl (fun K hK => ?_); go_simp; go_at_call 54
        (with_reducible refine (HCM.out _ HSW.out).mono ?_)
        rintro ee w2 ⟨rfl, hb⟩; replace HSW : Sl (RowKit.Below wr.heap.size wr w2) := ⟨hb⟩; refine hK.out _ _ (Mv.below HSW.out) (fun hHeld => ?_); clear hK K hb
        (try simp only [Act.put, sS0, sS1, sS2])
        refine wpAnyH_pure 10 (v := .bool true) rfl (by kernel_rfl) (by kernel_rfl) (by kernel_rfl) (fun _ _ _ h => h) rfl (fun _ => by go_simp) (by assumption) ?_; simp only [Act.put, sS0, sS1, sS2]; refine wpAnyH_done (by kernel_rfl) ?_ _; clear hHeld; have HW2 : Sl (Mv g w w2 ∧ PB w2 g N d) := ⟨Mv.trans HW.out.1 (Mv.below HSW.out), HW.out.2.below HSW.out HW.out.2.lt⟩; clear HRA HCM HSW HW; go_wp2_with fail; refine ⟨⟨h + 1, j, _, by go_num, rfl, rfl, by omega, by omega, hjb, HW2, ⟨fun c' h1 h2 => ?_, HC.out.2⟩⟩, by simp [RowKit.intOf]; omega⟩; exact Int.lt_of_le_of_lt (HS.out.2 c' h h1 (by omega) (by omega)) HLT.out
      · have hcd : decide (c < 0) = false := decide_eq_false (fun h => hyv (HCC.out.1 h)); have HLT : Sl (due (d a) ≤ due (d h)) := ⟨by omega⟩; clear hyv; go_wp2_with fail; have hm : Mv wr.heap.size wr wr.drew := Mv.drew _ _; have HSW : Sl (RowKit.Below wr.heap.size wr wr.drew) := ⟨below_drewN (Below.refl _ _) 1⟩; refine wp_region_held_drew (S := fun w' => Mv wr.heap.size wr w') (by kernel_rfl) hm (fun hHeld => ?_); clear hm; refine wpAnyH_pure 0 (v := .func (.func 54) #[] #[.pointer (some ⟨gf, 0, none⟩)]) rfl (by kernel_rfl) (by kernel_rfl) (by kernel_rfl) (fun _ _ _ h => h) rfl (fun _ => rfl) (by assumption) ?_; simp only [Act.put, sS0, sS1, sS2]; refine wpAnyH_pure 1 (v := .slice (some ⟨g, 0, none⟩) N cap) rfl (by kernel_rfl) (by kernel_rfl) (by kernel_rfl) (fun _ _ _ h => h) rfl (fun _ => rfl) (by assumption) ?_; simp only [Act.put, sS0, sS1, sS2]; refine wpAnyH_pure 2 (v := .int .i64 (h : Int)) rfl (by kernel_rfl) (by kernel_rfl) (by kernel_rfl) (fun _ _ _ h => h) rfl (fun _ => rfl) (by assumption) ?_; simp only [Act.put, sS0, sS1, sS2]; refine wpAnyH_pure 3 (v := .pointer (some ⟨g, h * 2, none⟩)) rfl (by kernel_rfl) (by kernel_rfl) (by kernel_rfl) (fun _ _ _ h => h) rfl (fun _ => by go_simp) (by assumption) ?_; simp only [Act.put, sS0, sS1, sS2]; refine wpAnyH_load 4 73 (.tmp 43) rfl rfl rfl g (h * 2) rfl (#[.int .i64 x, .int .i64 y]) _ (fun w' h => HRA.out.1 w' h) Tryz.underlying73 rfl size_low (by kernel_rfl) (by kernel_rfl) (by kernel_rfl) (fun _ _ _ h => h) (by assumption) ?_; simp only [Act.put, sS0, sS1, sS2]; refine wpAnyH_pure 5 (v := .slice (some ⟨g, 0, none⟩) N cap) rfl (by kernel_rfl) (by kernel_rfl) (by kernel_rfl) (fun _ _ _ h => h) rfl (fun _ => rfl) (by assumption) ?_; simp only [Act.put, sS0, sS1, sS2]; refine wpAnyH_pure 6 (v := .int .i64 (a : Int)) rfl (by kernel_rfl) (by kernel_rfl) (by kernel_rfl) (fun _ _ _ h => h) rfl (fun _ => rfl) (by assumption) ?_; simp only [Act.put, sS0, sS1, sS2]; refine wpAnyH_pure 7 (v := .pointer (some ⟨g, a * 2, none⟩)) rfl (by kernel_rfl) (by kernel_rfl) (by kernel_rfl) (fun _ _ _ h => h) rfl (fun _ => by go_simp) (by assumption) ?_; simp only [Act.put, sS0, sS1, sS2]; refine wpAnyH_load 8 73 (.tmp 47) rfl rfl rfl g (a * 2) rfl (#[.int .i64 u, .int .i64 v]) _ (fun w' h => HRA.out.2 w' h) Tryz.underlying73 rfl size_low (by kernel_rfl) (by kernel_rfl) (by kernel_rfl) (fun _ _ _ h => h) (by assumption) ?_; simp only [Act.put, sS0, sS1, sS2]; refine wpAnyH_one 9 rfl (by kernel_rfl) rfl (fun K hK => ?_); go_simp; go_at_call 54
        (with_reducible refine (HCM.out _ HSW.out).mono ?_)
        rintro ee w2 ⟨rfl, hb⟩; replace HSW : Sl (RowKit.Below wr.heap.size wr w2) := ⟨hb⟩; refine hK.out _ _ (Mv.below HSW.out) (fun hHeld => ?_); clear hK K hb
        (try simp only [Act.put, sS0, sS1, sS2])
        refine wpAnyH_pure 10 (v := .bool false) rfl (by kernel_rfl) (by kernel_rfl) (by kernel_rfl) (fun _ _ _ h => h) rfl (fun _ => by go_simp) (by assumption) ?_; simp only [Act.put, sS0, sS1, sS2]; refine wpAnyH_done (by kernel_rfl) ?_ _; clear hHeld; have HW2 : Sl (Mv g w w2 ∧ PB w2 g N d) := ⟨Mv.trans HW.out.1 (Mv.below HSW.out), HW.out.2.below HSW.out HW.out.2.lt⟩; clear HRA HCM HSW HW; go_wp2_with fail; refine ⟨⟨i, h, _, rfl, rfl, rfl, hmi, hhi.1, by omega, HW2, ⟨HC.out.1, fun c' h1 h2 => ?_⟩⟩, by simp [RowKit.intOf]; omega⟩; exact Int.le_trans HLT.out (HS.out.2 h c' (by omega) h1 h2)
    · obtain rfl : i = j := (by omega); obtain ⟨z, hz⟩ : ∃ z, i = z + 1 := ⟨i - 1, by omega⟩; have hzI : (i : Int) - 1 = (z : Int) := (by omega); have hzw : IntKind.i64.wrap (z : Int) = (z : Int) := (by rw [IntKind.wrap_i64]; omega); have HZ : Sl (i = z + 1 ∧ a ≤ z) := ⟨hz, by omega⟩; have hi6 : (i : Int) ≤ 1000000 := (by omega); clear hz hij hlt; go_wp2_with fail
      go_loopw [13] (fun s13 wr => ∃ (t : Nat), a + t ≤ z ∧ s13 = .int .i64 ((a : Int) + (t : Int)) ∧ Sl (Mv g w wr ∧ PB wr g N (upTo d a t))) (fun s13 _ => ((z : Int) - RowKit.intOf s13).toNat)
      case atStart => exact ⟨0, HZ.out.2, by go_num, HW⟩
      case round =>
        clear HW; obtain ⟨t, htz, rfl, HK⟩ := hrel; obtain ⟨p, hp⟩ : ∃ p, a + t = p := ⟨_, rfl⟩; have hpI : (a : Int) + (t : Int) = (p : Int) := (by omega); have HPP : Sl _ := ⟨hp⟩; rw [hpI]
        by_cases htz2 : p < z
        · obtain ⟨q, hq⟩ : ∃ q, p + 1 = q := ⟨_, rfl⟩; have hqI : (p : Int) + 1 = (q : Int) := (by omega); have HQQ : Sl _ := ⟨hq⟩; have hzi := HZ.out; have hpN : p < N := (by omega); have hqN : q < N := (by omega); have hpN2 : (p : Int) < (N : Int) := (by omega); have hqN2 : (q : Int) < (N : Int) := (by omega); have hqw : IntKind.i64.wrap (q : Int) = (q : Int) := (by rw [IntKind.wrap_i64]; omega); have hpz : (p : Int) < (z : Int) := (by omega); clear hzi ham hmb hbN' hN hne; have fp1 := HK.out.2.frozen (p * 2); have fp2 := HK.out.2.frozen (p * 2 + 1); have fq1 := HK.out.2.frozen (q * 2); have fq2 := HK.out.2.frozen (q * 2 + 1); obtain ⟨cp1, cp2⟩ := HK.out.2.cell hpN; obtain ⟨cq1, cq2⟩ := HK.out.2.cell hqN; obtain ⟨P, hP⟩ : ∃ P, upTo d a t p = P := ⟨_, rfl⟩; obtain ⟨R, hR⟩ : ∃ R, upTo d a t q = R := ⟨_, rfl⟩; rw [hP] at cp1 cp2; rw [hR] at cq1 cq2; obtain ⟨x, y⟩ := P; obtain ⟨u, v⟩ := R; have HPR : Sl _ := ⟨And.intro hP hR⟩; have HNN : Sl (p < N ∧ q < N) := ⟨hpN, hqN⟩; have hne : p ≠ q := (by omega); simp only [] at cp1 cp2 cq1 cq2; clear hp hq hP hR hpI; go_wp2_with fail
          go_region
          go_wp2_with fail; have hpb := HK.out.2.swap HNN.out.1 HNN.out.2 HPR.out.1 HPR.out.2; exact ⟨⟨t + 1, by have := HPP.out; omega, by have := HPP.out; have := HQQ.out; congr 1; omega, ⟨Mv.trans HK.out.1 (Mv.trans (Mv.set4 _ _ _ _ _ _ _ _ _ _) (Mv.drew _ _)), by rw [upTo, HPP.out, HQQ.out]; exact hpb⟩⟩, by have := HQQ.out; simp [RowKit.intOf]; omega⟩
        · have hpz : ¬ (p : Int) < (z : Int) := (by omega); have hpd : decide ((p : Int) < (z : Int)) = false := decide_eq_false hpz
          have HFIN : Sl (Pm a b d (upTo d a t) ∧ Srt due (upTo d a t) a b) := ⟨by
            have hzi := HZ.out; have h1 := H1.out
            refine ⟨upTo_pm d a t (Nat.le_refl _) (by omega), upTo_srt (by rw [← h1]; exact HS.out.2) (by omega) (fun c h2 h3 => HC.out.1 c (by omega) (by omega)) (fun c h2 h3 => HC.out.2 c (by omega) h3)⟩⟩
          have hp6 : (p : Int) ≤ 1000000 := (by omega); clear hp hpI; go_wp2_with fail
          ((try simp only [Exit.inBlock, Exit.then]); refine bodyPost_ret (results_none rfl _ _ _) rfl ?_)
          exact ⟨rfl, HK.out.1, _, HK.out.2, HFIN.out⟩
set_option maxHeartbeats 12800000 in
set_option maxRecDepth 100000 in
theorem smRight_any (g gf N cap a m b : Nat) (d : Nat → PI) (w : World) (h : PB w g N d) (hf : KeyAt w gf) (hne : gf ≠ g) (ham : a < m) (hmb : m < b) (hb : b ≤ N) (hN : N ≤ 1000000) (hs1 : Srt due d a m) (hs2 : Srt due d m b) (h0 : m ≠ a + 1) (h1 : b = m + 1) :
    Calls Tryz.prog 83 #[.slice (some ⟨g, 0, none⟩) N cap, .int .i64 a, .int .i64 m, .int .i64 b, .func (.func 54) #[] #[.pointer (some ⟨gf, 0, none⟩)]] w fun e w' => e = .returned (.tuple #[]) ∧ Mv g w w' ∧ ∃ d', PB w' g N d' ∧ Pm a b d d' ∧ Srt due d' a b := by
  have hrun : ∀ (args : Array Value) (w : World), (callFunc 54 args).run Tryz.prog w = .ok (.enter 54 args) w := fun a w => by go_simp
  have HP : Sl _ := ⟨h⟩; have HF : Sl _ := ⟨hf⟩; have HAB : Sl (a < m ∧ m < b ∧ b ≤ N ∧ N ≤ 1000000 ∧ gf ≠ g) := ⟨ham, hmb, hb, hN, hne⟩; have HS : Sl _ := ⟨And.intro hs1 hs2⟩; have hb6 : (b : Int) ≤ 1000000 := (by omega); have hbN : (b : Int) ≤ (N : Int) := (by omega); have hab0 : (a : Int) < (m : Int) := (by omega); have hmb0 : (m : Int) < (b : Int) := (by omega); have hma : ((m : Int) - (a : Int) == 1) = false := (by simp; omega); have hbm : (b : Int) - (m : Int) = 1 := (by omega); have H1 : Sl (b = m + 1) := ⟨h1⟩; clear h1 h0; clear h hf hne ham hmb hb hN hs1 hs2; go_enter Tryz.func83, Tryz.ntmps83; go_wp2_with fail; clear hma hbm
  go_loopw [14, 15, 16] (fun s14 s15 s16 wr => ∃ (i j : Nat) (v16 : Value), s14 = .int .i64 i ∧ s15 = .int .i64 j ∧ s16 = v16 ∧ a ≤ i ∧ i ≤ j ∧ j ≤ m ∧ Sl (Mv g w wr ∧ PB wr g N d) ∧ Sl ((∀ c, a ≤ c → c < i → due (d c) ≤ due (d m)) ∧ (∀ c, j ≤ c → c < m → due (d m) < due (d c)))) (fun s14 s15 _ _ => (RowKit.intOf s15 - RowKit.intOf s14).toNat)
  case atStart => exact ⟨a, m, _, rfl, rfl, rfl, Nat.le_refl _, Nat.le_of_lt HAB.out.1, Nat.le_refl _, ⟨Mv.refl _ _, HP.out⟩, ⟨fun c h1 h2 => by omega, fun c h1 h2 => by omega⟩⟩
  case round =>
    clear HP; obtain ⟨i, j, v16, rfl, rfl, rfl, hmi, hij, hjb, HW, HC⟩ := hrel; obtain ⟨ham, hmb, hbN', hN, hne⟩ := HAB.out
    by_cases hlt : i < j
    · obtain ⟨h, hh⟩ : ∃ h, (i + j) / 2 = h := ⟨_, rfl⟩; have hhi : i ≤ h ∧ h < j := (by omega); have hhI : ((i : Int) + (j : Int)) / 2 = (h : Int) := (by omega); have hltI : (i : Int) < (j : Int) := (by omega); have hj6 : (j : Int) ≤ 1000000 := (by omega); have hhN : (h : Int) < (N : Int) := (by omega); have hmN : (m : Int) < (N : Int) := (by omega); have hhN' : h < N := (by omega); have hmN' : m < N := (by omega); have hh6 : (h : Int) ≤ 1000000 := (by omega); obtain ⟨p1, hp⟩ : ∃ p, d m = p := ⟨_, rfl⟩; obtain ⟨q1, hq⟩ : ∃ q, d h = q := ⟨_, rfl⟩; obtain ⟨x, y⟩ := p1; obtain ⟨u, v⟩ := q1; have HPQ : Sl (d m = (x, y) ∧ d h = (u, v)) := ⟨hp, hq⟩
      have HRA : Sl ((∀ w' : World, Mv wr.heap.size wr w' → w'.rangeAt g (m * 2) (#[.int .i64 x, .int .i64 y] : Array Value).toList) ∧ (∀ w' : World, Mv wr.heap.size wr w' → w'.rangeAt g (h * 2) (#[.int .i64 u, .int .i64 v] : Array Value).toList)) := ⟨by
        refine ⟨fun w' hm' => ?_, fun w' hm' => ?_⟩
        · have := (HW.out.2.mv hm' (by have := HW.out.2.lt; omega)).range (j := m) (by omega); rw [hp] at this; exact this
        · have := (HW.out.2.mv hm' (by have := HW.out.2.lt; omega)).range (j := h) (by omega)
          rw [hq] at this; exact this⟩
      obtain ⟨c, hc⟩ : ∃ c, Lib.compareInt y v = c := ⟨_, rfl⟩; have HCC : Sl (c < 0 ↔ due (d m) < due (d h)) := ⟨by rw [← hc, hp, hq]; exact cmpi_lt y v⟩
      have HCM : Sl (∀ (W : World), RowKit.Below wr.heap.size wr W → Calls Tryz.prog 54 #[.agg #[.int .i64 x, .int .i64 y], .agg #[.int .i64 u, .int .i64 v], .pointer (some ⟨gf, 0, none⟩)] W fun e w' => e = .returned (.int .i64 c) ∧ RowKit.Below wr.heap.size wr w') := ⟨fun W hW => by
        have hk1 : Blk wr gf _ _ := HF.out.mv HW.out.1 HAB.out.2.2.2.2; have := by1_any gf x y u v W (hk1.below hW hk1.lt); rw [hc] at this
        exact this.mono fun e w' g => ⟨g.1, hW.trans (g.2.mono hW.size)⟩⟩
      clear hc hp hq; clear hh hne ham hmb hbN' hN
      by_cases hyv : due (d m) < due (d h)
      · have hcd : decide (c < 0) = true := decide_eq_true (HCC.out.2 hyv); have HLT : Sl _ := ⟨hyv⟩; clear hyv; go_wp2_with fail; have hm : Mv wr.heap.size wr wr.drew := Mv.drew _ _; have HSW : Sl (RowKit.Below wr.heap.size wr wr.drew) := ⟨below_drewN (Below.refl _ _) 1⟩; refine wp_region_held_drew (S := fun w' => Mv wr.heap.size wr w') (by kernel_rfl) hm (fun hHeld => ?_); clear hm; refine wpAnyH_pure 0 (v := .func (.func 54) #[] #[.pointer (some ⟨gf, 0, none⟩)]) rfl (by kernel_rfl) (by kernel_rfl) (by kernel_rfl) (fun _ _ _ h => h) rfl (fun _ => rfl) (by assumption) ?_; simp only [Act.put, sS0, sS1, sS2]; refine wpAnyH_pure 1 (v := .slice (some ⟨g, 0, none⟩) N cap) rfl (by kernel_rfl) (by kernel_rfl) (by kernel_rfl) (fun _ _ _ h => h) rfl (fun _ => rfl) (by assumption) ?_; simp only [Act.put, sS0, sS1, sS2]; refine wpAnyH_pure 2 (v := .int .i64 (m : Int)) rfl (by kernel_rfl) (by kernel_rfl) (by kernel_rfl) (fun _ _ _ h => h) rfl (fun _ => rfl) (by assumption) ?_; simp only [Act.put, sS0, sS1, sS2]; refine wpAnyH_pure 3 (v := .pointer (some ⟨g, m * 2, none⟩)) rfl (by kernel_rfl) (by kernel_rfl) (by kernel_rfl) (fun _ _ _ h => h) rfl (fun _ => by go_simp) (by assumption) ?_; simp only [Act.put, sS0, sS1, sS2]; refine wpAnyH_load 4 73 (.tmp 95) rfl rfl rfl g (m * 2) rfl (#[.int .i64 x, .int .i64 y]) _ (fun w' h => HRA.out.1 w' h) Tryz.underlying73 rfl size_low (by kernel_rfl) (by kernel_rfl) (by kernel_rfl) (fun _ _ _ h => h) (by assumption) ?_; simp only [Act.put, sS0, sS1, sS2]; refine wpAnyH_pure 5 (v := .slice (some ⟨g, 0, none⟩) N cap) rfl (by kernel_rfl) (by kernel_rfl) (by kernel_rfl) (fun _ _ _ h => h) rfl (fun _ => rfl) (by assumption) ?_; simp only [Act.put, sS0, sS1, sS2]; refine wpAnyH_pure 6 (v := .int .i64 (h : Int)) rfl (by kernel_rfl) (by kernel_rfl) (by kernel_rfl) (fun _ _ _ h => h) rfl (fun _ => rfl) (by assumption) ?_; simp only [Act.put, sS0, sS1, sS2]; refine wpAnyH_pure 7 (v := .pointer (some ⟨g, h * 2, none⟩)) rfl (by kernel_rfl) (by kernel_rfl) (by kernel_rfl) (fun _ _ _ h => h) rfl (fun _ => by go_simp) (by assumption) ?_; simp only [Act.put, sS0, sS1, sS2]; refine wpAnyH_load 8 73 (.tmp 99) rfl rfl rfl g (h * 2) rfl (#[.int .i64 u, .int .i64 v]) _ (fun w' h => HRA.out.2 w' h) Tryz.underlying73 rfl size_low (by kernel_rfl) (by kernel_rfl) (by kernel_rfl) (fun _ _ _ h => h) (by assumption) ?_; simp only [Act.put, sS0, sS1, sS2]; refine wpAnyH_one 9 rfl (by kernel_rfl) rfl (fun K hK => ?_); go_simp; go_at_call 54
        (with_reducible refine (HCM.out _ HSW.out).mono ?_)
        rintro ee w2 ⟨rfl, hb⟩; replace HSW : Sl (RowKit.Below wr.heap.size wr w2) := ⟨hb⟩; refine hK.out _ _ (Mv.below HSW.out) (fun hHeld => ?_); clear hK K hb
        (try simp only [Act.put, sS0, sS1, sS2])
        refine wpAnyH_pure 10 (v := .bool true) rfl (by kernel_rfl) (by kernel_rfl) (by kernel_rfl) (fun _ _ _ h => h) rfl (fun _ => by go_simp) (by assumption) ?_; simp only [Act.put, sS0, sS1, sS2]; refine wpAnyH_pure 11 (v := .bool false) rfl (by kernel_rfl) (by kernel_rfl) (by kernel_rfl) (fun _ _ _ h => h) rfl (fun _ => by go_simp) (by assumption) ?_; simp only [Act.put, sS0, sS1, sS2]; refine wpAnyH_done (by kernel_rfl) ?_ _; clear hHeld; have HW2 : Sl (Mv g w w2 ∧ PB w2 g N d) := ⟨Mv.trans HW.out.1 (Mv.below HSW.out), HW.out.2.below HSW.out HW.out.2.lt⟩; clear HRA HCM HSW HW; go_wp2_with fail; refine ⟨⟨i, h, _, rfl, rfl, rfl, hmi, hhi.1, by omega, HW2, ⟨HC.out.1, fun c' h1 h2 => ?_⟩⟩, by simp [RowKit.intOf]; omega⟩; exact Int.lt_of_lt_of_le HLT.out (HS.out.1 h c' (by omega) h1 h2)
      · have hcd : decide (c < 0) = false := decide_eq_false (fun h => hyv (HCC.out.1 h)); have HLT : Sl (due (d h) ≤ due (d m)) := ⟨by omega⟩; clear hyv; go_wp2_with fail; have hm : Mv wr.heap.size wr wr.drew := Mv.drew _ _; have HSW : Sl (RowKit.Below wr.heap.size wr wr.drew) := ⟨below_drewN (Below.refl _ _) 1⟩; refine wp_region_held_drew (S := fun w' => Mv wr.heap.size wr w') (by kernel_rfl) hm (fun hHeld => ?_); clear hm; refine wpAnyH_pure 0 (v := .func (.func 54) #[] #[.pointer (some ⟨gf, 0, none⟩)]) rfl (by kernel_rfl) (by kernel_rfl) (by kernel_rfl) (fun _ _ _ h => h) rfl (fun _ => rfl) (by assumption) ?_; simp only [Act.put, sS0, sS1, sS2]; refine wpAnyH_pure 1 (v := .slice (some ⟨g, 0, none⟩) N cap) rfl (by kernel_rfl) (by kernel_rfl) (by kernel_rfl) (fun _ _ _ h => h) rfl (fun _ => rfl) (by assumption) ?_; simp only [Act.put, sS0, sS1, sS2]; refine wpAnyH_pure 2 (v := .int .i64 (m : Int)) rfl (by kernel_rfl) (by kernel_rfl) (by kernel_rfl) (fun _ _ _ h => h) rfl (fun _ => rfl) (by assumption) ?_; simp only [Act.put, sS0, sS1, sS2]; refine wpAnyH_pure 3 (v := .pointer (some ⟨g, m * 2, none⟩)) rfl (by kernel_rfl) (by kernel_rfl) (by kernel_rfl) (fun _ _ _ h => h) rfl (fun _ => by go_simp) (by assumption) ?_; simp only [Act.put, sS0, sS1, sS2]; refine wpAnyH_load 4 73 (.tmp 95) rfl rfl rfl g (m * 2) rfl (#[.int .i64 x, .int .i64 y]) _ (fun w' h => HRA.out.1 w' h) Tryz.underlying73 rfl size_low (by kernel_rfl) (by kernel_rfl) (by kernel_rfl) (fun _ _ _ h => h) (by assumption) ?_; simp only [Act.put, sS0, sS1, sS2]; refine wpAnyH_pure 5 (v := .slice (some ⟨g, 0, none⟩) N cap) rfl (by kernel_rfl) (by kernel_rfl) (by kernel_rfl) (fun _ _ _ h => h) rfl (fun _ => rfl) (by assumption) ?_; simp only [Act.put, sS0, sS1, sS2]; refine wpAnyH_pure 6 (v := .int .i64 (h : Int)) rfl (by kernel_rfl) (by kernel_rfl) (by kernel_rfl) (fun _ _ _ h => h) rfl (fun _ => rfl) (by assumption) ?_; simp only [Act.put, sS0, sS1, sS2]; refine wpAnyH_pure 7 (v := .pointer (some ⟨g, h * 2, none⟩)) rfl (by kernel_rfl) (by kernel_rfl) (by kernel_rfl) (fun _ _ _ h => h) rfl (fun _ => by go_simp) (by assumption) ?_; simp only [Act.put, sS0, sS1, sS2]; refine wpAnyH_load 8 73 (.tmp 99) rfl rfl rfl g (h * 2) rfl (#[.int .i64 u, .int .i64 v]) _ (fun w' h => HRA.out.2 w' h) Tryz.underlying73 rfl size_low (by kernel_rfl) (by kernel_rfl) (by kernel_rfl) (fun _ _ _ h => h) (by assumption) ?_; simp only [Act.put, sS0, sS1, sS2]; refine wpAnyH_one 9 rfl (by kernel_rfl) rfl (fun K hK => ?_); go_simp; go_at_call 54
        (with_reducible refine (HCM.out _ HSW.out).mono ?_)
        rintro ee w2 ⟨rfl, hb⟩; replace HSW : Sl (RowKit.Below wr.heap.size wr w2) := ⟨hb⟩; refine hK.out _ _ (Mv.below HSW.out) (fun hHeld => ?_); clear hK K hb
        (try simp only [Act.put, sS0, sS1, sS2])
        refine wpAnyH_pure 10 (v := .bool false) rfl (by kernel_rfl) (by kernel_rfl) (by kernel_rfl) (fun _ _ _ h => h) rfl (fun _ => by go_simp) (by assumption) ?_; simp only [Act.put, sS0, sS1, sS2]; refine wpAnyH_pure 11 (v := .bool true) rfl (by kernel_rfl) (by kernel_rfl) (by kernel_rfl) (fun _ _ _ h => h) rfl (fun _ => by go_simp) (by assumption) ?_; simp only [Act.put, sS0, sS1, sS2]; refine wpAnyH_done (by kernel_rfl) ?_ _; clear hHeld; have HW2 : Sl (Mv g w w2 ∧ PB w2 g N d) := ⟨Mv.trans HW.out.1 (Mv.below HSW.out), HW.out.2.below HSW.out HW.out.2.lt⟩; clear HRA HCM HSW HW; go_wp2_with fail; refine ⟨⟨h + 1, j, _, by go_num, rfl, rfl, by omega, by omega, hjb, HW2, ⟨fun c' h1 h2 => ?_, HC.out.2⟩⟩, by simp [RowKit.intOf]; omega⟩; exact Int.le_trans (HS.out.1 c' h h1 (by omega) (by omega)) HLT.out
    · obtain rfl : i = j := (by omega); have hi6 : (i : Int) ≤ (m : Int) := (by omega); clear hij hlt; go_wp2_with fail
      go_loopw [17] (fun s17 wr => ∃ (t : Nat), i + t ≤ m ∧ s17 = .int .i64 ((m : Int) - (t : Int)) ∧ Sl (Mv g w wr ∧ PB wr g N (dnTo d m t))) (fun s17 _ => (RowKit.intOf s17).toNat)
      case atStart => exact ⟨0, by omega, by go_num, HW⟩
      case round =>
        clear HW; obtain ⟨t, htz, rfl, HK⟩ := hrel; obtain ⟨p, hp⟩ : ∃ p, m - t = p := ⟨_, rfl⟩; have hpI : (m : Int) - (t : Int) = (p : Int) := (by omega); have HPP : Sl (m = p + t) := ⟨by omega⟩; rw [hpI]
        by_cases htz2 : i < p
        · obtain ⟨q, hq⟩ : ∃ q, p - 1 = q := ⟨_, rfl⟩; have hqI : (p : Int) - 1 = (q : Int) := (by omega); have HQQ : Sl (p = q + 1 ∧ i ≤ q) := ⟨by omega⟩; have hpN : p < N := (by omega); have hqN : q < N := (by omega); have hpN2 : (p : Int) < (N : Int) := (by omega); have hqN2 : (q : Int) < (N : Int) := (by omega); have hqw : IntKind.i64.wrap (q : Int) = (q : Int) := (by rw [IntKind.wrap_i64]; omega); have hpz : (i : Int) < (p : Int) := (by omega); clear ham hmb hbN' hN hne; have fp1 := HK.out.2.frozen (p * 2); have fp2 := HK.out.2.frozen (p * 2 + 1); have fq1 := HK.out.2.frozen (q * 2); have fq2 := HK.out.2.frozen (q * 2 + 1); obtain ⟨cp1, cp2⟩ := HK.out.2.cell hpN; obtain ⟨cq1, cq2⟩ := HK.out.2.cell hqN; obtain ⟨P, hP⟩ : ∃ P, dnTo d m t p = P := ⟨_, rfl⟩; obtain ⟨R, hR⟩ : ∃ R, dnTo d m t q = R := ⟨_, rfl⟩; rw [hP] at cp1 cp2; rw [hR] at cq1 cq2; obtain ⟨x, y⟩ := P; obtain ⟨u, v⟩ := R; have HPR : Sl _ := ⟨And.intro hP hR⟩; have HNN : Sl (p < N ∧ q < N) := ⟨hpN, hqN⟩; have hne : p ≠ q := (by omega); simp only [] at cp1 cp2 cq1 cq2; clear hp hq hP hR hpI; go_wp2_with fail
          go_region
          go_wp2_with fail; have hpb := HK.out.2.swap HNN.out.1 HNN.out.2 HPR.out.1 HPR.out.2
          exact ⟨⟨t + 1, by have := HPP.out; have := HQQ.out; omega, by have := HPP.out; have := HQQ.out; congr 1; omega, ⟨Mv.trans HK.out.1 (Mv.trans (Mv.set4 _ _ _ _ _ _ _ _ _ _) (Mv.drew _ _)), by
            have e1 := HPP.out; have e2 := HQQ.out.1
            rw [dnTo, show m - t = p by omega, show p - 1 = q by omega]; exact hpb⟩⟩, by have := HQQ.out; simp [RowKit.intOf]; omega⟩
        · have hpz : ¬ (i : Int) < (p : Int) := (by omega); have hpd : decide ((i : Int) < (p : Int)) = false := decide_eq_false hpz
          have HFIN : Sl (Pm a b d (dnTo d m t) ∧ Srt due (dnTo d m t) a b) := ⟨by
            have h1 := H1.out; have e1 := HPP.out; refine ⟨dnTo_pm d m t (by omega) (by omega), ?_⟩; rw [h1]
            exact dnTo_srt HS.out.1 (by omega) (fun c h2 h3 => HC.out.1 c h2 (by omega)) (fun c h2 h3 => HC.out.2 c (by omega) h3)⟩
          have hp6 : (p : Int) ≤ 1000000 := (by omega); clear hp hpI; go_wp2_with fail
          ((try simp only [Exit.inBlock, Exit.then]); refine bodyPost_ret (results_none rfl _ _ _) rfl ?_)
          exact ⟨rfl, HK.out.1, _, HK.out.2, HFIN.out⟩
end Go.Proofs.YtkjkbhkcebbjdaaGreatDoor
namespace Go.Proofs.YtkjkbhkcebbjdaaGreatDoor
set_option linter.unusedSimpArgs false
open Go.RowKit
set_option linter.unusedVariables false
theorem rot_id {α : Type} (d : Nat → α) {s m e : Nat} (h : s = m ∨ e = m) (hs : s ≤ m) (he : m ≤ e) : rot d s m e = d := by
  funext k; unfold rot
  split
  · next h1 => congr 1; omega
  · split
    · next h2 => congr 1; omega
    · rfl
theorem sym_end {α : Type} {κ : α → Int} {d1 d2 d3 : Nat → α} {a mid b : Nat} (cross : ∀ i j, a ≤ i → i < mid → mid ≤ j → j < b → κ (d1 i) ≤ κ (d1 j)) (p2 : Pm a mid d1 d2) (s2 : Srt κ d2 a mid) (p3 : Pm mid b d2 d3) (s3 : Srt κ d3 mid b) : Srt κ d3 a b := by
  refine Srt.join (m := mid) (s2.congr fun k k1 k2 => p3.far (.inl k2)) s3 fun i j i1 i2 j1 j2 => ?_
  rw [p3.far (.inl i2)]
  have c2 : ∀ k, a ≤ k → k < mid → ∀ l, mid ≤ l → l < b → κ (d2 k) ≤ κ (d2 l) := fun k k1 k2 l l1 l2 => by
    rw [p2.far (k := l) (.inr l1)]; exact p2.all (P := fun x => κ x ≤ κ (d1 l)) (fun q q1 q2 => cross q l q1 q2 l1 l2) k k1 k2
  exact p3.all (P := fun x => κ (d2 i) ≤ κ x) (fun q q1 q2 => c2 i i1 i2 q q1 q2) j j1 j2
def Merges (g gf N cap : Nat) (a m b : Nat) : Prop := ∀ (d : Nat → PI) (w : World), PB w g N d → KeyAt w gf → gf ≠ g → a < m → m < b → b ≤ N → N ≤ 1000000 → Srt due d a m → Srt due d m b →
    Calls Tryz.prog 83 #[.slice (some ⟨g, 0, none⟩) N cap, .int .i64 a, .int .i64 m, .int .i64 b, .func (.func 54) #[] #[.pointer (some ⟨gf, 0, none⟩)]] w fun e w' => e = .returned (.tuple #[]) ∧ Mv g w w' ∧ ∃ d', PB w' g N d' ∧ Pm a b d d' ∧ Srt due d' a b
set_option maxHeartbeats 12800000 in
set_option maxRecDepth 100000 in
theorem smMid_any (g gf N cap a m b : Nat) (d : Nat → PI) (w : World) (h : PB w g N d) (hf : KeyAt w gf) (hne : gf ≠ g) (ham : a < m) (hmb : m < b) (hb : b ≤ N) (hN : N ≤ 1000000) (hs1 : Srt due d a m) (hs2 : Srt due d m b) (h0 : m ≠ a + 1) (h1 : b ≠ m + 1) (ih : ∀ a' m' b', b' - a' < b - a → Merges g gf N cap a' m' b') :
    Calls Tryz.prog 83 #[.slice (some ⟨g, 0, none⟩) N cap, .int .i64 a, .int .i64 m, .int .i64 b, .func (.func 54) #[] #[.pointer (some ⟨gf, 0, none⟩)]] w fun e w' => e = .returned (.tuple #[]) ∧ Mv g w w' ∧ ∃ d', PB w' g N d' ∧ Pm a b d d' ∧ Srt due d' a b := by
  have hrun : ∀ (args : Array Value) (w : World), (callFunc 54 args).run Tryz.prog w = .ok (.enter 54 args) w := fun a w => by go_simp
  have HP : Sl _ := ⟨h⟩; have HF : Sl _ := ⟨hf⟩; have HAB : Sl (a < m ∧ m < b ∧ b ≤ N ∧ N ≤ 1000000 ∧ gf ≠ g) := ⟨ham, hmb, hb, hN, hne⟩; have HS : Sl _ := ⟨And.intro hs1 hs2⟩; have hb6 : (b : Int) ≤ 1000000 := (by omega); have hbN : (b : Int) ≤ (N : Int) := (by omega); have hab0 : (a : Int) < (m : Int) := (by omega); have hmb0 : (m : Int) < (b : Int) := (by omega); have hma : ((m : Int) - (a : Int) == 1) = false := (by simp; omega); have hbm : ((b : Int) - (m : Int) == 1) = false := (by simp; omega); have HIH : Sl _ := ⟨ih⟩; obtain ⟨mid, hmid⟩ : ∃ mid, (a + b) / 2 = mid := ⟨_, rfl⟩; have hmidI : ((a : Int) + (b : Int)) / 2 = (mid : Int) := (by omega); obtain ⟨nn, hnn⟩ : ∃ nn, mid + m = nn := ⟨_, rfl⟩; have hnnI : (mid : Int) + (m : Int) = (nn : Int) := (by omega); obtain ⟨pp, hpp⟩ : ∃ pp, nn - 1 = pp := ⟨_, rfl⟩; have hppI : (nn : Int) - 1 = (pp : Int) := (by omega); have hnnw : IntKind.i64.wrap (nn : Int) = (nn : Int) := (by rw [IntKind.wrap_i64]; omega); have hppw : IntKind.i64.wrap (pp : Int) = (pp : Int) := (by rw [IntKind.wrap_i64]; omega); have hmd6 : (mid : Int) ≤ 1000000 := (by omega); have hlay : mid = (a + b) / 2 ∧ nn = mid + m ∧ pp + 1 = nn := (by omega); have hall : a < m ∧ m < b ∧ m ≠ a + 1 ∧ b ≠ m + 1 := ⟨ham, hmb, h0, h1⟩; clear h1 h0 ih
  by_cases hmm : mid < m
  · have hgt : decide ((mid : Int) < (m : Int)) = true := decide_eq_true (by omega); obtain ⟨s0, hs0⟩ : ∃ s0, nn - b = s0 := ⟨_, rfl⟩; have hs0I : (nn : Int) - (b : Int) = (s0 : Int) := (by omega); have hs0w : IntKind.i64.wrap (s0 : Int) = (s0 : Int) := (by rw [IntKind.wrap_i64]; omega); have HG : Sl (a ≤ s0 ∧ s0 ≤ mid ∧ mid < m ∧ s0 + b = nn ∧ nn = mid + m ∧ pp + 1 = nn ∧ a < mid ∧ mid < b ∧ mid = (a + b) / 2) := ⟨by omega⟩; clear hs0; clear hmid hnn hpp hlay hall h hf hne ham hmb hb hN hs1 hs2; go_enter Tryz.func83, Tryz.ntmps83; go_wp2_with fail
    go_loopw [20, 21, 23] (fun s20 s21 s23 wr => ∃ (i j : Nat) (v23 : Value), s20 = .int .i64 i ∧ s21 = .int .i64 j ∧ s23 = v23 ∧ s0 ≤ i ∧ i ≤ j ∧ j ≤ mid ∧ Sl (Mv g w wr ∧ PB wr g N d) ∧ Sl ((∀ c, s0 ≤ c → c < i → due (d c) ≤ due (d (pp - c))) ∧ (∀ c, j ≤ c → c < mid → due (d (pp - c)) < due (d c)))) (fun s20 s21 _ _ => (RowKit.intOf s21 - RowKit.intOf s20).toNat)
    case atStart => exact ⟨s0, mid, _, rfl, rfl, rfl, Nat.le_refl _, by have := HG.out; omega, Nat.le_refl _, ⟨Mv.refl _ _, HP.out⟩, ⟨fun c h1 h2 => by omega, fun c h1 h2 => by omega⟩⟩
    case round =>
      clear HP; obtain ⟨i, j, v23, rfl, rfl, rfl, hsi, hij, hjr, HW, HC⟩ := hrel; obtain ⟨ham, hmb, hbN', hN, hne⟩ := HAB.out
      by_cases hlt : i < j
      · obtain ⟨h, hh⟩ : ∃ h, (i + j) / 2 = h := ⟨_, rfl⟩; have hG := HG.out; have hhi : i ≤ h ∧ h < j := (by omega); have hhI : ((i : Int) + (j : Int)) / 2 = (h : Int) := (by omega); have hltI : (i : Int) < (j : Int) := (by omega); have hj6 : (j : Int) ≤ 1000000 := (by omega); have hhN : (h : Int) < (N : Int) := (by omega); have hhN' : h < N := (by omega); have hh6 : (h : Int) ≤ 1000000 := (by omega); obtain ⟨k, hk⟩ : ∃ k, pp - h = k := ⟨_, rfl⟩; have hkI : (pp : Int) - (h : Int) = (k : Int) := (by omega); have hkw : IntKind.i64.wrap (k : Int) = (k : Int) := (by rw [IntKind.wrap_i64]; omega); have hkm : m ≤ k := (by omega); have hkb : k < b := (by omega); have hkN : (k : Int) < (N : Int) := (by omega); have hkN' : k < N := (by omega); have HKH : Sl (k + h = pp) := ⟨by omega⟩; obtain ⟨p1, hp⟩ : ∃ p, d k = p := ⟨_, rfl⟩; obtain ⟨q1, hq⟩ : ∃ q, d h = q := ⟨_, rfl⟩; obtain ⟨x, y⟩ := p1; obtain ⟨u, v⟩ := q1; have HPQ : Sl (d k = (x, y) ∧ d h = (u, v)) := ⟨hp, hq⟩
        have HRA : Sl ((∀ w' : World, Mv wr.heap.size wr w' → w'.rangeAt g (k * 2) (#[.int .i64 x, .int .i64 y] : Array Value).toList) ∧ (∀ w' : World, Mv wr.heap.size wr w' → w'.rangeAt g (h * 2) (#[.int .i64 u, .int .i64 v] : Array Value).toList)) := ⟨by
          refine ⟨fun w' hm' => ?_, fun w' hm' => ?_⟩
          · have := (HW.out.2.mv hm' (by have := HW.out.2.lt; omega)).range (j := k) (by omega); rw [hp] at this; exact this
          · have := (HW.out.2.mv hm' (by have := HW.out.2.lt; omega)).range (j := h) (by omega)
            rw [hq] at this; exact this⟩
        obtain ⟨c, hc⟩ : ∃ c, Lib.compareInt y v = c := ⟨_, rfl⟩; have HCC : Sl (c < 0 ↔ due (d k) < due (d h)) := ⟨by rw [← hc, hp, hq]; exact cmpi_lt y v⟩
        have HCM : Sl (∀ (W : World), RowKit.Below wr.heap.size wr W → Calls Tryz.prog 54 #[.agg #[.int .i64 x, .int .i64 y], .agg #[.int .i64 u, .int .i64 v], .pointer (some ⟨gf, 0, none⟩)] W fun e w' => e = .returned (.int .i64 c) ∧ RowKit.Below wr.heap.size wr w') := ⟨fun W hW => by
          have hk1 : Blk wr gf _ _ := HF.out.mv HW.out.1 HAB.out.2.2.2.2; have := by1_any gf x y u v W (hk1.below hW hk1.lt); rw [hc] at this
          exact this.mono fun e w' g => ⟨g.1, hW.trans (g.2.mono hW.size)⟩⟩
        clear hc hp hq; clear hh hk hne ham hmb hbN' hN hG
        by_cases hyv : due (d k) < due (d h)
        · have hcd : decide (c < 0) = true := decide_eq_true (HCC.out.2 hyv); have HLT : Sl _ := ⟨hyv⟩; clear hyv; go_wp2_with fail; have hm : Mv wr.heap.size wr wr.drew := Mv.drew _ _; have HSW : Sl (RowKit.Below wr.heap.size wr wr.drew) := ⟨below_drewN (Below.refl _ _) 1⟩; refine wp_region_held_drew (S := fun w' => Mv wr.heap.size wr w') (by kernel_rfl) hm (fun hHeld => ?_); clear hm; refine wpAnyH_pure 0 (v := .func (.func 54) #[] #[.pointer (some ⟨gf, 0, none⟩)]) rfl (by kernel_rfl) (by kernel_rfl) (by kernel_rfl) (fun _ _ _ h => h) rfl (fun _ => rfl) (by assumption) ?_; simp only [Act.put, sS0, sS1, sS2]; refine wpAnyH_pure 1 (v := .slice (some ⟨g, 0, none⟩) N cap) rfl (by kernel_rfl) (by kernel_rfl) (by kernel_rfl) (fun _ _ _ h => h) rfl (fun _ => rfl) (by assumption) ?_; simp only [Act.put, sS0, sS1, sS2]; refine wpAnyH_pure 2 (v := .int .i64 (pp : Int)) rfl (by kernel_rfl) (by kernel_rfl) (by kernel_rfl) (fun _ _ _ h => h) rfl (fun _ => rfl) (by assumption) ?_; simp only [Act.put, sS0, sS1, sS2]; refine wpAnyH_pure 3 (v := .int .i64 (h : Int)) rfl (by kernel_rfl) (by kernel_rfl) (by kernel_rfl) (fun _ _ _ h => h) rfl (fun _ => rfl) (by assumption) ?_; simp only [Act.put, sS0, sS1, sS2]; refine wpAnyH_pure 4 (v := .int .i64 (k : Int)) rfl (by kernel_rfl) (by kernel_rfl) (by kernel_rfl) (fun _ _ _ h => h) rfl (fun _ => by go_simp) (by assumption) ?_; simp only [Act.put, sS0, sS1, sS2]; refine wpAnyH_pure 5 (v := .pointer (some ⟨g, k * 2, none⟩)) rfl (by kernel_rfl) (by kernel_rfl) (by kernel_rfl) (fun _ _ _ h => h) rfl (fun _ => by go_simp) (by assumption) ?_; simp only [Act.put, sS0, sS1, sS2]; refine wpAnyH_load 6 73 (.tmp 163) rfl rfl rfl g (k * 2) rfl (#[.int .i64 x, .int .i64 y]) _ (fun w' h => HRA.out.1 w' h) Tryz.underlying73 rfl size_low (by kernel_rfl) (by kernel_rfl) (by kernel_rfl) (fun _ _ _ h => h) (by assumption) ?_; simp only [Act.put, sS0, sS1, sS2]; refine wpAnyH_pure 7 (v := .slice (some ⟨g, 0, none⟩) N cap) rfl (by kernel_rfl) (by kernel_rfl) (by kernel_rfl) (fun _ _ _ h => h) rfl (fun _ => rfl) (by assumption) ?_; simp only [Act.put, sS0, sS1, sS2]; refine wpAnyH_pure 8 (v := .int .i64 (h : Int)) rfl (by kernel_rfl) (by kernel_rfl) (by kernel_rfl) (fun _ _ _ h => h) rfl (fun _ => rfl) (by assumption) ?_; simp only [Act.put, sS0, sS1, sS2]; refine wpAnyH_pure 9 (v := .pointer (some ⟨g, h * 2, none⟩)) rfl (by kernel_rfl) (by kernel_rfl) (by kernel_rfl) (fun _ _ _ h => h) rfl (fun _ => by go_simp) (by assumption) ?_; simp only [Act.put, sS0, sS1, sS2]; refine wpAnyH_load 10 73 (.tmp 167) rfl rfl rfl g (h * 2) rfl (#[.int .i64 u, .int .i64 v]) _ (fun w' h => HRA.out.2 w' h) Tryz.underlying73 rfl size_low (by kernel_rfl) (by kernel_rfl) (by kernel_rfl) (fun _ _ _ h => h) (by assumption) ?_; simp only [Act.put, sS0, sS1, sS2]; refine wpAnyH_one 11 rfl (by kernel_rfl) rfl (fun K hK => ?_); go_simp; go_at_call 54
          (with_reducible refine (HCM.out _ HSW.out).mono ?_)
          rintro ee w2 ⟨rfl, hb⟩; replace HSW : Sl (RowKit.Below wr.heap.size wr w2) := ⟨hb⟩; refine hK.out _ _ (Mv.below HSW.out) (fun hHeld => ?_); clear hK K hb
          (try simp only [Act.put, sS0, sS1, sS2])
          refine wpAnyH_pure 12 (v := .bool true) rfl (by kernel_rfl) (by kernel_rfl) (by kernel_rfl) (fun _ _ _ h => h) rfl (fun _ => by go_simp) (by assumption) ?_; simp only [Act.put, sS0, sS1, sS2]; refine wpAnyH_pure 13 (v := .bool false) rfl (by kernel_rfl) (by kernel_rfl) (by kernel_rfl) (fun _ _ _ h => h) rfl (fun _ => by go_simp) (by assumption) ?_; simp only [Act.put, sS0, sS1, sS2]; refine wpAnyH_done (by kernel_rfl) ?_ _; clear hHeld; have HW2 : Sl (Mv g w w2 ∧ PB w2 g N d) := ⟨Mv.trans HW.out.1 (Mv.below HSW.out), HW.out.2.below HSW.out HW.out.2.lt⟩; clear HRA HCM HSW HW; go_wp2_with fail; refine ⟨⟨i, h, _, rfl, rfl, rfl, hsi, hhi.1, by omega, HW2, ⟨HC.out.1, fun c' h1 h2 => ?_⟩⟩, by simp [RowKit.intOf]; omega⟩; have e1 := HKH.out; have hG := HG.out; have ham := HAB.out; exact Int.lt_of_le_of_lt (HS.out.2 (pp - c') k (by omega) (by omega) (by omega)) (Int.lt_of_lt_of_le HLT.out (HS.out.1 h c' (by omega) h1 (by omega)))
        · have hcd : decide (c < 0) = false := decide_eq_false (fun h => hyv (HCC.out.1 h)); have HLT : Sl (due (d h) ≤ due (d k)) := ⟨by omega⟩; clear hyv; go_wp2_with fail; have hm : Mv wr.heap.size wr wr.drew := Mv.drew _ _; have HSW : Sl (RowKit.Below wr.heap.size wr wr.drew) := ⟨below_drewN (Below.refl _ _) 1⟩; refine wp_region_held_drew (S := fun w' => Mv wr.heap.size wr w') (by kernel_rfl) hm (fun hHeld => ?_); clear hm; refine wpAnyH_pure 0 (v := .func (.func 54) #[] #[.pointer (some ⟨gf, 0, none⟩)]) rfl (by kernel_rfl) (by kernel_rfl) (by kernel_rfl) (fun _ _ _ h => h) rfl (fun _ => rfl) (by assumption) ?_; simp only [Act.put, sS0, sS1, sS2]; refine wpAnyH_pure 1 (v := .slice (some ⟨g, 0, none⟩) N cap) rfl (by kernel_rfl) (by kernel_rfl) (by kernel_rfl) (fun _ _ _ h => h) rfl (fun _ => rfl) (by assumption) ?_; simp only [Act.put, sS0, sS1, sS2]; refine wpAnyH_pure 2 (v := .int .i64 (pp : Int)) rfl (by kernel_rfl) (by kernel_rfl) (by kernel_rfl) (fun _ _ _ h => h) rfl (fun _ => rfl) (by assumption) ?_; simp only [Act.put, sS0, sS1, sS2]; refine wpAnyH_pure 3 (v := .int .i64 (h : Int)) rfl (by kernel_rfl) (by kernel_rfl) (by kernel_rfl) (fun _ _ _ h => h) rfl (fun _ => rfl) (by assumption) ?_; simp only [Act.put, sS0, sS1, sS2]; refine wpAnyH_pure 4 (v := .int .i64 (k : Int)) rfl (by kernel_rfl) (by kernel_rfl) (by kernel_rfl) (fun _ _ _ h => h) rfl (fun _ => by go_simp) (by assumption) ?_; simp only [Act.put, sS0, sS1, sS2]; refine wpAnyH_pure 5 (v := .pointer (some ⟨g, k * 2, none⟩)) rfl (by kernel_rfl) (by kernel_rfl) (by kernel_rfl) (fun _ _ _ h => h) rfl (fun _ => by go_simp) (by assumption) ?_; simp only [Act.put, sS0, sS1, sS2]; refine wpAnyH_load 6 73 (.tmp 163) rfl rfl rfl g (k * 2) rfl (#[.int .i64 x, .int .i64 y]) _ (fun w' h => HRA.out.1 w' h) Tryz.underlying73 rfl size_low (by kernel_rfl) (by kernel_rfl) (by kernel_rfl) (fun _ _ _ h => h) (by assumption) ?_; simp only [Act.put, sS0, sS1, sS2]; refine wpAnyH_pure 7 (v := .slice (some ⟨g, 0, none⟩) N cap) rfl (by kernel_rfl) (by kernel_rfl) (by kernel_rfl) (fun _ _ _ h => h) rfl (fun _ => rfl) (by assumption) ?_; simp only [Act.put, sS0, sS1, sS2]; refine wpAnyH_pure 8 (v := .int .i64 (h : Int)) rfl (by kernel_rfl) (by kernel_rfl) (by kernel_rfl) (fun _ _ _ h => h) rfl (fun _ => rfl) (by assumption) ?_; simp only [Act.put, sS0, sS1, sS2]; refine wpAnyH_pure 9 (v := .pointer (some ⟨g, h * 2, none⟩)) rfl (by kernel_rfl) (by kernel_rfl) (by kernel_rfl) (fun _ _ _ h => h) rfl (fun _ => by go_simp) (by assumption) ?_; simp only [Act.put, sS0, sS1, sS2]; refine wpAnyH_load 10 73 (.tmp 167) rfl rfl rfl g (h * 2) rfl (#[.int .i64 u, .int .i64 v]) _ (fun w' h => HRA.out.2 w' h) Tryz.underlying73 rfl size_low (by kernel_rfl) (by kernel_rfl) (by kernel_rfl) (fun _ _ _ h => h) (by assumption) ?_; simp only [Act.put, sS0, sS1, sS2]; refine wpAnyH_one 11 rfl (by kernel_rfl) rfl (fun K hK => ?_); go_simp; go_at_call 54
          (with_reducible refine (HCM.out _ HSW.out).mono ?_)
          rintro ee w2 ⟨rfl, hb⟩; replace HSW : Sl (RowKit.Below wr.heap.size wr w2) := ⟨hb⟩; refine hK.out _ _ (Mv.below HSW.out) (fun hHeld => ?_); clear hK K hb
          (try simp only [Act.put, sS0, sS1, sS2])
          refine wpAnyH_pure 12 (v := .bool false) rfl (by kernel_rfl) (by kernel_rfl) (by kernel_rfl) (fun _ _ _ h => h) rfl (fun _ => by go_simp) (by assumption) ?_; simp only [Act.put, sS0, sS1, sS2]; refine wpAnyH_pure 13 (v := .bool true) rfl (by kernel_rfl) (by kernel_rfl) (by kernel_rfl) (fun _ _ _ h => h) rfl (fun _ => by go_simp) (by assumption) ?_; simp only [Act.put, sS0, sS1, sS2]; refine wpAnyH_done (by kernel_rfl) ?_ _; clear hHeld; have HW2 : Sl (Mv g w w2 ∧ PB w2 g N d) := ⟨Mv.trans HW.out.1 (Mv.below HSW.out), HW.out.2.below HSW.out HW.out.2.lt⟩; clear HRA HCM HSW HW; go_wp2_with fail; refine ⟨⟨h + 1, j, _, by go_num, rfl, rfl, by omega, by omega, hjr, HW2, ⟨fun c' h1 h2 => ?_, HC.out.2⟩⟩, by simp [RowKit.intOf]; omega⟩; have e1 := HKH.out; have hG := HG.out; have ham := HAB.out; exact Int.le_trans (HS.out.1 c' h (by omega) (by omega) (by omega)) (Int.le_trans HLT.out (HS.out.2 k (pp - c') hkm (by omega) (by omega)))
      · obtain rfl : i = j := (by omega); obtain ⟨en, hen⟩ : ∃ en, nn - i = en := ⟨_, rfl⟩; have henI : (nn : Int) - (i : Int) = (en : Int) := (by omega); have henw : IntKind.i64.wrap (en : Int) = (en : Int) := (by rw [IntKind.wrap_i64]; omega); have hG := HG.out; have hen2 : mid + m - i = en := (by omega); obtain ⟨d1, hd1⟩ : ∃ d1, rot d i m en = d1 := ⟨_, rfl⟩
        have HSP : Sl (Srt due d1 a i ∧ Srt due d1 i mid ∧ Srt due d1 mid en ∧ Srt due d1 en b ∧ ∀ x y, a ≤ x → x < mid → mid ≤ y → y < b → due (d1 x) ≤ due (d1 y)) := ⟨by
          have := sym_parts (κ := due) (d := d) (a := a) (m := m) (b := b) (mid := mid) (st := i) ham hmb (by omega) HS.out.1 HS.out.2 (by omega) (by omega) (by omega) (by omega) (by omega) (fun c h1 h2 h3 => by
              have := HC.out.1 c (by omega) h2
              rw [show mid + m - 1 - c = pp - c by omega]; exact this) (fun c h1 h2 h3 => by
              have := HC.out.2 c h1 (by omega)
              rw [show mid + m - 1 - c = pp - c by omega]; exact this)
          rw [hen2, hd1] at this
          exact this⟩
        have HPM : Sl (Pm a b d d1) := ⟨by
          rw [← hd1]
          by_cases hid : i = m ∨ en = m
          · rw [rot_id d hid (by omega) (by omega)]; exact .refl
          · have := rot_pm (m := m) ((m - i) + (en - m)) (m - i) (en - m) d (Nat.le_refl _) (by omega) (by omega) (by omega); rw [show m - (m - i) = i by omega, show m + (en - m) = en by omega] at this
            exact this.mono (by omega) (by omega)⟩
        replace HG : Sl (a ≤ i ∧ i ≤ m ∧ i ≤ mid ∧ en + i = mid + m ∧ m ≤ en ∧ en ≤ b ∧ mid ≤ en ∧ a < mid ∧ mid < b ∧ mid = (a + b) / 2) := ⟨by omega⟩; clear HC hen hen2 hG hij hsi hjr
        by_cases hr : i < mid
        · by_cases ha : a < i
          · by_cases hb2 : en < b
            · skip; have hG := HG.out; have t1aI : (i : Int) < (m : Int) := (by omega); have t1a : decide ((i : Int) < (m : Int)) = true := decide_eq_true t1aI; have t1bI : (m : Int) < (en : Int) := (by omega); have t1b : decide ((m : Int) < (en : Int)) = true := decide_eq_true t1bI; have t2aI : (a : Int) < (i : Int) := (by omega); have t2a : decide ((a : Int) < (i : Int)) = true := decide_eq_true t2aI; have t2bI : (i : Int) < (mid : Int) := (by omega); have t2b : decide ((i : Int) < (mid : Int)) = true := decide_eq_true t2bI; have t3aI : (mid : Int) < (en : Int) := (by omega); have t3a : decide ((mid : Int) < (en : Int)) = true := decide_eq_true t3aI; have t3bI : (en : Int) < (b : Int) := (by omega); have t3b : decide ((en : Int) < (b : Int)) = true := decide_eq_true t3bI; have HRO : Sl _ := ⟨rotate_any g N cap i m en d (.func (.func 54) #[] #[.pointer (some ⟨gf, 0, none⟩)]) wr HW.out.2 (by omega) (by omega) (by omega) HAB.out.2.2.2.1⟩; rw [hd1] at HRO; clear hG hd1; go_wp2_with fail; refine HRO.out.mono ?_; rintro ee w3 ⟨rfl, hm3, hp3⟩; have HW1 : Sl (Mv g w w3 ∧ PB w3 g N d1) := ⟨Mv.trans HW.out.1 hm3, hp3⟩; clear hm3 hp3 HRO HW; have HC2 : Sl _ := ⟨HIH.out a i mid (by have := HG.out; omega) d1 w3 HW1.out.2 (Blk.mv HF.out HW1.out.1 HAB.out.2.2.2.2) HAB.out.2.2.2.2 (by have := HG.out; omega) (by have := HG.out; omega) (by have := HG.out; have := HAB.out; omega) HAB.out.2.2.2.1 HSP.out.1 HSP.out.2.1⟩; go_wp2_with fail; refine HC2.out.mono ?_; rintro ee w4 ⟨rfl, hm4, d2, hp4, hq4, hs4⟩; have HW2 : Sl (Mv g w w4 ∧ PB w4 g N d2) := ⟨Mv.trans HW1.out.1 hm4, hp4⟩; have HD2 : Sl (Pm a mid d1 d2 ∧ Srt due d2 a mid) := ⟨hq4, hs4⟩; clear hm4 hp4 hq4 hs4 HC2 HW1; have HE2 : Sl (Srt due d2 mid en ∧ Srt due d2 en b) := ⟨HSP.out.2.2.1.congr fun k k1 k2 => HD2.out.1.far (.inr k1), HSP.out.2.2.2.1.congr fun k k1 k2 => HD2.out.1.far (.inr (by have := HG.out; omega))⟩; have HC3 : Sl _ := ⟨HIH.out mid en b (by have := HG.out; omega) d2 w4 HW2.out.2 (Blk.mv HF.out HW2.out.1 HAB.out.2.2.2.2) HAB.out.2.2.2.2 (by have := HG.out; omega) (by have := HG.out; omega) HAB.out.2.2.1 HAB.out.2.2.2.1 HE2.out.1 HE2.out.2⟩; go_wp2_with fail; refine HC3.out.mono ?_; rintro ee w5 ⟨rfl, hm5, d3, hp5, hq5, hs5⟩; have HW3 : Sl (Mv g w w5 ∧ PB w5 g N d3) := ⟨Mv.trans HW2.out.1 hm5, hp5⟩; have HD3 : Sl (Pm mid b d2 d3 ∧ Srt due d3 mid b) := ⟨hq5, hs5⟩; clear hm5 hp5 hq5 hs5 HC3 HW2; go_wp2_with fail
              ((try simp only [Exit.inBlock, Exit.then]); refine bodyPost_end (results_none rfl _ _ _) rfl ?_)
              exact ⟨rfl, HW3.out.1, d3, HW3.out.2, ((HPM.out.trans (HD2.out.1.mono (Nat.le_refl _) (by have := HG.out; omega))).trans (HD3.out.1.mono (by have := HG.out; omega) (Nat.le_refl _))), sym_end HSP.out.2.2.2.2 HD2.out.1 HD2.out.2 HD3.out.1 HD3.out.2⟩
            · skip; have hG := HG.out; have t1aI : (i : Int) < (m : Int) := (by omega); have t1a : decide ((i : Int) < (m : Int)) = true := decide_eq_true t1aI; have t1bI : (m : Int) < (en : Int) := (by omega); have t1b : decide ((m : Int) < (en : Int)) = true := decide_eq_true t1bI; have t2aI : (a : Int) < (i : Int) := (by omega); have t2a : decide ((a : Int) < (i : Int)) = true := decide_eq_true t2aI; have t2bI : (i : Int) < (mid : Int) := (by omega); have t2b : decide ((i : Int) < (mid : Int)) = true := decide_eq_true t2bI; have t3aI : (mid : Int) < (en : Int) := (by omega); have t3a : decide ((mid : Int) < (en : Int)) = true := decide_eq_true t3aI; have t3bI : ¬ (en : Int) < (b : Int) := (by omega); have t3b : decide ((en : Int) < (b : Int)) = false := decide_eq_false t3bI; have HRO : Sl _ := ⟨rotate_any g N cap i m en d (.func (.func 54) #[] #[.pointer (some ⟨gf, 0, none⟩)]) wr HW.out.2 (by omega) (by omega) (by omega) HAB.out.2.2.2.1⟩; rw [hd1] at HRO; clear hG hd1; go_wp2_with fail; refine HRO.out.mono ?_; rintro ee w3 ⟨rfl, hm3, hp3⟩; have HW1 : Sl (Mv g w w3 ∧ PB w3 g N d1) := ⟨Mv.trans HW.out.1 hm3, hp3⟩; clear hm3 hp3 HRO HW; have HC2 : Sl _ := ⟨HIH.out a i mid (by have := HG.out; omega) d1 w3 HW1.out.2 (Blk.mv HF.out HW1.out.1 HAB.out.2.2.2.2) HAB.out.2.2.2.2 (by have := HG.out; omega) (by have := HG.out; omega) (by have := HG.out; have := HAB.out; omega) HAB.out.2.2.2.1 HSP.out.1 HSP.out.2.1⟩; go_wp2_with fail; refine HC2.out.mono ?_; rintro ee w4 ⟨rfl, hm4, d2, hp4, hq4, hs4⟩; have HW2 : Sl (Mv g w w4 ∧ PB w4 g N d2) := ⟨Mv.trans HW1.out.1 hm4, hp4⟩; have HD2 : Sl (Pm a mid d1 d2 ∧ Srt due d2 a mid) := ⟨hq4, hs4⟩; clear hm4 hp4 hq4 hs4 HC2 HW1; have HE2 : Sl (Srt due d2 mid en ∧ Srt due d2 en b) := ⟨HSP.out.2.2.1.congr fun k k1 k2 => HD2.out.1.far (.inr k1), HSP.out.2.2.2.1.congr fun k k1 k2 => HD2.out.1.far (.inr (by have := HG.out; omega))⟩; obtain ⟨d3, hd3⟩ : ∃ d3, d2 = d3 := ⟨_, rfl⟩; have HW3 : Sl (Mv g w w4 ∧ PB w4 g N d3) := ⟨by rw [← hd3]; exact HW2.out⟩
              have HD3 : Sl (Pm mid b d2 d3 ∧ Srt due d3 mid b) := ⟨by rw [← hd3]; exact ⟨.refl, by
                exact HE2.out.1.sub (Nat.le_refl _) (by have := HG.out; omega)⟩⟩
              clear HW2 hd3; go_wp2_with fail
              ((try simp only [Exit.inBlock, Exit.then]); refine bodyPost_end (results_none rfl _ _ _) rfl ?_)
              exact ⟨rfl, HW3.out.1, d3, HW3.out.2, ((HPM.out.trans (HD2.out.1.mono (Nat.le_refl _) (by have := HG.out; omega))).trans (HD3.out.1.mono (by have := HG.out; omega) (Nat.le_refl _))), sym_end HSP.out.2.2.2.2 HD2.out.1 HD2.out.2 HD3.out.1 HD3.out.2⟩
          · by_cases hb2 : en < b
            · skip; have hG := HG.out; have t1aI : (i : Int) < (m : Int) := (by omega); have t1a : decide ((i : Int) < (m : Int)) = true := decide_eq_true t1aI; have t1bI : (m : Int) < (en : Int) := (by omega); have t1b : decide ((m : Int) < (en : Int)) = true := decide_eq_true t1bI; have t2aI : ¬ (a : Int) < (i : Int) := (by omega); have t2a : decide ((a : Int) < (i : Int)) = false := decide_eq_false t2aI; have t3aI : (mid : Int) < (en : Int) := (by omega); have t3a : decide ((mid : Int) < (en : Int)) = true := decide_eq_true t3aI; have t3bI : (en : Int) < (b : Int) := (by omega); have t3b : decide ((en : Int) < (b : Int)) = true := decide_eq_true t3bI; have HRO : Sl _ := ⟨rotate_any g N cap i m en d (.func (.func 54) #[] #[.pointer (some ⟨gf, 0, none⟩)]) wr HW.out.2 (by omega) (by omega) (by omega) HAB.out.2.2.2.1⟩; rw [hd1] at HRO
              have HL2 : Sl (Srt due d1 a mid) := ⟨by
                obtain ⟨q1, q2, _⟩ := HSP.out
                exact q2.sub (by omega) (Nat.le_refl _)⟩
              clear hG hd1; go_wp2_with fail; refine HRO.out.mono ?_; rintro ee w3 ⟨rfl, hm3, hp3⟩; have HW1 : Sl (Mv g w w3 ∧ PB w3 g N d1) := ⟨Mv.trans HW.out.1 hm3, hp3⟩; clear hm3 hp3 HRO HW; obtain ⟨d2, hd2⟩ : ∃ d2, d1 = d2 := ⟨_, rfl⟩; have HW2 : Sl (Mv g w w3 ∧ PB w3 g N d2) := ⟨by rw [← hd2]; exact HW1.out⟩; have HD2 : Sl (Pm a mid d1 d2 ∧ Srt due d2 a mid) := ⟨by rw [← hd2]; exact ⟨.refl, HL2.out⟩⟩; clear HW1 hd2; have HE2 : Sl (Srt due d2 mid en ∧ Srt due d2 en b) := ⟨HSP.out.2.2.1.congr fun k k1 k2 => HD2.out.1.far (.inr k1), HSP.out.2.2.2.1.congr fun k k1 k2 => HD2.out.1.far (.inr (by have := HG.out; omega))⟩; have HC3 : Sl _ := ⟨HIH.out mid en b (by have := HG.out; omega) d2 w3 HW2.out.2 (Blk.mv HF.out HW2.out.1 HAB.out.2.2.2.2) HAB.out.2.2.2.2 (by have := HG.out; omega) (by have := HG.out; omega) HAB.out.2.2.1 HAB.out.2.2.2.1 HE2.out.1 HE2.out.2⟩; go_wp2_with fail; refine HC3.out.mono ?_; rintro ee w5 ⟨rfl, hm5, d3, hp5, hq5, hs5⟩; have HW3 : Sl (Mv g w w5 ∧ PB w5 g N d3) := ⟨Mv.trans HW2.out.1 hm5, hp5⟩; have HD3 : Sl (Pm mid b d2 d3 ∧ Srt due d3 mid b) := ⟨hq5, hs5⟩; clear hm5 hp5 hq5 hs5 HC3 HW2; go_wp2_with fail
              ((try simp only [Exit.inBlock, Exit.then]); refine bodyPost_end (results_none rfl _ _ _) rfl ?_)
              exact ⟨rfl, HW3.out.1, d3, HW3.out.2, ((HPM.out.trans (HD2.out.1.mono (Nat.le_refl _) (by have := HG.out; omega))).trans (HD3.out.1.mono (by have := HG.out; omega) (Nat.le_refl _))), sym_end HSP.out.2.2.2.2 HD2.out.1 HD2.out.2 HD3.out.1 HD3.out.2⟩
            · skip; have hG := HG.out; have t1aI : (i : Int) < (m : Int) := (by omega); have t1a : decide ((i : Int) < (m : Int)) = true := decide_eq_true t1aI; have t1bI : (m : Int) < (en : Int) := (by omega); have t1b : decide ((m : Int) < (en : Int)) = true := decide_eq_true t1bI; have t2aI : ¬ (a : Int) < (i : Int) := (by omega); have t2a : decide ((a : Int) < (i : Int)) = false := decide_eq_false t2aI; have t3aI : (mid : Int) < (en : Int) := (by omega); have t3a : decide ((mid : Int) < (en : Int)) = true := decide_eq_true t3aI; have t3bI : ¬ (en : Int) < (b : Int) := (by omega); have t3b : decide ((en : Int) < (b : Int)) = false := decide_eq_false t3bI; have HRO : Sl _ := ⟨rotate_any g N cap i m en d (.func (.func 54) #[] #[.pointer (some ⟨gf, 0, none⟩)]) wr HW.out.2 (by omega) (by omega) (by omega) HAB.out.2.2.2.1⟩; rw [hd1] at HRO
              have HL2 : Sl (Srt due d1 a mid) := ⟨by
                obtain ⟨q1, q2, _⟩ := HSP.out
                exact q2.sub (by omega) (Nat.le_refl _)⟩
              clear hG hd1; go_wp2_with fail; refine HRO.out.mono ?_; rintro ee w3 ⟨rfl, hm3, hp3⟩; have HW1 : Sl (Mv g w w3 ∧ PB w3 g N d1) := ⟨Mv.trans HW.out.1 hm3, hp3⟩; clear hm3 hp3 HRO HW; obtain ⟨d2, hd2⟩ : ∃ d2, d1 = d2 := ⟨_, rfl⟩; have HW2 : Sl (Mv g w w3 ∧ PB w3 g N d2) := ⟨by rw [← hd2]; exact HW1.out⟩; have HD2 : Sl (Pm a mid d1 d2 ∧ Srt due d2 a mid) := ⟨by rw [← hd2]; exact ⟨.refl, HL2.out⟩⟩; clear HW1 hd2; have HE2 : Sl (Srt due d2 mid en ∧ Srt due d2 en b) := ⟨HSP.out.2.2.1.congr fun k k1 k2 => HD2.out.1.far (.inr k1), HSP.out.2.2.2.1.congr fun k k1 k2 => HD2.out.1.far (.inr (by have := HG.out; omega))⟩; obtain ⟨d3, hd3⟩ : ∃ d3, d2 = d3 := ⟨_, rfl⟩; have HW3 : Sl (Mv g w w3 ∧ PB w3 g N d3) := ⟨by rw [← hd3]; exact HW2.out⟩
              have HD3 : Sl (Pm mid b d2 d3 ∧ Srt due d3 mid b) := ⟨by rw [← hd3]; exact ⟨.refl, by
                exact HE2.out.1.sub (Nat.le_refl _) (by have := HG.out; omega)⟩⟩
              clear HW2 hd3; go_wp2_with fail
              ((try simp only [Exit.inBlock, Exit.then]); refine bodyPost_end (results_none rfl _ _ _) rfl ?_)
              exact ⟨rfl, HW3.out.1, d3, HW3.out.2, ((HPM.out.trans (HD2.out.1.mono (Nat.le_refl _) (by have := HG.out; omega))).trans (HD3.out.1.mono (by have := HG.out; omega) (Nat.le_refl _))), sym_end HSP.out.2.2.2.2 HD2.out.1 HD2.out.2 HD3.out.1 HD3.out.2⟩
        · skip; have hG := HG.out; have t1aI : (i : Int) < (m : Int) := (by omega); have t1a : decide ((i : Int) < (m : Int)) = true := decide_eq_true t1aI; have t1bI : ¬ (m : Int) < (en : Int) := (by omega); have t1b : decide ((m : Int) < (en : Int)) = false := decide_eq_false t1bI; have t2aI : (a : Int) < (i : Int) := (by omega); have t2a : decide ((a : Int) < (i : Int)) = true := decide_eq_true t2aI; have t2bI : ¬ (i : Int) < (mid : Int) := (by omega); have t2b : decide ((i : Int) < (mid : Int)) = false := decide_eq_false t2bI; have t3aI : (mid : Int) < (en : Int) := (by omega); have t3a : decide ((mid : Int) < (en : Int)) = true := decide_eq_true t3aI; have t3bI : (en : Int) < (b : Int) := (by omega); have t3b : decide ((en : Int) < (b : Int)) = true := decide_eq_true t3bI; have HID : Sl (d1 = d) := ⟨by rw [← hd1]; exact rot_id d (by omega) (by omega) (by omega)⟩
          have HL2 : Sl (Srt due d1 a mid) := ⟨by
            obtain ⟨q1, q2, _⟩ := HSP.out
            exact q1.sub (Nat.le_refl _) (by omega)⟩
          clear hG hd1; go_wp2_with fail; have HW1 : Sl (Mv g w wr ∧ PB wr g N d1) := ⟨HW.out.1, by rw [HID.out]; exact HW.out.2⟩; clear HW; obtain ⟨d2, hd2⟩ : ∃ d2, d1 = d2 := ⟨_, rfl⟩; have HW2 : Sl (Mv g w wr ∧ PB wr g N d2) := ⟨by rw [← hd2]; exact HW1.out⟩; have HD2 : Sl (Pm a mid d1 d2 ∧ Srt due d2 a mid) := ⟨by rw [← hd2]; exact ⟨.refl, HL2.out⟩⟩; clear HW1 hd2; have HE2 : Sl (Srt due d2 mid en ∧ Srt due d2 en b) := ⟨HSP.out.2.2.1.congr fun k k1 k2 => HD2.out.1.far (.inr k1), HSP.out.2.2.2.1.congr fun k k1 k2 => HD2.out.1.far (.inr (by have := HG.out; omega))⟩; have HC3 : Sl _ := ⟨HIH.out mid en b (by have := HG.out; omega) d2 wr HW2.out.2 (Blk.mv HF.out HW2.out.1 HAB.out.2.2.2.2) HAB.out.2.2.2.2 (by have := HG.out; omega) (by have := HG.out; omega) HAB.out.2.2.1 HAB.out.2.2.2.1 HE2.out.1 HE2.out.2⟩; refine HC3.out.mono ?_; rintro ee w5 ⟨rfl, hm5, d3, hp5, hq5, hs5⟩; have HW3 : Sl (Mv g w w5 ∧ PB w5 g N d3) := ⟨Mv.trans HW2.out.1 hm5, hp5⟩; have HD3 : Sl (Pm mid b d2 d3 ∧ Srt due d3 mid b) := ⟨hq5, hs5⟩; clear hm5 hp5 hq5 hs5 HC3 HW2; go_wp2_with fail
          ((try simp only [Exit.inBlock, Exit.then]); refine bodyPost_end (results_none rfl _ _ _) rfl ?_)
          exact ⟨rfl, HW3.out.1, d3, HW3.out.2, ((HPM.out.trans (HD2.out.1.mono (Nat.le_refl _) (by have := HG.out; omega))).trans (HD3.out.1.mono (by have := HG.out; omega) (Nat.le_refl _))), sym_end HSP.out.2.2.2.2 HD2.out.1 HD2.out.2 HD3.out.1 HD3.out.2⟩
  · have hgt : decide ((mid : Int) < (m : Int)) = false := decide_eq_false (by omega); have HG : Sl (a < m ∧ m ≤ mid ∧ nn = mid + m ∧ pp + 1 = nn ∧ a < mid ∧ mid < b ∧ mid = (a + b) / 2) := ⟨by omega⟩; clear hmid hnn hpp hlay hall h hf hne ham hmb hb hN hs1 hs2; go_enter Tryz.func83, Tryz.ntmps83; go_wp2_with fail
    go_loopw [20, 21, 23] (fun s20 s21 s23 wr => ∃ (i j : Nat) (v23 : Value), s20 = .int .i64 i ∧ s21 = .int .i64 j ∧ s23 = v23 ∧ a ≤ i ∧ i ≤ j ∧ j ≤ m ∧ Sl (Mv g w wr ∧ PB wr g N d) ∧ Sl ((∀ c, a ≤ c → c < i → due (d c) ≤ due (d (pp - c))) ∧ (∀ c, j ≤ c → c < m → due (d (pp - c)) < due (d c)))) (fun s20 s21 _ _ => (RowKit.intOf s21 - RowKit.intOf s20).toNat)
    case atStart => exact ⟨a, m, _, rfl, rfl, rfl, Nat.le_refl _, by have := HG.out; omega, Nat.le_refl _, ⟨Mv.refl _ _, HP.out⟩, ⟨fun c h1 h2 => by omega, fun c h1 h2 => by omega⟩⟩
    case round =>
      clear HP; obtain ⟨i, j, v23, rfl, rfl, rfl, hsi, hij, hjr, HW, HC⟩ := hrel; obtain ⟨ham, hmb, hbN', hN, hne⟩ := HAB.out
      by_cases hlt : i < j
      · obtain ⟨h, hh⟩ : ∃ h, (i + j) / 2 = h := ⟨_, rfl⟩; have hG := HG.out; have hhi : i ≤ h ∧ h < j := (by omega); have hhI : ((i : Int) + (j : Int)) / 2 = (h : Int) := (by omega); have hltI : (i : Int) < (j : Int) := (by omega); have hj6 : (j : Int) ≤ 1000000 := (by omega); have hhN : (h : Int) < (N : Int) := (by omega); have hhN' : h < N := (by omega); have hh6 : (h : Int) ≤ 1000000 := (by omega); obtain ⟨k, hk⟩ : ∃ k, pp - h = k := ⟨_, rfl⟩; have hkI : (pp : Int) - (h : Int) = (k : Int) := (by omega); have hkw : IntKind.i64.wrap (k : Int) = (k : Int) := (by rw [IntKind.wrap_i64]; omega); have hkm : m ≤ k := (by omega); have hkb : k < b := (by omega); have hkN : (k : Int) < (N : Int) := (by omega); have hkN' : k < N := (by omega); have HKH : Sl (k + h = pp) := ⟨by omega⟩; obtain ⟨p1, hp⟩ : ∃ p, d k = p := ⟨_, rfl⟩; obtain ⟨q1, hq⟩ : ∃ q, d h = q := ⟨_, rfl⟩; obtain ⟨x, y⟩ := p1; obtain ⟨u, v⟩ := q1; have HPQ : Sl (d k = (x, y) ∧ d h = (u, v)) := ⟨hp, hq⟩
        have HRA : Sl ((∀ w' : World, Mv wr.heap.size wr w' → w'.rangeAt g (k * 2) (#[.int .i64 x, .int .i64 y] : Array Value).toList) ∧ (∀ w' : World, Mv wr.heap.size wr w' → w'.rangeAt g (h * 2) (#[.int .i64 u, .int .i64 v] : Array Value).toList)) := ⟨by
          refine ⟨fun w' hm' => ?_, fun w' hm' => ?_⟩
          · have := (HW.out.2.mv hm' (by have := HW.out.2.lt; omega)).range (j := k) (by omega); rw [hp] at this; exact this
          · have := (HW.out.2.mv hm' (by have := HW.out.2.lt; omega)).range (j := h) (by omega)
            rw [hq] at this; exact this⟩
        obtain ⟨c, hc⟩ : ∃ c, Lib.compareInt y v = c := ⟨_, rfl⟩; have HCC : Sl (c < 0 ↔ due (d k) < due (d h)) := ⟨by rw [← hc, hp, hq]; exact cmpi_lt y v⟩
        have HCM : Sl (∀ (W : World), RowKit.Below wr.heap.size wr W → Calls Tryz.prog 54 #[.agg #[.int .i64 x, .int .i64 y], .agg #[.int .i64 u, .int .i64 v], .pointer (some ⟨gf, 0, none⟩)] W fun e w' => e = .returned (.int .i64 c) ∧ RowKit.Below wr.heap.size wr w') := ⟨fun W hW => by
          have hk1 : Blk wr gf _ _ := HF.out.mv HW.out.1 HAB.out.2.2.2.2; have := by1_any gf x y u v W (hk1.below hW hk1.lt); rw [hc] at this
          exact this.mono fun e w' g => ⟨g.1, hW.trans (g.2.mono hW.size)⟩⟩
        clear hc hp hq; clear hh hk hne ham hmb hbN' hN hG
        by_cases hyv : due (d k) < due (d h)
        · have hcd : decide (c < 0) = true := decide_eq_true (HCC.out.2 hyv); have HLT : Sl _ := ⟨hyv⟩; clear hyv; go_wp2_with fail; have hm : Mv wr.heap.size wr wr.drew := Mv.drew _ _; have HSW : Sl (RowKit.Below wr.heap.size wr wr.drew) := ⟨below_drewN (Below.refl _ _) 1⟩; refine wp_region_held_drew (S := fun w' => Mv wr.heap.size wr w') (by kernel_rfl) hm (fun hHeld => ?_); clear hm; refine wpAnyH_pure 0 (v := .func (.func 54) #[] #[.pointer (some ⟨gf, 0, none⟩)]) rfl (by kernel_rfl) (by kernel_rfl) (by kernel_rfl) (fun _ _ _ h => h) rfl (fun _ => rfl) (by assumption) ?_; simp only [Act.put, sS0, sS1, sS2]; refine wpAnyH_pure 1 (v := .slice (some ⟨g, 0, none⟩) N cap) rfl (by kernel_rfl) (by kernel_rfl) (by kernel_rfl) (fun _ _ _ h => h) rfl (fun _ => rfl) (by assumption) ?_; simp only [Act.put, sS0, sS1, sS2]; refine wpAnyH_pure 2 (v := .int .i64 (pp : Int)) rfl (by kernel_rfl) (by kernel_rfl) (by kernel_rfl) (fun _ _ _ h => h) rfl (fun _ => rfl) (by assumption) ?_; simp only [Act.put, sS0, sS1, sS2]; refine wpAnyH_pure 3 (v := .int .i64 (h : Int)) rfl (by kernel_rfl) (by kernel_rfl) (by kernel_rfl) (fun _ _ _ h => h) rfl (fun _ => rfl) (by assumption) ?_; simp only [Act.put, sS0, sS1, sS2]; refine wpAnyH_pure 4 (v := .int .i64 (k : Int)) rfl (by kernel_rfl) (by kernel_rfl) (by kernel_rfl) (fun _ _ _ h => h) rfl (fun _ => by go_simp) (by assumption) ?_; simp only [Act.put, sS0, sS1, sS2]; refine wpAnyH_pure 5 (v := .pointer (some ⟨g, k * 2, none⟩)) rfl (by kernel_rfl) (by kernel_rfl) (by kernel_rfl) (fun _ _ _ h => h) rfl (fun _ => by go_simp) (by assumption) ?_; simp only [Act.put, sS0, sS1, sS2]; refine wpAnyH_load 6 73 (.tmp 163) rfl rfl rfl g (k * 2) rfl (#[.int .i64 x, .int .i64 y]) _ (fun w' h => HRA.out.1 w' h) Tryz.underlying73 rfl size_low (by kernel_rfl) (by kernel_rfl) (by kernel_rfl) (fun _ _ _ h => h) (by assumption) ?_; simp only [Act.put, sS0, sS1, sS2]; refine wpAnyH_pure 7 (v := .slice (some ⟨g, 0, none⟩) N cap) rfl (by kernel_rfl) (by kernel_rfl) (by kernel_rfl) (fun _ _ _ h => h) rfl (fun _ => rfl) (by assumption) ?_; simp only [Act.put, sS0, sS1, sS2]; refine wpAnyH_pure 8 (v := .int .i64 (h : Int)) rfl (by kernel_rfl) (by kernel_rfl) (by kernel_rfl) (fun _ _ _ h => h) rfl (fun _ => rfl) (by assumption) ?_; simp only [Act.put, sS0, sS1, sS2]; refine wpAnyH_pure 9 (v := .pointer (some ⟨g, h * 2, none⟩)) rfl (by kernel_rfl) (by kernel_rfl) (by kernel_rfl) (fun _ _ _ h => h) rfl (fun _ => by go_simp) (by assumption) ?_; simp only [Act.put, sS0, sS1, sS2]; refine wpAnyH_load 10 73 (.tmp 167) rfl rfl rfl g (h * 2) rfl (#[.int .i64 u, .int .i64 v]) _ (fun w' h => HRA.out.2 w' h) Tryz.underlying73 rfl size_low (by kernel_rfl) (by kernel_rfl) (by kernel_rfl) (fun _ _ _ h => h) (by assumption) ?_; simp only [Act.put, sS0, sS1, sS2]; refine wpAnyH_one 11 rfl (by kernel_rfl) rfl (fun K hK => ?_); go_simp; go_at_call 54
          (with_reducible refine (HCM.out _ HSW.out).mono ?_)
          rintro ee w2 ⟨rfl, hb⟩; replace HSW : Sl (RowKit.Below wr.heap.size wr w2) := ⟨hb⟩; refine hK.out _ _ (Mv.below HSW.out) (fun hHeld => ?_); clear hK K hb
          (try simp only [Act.put, sS0, sS1, sS2])
          refine wpAnyH_pure 12 (v := .bool true) rfl (by kernel_rfl) (by kernel_rfl) (by kernel_rfl) (fun _ _ _ h => h) rfl (fun _ => by go_simp) (by assumption) ?_; simp only [Act.put, sS0, sS1, sS2]; refine wpAnyH_pure 13 (v := .bool false) rfl (by kernel_rfl) (by kernel_rfl) (by kernel_rfl) (fun _ _ _ h => h) rfl (fun _ => by go_simp) (by assumption) ?_; simp only [Act.put, sS0, sS1, sS2]; refine wpAnyH_done (by kernel_rfl) ?_ _; clear hHeld; have HW2 : Sl (Mv g w w2 ∧ PB w2 g N d) := ⟨Mv.trans HW.out.1 (Mv.below HSW.out), HW.out.2.below HSW.out HW.out.2.lt⟩; clear HRA HCM HSW HW; go_wp2_with fail; refine ⟨⟨i, h, _, rfl, rfl, rfl, hsi, hhi.1, by omega, HW2, ⟨HC.out.1, fun c' h1 h2 => ?_⟩⟩, by simp [RowKit.intOf]; omega⟩; have e1 := HKH.out; have hG := HG.out; have ham := HAB.out; exact Int.lt_of_le_of_lt (HS.out.2 (pp - c') k (by omega) (by omega) (by omega)) (Int.lt_of_lt_of_le HLT.out (HS.out.1 h c' (by omega) h1 (by omega)))
        · have hcd : decide (c < 0) = false := decide_eq_false (fun h => hyv (HCC.out.1 h)); have HLT : Sl (due (d h) ≤ due (d k)) := ⟨by omega⟩; clear hyv; go_wp2_with fail; have hm : Mv wr.heap.size wr wr.drew := Mv.drew _ _; have HSW : Sl (RowKit.Below wr.heap.size wr wr.drew) := ⟨below_drewN (Below.refl _ _) 1⟩; refine wp_region_held_drew (S := fun w' => Mv wr.heap.size wr w') (by kernel_rfl) hm (fun hHeld => ?_); clear hm; refine wpAnyH_pure 0 (v := .func (.func 54) #[] #[.pointer (some ⟨gf, 0, none⟩)]) rfl (by kernel_rfl) (by kernel_rfl) (by kernel_rfl) (fun _ _ _ h => h) rfl (fun _ => rfl) (by assumption) ?_; simp only [Act.put, sS0, sS1, sS2]; refine wpAnyH_pure 1 (v := .slice (some ⟨g, 0, none⟩) N cap) rfl (by kernel_rfl) (by kernel_rfl) (by kernel_rfl) (fun _ _ _ h => h) rfl (fun _ => rfl) (by assumption) ?_; simp only [Act.put, sS0, sS1, sS2]; refine wpAnyH_pure 2 (v := .int .i64 (pp : Int)) rfl (by kernel_rfl) (by kernel_rfl) (by kernel_rfl) (fun _ _ _ h => h) rfl (fun _ => rfl) (by assumption) ?_; simp only [Act.put, sS0, sS1, sS2]; refine wpAnyH_pure 3 (v := .int .i64 (h : Int)) rfl (by kernel_rfl) (by kernel_rfl) (by kernel_rfl) (fun _ _ _ h => h) rfl (fun _ => rfl) (by assumption) ?_; simp only [Act.put, sS0, sS1, sS2]; refine wpAnyH_pure 4 (v := .int .i64 (k : Int)) rfl (by kernel_rfl) (by kernel_rfl) (by kernel_rfl) (fun _ _ _ h => h) rfl (fun _ => by go_simp) (by assumption) ?_; simp only [Act.put, sS0, sS1, sS2]; refine wpAnyH_pure 5 (v := .pointer (some ⟨g, k * 2, none⟩)) rfl (by kernel_rfl) (by kernel_rfl) (by kernel_rfl) (fun _ _ _ h => h) rfl (fun _ => by go_simp) (by assumption) ?_; simp only [Act.put, sS0, sS1, sS2]; refine wpAnyH_load 6 73 (.tmp 163) rfl rfl rfl g (k * 2) rfl (#[.int .i64 x, .int .i64 y]) _ (fun w' h => HRA.out.1 w' h) Tryz.underlying73 rfl size_low (by kernel_rfl) (by kernel_rfl) (by kernel_rfl) (fun _ _ _ h => h) (by assumption) ?_; simp only [Act.put, sS0, sS1, sS2]; refine wpAnyH_pure 7 (v := .slice (some ⟨g, 0, none⟩) N cap) rfl (by kernel_rfl) (by kernel_rfl) (by kernel_rfl) (fun _ _ _ h => h) rfl (fun _ => rfl) (by assumption) ?_; simp only [Act.put, sS0, sS1, sS2]; refine wpAnyH_pure 8 (v := .int .i64 (h : Int)) rfl (by kernel_rfl) (by kernel_rfl) (by kernel_rfl) (fun _ _ _ h => h) rfl (fun _ => rfl) (by assumption) ?_; simp only [Act.put, sS0, sS1, sS2]; refine wpAnyH_pure 9 (v := .pointer (some ⟨g, h * 2, none⟩)) rfl (by kernel_rfl) (by kernel_rfl) (by kernel_rfl) (fun _ _ _ h => h) rfl (fun _ => by go_simp) (by assumption) ?_; simp only [Act.put, sS0, sS1, sS2]; refine wpAnyH_load 10 73 (.tmp 167) rfl rfl rfl g (h * 2) rfl (#[.int .i64 u, .int .i64 v]) _ (fun w' h => HRA.out.2 w' h) Tryz.underlying73 rfl size_low (by kernel_rfl) (by kernel_rfl) (by kernel_rfl) (fun _ _ _ h => h) (by assumption) ?_; simp only [Act.put, sS0, sS1, sS2]; refine wpAnyH_one 11 rfl (by kernel_rfl) rfl (fun K hK => ?_); go_simp; go_at_call 54
          (with_reducible refine (HCM.out _ HSW.out).mono ?_)
          rintro ee w2 ⟨rfl, hb⟩; replace HSW : Sl (RowKit.Below wr.heap.size wr w2) := ⟨hb⟩; refine hK.out _ _ (Mv.below HSW.out) (fun hHeld => ?_); clear hK K hb
          (try simp only [Act.put, sS0, sS1, sS2])
          refine wpAnyH_pure 12 (v := .bool false) rfl (by kernel_rfl) (by kernel_rfl) (by kernel_rfl) (fun _ _ _ h => h) rfl (fun _ => by go_simp) (by assumption) ?_; simp only [Act.put, sS0, sS1, sS2]; refine wpAnyH_pure 13 (v := .bool true) rfl (by kernel_rfl) (by kernel_rfl) (by kernel_rfl) (fun _ _ _ h => h) rfl (fun _ => by go_simp) (by assumption) ?_; simp only [Act.put, sS0, sS1, sS2]; refine wpAnyH_done (by kernel_rfl) ?_ _; clear hHeld; have HW2 : Sl (Mv g w w2 ∧ PB w2 g N d) := ⟨Mv.trans HW.out.1 (Mv.below HSW.out), HW.out.2.below HSW.out HW.out.2.lt⟩; clear HRA HCM HSW HW; go_wp2_with fail; refine ⟨⟨h + 1, j, _, by go_num, rfl, rfl, by omega, by omega, hjr, HW2, ⟨fun c' h1 h2 => ?_, HC.out.2⟩⟩, by simp [RowKit.intOf]; omega⟩; have e1 := HKH.out; have hG := HG.out; have ham := HAB.out; exact Int.le_trans (HS.out.1 c' h (by omega) (by omega) (by omega)) (Int.le_trans HLT.out (HS.out.2 k (pp - c') hkm (by omega) (by omega)))
      · obtain rfl : i = j := (by omega); obtain ⟨en, hen⟩ : ∃ en, nn - i = en := ⟨_, rfl⟩; have henI : (nn : Int) - (i : Int) = (en : Int) := (by omega); have henw : IntKind.i64.wrap (en : Int) = (en : Int) := (by rw [IntKind.wrap_i64]; omega); have hG := HG.out; have hen2 : mid + m - i = en := (by omega); obtain ⟨d1, hd1⟩ : ∃ d1, rot d i m en = d1 := ⟨_, rfl⟩
        have HSP : Sl (Srt due d1 a i ∧ Srt due d1 i mid ∧ Srt due d1 mid en ∧ Srt due d1 en b ∧ ∀ x y, a ≤ x → x < mid → mid ≤ y → y < b → due (d1 x) ≤ due (d1 y)) := ⟨by
          have := sym_parts (κ := due) (d := d) (a := a) (m := m) (b := b) (mid := mid) (st := i) ham hmb (by omega) HS.out.1 HS.out.2 (by omega) (by omega) (by omega) (by omega) (by omega) (fun c h1 h2 h3 => by
              have := HC.out.1 c (by omega) h2
              rw [show mid + m - 1 - c = pp - c by omega]; exact this) (fun c h1 h2 h3 => by
              have := HC.out.2 c h1 (by omega)
              rw [show mid + m - 1 - c = pp - c by omega]; exact this)
          rw [hen2, hd1] at this
          exact this⟩
        have HPM : Sl (Pm a b d d1) := ⟨by
          rw [← hd1]
          by_cases hid : i = m ∨ en = m
          · rw [rot_id d hid (by omega) (by omega)]; exact .refl
          · have := rot_pm (m := m) ((m - i) + (en - m)) (m - i) (en - m) d (Nat.le_refl _) (by omega) (by omega) (by omega); rw [show m - (m - i) = i by omega, show m + (en - m) = en by omega] at this
            exact this.mono (by omega) (by omega)⟩
        replace HG : Sl (a ≤ i ∧ i ≤ m ∧ i ≤ mid ∧ en + i = mid + m ∧ m ≤ en ∧ en ≤ b ∧ mid ≤ en ∧ a < mid ∧ mid < b ∧ mid = (a + b) / 2) := ⟨by omega⟩; clear HC hen hen2 hG hij hsi hjr
        by_cases hr : i < m
        · by_cases ha : a < i
          · by_cases hb2 : en < b
            · skip; have hG := HG.out; have t1aI : (i : Int) < (m : Int) := (by omega); have t1a : decide ((i : Int) < (m : Int)) = true := decide_eq_true t1aI; have t1bI : (m : Int) < (en : Int) := (by omega); have t1b : decide ((m : Int) < (en : Int)) = true := decide_eq_true t1bI; have t2aI : (a : Int) < (i : Int) := (by omega); have t2a : decide ((a : Int) < (i : Int)) = true := decide_eq_true t2aI; have t2bI : (i : Int) < (mid : Int) := (by omega); have t2b : decide ((i : Int) < (mid : Int)) = true := decide_eq_true t2bI; have t3aI : (mid : Int) < (en : Int) := (by omega); have t3a : decide ((mid : Int) < (en : Int)) = true := decide_eq_true t3aI; have t3bI : (en : Int) < (b : Int) := (by omega); have t3b : decide ((en : Int) < (b : Int)) = true := decide_eq_true t3bI; have HRO : Sl _ := ⟨rotate_any g N cap i m en d (.func (.func 54) #[] #[.pointer (some ⟨gf, 0, none⟩)]) wr HW.out.2 (by omega) (by omega) (by omega) HAB.out.2.2.2.1⟩; rw [hd1] at HRO; clear hG hd1; go_wp2_with fail; refine HRO.out.mono ?_; rintro ee w3 ⟨rfl, hm3, hp3⟩; have HW1 : Sl (Mv g w w3 ∧ PB w3 g N d1) := ⟨Mv.trans HW.out.1 hm3, hp3⟩; clear hm3 hp3 HRO HW; have HC2 : Sl _ := ⟨HIH.out a i mid (by have := HG.out; omega) d1 w3 HW1.out.2 (Blk.mv HF.out HW1.out.1 HAB.out.2.2.2.2) HAB.out.2.2.2.2 (by have := HG.out; omega) (by have := HG.out; omega) (by have := HG.out; have := HAB.out; omega) HAB.out.2.2.2.1 HSP.out.1 HSP.out.2.1⟩; go_wp2_with fail; refine HC2.out.mono ?_; rintro ee w4 ⟨rfl, hm4, d2, hp4, hq4, hs4⟩; have HW2 : Sl (Mv g w w4 ∧ PB w4 g N d2) := ⟨Mv.trans HW1.out.1 hm4, hp4⟩; have HD2 : Sl (Pm a mid d1 d2 ∧ Srt due d2 a mid) := ⟨hq4, hs4⟩; clear hm4 hp4 hq4 hs4 HC2 HW1; have HE2 : Sl (Srt due d2 mid en ∧ Srt due d2 en b) := ⟨HSP.out.2.2.1.congr fun k k1 k2 => HD2.out.1.far (.inr k1), HSP.out.2.2.2.1.congr fun k k1 k2 => HD2.out.1.far (.inr (by have := HG.out; omega))⟩; have HC3 : Sl _ := ⟨HIH.out mid en b (by have := HG.out; omega) d2 w4 HW2.out.2 (Blk.mv HF.out HW2.out.1 HAB.out.2.2.2.2) HAB.out.2.2.2.2 (by have := HG.out; omega) (by have := HG.out; omega) HAB.out.2.2.1 HAB.out.2.2.2.1 HE2.out.1 HE2.out.2⟩; go_wp2_with fail; refine HC3.out.mono ?_; rintro ee w5 ⟨rfl, hm5, d3, hp5, hq5, hs5⟩; have HW3 : Sl (Mv g w w5 ∧ PB w5 g N d3) := ⟨Mv.trans HW2.out.1 hm5, hp5⟩; have HD3 : Sl (Pm mid b d2 d3 ∧ Srt due d3 mid b) := ⟨hq5, hs5⟩; clear hm5 hp5 hq5 hs5 HC3 HW2; go_wp2_with fail
              ((try simp only [Exit.inBlock, Exit.then]); refine bodyPost_end (results_none rfl _ _ _) rfl ?_)
              exact ⟨rfl, HW3.out.1, d3, HW3.out.2, ((HPM.out.trans (HD2.out.1.mono (Nat.le_refl _) (by have := HG.out; omega))).trans (HD3.out.1.mono (by have := HG.out; omega) (Nat.le_refl _))), sym_end HSP.out.2.2.2.2 HD2.out.1 HD2.out.2 HD3.out.1 HD3.out.2⟩
            · skip; have hG := HG.out; have t1aI : (i : Int) < (m : Int) := (by omega); have t1a : decide ((i : Int) < (m : Int)) = true := decide_eq_true t1aI; have t1bI : (m : Int) < (en : Int) := (by omega); have t1b : decide ((m : Int) < (en : Int)) = true := decide_eq_true t1bI; have t2aI : (a : Int) < (i : Int) := (by omega); have t2a : decide ((a : Int) < (i : Int)) = true := decide_eq_true t2aI; have t2bI : (i : Int) < (mid : Int) := (by omega); have t2b : decide ((i : Int) < (mid : Int)) = true := decide_eq_true t2bI; have t3aI : (mid : Int) < (en : Int) := (by omega); have t3a : decide ((mid : Int) < (en : Int)) = true := decide_eq_true t3aI; have t3bI : ¬ (en : Int) < (b : Int) := (by omega); have t3b : decide ((en : Int) < (b : Int)) = false := decide_eq_false t3bI; have HRO : Sl _ := ⟨rotate_any g N cap i m en d (.func (.func 54) #[] #[.pointer (some ⟨gf, 0, none⟩)]) wr HW.out.2 (by omega) (by omega) (by omega) HAB.out.2.2.2.1⟩; rw [hd1] at HRO; clear hG hd1; go_wp2_with fail; refine HRO.out.mono ?_; rintro ee w3 ⟨rfl, hm3, hp3⟩; have HW1 : Sl (Mv g w w3 ∧ PB w3 g N d1) := ⟨Mv.trans HW.out.1 hm3, hp3⟩; clear hm3 hp3 HRO HW; have HC2 : Sl _ := ⟨HIH.out a i mid (by have := HG.out; omega) d1 w3 HW1.out.2 (Blk.mv HF.out HW1.out.1 HAB.out.2.2.2.2) HAB.out.2.2.2.2 (by have := HG.out; omega) (by have := HG.out; omega) (by have := HG.out; have := HAB.out; omega) HAB.out.2.2.2.1 HSP.out.1 HSP.out.2.1⟩; go_wp2_with fail; refine HC2.out.mono ?_; rintro ee w4 ⟨rfl, hm4, d2, hp4, hq4, hs4⟩; have HW2 : Sl (Mv g w w4 ∧ PB w4 g N d2) := ⟨Mv.trans HW1.out.1 hm4, hp4⟩; have HD2 : Sl (Pm a mid d1 d2 ∧ Srt due d2 a mid) := ⟨hq4, hs4⟩; clear hm4 hp4 hq4 hs4 HC2 HW1; have HE2 : Sl (Srt due d2 mid en ∧ Srt due d2 en b) := ⟨HSP.out.2.2.1.congr fun k k1 k2 => HD2.out.1.far (.inr k1), HSP.out.2.2.2.1.congr fun k k1 k2 => HD2.out.1.far (.inr (by have := HG.out; omega))⟩; obtain ⟨d3, hd3⟩ : ∃ d3, d2 = d3 := ⟨_, rfl⟩; have HW3 : Sl (Mv g w w4 ∧ PB w4 g N d3) := ⟨by rw [← hd3]; exact HW2.out⟩
              have HD3 : Sl (Pm mid b d2 d3 ∧ Srt due d3 mid b) := ⟨by rw [← hd3]; exact ⟨.refl, by
                exact HE2.out.1.sub (Nat.le_refl _) (by have := HG.out; omega)⟩⟩
              clear HW2 hd3; go_wp2_with fail
              ((try simp only [Exit.inBlock, Exit.then]); refine bodyPost_end (results_none rfl _ _ _) rfl ?_)
              exact ⟨rfl, HW3.out.1, d3, HW3.out.2, ((HPM.out.trans (HD2.out.1.mono (Nat.le_refl _) (by have := HG.out; omega))).trans (HD3.out.1.mono (by have := HG.out; omega) (Nat.le_refl _))), sym_end HSP.out.2.2.2.2 HD2.out.1 HD2.out.2 HD3.out.1 HD3.out.2⟩
          · by_cases hb2 : en < b
            · skip; have hG := HG.out; have t1aI : (i : Int) < (m : Int) := (by omega); have t1a : decide ((i : Int) < (m : Int)) = true := decide_eq_true t1aI; have t1bI : (m : Int) < (en : Int) := (by omega); have t1b : decide ((m : Int) < (en : Int)) = true := decide_eq_true t1bI; have t2aI : ¬ (a : Int) < (i : Int) := (by omega); have t2a : decide ((a : Int) < (i : Int)) = false := decide_eq_false t2aI; have t3aI : (mid : Int) < (en : Int) := (by omega); have t3a : decide ((mid : Int) < (en : Int)) = true := decide_eq_true t3aI; have t3bI : (en : Int) < (b : Int) := (by omega); have t3b : decide ((en : Int) < (b : Int)) = true := decide_eq_true t3bI; have HRO : Sl _ := ⟨rotate_any g N cap i m en d (.func (.func 54) #[] #[.pointer (some ⟨gf, 0, none⟩)]) wr HW.out.2 (by omega) (by omega) (by omega) HAB.out.2.2.2.1⟩; rw [hd1] at HRO
              have HL2 : Sl (Srt due d1 a mid) := ⟨by
                obtain ⟨q1, q2, _⟩ := HSP.out
                exact q2.sub (by omega) (Nat.le_refl _)⟩
              clear hG hd1; go_wp2_with fail; refine HRO.out.mono ?_; rintro ee w3 ⟨rfl, hm3, hp3⟩; have HW1 : Sl (Mv g w w3 ∧ PB w3 g N d1) := ⟨Mv.trans HW.out.1 hm3, hp3⟩; clear hm3 hp3 HRO HW; obtain ⟨d2, hd2⟩ : ∃ d2, d1 = d2 := ⟨_, rfl⟩; have HW2 : Sl (Mv g w w3 ∧ PB w3 g N d2) := ⟨by rw [← hd2]; exact HW1.out⟩; have HD2 : Sl (Pm a mid d1 d2 ∧ Srt due d2 a mid) := ⟨by rw [← hd2]; exact ⟨.refl, HL2.out⟩⟩; clear HW1 hd2; have HE2 : Sl (Srt due d2 mid en ∧ Srt due d2 en b) := ⟨HSP.out.2.2.1.congr fun k k1 k2 => HD2.out.1.far (.inr k1), HSP.out.2.2.2.1.congr fun k k1 k2 => HD2.out.1.far (.inr (by have := HG.out; omega))⟩; have HC3 : Sl _ := ⟨HIH.out mid en b (by have := HG.out; omega) d2 w3 HW2.out.2 (Blk.mv HF.out HW2.out.1 HAB.out.2.2.2.2) HAB.out.2.2.2.2 (by have := HG.out; omega) (by have := HG.out; omega) HAB.out.2.2.1 HAB.out.2.2.2.1 HE2.out.1 HE2.out.2⟩; go_wp2_with fail; refine HC3.out.mono ?_; rintro ee w5 ⟨rfl, hm5, d3, hp5, hq5, hs5⟩; have HW3 : Sl (Mv g w w5 ∧ PB w5 g N d3) := ⟨Mv.trans HW2.out.1 hm5, hp5⟩; have HD3 : Sl (Pm mid b d2 d3 ∧ Srt due d3 mid b) := ⟨hq5, hs5⟩; clear hm5 hp5 hq5 hs5 HC3 HW2; go_wp2_with fail
              ((try simp only [Exit.inBlock, Exit.then]); refine bodyPost_end (results_none rfl _ _ _) rfl ?_)
              exact ⟨rfl, HW3.out.1, d3, HW3.out.2, ((HPM.out.trans (HD2.out.1.mono (Nat.le_refl _) (by have := HG.out; omega))).trans (HD3.out.1.mono (by have := HG.out; omega) (Nat.le_refl _))), sym_end HSP.out.2.2.2.2 HD2.out.1 HD2.out.2 HD3.out.1 HD3.out.2⟩
            · skip; have hG := HG.out; have t1aI : (i : Int) < (m : Int) := (by omega); have t1a : decide ((i : Int) < (m : Int)) = true := decide_eq_true t1aI; have t1bI : (m : Int) < (en : Int) := (by omega); have t1b : decide ((m : Int) < (en : Int)) = true := decide_eq_true t1bI; have t2aI : ¬ (a : Int) < (i : Int) := (by omega); have t2a : decide ((a : Int) < (i : Int)) = false := decide_eq_false t2aI; have t3aI : (mid : Int) < (en : Int) := (by omega); have t3a : decide ((mid : Int) < (en : Int)) = true := decide_eq_true t3aI; have t3bI : ¬ (en : Int) < (b : Int) := (by omega); have t3b : decide ((en : Int) < (b : Int)) = false := decide_eq_false t3bI; have HRO : Sl _ := ⟨rotate_any g N cap i m en d (.func (.func 54) #[] #[.pointer (some ⟨gf, 0, none⟩)]) wr HW.out.2 (by omega) (by omega) (by omega) HAB.out.2.2.2.1⟩; rw [hd1] at HRO
              have HL2 : Sl (Srt due d1 a mid) := ⟨by
                obtain ⟨q1, q2, _⟩ := HSP.out
                exact q2.sub (by omega) (Nat.le_refl _)⟩
              clear hG hd1; go_wp2_with fail; refine HRO.out.mono ?_; rintro ee w3 ⟨rfl, hm3, hp3⟩; have HW1 : Sl (Mv g w w3 ∧ PB w3 g N d1) := ⟨Mv.trans HW.out.1 hm3, hp3⟩; clear hm3 hp3 HRO HW; obtain ⟨d2, hd2⟩ : ∃ d2, d1 = d2 := ⟨_, rfl⟩; have HW2 : Sl (Mv g w w3 ∧ PB w3 g N d2) := ⟨by rw [← hd2]; exact HW1.out⟩; have HD2 : Sl (Pm a mid d1 d2 ∧ Srt due d2 a mid) := ⟨by rw [← hd2]; exact ⟨.refl, HL2.out⟩⟩; clear HW1 hd2; have HE2 : Sl (Srt due d2 mid en ∧ Srt due d2 en b) := ⟨HSP.out.2.2.1.congr fun k k1 k2 => HD2.out.1.far (.inr k1), HSP.out.2.2.2.1.congr fun k k1 k2 => HD2.out.1.far (.inr (by have := HG.out; omega))⟩; obtain ⟨d3, hd3⟩ : ∃ d3, d2 = d3 := ⟨_, rfl⟩; have HW3 : Sl (Mv g w w3 ∧ PB w3 g N d3) := ⟨by rw [← hd3]; exact HW2.out⟩
              have HD3 : Sl (Pm mid b d2 d3 ∧ Srt due d3 mid b) := ⟨by rw [← hd3]; exact ⟨.refl, by
                exact HE2.out.1.sub (Nat.le_refl _) (by have := HG.out; omega)⟩⟩
              clear HW2 hd3; go_wp2_with fail
              ((try simp only [Exit.inBlock, Exit.then]); refine bodyPost_end (results_none rfl _ _ _) rfl ?_)
              exact ⟨rfl, HW3.out.1, d3, HW3.out.2, ((HPM.out.trans (HD2.out.1.mono (Nat.le_refl _) (by have := HG.out; omega))).trans (HD3.out.1.mono (by have := HG.out; omega) (Nat.le_refl _))), sym_end HSP.out.2.2.2.2 HD2.out.1 HD2.out.2 HD3.out.1 HD3.out.2⟩
        · by_cases ha : i < mid
          · skip; have hG := HG.out; have t1aI : ¬ (i : Int) < (m : Int) := (by omega); have t1a : decide ((i : Int) < (m : Int)) = false := decide_eq_false t1aI; have t2aI : (a : Int) < (i : Int) := (by omega); have t2a : decide ((a : Int) < (i : Int)) = true := decide_eq_true t2aI; have t2bI : (i : Int) < (mid : Int) := (by omega); have t2b : decide ((i : Int) < (mid : Int)) = true := decide_eq_true t2bI; have t3aI : ¬ (mid : Int) < (en : Int) := (by omega); have t3a : decide ((mid : Int) < (en : Int)) = false := decide_eq_false t3aI; have HID : Sl (d1 = d) := ⟨by rw [← hd1]; exact rot_id d (by omega) (by omega) (by omega)⟩; clear hG hd1; go_wp2_with fail; have HW1 : Sl (Mv g w wr ∧ PB wr g N d1) := ⟨HW.out.1, by rw [HID.out]; exact HW.out.2⟩; clear HW; have HC2 : Sl _ := ⟨HIH.out a i mid (by have := HG.out; omega) d1 wr HW1.out.2 (Blk.mv HF.out HW1.out.1 HAB.out.2.2.2.2) HAB.out.2.2.2.2 (by have := HG.out; omega) (by have := HG.out; omega) (by have := HG.out; have := HAB.out; omega) HAB.out.2.2.2.1 HSP.out.1 HSP.out.2.1⟩; refine HC2.out.mono ?_; rintro ee w4 ⟨rfl, hm4, d2, hp4, hq4, hs4⟩; have HW2 : Sl (Mv g w w4 ∧ PB w4 g N d2) := ⟨Mv.trans HW1.out.1 hm4, hp4⟩; have HD2 : Sl (Pm a mid d1 d2 ∧ Srt due d2 a mid) := ⟨hq4, hs4⟩; clear hm4 hp4 hq4 hs4 HC2 HW1; have HE2 : Sl (Srt due d2 mid en ∧ Srt due d2 en b) := ⟨HSP.out.2.2.1.congr fun k k1 k2 => HD2.out.1.far (.inr k1), HSP.out.2.2.2.1.congr fun k k1 k2 => HD2.out.1.far (.inr (by have := HG.out; omega))⟩; obtain ⟨d3, hd3⟩ : ∃ d3, d2 = d3 := ⟨_, rfl⟩; have HW3 : Sl (Mv g w w4 ∧ PB w4 g N d3) := ⟨by rw [← hd3]; exact HW2.out⟩
            have HD3 : Sl (Pm mid b d2 d3 ∧ Srt due d3 mid b) := ⟨by rw [← hd3]; exact ⟨.refl, by
              exact HE2.out.2.sub (by have := HG.out; omega) (Nat.le_refl _)⟩⟩
            clear HW2 hd3; go_wp2_with fail
            ((try simp only [Exit.inBlock, Exit.then]); refine bodyPost_end (results_none rfl _ _ _) rfl ?_)
            exact ⟨rfl, HW3.out.1, d3, HW3.out.2, ((HPM.out.trans (HD2.out.1.mono (Nat.le_refl _) (by have := HG.out; omega))).trans (HD3.out.1.mono (by have := HG.out; omega) (Nat.le_refl _))), sym_end HSP.out.2.2.2.2 HD2.out.1 HD2.out.2 HD3.out.1 HD3.out.2⟩
          · skip; have hG := HG.out; have t1aI : ¬ (i : Int) < (m : Int) := (by omega); have t1a : decide ((i : Int) < (m : Int)) = false := decide_eq_false t1aI; have t2aI : (a : Int) < (i : Int) := (by omega); have t2a : decide ((a : Int) < (i : Int)) = true := decide_eq_true t2aI; have t2bI : ¬ (i : Int) < (mid : Int) := (by omega); have t2b : decide ((i : Int) < (mid : Int)) = false := decide_eq_false t2bI; have t3aI : ¬ (mid : Int) < (en : Int) := (by omega); have t3a : decide ((mid : Int) < (en : Int)) = false := decide_eq_false t3aI; have HID : Sl (d1 = d) := ⟨by rw [← hd1]; exact rot_id d (by omega) (by omega) (by omega)⟩
            have HL2 : Sl (Srt due d1 a mid) := ⟨by
              obtain ⟨q1, q2, _⟩ := HSP.out
              exact q1.sub (Nat.le_refl _) (by omega)⟩
            clear hG hd1; go_wp2_with fail; have HW1 : Sl (Mv g w wr ∧ PB wr g N d1) := ⟨HW.out.1, by rw [HID.out]; exact HW.out.2⟩; clear HW; obtain ⟨d2, hd2⟩ : ∃ d2, d1 = d2 := ⟨_, rfl⟩; have HW2 : Sl (Mv g w wr ∧ PB wr g N d2) := ⟨by rw [← hd2]; exact HW1.out⟩; have HD2 : Sl (Pm a mid d1 d2 ∧ Srt due d2 a mid) := ⟨by rw [← hd2]; exact ⟨.refl, HL2.out⟩⟩; clear HW1 hd2; have HE2 : Sl (Srt due d2 mid en ∧ Srt due d2 en b) := ⟨HSP.out.2.2.1.congr fun k k1 k2 => HD2.out.1.far (.inr k1), HSP.out.2.2.2.1.congr fun k k1 k2 => HD2.out.1.far (.inr (by have := HG.out; omega))⟩; obtain ⟨d3, hd3⟩ : ∃ d3, d2 = d3 := ⟨_, rfl⟩; have HW3 : Sl (Mv g w wr ∧ PB wr g N d3) := ⟨by rw [← hd3]; exact HW2.out⟩
            have HD3 : Sl (Pm mid b d2 d3 ∧ Srt due d3 mid b) := ⟨by rw [← hd3]; exact ⟨.refl, by
              exact HE2.out.2.sub (by have := HG.out; omega) (Nat.le_refl _)⟩⟩
            clear HW2 hd3
            ((try simp only [Exit.inBlock, Exit.then]); refine bodyPost_end (results_none rfl _ _ _) rfl ?_)
            exact ⟨rfl, HW3.out.1, d3, HW3.out.2, ((HPM.out.trans (HD2.out.1.mono (Nat.le_refl _) (by have := HG.out; omega))).trans (HD3.out.1.mono (by have := HG.out; omega) (Nat.le_refl _))), sym_end HSP.out.2.2.2.2 HD2.out.1 HD2.out.2 HD3.out.1 HD3.out.2⟩
set_option maxHeartbeats 3200000 in
theorem symMerge_any (g gf N cap : Nat) : ∀ (s a m b : Nat), b - a ≤ s → Merges g gf N cap a m b
  | 0, a, m, b, hs => fun d w _ _ _ h1 h2 => by omega
  | s+1, a, m, b, hs => fun d w hp hf hne h1 h2 h3 h4 h5 h6 => by
    by_cases hl : m = a + 1
    · exact smLeft_any g gf N cap a m b d w hp hf hne h1 h2 h3 h4 h5 h6 hl
    · by_cases hr : b = m + 1
      · exact smRight_any g gf N cap a m b d w hp hf hne h1 h2 h3 h4 h5 h6 hl hr
      · exact smMid_any g gf N cap a m b d w hp hf hne h1 h2 h3 h4 h5 h6 hl hr fun a' m' b' h => symMerge_any g gf N cap s a' m' b' (by omega)
end Go.Proofs.YtkjkbhkcebbjdaaGreatDoor
namespace Go.Proofs.YtkjkbhkcebbjdaaGreatDoor
set_option linter.unusedSimpArgs false
open Go.RowKit
set_option linter.unusedVariables false
section
variable {α : Type} {κ : α → Int}
def Lft (κ : α → Int) (d : Nat → α) (s t : Nat) : Prop := ∀ v, v < t → Srt κ d (v * s) (v * s + s)
theorem Lft.far {d e : Nat → α} {s t b : Nat} (h : Lft κ d s t) (hp : Pm (t * s) b d e) : Lft κ e s t := fun v hv => (h v hv).congr fun k k1 k2 => hp.far (.inl (by
  have := Nat.mul_le_mul_right s (show v + 1 ≤ t from hv); rw [Nat.succ_mul] at this
  omega))
theorem Lft.succ {d e : Nat → α} {s t b : Nat} (h : Lft κ d s t) (hp : Pm (t * s) b d e) (hs : Srt κ e (t * s) (t * s + s)) : Lft κ e s (t + 1) := fun v hv => by
  rcases Nat.lt_or_ge v t with h1 | h1
  · exact h.far hp v h1
  · rw [show v = t by omega]; exact hs
theorem Lft.bks {d : Nat → α} {n s t : Nat} (h : Lft κ d s t) (hl : Srt κ d (t * s) n) (hn : n < t * s + s) : Bks κ d n s 0 := fun v hv => by
  rw [Nat.zero_add] at *
  rcases Nat.lt_trichotomy v t with h1 | h1 | h1
  · exact (h v h1).sub (Nat.le_refl _) (Nat.min_le_left _ _)
  · subst h1; exact hl.sub (Nat.le_refl _) (Nat.min_le_right _ _)
  · have := Nat.mul_le_mul_right s (show t + 1 ≤ v from h1); rw [Nat.succ_mul] at this; omega
theorem Bks.fst {d : Nat → α} {n s lo : Nat} (h : Bks κ d n s lo) (hl : lo + s ≤ n) (hs : 0 < s) : Srt κ d lo (lo + s) := by
  have := h.at0 (by omega)
  rwa [Nat.min_eq_left hl] at this
theorem Bks.lst {d : Nat → α} {n s lo : Nat} (h : Bks κ d n s lo) (hl : n ≤ lo + s) : Srt κ d lo n := by
  rcases Nat.lt_or_ge lo n with h1 | h1
  · have := h.at0 h1
    rwa [Nat.min_eq_right hl] at this
  · exact .one (by omega)
end
set_option maxHeartbeats 12800000 in
set_option maxRecDepth 100000 in
theorem lwStable_any (g gf N cap : Nat) (d : Nat → PI) (w : World) (h : PB w g N d) (hf : KeyAt w gf) (hne : gf ≠ g) (hN : N ≤ 100000) :
    Calls Tryz.prog 63 #[.slice (some ⟨g, 0, none⟩) N cap, .int .i64 N, .func (.func 54) #[] #[.pointer (some ⟨gf, 0, none⟩)]] w fun e w' => e = .returned (.tuple #[]) ∧ Mv g w w' ∧ ∃ d', PB w' g N d' ∧ Pm 0 N d d' ∧ Srt due d' 0 N := by
  have HP : Sl _ := ⟨h⟩; have HF : Sl (∀ W, Mv g w W → KeyAt W gf) := ⟨fun W hm => Blk.mv hf hm hne⟩; have HAB : Sl (N ≤ 100000 ∧ gf ≠ g) := ⟨hN, hne⟩; have hN6 : (N : Int) ≤ 100000 := (by omega); clear h hf hne hN; go_enter Tryz.func63, Tryz.ntmps63; go_wp2_with fail
  go_loopw [7, 8] (fun s7 s8 wr => ∃ (a : Nat) (e : Nat → PI), a ≤ N ∧ s7 = .int .i64 a ∧ s8 = .int .i64 ((a : Int) + 20) ∧ Sl (Mv g w wr ∧ PB wr g N e ∧ Pm 0 N d e) ∧ Sl (∃ t, a = t * 20 ∧ Lft due e 20 t)) (fun s7 _ _ => N - (RowKit.intOf s7).toNat)
  case atStart => exact ⟨0, d, Nat.zero_le _, by go_num, by go_num, ⟨Mv.refl _ _, HP.out, .refl⟩, ⟨0, rfl, fun v hv => by omega⟩⟩
  case round =>
    clear HP; obtain ⟨a, e, haN, rfl, rfl, HK, HB⟩ := hrel
    by_cases hb : a + 20 ≤ N
    · have hbI : (a : Int) + 20 ≤ (N : Int) := (by omega); obtain ⟨b, hbb⟩ : ∃ b, a + 20 = b := ⟨_, rfl⟩; have hbbI : (a : Int) + 20 = (b : Int) := (by omega); have HBB : Sl _ := ⟨hbb⟩; have HI : Sl _ := ⟨insSort_any g gf N cap a b e wr HK.out.2.1 (HF.out wr HK.out.1) HAB.out.2 (by omega) (by omega) (by have := HAB.out.1; omega)⟩; rw [hbbI]; have hbN : (b : Int) ≤ (N : Int) := (by omega); clear hbb hbbI hbI hb; go_wp2_with fail; refine HI.out.mono ?_; rintro ee w2 ⟨rfl, hm2, e2, hp2, hq2, hs2⟩; have HW : Sl (Mv g w w2 ∧ PB w2 g N e2 ∧ Pm 0 N d e2) := ⟨Mv.trans HK.out.1 hm2, hp2, HK.out.2.2.trans (hq2.mono (Nat.zero_le _) (by omega))⟩
      have HB2 : Sl (∃ t, b = t * 20 ∧ Lft due e2 20 t) := ⟨by
        obtain ⟨t, e1, h1⟩ := HB.out; have h2 := HBB.out; refine ⟨t + 1, by rw [Nat.succ_mul]; omega, ?_⟩
        refine h1.succ (b := b) (by rw [← e1]; exact hq2) (by rw [← e1, h2]; exact hs2)⟩
      clear hm2 hp2 hq2 hs2 HI HK HB; go_wp2_with fail; exact ⟨⟨b, e2, by omega, rfl, by go_num, HW, HB2⟩, by have := HBB.out; simp [RowKit.intOf]; omega⟩
    · have hbI : ¬ (a : Int) + 20 ≤ (N : Int) := (by omega); have hbd : decide ((a : Int) + 20 ≤ (N : Int)) = false := decide_eq_false hbI; have HI : Sl _ := ⟨insSort_any g gf N cap a N e wr HK.out.2.1 (HF.out wr HK.out.1) HAB.out.2 haN (Nat.le_refl _) (by have := HAB.out.1; omega)⟩; go_wp2_with fail; refine HI.out.mono ?_; rintro ee w2 ⟨rfl, hm2, e2, hp2, hq2, hs2⟩
      have HW : Sl (Mv g w w2 ∧ PB w2 g N e2 ∧ Pm 0 N d e2 ∧ Bks due e2 N 20 0) := ⟨Mv.trans HK.out.1 hm2, hp2, HK.out.2.2.trans (hq2.mono (Nat.zero_le _) (Nat.le_refl _)), by
        obtain ⟨t, e1, h1⟩ := HB.out; rw [e1] at hq2 hs2
        exact (h1.far hq2).bks hs2 (by omega)⟩
      clear hm2 hp2 hq2 hs2 HI HK HB hbd hbI hb; go_wp2_with fail
      go_loopw [6, 7, 8, 9] (fun s6 s7 s8 s9 wr => ∃ (s : Nat) (v7 v8 v9 : Value) (e : Nat → PI), 0 < s ∧ s ≤ 2 * N + 20 ∧ s6 = .int .i64 s ∧ s7 = v7 ∧ s8 = v8 ∧ s9 = v9 ∧ Sl (Mv g w wr ∧ PB wr g N e ∧ Pm 0 N d e ∧ Bks due e N s 0)) (fun s6 _ _ _ _ => N - (RowKit.intOf s6).toNat)
      case atStart => exact ⟨20, _, _, _, e2, by decide, by omega, by go_num, rfl, rfl, rfl, HW⟩
      case round =>
        clear HW; obtain ⟨s, v7, v8, v9, e3, hs0, hsN, rfl, rfl, rfl, rfl, HW⟩ := hrel
        by_cases hs : s < N
        · have hsI : (s : Int) < (N : Int) := (by omega); obtain ⟨s2, hs2⟩ : ∃ s2, s + s = s2 := ⟨_, rfl⟩; have hs2I : 2 * (s : Int) = (s2 : Int) := (by omega); have hs2J : (s : Int) * 2 = (s2 : Int) := (by omega); have hs2w : IntKind.i64.wrap (s2 : Int) = (s2 : Int) := (by rw [IntKind.wrap_i64]; omega); have hs26 : (s2 : Int) ≤ 200000 := (by omega); have HS2 : Sl (s + s = s2 ∧ 0 < s ∧ s < N) := ⟨hs2, hs0, hs⟩; clear hs2; go_wp2_with fail
          go_loopw [7, 8] (fun s7 s8 wr => ∃ (a : Nat) (e : Nat → PI), a ≤ N ∧ s7 = .int .i64 a ∧ s8 = .int .i64 ((a : Int) + (s2 : Int)) ∧ Sl (Mv g w wr ∧ PB wr g N e ∧ Pm 0 N d e ∧ Bks due e N s a) ∧ Sl (∃ t, a = t * s2 ∧ Lft due e s2 t)) (fun s7 _ _ => N - (RowKit.intOf s7).toNat)
          case atStart => exact ⟨0, e3, Nat.zero_le _, by go_num, by go_num, HW, ⟨0, by omega, fun v hv => by omega⟩⟩
          case round =>
            clear HW; obtain ⟨a, e4, haN4, rfl, rfl, HK, HB⟩ := hrel
            by_cases hb : a + s2 ≤ N
            · obtain ⟨b, hbb⟩ : ∃ b, a + s2 = b := ⟨_, rfl⟩; have hbbI : (a : Int) + (s2 : Int) = (b : Int) := (by omega); obtain ⟨m, hm⟩ : ∃ m, a + s = m := ⟨_, rfl⟩; have hmI : (a : Int) + (s : Int) = (m : Int) := (by omega); have hmw : IntKind.i64.wrap (m : Int) = (m : Int) := (by rw [IntKind.wrap_i64]; omega); have HBB : Sl (a + s2 = b ∧ a + s = m) := ⟨hbb, hm⟩; have hss := HS2.out
              have HI : Sl _ := ⟨symMerge_any g gf N cap (b - a) a m b (Nat.le_refl _) e4 wr HK.out.2.1 (HF.out wr HK.out.1) HAB.out.2 (by omega) (by omega) (by omega) (by have := HAB.out.1; omega)
                (by rw [← hm]; exact HK.out.2.2.2.fst (by omega) hs0) (by rw [show b = m + s by omega, ← hm]; exact HK.out.2.2.2.next.fst (by omega) hs0)⟩
              rw [hbbI]; have hbN : (b : Int) ≤ (N : Int) := (by omega); clear hbb hm hbbI hss hb; go_wp2_with fail; refine HI.out.mono ?_; rintro ee w5 ⟨rfl, hm5, e5, hp5, hq5, hs5⟩
              have HW : Sl (Mv g w w5 ∧ PB w5 g N e5 ∧ Pm 0 N d e5 ∧ Bks due e5 N s b) := ⟨Mv.trans HK.out.1 hm5, hp5, HK.out.2.2.1.trans (hq5.mono (Nat.zero_le _) (by omega)), by
                have h1 := HK.out.2.2.2.next.next; have h2 := HBB.out; have h3 := HS2.out; rw [show a + s + s = b by omega] at h1
                exact h1.congr fun k k1 k2 => hq5.far (.inr k1)⟩
              have HB2 : Sl (∃ t, b = t * s2 ∧ Lft due e5 s2 t) := ⟨by
                obtain ⟨t, e1, h1⟩ := HB.out; have h2 := HBB.out.1; refine ⟨t + 1, by rw [Nat.succ_mul]; omega, ?_⟩
                refine h1.succ (b := b) (by rw [← e1]; exact hq5) (by rw [← e1, h2]; exact hs5)⟩
              clear hm5 hp5 hq5 hs5 HI HK HB; go_wp2_with fail; exact ⟨⟨b, e5, by omega, rfl, by go_num, HW, HB2⟩, by have := HBB.out; have := HS2.out; simp [RowKit.intOf]; omega⟩
            · have hbI : ¬ (a : Int) + (s2 : Int) ≤ (N : Int) := (by omega); have hbd : decide ((a : Int) + (s2 : Int) ≤ (N : Int)) = false := decide_eq_false hbI; obtain ⟨m, hm⟩ : ∃ m, a + s = m := ⟨_, rfl⟩; have hmI : (a : Int) + (s : Int) = (m : Int) := (by omega); have hmw : IntKind.i64.wrap (m : Int) = (m : Int) := (by rw [IntKind.wrap_i64]; omega); have hss := HS2.out
              by_cases hmN : m < N
              · have hmNI : (m : Int) < (N : Int) := (by omega); have hmNd : decide ((m : Int) < (N : Int)) = true := decide_eq_true hmNI
                have HI : Sl _ := ⟨symMerge_any g gf N cap (N - a) a m N (Nat.le_refl _) e4 wr HK.out.2.1 (HF.out wr HK.out.1) HAB.out.2 (by omega) hmN (Nat.le_refl _) (by have := HAB.out.1; omega)
                  (by rw [← hm]; exact HK.out.2.2.2.fst (by omega) hs0) (by rw [← hm]; exact HK.out.2.2.2.next.lst (by omega))⟩
                have HNS : Sl (N < a + s2) := ⟨by omega⟩; clear hm hss hmN hb; go_wp2_with fail; refine HI.out.mono ?_; rintro ee w5 ⟨rfl, hm5, e5, hp5, hq5, hs5⟩
                have HW : Sl (Mv g w w5 ∧ PB w5 g N e5 ∧ Pm 0 N d e5 ∧ Bks due e5 N s2 0) := ⟨Mv.trans HK.out.1 hm5, hp5, HK.out.2.2.1.trans (hq5.mono (Nat.zero_le _) (Nat.le_refl _)), by
                  obtain ⟨t, e1, h1⟩ := HB.out; have h2 := HNS.out; rw [e1] at hq5 hs5 h2
                  exact (h1.far hq5).bks hs5 h2⟩
                clear hm5 hp5 hq5 hs5 HI HK HB hbd hbI hmI hmNd hmNI; go_wp2_with fail; exact ⟨⟨s2, _, _, _, e5, by have := HS2.out; omega, by have := HS2.out; omega, by go_num, rfl, rfl, rfl, HW⟩, by have := HS2.out; simp [RowKit.intOf]; omega⟩
              · have hmNI : ¬ (m : Int) < (N : Int) := (by omega); have hmNd : decide ((m : Int) < (N : Int)) = false := decide_eq_false hmNI
                have HW : Sl (Mv g w wr ∧ PB wr g N e4 ∧ Pm 0 N d e4 ∧ Bks due e4 N s2 0) := ⟨HK.out.1, HK.out.2.1, HK.out.2.2.1, by
                  obtain ⟨t, e1, h1⟩ := HB.out; have h2 := HK.out.2.2.2.lst (by omega); have h3 : N < a + s2 := (by omega); rw [e1] at h2 h3
                  exact h1.bks h2 h3⟩
                clear hm hss hmN hb HK HB; go_wp2_with fail; exact ⟨⟨s2, _, _, _, e4, by have := HS2.out; omega, by have := HS2.out; omega, by go_num, rfl, rfl, rfl, HW⟩, by have := HS2.out; simp [RowKit.intOf]; omega⟩
        · have hsI : ¬ (s : Int) < (N : Int) := (by omega); have hsd : decide ((s : Int) < (N : Int)) = false := decide_eq_false hsI; have HFN : Sl (Srt due e3 0 N) := ⟨HW.out.2.2.2.lst (by omega)⟩; go_wp2_with fail; go_end0; exact ⟨rfl, HW.out.1, e3, HW.out.2.1, HW.out.2.2.1, HFN.out⟩
set_option maxHeartbeats 3200000 in
set_option maxRecDepth 100000 in
theorem lwSortStable_any (g gf N cap : Nat) (d : Nat → PI) (w : World) (h : PB w g N d) (hf : KeyAt w gf) (hne : gf ≠ g) (hN : N ≤ 100000) :
    Calls Tryz.prog 53 #[.slice (some ⟨g, 0, none⟩) N cap, .func (.func 54) #[] #[.pointer (some ⟨gf, 0, none⟩)]] w fun e w' => e = .returned (.tuple #[]) ∧ Mv g w w' ∧ ∃ d', PB w' g N d' ∧ Pm 0 N d d' ∧ Srt due d' 0 N := by
  have HI : Sl _ := ⟨lwStable_any g gf N cap d w h hf hne hN⟩; clear h hf hne hN; go_enter Tryz.func53, Tryz.ntmps53; go_wp2_with fail; refine HI.out.mono ?_; rintro e w2 ⟨rfl, h1, h2⟩; have HM : Sl _ := ⟨And.intro h1 h2⟩; clear h1 h2 HI; go_wp2_with fail; go_end0; exact ⟨rfl, HM.out⟩
set_option maxHeartbeats 3200000 in
set_option maxRecDepth 100000 in
theorem lwBy_any (g N cap : Nat) (d : Nat → PI) (w : World) (h : PB w g N d) (hN : N ≤ 100000) :
    Calls Tryz.prog 34 #[.slice (some ⟨g, 0, none⟩) N cap, .func (.func 35) #[] #[]] w fun e w' => e = .returned (.tuple #[]) ∧ Mv g w w' ∧ ∃ d', PB w' g N d' ∧ Pm 0 N d d' ∧ Srt due d' 0 N := by
  have hmf : ∀ (fn : Fn) (first cap : Array Value) (w : World), (Instr.makeFunc fn first cap).run Tryz.prog w = .ok (.func fn first cap) w := fun _ _ _ _ => rfl
  have hbn : KeyAt (w.alloc (.cells #[.func (.func 35) #[] #[]] 75)) w.heap.size := Blk.new w 75 #[.func (.func 35) #[] #[]]; have hu : Below w.heap.size w (w.alloc (.cells #[.func (.func 35) #[] #[]] 75)) := (Below.refl _ _).alloc (Nat.le_refl _) _; have HI : Sl _ := ⟨lwSortStable_any g w.heap.size N cap d _ (h.below hu h.lt) hbn (by have := h.lt; omega) hN⟩; have HU : Sl _ := ⟨hu⟩; clear h hN hbn hu; go_enter Tryz.func34, Tryz.ntmps34; go_wp2_with fail; refine HI.out.mono ?_; rintro e w2 ⟨rfl, h1, h2⟩; have HM : Sl _ := ⟨And.intro (Mv.trans (Mv.below HU.out) h1) h2⟩; clear h1 h2 HI; go_wp2_with fail; go_end0; exact ⟨rfl, HM.out⟩
end Go.Proofs.YtkjkbhkcebbjdaaGreatDoor
namespace Go.Proofs.YtkjkbhkcebbjdaaGreatDoor
set_option linter.unusedSimpArgs false
set_option linter.unusedVariables false
structure RSt (all : List Lw) (T : Int) (rest made : List Lw) : Prop where
  rest : rest = all.filter fun x => decide (T < x.2)
  made : made.Perm (all.filter fun x => decide (x.2 ≤ T))
theorem RSt.start {all : List Lw} (h : ∀ x ∈ all, -1000 < x.2) : RSt all (-1000) all [] := by
  refine ⟨(List.filter_eq_self.2 fun x hx => decide_eq_true (h x hx)).symm, ?_⟩; rw [List.filter_eq_nil_iff.2 fun x hx => ?_]; have := h x hx; simp; omega
theorem RSt.due {all rest made : List Lw} {T key : Int} (h : RSt all T rest made) : (∃ x ∈ rest, x.2 = key) ↔ dueAt all T key = true := by
  rw [dueAt_iff, h.rest]; constructor
  · rintro ⟨x, h1, h2⟩; rw [List.mem_filter] at h1; exact ⟨x, h1.1, of_decide_eq_true h1.2, h2⟩
  · rintro ⟨x, h1, h2, h3⟩; exact ⟨x, List.mem_filter.2 ⟨h1, decide_eq_true h2⟩, h3⟩
theorem filter_parts {α : Type} (p q r s : α → Bool) (h : ∀ x, s x = (p x || (q x && r x))) (hd : ∀ x, q x = true → p x = false) : ∀ l : List α, (l.filter p ++ (l.filter q).filter r).Perm (l.filter s)
  | [] => List.Perm.refl _
  | x :: l => by
    have ih := filter_parts p q r s h hd l; have hs := h x
    by_cases hp : p x = true
    · rw [hp, Bool.true_or] at hs
      have hq : q x = false := by
        rcases hqq : q x with _ | _
        · rfl
        · rw [hd x hqq] at hp; cases hp
      rw [List.filter_cons_of_pos hp, List.filter_cons_of_pos hs, List.filter_cons_of_neg (by rw [hq]; decide)]; exact ih.cons x
    · have hp2 : p x = false := (by simpa using hp); rw [List.filter_cons_of_neg hp]; rw [hp2, Bool.false_or] at hs
      by_cases hq : q x = true
      · rw [List.filter_cons_of_pos hq]
        by_cases hr : r x = true
        · rw [List.filter_cons_of_pos hr, List.filter_cons_of_pos (by rw [hs, hq, hr]; rfl)]; exact List.perm_middle.trans (ih.cons x)
        · rw [List.filter_cons_of_neg hr, List.filter_cons_of_neg (by rw [hs, hq]; simpa using hr)]; exact ih
      · rw [List.filter_cons_of_neg hq, List.filter_cons_of_neg (by rw [hs]; simp [hq])]; exact ih
theorem RSt.step {all rest made : List Lw} {T T' : Int} (h : RSt all T rest made) (ht : T ≤ T') : RSt all T' (rest.filter fun x => decide (T' < x.2)) (made ++ rest.filter fun x => decide (x.2 ≤ T')) := by
  constructor
  · rw [h.rest, List.filter_filter]; refine List.filter_congr fun x _ => ?_
    by_cases h1 : T' < x.2
    · rw [decide_eq_true h1, decide_eq_true (show T < x.2 by omega)]; rfl
    · rw [decide_eq_false h1]; rfl
  · refine (h.made.append_right _).trans ?_; rw [h.rest]; refine filter_parts _ _ _ _ (fun x => ?_) (fun x hx => ?_) all
    · by_cases h1 : x.2 ≤ T
      · rw [decide_eq_true h1, decide_eq_true (show x.2 ≤ T' by omega)]; rfl
      · rw [decide_eq_false h1, decide_eq_true (show T < x.2 by omega)]; rfl
    · have := of_decide_eq_true hx; exact decide_eq_false (by omega)
theorem RSt.row {all rest made : List Lw} {T : Int} (h : RSt all T rest made) (l : List Int) : fl1 (lowF l made) l.length = rowN l all T := by
  unfold fl1 rowN; refine List.map_congr_left fun i _ => ?_
  unfold lowF
  have e : cnt1 made i = cntT all i T := by
    unfold cnt1 cntT; rw [h.made.countP_eq, List.countP_filter]
  rw [e]
def pI (x : Lw) : PI := ((x.1 : Int), x.2)
def frI (d : Nat → PI) (p i : Nat) : Nat := ((List.range p).map d).countP fun x => decide (x.1 = (i : Int))
theorem frI_succ (d : Nat → PI) (p i : Nat) : frI d (p + 1) i = frI d p i + if (d p).1 = (i : Int) then 1 else 0 := by
  unfold frI; rw [List.range_succ, List.map_append, List.countP_append]; congr 1
  by_cases h : (d p).1 = (i : Int)
  · rw [if_pos h]; simp [h]
  · rw [if_neg h]; simp [h]
structure PSt (all : List Lw) (d : Nat → PI) (N : Nat) (T : Int) (p : Nat) : Prop where
  perm : ((List.range N).map d).Perm (all.map pI)
  srt : Srt due d 0 N
  le : p ≤ N
  lo : ∀ j, j < p → (d j).2 ≤ T
  hi : ∀ j, p ≤ j → j < N → T < (d j).2
theorem PSt.cnt {all : List Lw} {d : Nat → PI} {N : Nat} {T : Int} {p : Nat} (h : PSt all d N T p) (i : Nat) : frI d p i = cntT all i T := by
  have e1 : cntT all i T = ((List.range N).map d).countP fun y => decide (y.1 = (i : Int)) && decide (y.2 ≤ T) := by
    rw [h.perm.countP_eq, List.countP_map]; unfold cntT; refine List.countP_congr fun x _ => ?_
    show (decide (x.1 = i) && decide (x.2 ≤ T)) = true ↔ (decide ((x.1 : Int) = (i : Int)) && decide (x.2 ≤ T)) = true; rw [Bool.and_eq_true, Bool.and_eq_true, decide_eq_true_iff, decide_eq_true_iff, decide_eq_true_iff]; omega
  rw [e1]
  have hs : List.range N = List.range p ++ (List.range (N - p)).map (p + ·) := by
    have := List.range_add (n := p) (m := N - p)
    rwa [Nat.add_sub_cancel' h.le] at this
  rw [hs, List.map_append, List.countP_append]
  have z : (((List.range (N - p)).map (p + ·)).map d).countP (fun y => decide (y.1 = (i : Int)) && decide (y.2 ≤ T)) = 0 := by
    rw [List.countP_eq_zero]; intro y hy; rw [List.mem_map] at hy; obtain ⟨j, hj, rfl⟩ := hy; rw [List.mem_map] at hj; obtain ⟨t, ht, rfl⟩ := hj; have := h.hi (p + t) (by omega) (by have := List.mem_range.1 ht; omega); simp; intro _; omega
  rw [z, Nat.add_zero]; unfold frI; refine List.countP_congr fun y hy => ?_
  rw [List.mem_map] at hy; obtain ⟨j, hj, rfl⟩ := hy; have := h.lo j (List.mem_range.1 hj); simp [this]
def nowF (l : List Int) (d : Nat → PI) (p i : Nat) : Int := gt l i - 12 * (frI d p i : Int)
theorem PSt.row {all : List Lw} {d : Nat → PI} {N : Nat} {T : Int} {p : Nat} (h : PSt all d N T p) (l : List Int) : fl1 (nowF l d p) l.length = rowN l all T := by
  unfold fl1 rowN; refine List.map_congr_left fun i _ => ?_
  unfold nowF; rw [h.cnt i]
theorem PSt.mem {all : List Lw} {d : Nat → PI} {N : Nat} {T : Int} {p : Nat} (h : PSt all d N T p) {j : Nat} (hj : j < N) : ∃ x ∈ all, pI x = d j := by
  have : d j ∈ all.map pI := h.perm.mem_iff.1 (List.mem_map.2 ⟨j, List.mem_range.2 hj, rfl⟩); exact List.mem_map.1 this
theorem PSt.none {all : List Lw} {d : Nat → PI} {N : Nat} {T : Int} (h : PSt all d N T N) : ∀ x ∈ all, x.2 ≤ T := fun x hx => by
  have : pI x ∈ (List.range N).map d := h.perm.mem_iff.2 (List.mem_map.2 ⟨x, hx, rfl⟩); obtain ⟨j, hj, e⟩ := List.mem_map.1 this; have h1 := h.lo j (List.mem_range.1 hj); rw [e] at h1; exact h1
theorem PSt.next {all : List Lw} {d : Nat → PI} {N : Nat} {T : Int} {p : Nat} (h : PSt all d N T p) (hp : p < N) : T < (d p).2 ∧ (∀ x ∈ all, T < x.2 → (d p).2 ≤ x.2) ∧ dueAt all T (d p).2 = true := by
  refine ⟨h.hi p (Nat.le_refl _) hp, fun x hx hT => ?_, ?_⟩
  · have : pI x ∈ (List.range N).map d := h.perm.mem_iff.2 (List.mem_map.2 ⟨x, hx, rfl⟩); obtain ⟨j, hj, e⟩ := List.mem_map.1 this; have hjN := List.mem_range.1 hj; have e2 : (d j).2 = x.2 := (by rw [e]; rfl); rcases Nat.lt_or_ge j p with h1 | h1
    · have := h.lo j h1; omega
    · have := h.srt p j (Nat.zero_le _) h1 hjN; unfold due at this; omega
  · obtain ⟨x, hx, e⟩ := h.mem hp; have e2 : x.2 = (d p).2 := (by rw [← e]; rfl); exact dueAt_iff.2 ⟨x, hx, by rw [e2]; exact h.hi p (Nat.le_refl _) hp, e2⟩
end Go.Proofs.YtkjkbhkcebbjdaaGreatDoor
namespace Go.Proofs.YtkjkbhkcebbjdaaGreatDoor
set_option linter.unusedSimpArgs false
open Go.RowKit
set_option linter.unusedVariables false
abbrev tB : TypeId := 49
abbrev tI : TypeId := 3
theorem tBI : tB ≠ tI := by decide
structure BM (w : World) (B : Nat) (v : Value) (o : List (Int × List Int)) (L : List Bk) : Prop where
  own : w.ownsRow B tB 2 v L.length (L.flatMap Bk.cells)
  told : L.map (fun b => (b.fr, b.l)) = o
  rows : ∀ b ∈ L, w.ownsRow B tI 1 (.slice b.A b.n b.c) b.n (b.l.map iv)
theorem BM.nil (w : World) (B : Nat) : BM w B (.slice none 0 0) [] [] := ⟨World.ownsRow_nil _ _ _ _, rfl, fun b h => by cases h⟩
theorem BM.mv {w w' : World} {B g : Nat} {v : Value} {o : List (Int × List Int)} {L : List Bk} (h : BM w B v o L) (hm : Mv g w w') (hv : v.ownBlock ≠ some g) (hr : ∀ b ∈ L, (Value.slice b.A b.n b.c).ownBlock ≠ some g) : BM w' B v o L :=
  ⟨own_mv h.own hm (fun k hk e => hv (by rw [hk, e])), h.told, fun b hb => own_mv (h.rows b hb) hm (fun k hk e => hr b hb (by rw [hk, e]))⟩
theorem BM.below {w w' : World} {B : Nat} {v : Value} {o : List (Int × List Int)} {L : List Bk} (h : BM w B v o L) (hb : Below w.heap.size w w') : BM w' B v o L := by
  refine h.mv (Mv.of_below hb) (fun e => ?_) (fun b hbm e => ?_)
  · have := (h.own.lt _ e).2; omega
  · have := ((h.rows b hbm).lt _ e).2; omega
theorem own_types {w : World} {base base' size size' n n' : Nat} {e e' : TypeId} {v v' : Value} {xs xs' : List Value} (h : w.ownsRow base e size v n xs) (h' : w.ownsRow base' e' size' v' n' xs') (hne : e ≠ e') : ∀ k, v.ownBlock = some k → v'.ownBlock ≠ some k := by
  intro k hk hk'; rcases h'.2 with ⟨rfl, _⟩ | ⟨b', cap, cur, rfl, _, hh, _⟩
  · simp [Value.ownBlock] at hk'
  · have e1 : b' = k := (by simpa [Value.ownBlock] using hk'); exact own_blk_ne (t := e') (cs := cur) h (g := b') hh hne (by rw [hk, e1])
theorem BM.push {w w' : World} {B : Nat} {ob : Obj} {v v' : Value} {o : List (Int × List Int)} {L : List Bk} {b : Bk} (h : BM w B v o L) (hb : w.ownsRow B tI 1 (.slice b.A b.n b.c) b.n (b.l.map iv))
    (hown : w'.ownsRow B tB 2 v' (L.length + 1) (L.flatMap Bk.cells ++ b.cells)) (hg : (w.alloc ob).grownBy w' v.ownBlock) : BM w' B v' (o ++ [(b.fr, b.l)]) (L ++ [b]) := by
  have keep : ∀ b' : Bk, w.ownsRow B tI 1 (.slice b'.A b'.n b'.c) b'.n (b'.l.map iv) → w'.ownsRow B tI 1 (.slice b'.A b'.n b'.c) b'.n (b'.l.map iv) := fun b' hb' => by
    obtain ⟨g, hg1⟩ : ∃ g, ∀ k, v.ownBlock = some k → k = g := by
      rcases hv : v.ownBlock with _ | k
      · exact ⟨(w.alloc ob).heap.size, fun k hk => by cases hk⟩
      · exact ⟨k, fun k' hk => by injection hk with hk; exact hk.symm⟩
    have hm : (w.alloc ob).grownBy w' v.ownBlock := hg; refine ⟨hb'.1, ?_⟩; rcases (xown_alloc hb' ob).2 with h0 | ⟨gb, cap, cur, e1, hb1, hh, h1⟩
    · exact .inl h0
    · refine .inr ⟨gb, cap, cur, e1, hb1, ?_, h1⟩; have hlt : gb < (w.alloc ob).heap.size := Blk.lt (t := tI) (cs := cur) hh; refine (hg.block gb hlt (fun e => ?_)).trans hh; have := own_types h.own hb' tBI gb e.symm; rw [e1] at this; exact this rfl
  refine ⟨?_, ?_, fun b' hb' => ?_⟩
  · rw [List.length_append, List.flatMap_append]; simpa using hown
  · rw [List.map_append, h.told]; rfl
  · rcases List.mem_append.1 hb' with h1 | h1
    · exact keep b' (h.rows b' h1)
    · have : b' = b := (by simpa using h1); subst this; exact keep b' hb
theorem BM.len {w : World} {B : Nat} {v : Value} {o : List (Int × List Int)} {L : List Bk} (h : BM w B v o L) : L.length = o.length := by rw [← h.told, List.length_map]
theorem BM.mx {w : World} {B : Nat} {v : Value} {o : List (Int × List Int)} {L : List Bk} (h : BM w B v o L) : ∃ A c, v = .slice A L.length c ∧ MX w A L.length L := by
  obtain ⟨A, c, e, hr⟩ := own_slice2 h.own; refine ⟨A, c, e, ⟨rfl, hr, fun b hb => ⟨?_, Reads.of_own (h.rows b hb)⟩⟩⟩; have := (h.rows b hb).1; rw [List.length_map] at this; omega
theorem own_cap {w : World} {base size n c : Nat} {e : TypeId} {A : Option Addr} {xs : List Value} (h : w.ownsRow base e size (.slice A n c) n xs) : n ≤ c ∧ c ≤ maxLen := by
  rcases h.2 with ⟨h1, h2⟩ | ⟨g, cap, cur, h1, _, _, hnc, hcm, _⟩
  · injection h1 with e1 e2 e3; subst e2 e3; exact ⟨Nat.le_refl _, Nat.zero_le _⟩
  · injection h1 with e1 e2 e3; subst e3; exact ⟨hnc, hcm⟩
theorem BM.mxa {w : World} {B : Nat} {v : Value} {o : List (Int × List Int)} {L : List Bk} (h : BM w B v o L) (hf : ∀ b ∈ L, i64 b.fr) (hi : ∀ b ∈ L, ∀ z ∈ b.l, i64 z) : ∃ A c, v = .slice A L.length c ∧ MXA w A L.length c L := by
  obtain ⟨A, c, e, hm⟩ := h.mx; refine ⟨A, c, e, hm, ?_, hf, fun b hb => own_cap (h.rows b hb), hi⟩; have := h.own; rw [e] at this; exact own_cap this
end Go.Proofs.YtkjkbhkcebbjdaaGreatDoor
namespace Go.Proofs.YtkjkbhkcebbjdaaGreatDoor
set_option linter.unusedSimpArgs false
open Go.RowKit
set_option linter.unusedVariables false
end Go.Proofs.YtkjkbhkcebbjdaaGreatDoor
namespace Go.Proofs.YtkjkbhkcebbjdaaGreatDoor
set_option linter.unusedSimpArgs false
set_option linter.unusedVariables false
theorem scn_mem {l : List Int} {all : List Lw} {e a : Int} : ∀ (k : Nat), ∀ x ∈ (scn l all e a k).2, a ≤ x.1 ∧ x.1 < a + (k : Int) ∧ x.2 = rowT l all (x.1 + e)
  | 0, x, h => by simp [scn] at h
  | k+1, x, h => by
    rw [scn] at h
    split at h
    · simp only [] at h; rcases List.mem_append.1 h with h | h
      · obtain ⟨h1, h2, h3⟩ := scn_mem k x h; exact ⟨h1, by omega, h3⟩
      · have : x = (a + (k : Int), rowT l all (a + (k : Int) + e)) := (by simpa using h); rw [this]; exact ⟨by simp only []; omega, by simp only []; omega, rfl⟩
    · obtain ⟨h1, h2, h3⟩ := scn_mem k x h; exact ⟨h1, by omega, h3⟩
theorem cntT_17 {l : List Int} {most u : Int} {T : Int} {i n : Nat} (h0 : 0 ≤ most) (hu : u ≤ 127) (hi : i < n → gt l i ≤ 72) : cntT (lwA l most u n) i T ≤ 17 := by
  rw [lwA_count]
  split
  · next h => exact lwN_17 (by have := hi h; omega) (by omega)
  · exact Nat.zero_le _
theorem rowT_bd {l : List Int} {most u T : Int} (h0 : 0 ≤ most) (hu : u ≤ 127) (hz : ∀ j, j < l.length → -24 ≤ gt l j ∧ gt l j ≤ 72) : ∀ z ∈ rowT l (lwA l most u l.length) T, -300 ≤ z ∧ z ≤ 72 := by
  intro z h; unfold rowT at h; have h2 := (srt_perm _).mem_iff.1 h; unfold rowN at h2; obtain ⟨i, hi, rfl⟩ := List.mem_map.1 h2; have hil := List.mem_range.1 hi; have h1 := hz i hil; have h3 := cntT_17 (l := l) (most := most) (u := u) (T := T) (i := i) (n := l.length) h0 hu (fun _ => h1.2); omega
theorem gt_mem {l : List Int} (h : 0 < l.length) : gt l 0 ∈ l := by
  cases l with
  | nil => simp at h
  | cons a l => simp [gt]
theorem plO_mem {f u : Int} {l : List Int} {most early : Int} (h0 : 0 ≤ most) (hu : u ≤ 127) (hz : ∀ j, j < l.length → -24 ≤ gt l j ∧ gt l j ≤ 72) {k : Nat} {x : Int × List Int} (hx : x ∈ (scn l (lwA l most u l.length) early f k).2) :
    (f ≤ x.1 ∧ x.1 < f + (k : Int)) ∧ x.2.length = l.length ∧ ∀ z ∈ x.2, -300 ≤ z ∧ z ≤ 72 := by
  obtain ⟨h1, h2, h3⟩ := scn_mem k x hx; exact ⟨⟨h1, h2⟩, by rw [h3, rowT_len], by rw [h3]; exact rowT_bd h0 hu hz⟩
theorem outL_in {l : List Int} (h : outL l = false) : ∀ j, j < l.length → -24 ≤ gt l j ∧ gt l j ≤ 72 := fun j hj => by
  have h1 : ¬ (anyN l.length fun j => outI (gt l j)) = true := (by unfold outL at h; rw [h]; decide); have h2 : ¬ outI (gt l j) = true := fun h3 => h1 (anyN_iff.2 ⟨j, hj, h3⟩)
  unfold outI at h2; simp at h2; omega
end Go.Proofs.YtkjkbhkcebbjdaaGreatDoor
namespace Go.Proofs.YtkjkbhkcebbjdaaGreatDoor
set_option linter.unusedSimpArgs false
open Go.RowKit
set_option linter.unusedVariables false
end Go.Proofs.YtkjkbhkcebbjdaaGreatDoor
namespace Go.Proofs.YtkjkbhkcebbjdaaGreatDoor
set_option linter.unusedSimpArgs false
open Go.RowKit
set_option linter.unusedVariables false
def plO (f u : Int) (l : List Int) (most early : Int) : List (Int × List Int) := (scn l (lwA l most u l.length) early f (u - f + 1).toNat).2
def plC (f u : Int) : Bool := decide (0 ≤ f) && decide (u ≤ 127) && decide (f ≤ u) && decide (u - f < 61)
def plE (f u : Int) (l : List Int) (most early : Int) : Int :=
  if plC f u = false then 7 else if 8 < l.length then 3 else if (decide (0 < l.length) && !dn l) = false then 2 else if outL l = true then 7 else
  if early < 0 ∨ 11 < early then 2 else if most < 0 ∨ 139 < most then 7 else
  if (plO f u l most early).any lowB = true then 7 else if 12 < (plO f u l most early).length then 3 else 0
def PlT (f u : Int) (l : List Int) (most early : Int) (e : Ending) (w' : World) : Prop :=
  (plE f u l most early = 0 ∧ ∃ A c L, e = .returned (.tuple #[.agg #[.int .i64 f, .int .i64 u, .slice A L.length c], .int .i64 0]) ∧ MXA w' A L.length c L ∧ L.map (fun b => (b.fr, b.l)) = plO f u l most early) ∨
  (plE f u l most early ≠ 0 ∧ e = .returned (.tuple #[.agg #[.int .i64 0, .int .i64 0, .slice none 0 0], .int .i64 (plE f u l most early)]))
theorem PlT.bad {f u : Int} {l : List Int} {most early r : Int} {w' : World} (h : plE f u l most early = r) (h0 : r ≠ 0) : PlT f u l most early (.returned (.tuple #[.agg #[.int .i64 0, .int .i64 0, .slice none 0 0], .int .i64 r])) w' := .inr ⟨by rw [h]; exact h0, by rw [h]⟩
theorem scn_grow {l : List Int} {all : List Lw} {e a : Int} {k : Nat} : ∀ {k' : Nat}, k ≤ k' → ∀ x ∈ (scn l all e a k).2, x ∈ (scn l all e a k').2
  | 0, h, x, hx => by rw [show k = 0 by omega] at hx; exact hx
  | k'+1, h, x, hx => by
    rcases Nat.lt_or_ge k (k' + 1) with h1 | h1
    · have := scn_grow (l := l) (all := all) (e := e) (a := a) (k' := k') (by omega) x hx; rw [scn]
      split
      · exact List.mem_append_left _ this
      · exact this
    · rw [show k' + 1 = k by omega]; exact hx
theorem scn_count {l : List Int} {all : List Lw} {e a : Int} : ∀ k, (scn l all e a k).2.length ≤ k
  | 0 => Nat.le_refl _
  | k+1 => by
    have := scn_count (l := l) (all := all) (e := e) (a := a) k; rw [scn]
    split
    · simp; omega
    · omega
def dOf (all : List Lw) (j : Nat) : PI := pI (all[j]?.getD (0, 0))
theorem dOf_perm (all : List Lw) : (List.range all.length).map (dOf all) = all.map pI := by
  refine List.ext_getElem? fun j => ?_
  rw [List.getElem?_map, List.getElem?_map]; rcases Nat.lt_or_ge j all.length with h | h
  · rw [List.getElem?_range h, List.getElem?_eq_getElem h]; show some (dOf all j) = _; unfold dOf; rw [List.getElem?_eq_getElem h]; rfl
  · rw [List.getElem?_eq_none (by simpa using h), List.getElem?_eq_none h]; rfl
theorem PB.of_own {w : World} {B g cap n : Nat} {e : TypeId} {all : List Lw} (h : w.ownsRow B e 2 (.slice (some ⟨g, 0, none⟩) n cap) n (all.flatMap lC)) (hn : all.length = n) : PB w g n (dOf all) := by
  have hc := fun j hj => h.cellAt j hj
  rcases h.2 with ⟨h1, _⟩ | ⟨g', cap', cur, e1, _, hh, hnc, _, hcs, _⟩
  · cases h1
  · injection e1 with e1 _ e3
    injection e1 with e1
    injection e1 with e1
    subst e1 e3; have hB : Blk w g e cur := hh; refine ⟨e, cur, hB, by rw [hcs]; exact Nat.mul_le_mul_right _ hnc, fun j hj => ?_⟩; have c0 := hc (j * 2) (by omega); have c1 := hc (j * 2 + 1) (by omega); have hp : all[j]? = some (all[j]'(by omega)) := List.getElem?_eq_getElem (by omega); have g0 := flatS_get lC 2 (fun _ => rfl) all j _ 0 hp (by decide); have g1 := flatS_get lC 2 (fun _ => rfl) all j _ 1 hp (by decide); rw [Nat.add_zero] at g0; rw [hB.cell, g0] at c0; rw [hB.cell, g1] at c1; rw [c0, c1]; unfold dOf; rw [hp]; exact ⟨rfl, rfl⟩
abbrev tPL : TypeId := 73
theorem frI_le (d : Nat → PI) (p i : Nat) : frI d p i ≤ p := by
  unfold frI; have := List.countP_le_length (p := fun x : PI => decide (x.1 = (i : Int))) (l := (List.range p).map d); simpa using this
theorem nowF_step (l : List Int) (d : Nat → PI) (p r : Nat) (h : (d p).1 = (r : Int)) (n : Nat) : frL n (fun j => if j = r then nowF l d p r - 12 else nowF l d p j) = frL n (nowF l d (p + 1)) := by
  refine frL_congr fun j _ => ?_
  unfold nowF; rw [frI_succ, h]
  by_cases hj : j = r
  · rw [if_pos hj, hj, if_pos rfl]; omega
  · rw [if_neg hj, if_neg (by omega)]; omega
structure TP0 (w w' : World) (g gn n cn N Bn : Nat) (h : Nat → Int) (d : Nat → PI) : Prop where
  x0 : Blk w' w.heap.size 24 #[.int .i64 0, .int .i64 0, .slice none 0 0]
  xn : w'.ownsRow Bn tI 1 (.slice (some ⟨gn, 0, none⟩) n cn) n (frL n h)
  pb : PB w' g N d
  bl : Below w.heap.size w w'
  od : g < gn ∧ w.heap.size < gn
theorem TP0.mv {w w1 w2 : World} {g gn n cn N Bn q : Nat} {h : Nat → Int} {d : Nat → PI} (T : TP0 w w1 g gn n cn N Bn h d) (hm : Mv q w1 w2) (hq : gn < q) : TP0 w w2 g gn n cn N Bn h d :=
  ⟨T.x0.mv hm (by have := T.od; omega), own_mv T.xn hm (fun k hk => xblk_ne hk (by omega)), T.pb.mv hm (by have := T.od; omega), below_mv T.bl hm (by have := T.od; omega) T.bl.size, T.od⟩
theorem TP0.mvx {w w1 w2 : World} {g gn n cn N Bn q : Nat} {h : Nat → Int} {d : Nat → PI} (T : TP0 w w1 g gn n cn N Bn h d) (hm : Mv q w1 w2) (hq : g < q ∧ w.heap.size < q ∧ q ≠ gn) : TP0 w w2 g gn n cn N Bn h d :=
  ⟨T.x0.mv hm (by omega), own_mv T.xn hm (fun k hk => xblk_ne hk (by omega)), T.pb.mv hm (by omega), below_mv T.bl hm (by omega) T.bl.size, T.od⟩
theorem TP0.gn_lt {w w' : World} {g gn n cn N Bn : Nat} {h : Nat → Int} {d : Nat → PI} (T : TP0 w w' g gn n cn N Bn h d) : gn < w'.heap.size := xform_lt T.xn
theorem TP0.below {w w1 w2 : World} {g gn n cn N Bn : Nat} {h : Nat → Int} {d : Nat → PI} (T : TP0 w w1 g gn n cn N Bn h d) (hb : Below w1.heap.size w1 w2) : TP0 w w2 g gn n cn N Bn h d :=
  ⟨T.x0.below hb T.x0.lt, own_mv T.xn (Mv.of_below hb) (fun k hk => xblk_ne hk (by have := T.gn_lt; omega)), T.pb.below hb T.pb.lt, T.bl.trans (hb.mono T.bl.size), T.od⟩
theorem TP0.made {w w1 w2 : World} {g gn n cn N Bn p r : Nat} {l : List Int} {z : Int} {d : Nat → PI} (T : TP0 w w1 g gn n cn N Bn (nowF l d p) d) (hm : Mv gn w1 w2) (hd : (d p).1 = (r : Int)) (hz : nowF l d p r = z) (hown : w2.ownsRow Bn tI 1 (.slice (some ⟨gn, 0, none⟩) n cn) n ((frL n (nowF l d p)).set r (.int .i64 (z - 12)))) : TP0 w w2 g gn n cn N Bn (nowF l d (p + 1)) d := by
  refine ⟨T.x0.mv hm (by have := T.od; omega), ?_, T.pb.mv hm (by have := T.od; omega), below_mv T.bl hm (by have := T.od; omega) T.bl.size, T.od⟩; rw [show (frL n (nowF l d p)).set r (.int .i64 (z - 12)) = _ from frL_set n _ r (z - 12), ← hz, nowF_step l d p r hd n] at hown; exact hown
theorem BM.mvlo {w w' : World} {B q : Nat} {v : Value} {o : List (Int × List Int)} {L : List Bk} (h : BM w B v o L) (hm : Mv q w w') (hq : q < B) : BM w' B v o L :=
  h.mv hm (fun e => by have := (h.own.lt _ e).1; omega) (fun b hb e => by have := ((h.rows b hb).lt _ e).1; omega)
end Go.Proofs.YtkjkbhkcebbjdaaGreatDoor
