/- Plain law: Go's stable sort (slices): insertion, symmetric merge, rotation; elements told by a function. No program in sight. -/
import Derived.Test.YtbaojmfkjpnfhaaGreatDoorBase
namespace Go.Proofs.YtbaojmfkjpnfhaaGreatDoor
set_option linter.unusedSimpArgs false
set_option linter.unusedVariables false

section
variable {α : Type}
def swp (d : Nat → α) (i j : Nat) (k : Nat) : α := if k = i then d j else if k = j then d i else d k
/-- a rearrangement within [a, b) -/
inductive Pm (a b : Nat) (d : Nat → α) : (Nat → α) → Prop
  | refl : Pm a b d d
  | step {e : Nat → α} (i j : Nat) : Pm a b d e → a ≤ i → i < b → a ≤ j → j < b → Pm a b d (swp e i j)
theorem Pm.trans {a b : Nat} {d e f : Nat → α} (h : Pm a b d e) (g : Pm a b e f) : Pm a b d f := by
  induction g with
  | refl => exact h
  | step i j _ h1 h2 h3 h4 ih => exact .step i j ih h1 h2 h3 h4
theorem Pm.mono {a b a' b' : Nat} {d e : Nat → α} (h : Pm a b d e) (ha : a' ≤ a) (hb : b ≤ b') : Pm a' b' d e := by
  induction h with
  | refl => exact .refl
  | step i j _ h1 h2 h3 h4 ih => exact .step i j ih (by omega) (by omega) (by omega) (by omega)
theorem Pm.far {a b : Nat} {d e : Nat → α} (h : Pm a b d e) {k : Nat} (hk : k < a ∨ b ≤ k) : e k = d k := by
  induction h with
  | refl => rfl
  | step i j _ h1 h2 h3 h4 ih => unfold swp; rw [if_neg (by omega), if_neg (by omega), ih]
theorem Pm.all {a b : Nat} {d e : Nat → α} (h : Pm a b d e) {P : α → Prop} (hp : ∀ k, a ≤ k → k < b → P (d k)) : ∀ k, a ≤ k → k < b → P (e k) := by
  induction h with
  | refl => exact hp
  | step i j _ h1 h2 h3 h4 ih =>
    intro k k1 k2
    unfold swp
    split
    · exact ih j h3 h4
    · split
      · exact ih i h1 h2
      · exact ih k k1 k2
/-- ascending within [a, b) -/
def Srt (κ : α → Int) (d : Nat → α) (a b : Nat) : Prop := ∀ i j, a ≤ i → i ≤ j → j < b → κ (d i) ≤ κ (d j)
theorem Srt.sub {κ : α → Int} {d : Nat → α} {a b a' b' : Nat} (h : Srt κ d a b) (ha : a ≤ a') (hb : b' ≤ b) : Srt κ d a' b' := fun i j h1 h2 h3 => h i j (by omega) h2 (by omega)
theorem Srt.congr {κ : α → Int} {d e : Nat → α} {a b : Nat} (h : Srt κ d a b) (he : ∀ k, a ≤ k → k < b → e k = d k) : Srt κ e a b := fun i j h1 h2 h3 => by
  rw [he i h1 (by omega), he j (by omega) h3]; exact h i j h1 h2 h3
theorem Srt.one {κ : α → Int} {d : Nat → α} {a b : Nat} (h : b ≤ a + 1) : Srt κ d a b := fun i j h1 h2 h3 => by rw [show j = i by omega]; exact Int.le_refl _
/-- two sorted parts, every key of the first at most every key of the second -/
theorem Srt.join {κ : α → Int} {d : Nat → α} {a m b : Nat} (h1 : Srt κ d a m) (h2 : Srt κ d m b) (h : ∀ i j, a ≤ i → i < m → m ≤ j → j < b → κ (d i) ≤ κ (d j)) : Srt κ d a b := fun i j i1 ij j1 => by
  rcases Nat.lt_or_ge j m with hj | hj
  · exact h1 i j i1 ij hj
  · rcases Nat.lt_or_ge i m with hi | hi
    · exact h i j i1 hi hj j1
    · exact h2 i j hi ij j1
/-- insertion: sorted but for the element at j, which is no more than those behind it -/
structure Hole (κ : α → Int) (d : Nat → α) (a i j : Nat) : Prop where
  rest : ∀ p q, a ≤ p → p ≤ q → q ≤ i → p ≠ j → q ≠ j → κ (d p) ≤ κ (d q)
  low : ∀ q, j < q → q ≤ i → κ (d j) ≤ κ (d q)
theorem Hole.start {κ : α → Int} {d : Nat → α} {a i : Nat} (h : Srt κ d a i) : Hole κ d a i i := ⟨fun p q h1 h2 h3 h4 h5 => h p q h1 h2 (by omega), fun q h1 h2 => by omega⟩
theorem Hole.move {κ : α → Int} {d : Nat → α} {a i j : Nat} (h : Hole κ d a i (j + 1)) (hj : a ≤ j) (hi : j + 1 ≤ i) (hl : κ (d (j + 1)) < κ (d j)) : Hole κ (swp d (j + 1) j) a i j := by
  have e : ∀ k, swp d (j + 1) j k = if k = j + 1 then d j else if k = j then d (j + 1) else d k := fun k => rfl
  constructor
  · intro p q h1 h2 h3 h4 h5
    rw [e, e]
    by_cases hp : p = j + 1
    · rw [if_pos hp]
      by_cases hq : q = j + 1
      · rw [if_pos hq]; exact Int.le_refl _
      · rw [if_neg hq, if_neg h5]
        exact h.rest j q hj (by omega) h3 (by omega) hq
    · rw [if_neg hp, if_neg h4]
      by_cases hq : q = j + 1
      · rw [if_pos hq]
        exact h.rest p j h1 (by omega) (by omega) hp (by omega)
      · rw [if_neg hq, if_neg h5]
        exact h.rest p q h1 h2 h3 hp hq
  · intro q h1 h2
    rw [e, e, if_neg (by omega), if_pos rfl]
    by_cases hq : q = j + 1
    · rw [if_pos hq]; omega
    · rw [if_neg hq, if_neg (by omega)]
      exact h.low q (by omega) h2
theorem Hole.done {κ : α → Int} {d : Nat → α} {a i j : Nat} (h : Hole κ d a i j) (hj : j = a ∨ (∃ k, j = k + 1 ∧ a ≤ k ∧ ¬ κ (d j) < κ (d k))) : Srt κ d a (i + 1) := by
  intro p q h1 h2 h3
  by_cases hp : p = j
  · subst hp
    by_cases hq : q = p
    · rw [hq]; exact Int.le_refl _
    · exact h.low q (by omega) (by omega)
  · by_cases hq : q = j
    · subst hq
      rcases hj with hj | ⟨k, hk, hak, hl⟩
      · omega
      · have := h.rest p k h1 (by omega) (by omega) hp (by omega)
        omega
    · exact h.rest p q h1 h2 (by omega) hp hq
/-- two blocks change places -/
def swr (d : Nat → α) (a b : Nat) : Nat → Nat → α
  | 0 => d
  | n+1 => swp (swr d a b n) (a + n) (b + n)
theorem swr_pm {lo hi : Nat} (d : Nat → α) (a b : Nat) : ∀ n, lo ≤ a → a + n ≤ hi → lo ≤ b → b + n ≤ hi → Pm lo hi d (swr d a b n)
  | 0, _, _, _, _ => .refl
  | n+1, h1, h2, h3, h4 => .step _ _ (swr_pm d a b n h1 (by omega) h3 (by omega)) (by omega) (by omega) (by omega) (by omega)
theorem swr_at (d : Nat → α) (a b : Nat) : ∀ n, a + n ≤ b → ∀ k, swr d a b n k = if a ≤ k ∧ k < a + n then d (k - a + b) else if b ≤ k ∧ k < b + n then d (k - b + a) else d k
  | 0, _, k => by rw [swr, if_neg (by omega), if_neg (by omega)]
  | n+1, h, k => by
    have ih := swr_at d a b n (by omega)
    unfold swr swp
    by_cases h1 : k = a + n
    · rw [if_pos h1, ih, if_neg (by omega), if_neg (by omega), if_pos (by omega)]; congr 1; omega
    · rw [if_neg h1]
      by_cases h2 : k = b + n
      · rw [if_pos h2, ih, if_neg (by omega), if_neg (by omega), if_neg (by omega), if_pos (by omega)]; congr 1; omega
      · rw [if_neg h2, ih]
        by_cases h3 : a ≤ k ∧ k < a + n
        · rw [if_pos h3, if_pos (by omega)]
        · rw [if_neg h3, if_neg (show ¬ (a ≤ k ∧ k < a + (n + 1)) by omega)]
          by_cases h4 : b ≤ k ∧ k < b + n
          · rw [if_pos h4, if_pos (by omega)]
          · rw [if_neg h4, if_neg (by omega)]
/-- [m, b) ahead of [a, m) -/
def rot (d : Nat → α) (a m b : Nat) (k : Nat) : α := if a ≤ k ∧ k < a + (b - m) then d (k - a + m) else if a + (b - m) ≤ k ∧ k < b then d (k - (b - m)) else d k
theorem rot_end (d : Nat → α) {m i : Nat} (h : i ≤ m) : swr d (m - i) m i = rot d (m - i) m (m + i) := by
  funext k
  rw [swr_at d _ _ i (by omega)]
  unfold rot
  by_cases h1 : m - i ≤ k ∧ k < m - i + i
  · rw [if_pos h1, if_pos (by omega)]
  · rw [if_neg h1, if_neg (show ¬ (m - i ≤ k ∧ k < m - i + (m + i - m)) by omega)]
    by_cases h2 : m ≤ k ∧ k < m + i
    · rw [if_pos h2, if_pos (by omega)]; congr 1; omega
    · rw [if_neg h2, if_neg (by omega)]
/-- i > j: the last j of the first block change places with the second -/
theorem rot_left (d : Nat → α) {m i j : Nat} (h : i ≤ m) (hj : j < i) : rot (swr d (m - i) m j) (m - (i - j)) m (m + j) = rot d (m - i) m (m + j) := by
  funext k
  have e := swr_at d (m - i) m j (by omega)
  unfold rot
  simp only [e]
  by_cases h0 : m - i ≤ k ∧ k < m - i + j
  · rw [if_neg (by omega), if_neg (by omega), if_pos h0, if_pos (by omega)]
  · rw [if_neg h0]
    rw [if_neg (show ¬ (m - i ≤ k ∧ k < m - i + (m + j - m)) by omega)]
    by_cases h1 : m - (i - j) ≤ k ∧ k < m - (i - j) + (m + j - m)
    · rw [if_pos h1, if_pos (show m - i + (m + j - m) ≤ k ∧ k < m + j by omega), if_neg (by omega), if_pos (by omega)]; congr 1; omega
    · rw [if_neg h1]
      by_cases h2 : m - (i - j) + (m + j - m) ≤ k ∧ k < m + j
      · rw [if_pos h2, if_pos (show m - i + (m + j - m) ≤ k ∧ k < m + j by omega)]
        by_cases h3 : m - i ≤ k - (m + j - m) ∧ k - (m + j - m) < m - i + j
        · omega
        · rw [if_neg h3, if_neg (by omega)]
      · rw [if_neg h2, if_neg (show ¬ (m - i + (m + j - m) ≤ k ∧ k < m + j) by omega), if_neg (by omega)]
/-- i < j -/
theorem rot_right (d : Nat → α) {m i j : Nat} (h : i ≤ m) (hi : i < j) : rot (swr d (m - i) (m + j - i) i) (m - i) m (m + (j - i)) = rot d (m - i) m (m + j) := by
  funext k
  have e := swr_at d (m - i) (m + j - i) i (by omega)
  unfold rot
  simp only [e]
  by_cases h0 : m + j - i ≤ k ∧ k < m + j
  · rw [if_neg (by omega), if_neg (by omega), if_neg (by omega), if_pos (by omega), if_neg (by omega), if_pos (by omega)]; congr 1; omega
  · by_cases h1 : m - i ≤ k ∧ k < m - i + (m + (j - i) - m)
    · rw [if_pos h1, if_neg (by omega), if_neg (by omega), if_pos (by omega)]
    · rw [if_neg h1]
      by_cases h2 : m - i + (m + (j - i) - m) ≤ k ∧ k < m + (j - i)
      · rw [if_pos h2, if_pos (by omega), if_pos (by omega)]; congr 1; omega
      · rw [if_neg h2, if_neg (by omega), if_neg (by omega), if_neg (by omega), if_neg (by omega)]
/-- where the merge parts: the halves in order, then the parts change places -/
theorem sym_parts {κ : α → Int} {d : Nat → α} {a m b mid st : Nat} (ha : a < m) (hb : m < b) (hm : mid = (a + b) / 2) (h1 : Srt κ d a m) (h2 : Srt κ d m b)
    (s0 : a ≤ st) (s1 : st ≤ m) (s2 : st ≤ mid) (s3 : m ≤ mid + m - st) (s4 : mid + m - st ≤ b)
    (hlo : ∀ c, a ≤ c → c < st → mid + m - b ≤ c → κ (d c) ≤ κ (d (mid + m - 1 - c)))
    (hhi : ∀ c, st ≤ c → c < m → c < mid → κ (d (mid + m - 1 - c)) < κ (d c)) :
    let d' := rot d st m (mid + m - st)
    Srt κ d' a st ∧ Srt κ d' st mid ∧ Srt κ d' mid (mid + m - st) ∧ Srt κ d' (mid + m - st) b ∧ ∀ i j, a ≤ i → i < mid → mid ≤ j → j < b → κ (d' i) ≤ κ (d' j) := by
  intro d'
  obtain ⟨en, hen⟩ : ∃ en, mid + m - st = en := ⟨_, rfl⟩
  rw [hen] at s3 s4
  have e : ∀ k, d' k = if st ≤ k ∧ k < mid then d (k - st + m) else if mid ≤ k ∧ k < en then d (k - (en - m)) else d k := fun k => by
    show rot d st m (mid + m - st) k = _
    rw [hen]
    unfold rot
    rw [show st + (en - m) = mid by omega]
  rw [hen]
  have e1 : ∀ k, k < st → d' k = d k := fun k hk => by rw [e, if_neg (by omega), if_neg (by omega)]
  have e2 : ∀ k, st ≤ k → k < mid → d' k = d (k - st + m) := fun k hk hk2 => by rw [e, if_pos ⟨hk, hk2⟩]
  have e3 : ∀ k, mid ≤ k → k < en → d' k = d (k - (en - m)) := fun k hk hk2 => by rw [e, if_neg (by omega), if_pos ⟨hk, hk2⟩]
  have e4 : ∀ k, en ≤ k → d' k = d k := fun k hk => by rw [e, if_neg (by omega), if_neg (by omega)]
  refine ⟨fun i j i1 ij j1 => ?_, fun i j i1 ij j1 => ?_, fun i j i1 ij j1 => ?_, fun i j i1 ij j1 => ?_, fun i j i1 i2 j1 j2 => ?_⟩
  · rw [e1 i (by omega), e1 j (by omega)]; exact h1 i j i1 ij (by omega)
  · rw [e2 i (by omega) (by omega), e2 j (by omega) (by omega)]; exact h2 _ _ (by omega) (by omega) (by omega)
  · rw [e3 i (by omega) (by omega), e3 j (by omega) (by omega)]; exact h1 _ _ (by omega) (by omega) (by omega)
  · rw [e4 i (by omega), e4 j (by omega)]; exact h2 i j (by omega) ij j1
  · rcases Nat.lt_or_ge i st with hi | hi
    · rw [e1 i hi]
      rcases Nat.lt_or_ge j en with hj | hj
      · rw [e3 j j1 hj]; exact h1 _ _ i1 (by omega) (by omega)
      · rw [e4 j hj]
        have k1 := h1 i (st - 1) i1 (by omega) (by omega)
        have k2 := hlo (st - 1) (by omega) (by omega) (by omega)
        rw [show mid + m - 1 - (st - 1) = en by omega] at k2
        have k3 := h2 en j (by omega) hj j2
        omega
    · rw [e2 i hi i2]
      rcases Nat.lt_or_ge j en with hj | hj
      · rw [e3 j j1 hj]
        have k1 := h2 (i - st + m) (en - 1) (by omega) (by omega) (by omega)
        have k2 := hhi st (Nat.le_refl _) (by omega) (by omega)
        rw [show mid + m - 1 - st = en - 1 by omega] at k2
        have k3 := h1 st (j - (en - m)) s0 (by omega) (by omega)
        omega
      · rw [e4 j hj]
        exact h2 _ _ (by omega) (by omega) j2
/-- one element ahead of a sorted part: it goes up to its place -/
def upTo (d : Nat → α) (a : Nat) : Nat → Nat → α
  | 0 => d
  | n+1 => swp (upTo d a n) (a + n) (a + n + 1)
theorem upTo_pm {lo hi : Nat} (d : Nat → α) (a : Nat) : ∀ n, lo ≤ a → a + n < hi → Pm lo hi d (upTo d a n)
  | 0, _, _ => .refl
  | n+1, h1, h2 => .step _ _ (upTo_pm d a n h1 (by omega)) (by omega) (by omega) (by omega) (by omega)
theorem upTo_at (d : Nat → α) (a : Nat) : ∀ n k, upTo d a n k = if a ≤ k ∧ k < a + n then d (k + 1) else if k = a + n then d a else d k
  | 0, k => by
    rw [upTo, if_neg (by omega)]
    split
    · congr 1
    · rfl
  | n+1, k => by
    have ih := upTo_at d a n
    unfold upTo swp
    by_cases h1 : k = a + n
    · rw [if_pos h1, ih, if_neg (by omega), if_neg (by omega), if_pos (by omega)]; congr 1; omega
    · rw [if_neg h1]
      by_cases h2 : k = a + n + 1
      · rw [if_pos h2, ih, if_neg (by omega), if_pos rfl, if_neg (by omega), if_pos (by omega)]
      · rw [if_neg h2, ih]
        by_cases h3 : a ≤ k ∧ k < a + n
        · rw [if_pos h3, if_pos (by omega)]
        · rw [if_neg h3, if_neg h1, if_neg (by omega), if_neg (by omega)]
theorem upTo_srt {κ : α → Int} {d : Nat → α} {a b n : Nat} (h : Srt κ d (a + 1) b) (hn : a + n < b) (hlo : ∀ c, a < c → c ≤ a + n → κ (d c) < κ (d a)) (hhi : ∀ c, a + n < c → c < b → κ (d a) ≤ κ (d c)) : Srt κ (upTo d a n) a b := by
  intro i j i1 ij j1
  rw [upTo_at, upTo_at]
  by_cases hi : a ≤ i ∧ i < a + n
  · rw [if_pos hi]
    by_cases hj : a ≤ j ∧ j < a + n
    · rw [if_pos hj]; exact h _ _ (by omega) (by omega) (by omega)
    · rw [if_neg hj]
      by_cases hj2 : j = a + n
      · rw [if_pos hj2]; have := hlo (i + 1) (by omega) (by omega); omega
      · rw [if_neg hj2]; exact h _ _ (by omega) (by omega) (by omega)
  · rw [if_neg hi, if_neg (show ¬ (a ≤ j ∧ j < a + n) by omega)]
    by_cases hi2 : i = a + n
    · rw [if_pos hi2]
      by_cases hj2 : j = a + n
      · rw [if_pos hj2]; exact Int.le_refl _
      · rw [if_neg hj2]; exact hhi j (by omega) j1
    · rw [if_neg hi2, if_neg (by omega)]; exact h _ _ (by omega) ij j1
/-- one element behind a sorted part: it goes down to its place -/
def dnTo (d : Nat → α) (m : Nat) : Nat → Nat → α
  | 0 => d
  | n+1 => swp (dnTo d m n) (m - n) (m - n - 1)
theorem dnTo_pm {lo hi : Nat} (d : Nat → α) (m : Nat) : ∀ n, lo + n ≤ m → m < hi → Pm lo hi d (dnTo d m n)
  | 0, _, _ => .refl
  | n+1, h1, h2 => .step _ _ (dnTo_pm d m n (by omega) h2) (by omega) (by omega) (by omega) (by omega)
theorem dnTo_at (d : Nat → α) (m : Nat) : ∀ n, n ≤ m → ∀ k, dnTo d m n k = if m - n < k ∧ k ≤ m then d (k - 1) else if k = m - n then d m else d k
  | 0, _, k => by
    rw [dnTo, if_neg (by omega)]
    split
    · congr 1
    · rfl
  | n+1, hn, k => by
    have ih := dnTo_at d m n (by omega)
    unfold dnTo swp
    by_cases h1 : k = m - n
    · rw [if_pos h1, ih, if_neg (by omega), if_neg (by omega), if_pos (by omega)]; congr 1; omega
    · rw [if_neg h1]
      by_cases h2 : k = m - n - 1
      · rw [if_pos h2, ih, if_neg (by omega), if_pos rfl, if_neg (by omega), if_pos (by omega)]
      · rw [if_neg h2, ih]
        by_cases h3 : m - n < k ∧ k ≤ m
        · rw [if_pos h3, if_pos (by omega)]
        · rw [if_neg h3, if_neg h1, if_neg (by omega), if_neg (by omega)]
theorem dnTo_srt {κ : α → Int} {d : Nat → α} {a m n : Nat} (h : Srt κ d a m) (hn : a + n ≤ m) (hlo : ∀ c, a ≤ c → c < m - n → κ (d c) ≤ κ (d m)) (hhi : ∀ c, m - n ≤ c → c < m → κ (d m) < κ (d c)) : Srt κ (dnTo d m n) a (m + 1) := by
  intro i j i1 ij j1
  rw [dnTo_at d m n (by omega), dnTo_at d m n (by omega)]
  by_cases hi : m - n < i ∧ i ≤ m
  · rw [if_pos hi, if_pos (by omega)]; exact h _ _ (by omega) (by omega) (by omega)
  · rw [if_neg hi]
    by_cases hi2 : i = m - n
    · rw [if_pos hi2]
      by_cases hj : m - n < j ∧ j ≤ m
      · rw [if_pos hj]; have := hhi (j - 1) (by omega) (by omega); omega
      · rw [if_neg hj, if_pos (by omega)]; exact Int.le_refl _
    · rw [if_neg hi2]
      by_cases hj : m - n < j ∧ j ≤ m
      · rw [if_pos hj]; exact h _ _ i1 (by omega) (by omega)
      · rw [if_neg hj]
        by_cases hj2 : j = m - n
        · rw [if_pos hj2]; exact hlo i i1 (by omega)
        · rw [if_neg hj2]; exact h _ _ i1 ij (by omega)
/-- sorted in blocks of s from lo on -/
def Bks (κ : α → Int) (d : Nat → α) (n s lo : Nat) : Prop := ∀ v, lo + v * s < n → Srt κ d (lo + v * s) (min (lo + v * s + s) n)
theorem Bks.next {κ : α → Int} {d : Nat → α} {n s lo : Nat} (h : Bks κ d n s lo) : Bks κ d n s (lo + s) := fun v hv => by
  have := h (v + 1) (by rw [Nat.succ_mul]; omega)
  rw [Nat.succ_mul] at this
  rw [show lo + s + v * s = lo + (v * s + s) by omega]
  exact this
theorem Bks.at0 {κ : α → Int} {d : Nat → α} {n s lo : Nat} (h : Bks κ d n s lo) (hl : lo < n) : Srt κ d lo (min (lo + s) n) := by
  have := h 0 (by omega)
  simpa using this
theorem Bks.congr {κ : α → Int} {d e : Nat → α} {n s lo : Nat} (h : Bks κ d n s lo) (he : ∀ k, lo ≤ k → k < n → e k = d k) : Bks κ e n s lo := fun v hv => (h v hv).congr fun k k1 k2 => he k (by omega) (by omega)
/-- as a list -/
theorem swp_perm (d : Nat → α) {n i j : Nat} (hi : i < n) (hj : j < n) : ((List.range n).map (swp d i j)).Perm ((List.range n).map d) := by
  rcases Nat.lt_trichotomy i j with h | h | h
  · exact key d h hj
  · subst h
    have : swp d i i = d := by
      funext k; unfold swp
      split
      · next h => rw [h]
      · rfl
    rw [this]
  · have : swp d i j = swp d j i := by
      funext k; unfold swp
      by_cases h1 : k = i
      · rw [if_pos h1]
        by_cases h2 : k = j
        · omega
        · rw [if_neg h2, if_pos h1]
      · rw [if_neg h1, if_neg h1]
    rw [this]
    exact key d h hi
where
  key (d : Nat → α) {n i j : Nat} (h : i < j) (hj : j < n) : ((List.range n).map (swp d i j)).Perm ((List.range n).map d) := by
    have hr : List.range n = List.range' 0 i ++ (i :: (List.range' (i + 1) (j - i - 1) ++ (j :: List.range' (j + 1) (n - j - 1)))) := by
      rw [← List.range'_succ, show n - j - 1 + 1 = n - j by omega, show List.range' j (n - j) = List.range' (i + 1 + (j - i - 1)) (n - j) by rw [show i + 1 + (j - i - 1) = j by omega], List.range'_append_1, ← List.range'_succ,
        show List.range' i (j - i - 1 + (n - j) + 1) = List.range' (0 + i) (j - i - 1 + (n - j) + 1) by rw [Nat.zero_add], List.range'_append_1, show i + (j - i - 1 + (n - j) + 1) = n by omega, List.range_eq_range']
    rw [hr]
    simp only [List.map_append, List.map_cons]
    have far : ∀ k, k ≠ i → k ≠ j → swp d i j k = d k := fun k h1 h2 => by unfold swp; rw [if_neg h1, if_neg h2]
    have m1 : (List.range' 0 i).map (swp d i j) = (List.range' 0 i).map d := List.map_congr_left fun k hk => far k (by have := (List.mem_range'_1.1 hk).2; omega) (by have := (List.mem_range'_1.1 hk).2; omega)
    have m2 : (List.range' (i + 1) (j - i - 1)).map (swp d i j) = (List.range' (i + 1) (j - i - 1)).map d := List.map_congr_left fun k hk => far k (by have := (List.mem_range'_1.1 hk).1; omega) (by have := (List.mem_range'_1.1 hk).2; omega)
    have m3 : (List.range' (j + 1) (n - j - 1)).map (swp d i j) = (List.range' (j + 1) (n - j - 1)).map d := List.map_congr_left fun k hk => far k (by have := (List.mem_range'_1.1 hk).1; omega) (by have := (List.mem_range'_1.1 hk).1; omega)
    rw [m1, m2, m3, show swp d i j i = d j by unfold swp; rw [if_pos rfl], show swp d i j j = d i by unfold swp; rw [if_neg (by omega), if_pos rfl]]
    refine List.Perm.append_left _ ?_
    exact (List.perm_middle.cons _).trans ((List.Perm.swap _ _ _).trans (List.perm_middle.symm.cons _))
theorem Pm.perm {a n : Nat} {d e : Nat → α} (h : Pm a n d e) : ((List.range n).map e).Perm ((List.range n).map d) := by
  induction h with
  | refl => exact List.Perm.refl _
  | step i j _ h1 h2 h3 h4 ih => exact (swp_perm _ h2 h4).trans ih
end
end Go.Proofs.YtbaojmfkjpnfhaaGreatDoor
