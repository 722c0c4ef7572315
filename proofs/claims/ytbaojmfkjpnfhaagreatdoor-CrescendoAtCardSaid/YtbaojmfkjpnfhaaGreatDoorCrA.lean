/- Plain law: items in a row put into groups: the last ones as long as they fit (program), and the least step of all ends (document). No program in sight. -/
import Derived.Test.YtbaojmfkjpnfhaaGreatDoorMyA
namespace Go.Proofs.YtbaojmfkjpnfhaaGreatDoor
set_option linter.unusedSimpArgs false
set_option linter.unusedVariables false

/-- the sum of the first k -/
def psm (l : List Int) : Nat → Int
  | 0 => 0
  | k+1 => psm l k + gt l k
/-- one group takes the last of k items, as long as they fit -/
def grd (l : List Int) (S : Int) : Nat → Int → Nat
  | 0, _ => 0
  | k+1, s => if s + gt l k ≤ S then grd l S k (s + gt l k) else k + 1
/-- what is left behind g groups -/
def rem (l : List Int) (S : Int) : Nat → Nat
  | 0 => l.length
  | g+1 => grd l S (rem l S g) 0
theorem psm_mono {l : List Int} (h : ∀ j, 0 ≤ gt l j) : ∀ {i k : Nat}, i ≤ k → psm l i ≤ psm l k
  | i, 0, hi => by rw [show i = 0 by omega]; exact Int.le_refl _
  | i, k+1, hi => by
    rcases Nat.lt_or_ge i (k + 1) with h1 | h1
    · have := psm_mono h (i := i) (k := k) (by omega)
      have := h k
      rw [psm]; omega
    · rw [show i = k + 1 by omega]; exact Int.le_refl _
theorem psm_pos {l : List Int} (h : ∀ j, 0 ≤ gt l j) (k : Nat) : 0 ≤ psm l k := psm_mono h (Nat.zero_le k)
theorem grd_le (l : List Int) (S : Int) : ∀ k s, grd l S k s ≤ k
  | 0, _ => Nat.le_refl _
  | k+1, s => by
    rw [grd]
    split
    · have := grd_le l S k (s + gt l k); omega
    · exact Nat.le_refl _
/-- a group takes all that fit, and no more would fit -/
theorem grd_iff {l : List Int} (h : ∀ j, 0 ≤ gt l j) {S : Int} : ∀ {k : Nat} {s : Int}, s ≤ S → ∀ i, i ≤ k → (grd l S k s ≤ i ↔ s + (psm l k - psm l i) ≤ S)
  | 0, s, hs, i, hi => by
    rw [show i = 0 by omega]
    exact ⟨fun _ => by omega, fun _ => Nat.le_refl _⟩
  | k+1, s, hs, i, hi => by
    rw [grd]
    by_cases hc : s + gt l k ≤ S
    · rw [if_pos hc]
      rcases Nat.lt_or_ge i (k + 1) with h1 | h1
      · rw [grd_iff h hc i (by omega)]
        show s + gt l k + (psm l k - psm l i) ≤ S ↔ s + (psm l k + gt l k - psm l i) ≤ S
        constructor <;> intro _ <;> omega
      · rw [show i = k + 1 by omega]
        have := grd_le l S k (s + gt l k)
        exact ⟨fun _ => by omega, fun _ => by omega⟩
    · rw [if_neg hc]
      constructor
      · intro h1
        rw [show i = k + 1 by omega]; omega
      · intro h1
        rcases Nat.lt_or_ge i (k + 1) with h2 | h2
        · have h3 := psm_mono h (i := i) (k := k) (by omega)
          have e : psm l (k + 1) = psm l k + gt l k := rfl
          omega
        · exact h2
theorem rem_le (l : List Int) (S : Int) : ∀ g, rem l S g ≤ l.length
  | 0 => Nat.le_refl _
  | g+1 => Nat.le_trans (grd_le l S _ 0) (rem_le l S g)
theorem rem_anti (l : List Int) (S : Int) {g g' : Nat} (h : g ≤ g') : rem l S g' ≤ rem l S g := by
  induction g' with
  | zero => rw [show g = 0 by omega]; exact Nat.le_refl _
  | succ g' ih =>
    rcases Nat.lt_or_ge g (g' + 1) with h1 | h1
    · exact Nat.le_trans (grd_le l S _ 0) (ih (by omega))
    · rw [show g = g' + 1 by omega]; exact Nat.le_refl _
/-- the least of f over k, k-1 .. : the first group's end from i on -/
def mnF (f : Nat → Int) (i : Nat) : Nat → Int
  | 0 => f i
  | t+1 => if f (i + (t + 1)) < mnF f i t then f (i + (t + 1)) else mnF f i t
theorem mnF_le {f : Nat → Int} {i : Nat} {S : Int} : ∀ {t : Nat}, mnF f i t ≤ S ↔ ∃ k, i ≤ k ∧ k ≤ i + t ∧ f k ≤ S
  | 0 => ⟨fun h => ⟨i, Nat.le_refl _, Nat.le_refl _, h⟩, fun ⟨k, h1, h2, h3⟩ => by rw [show k = i by omega] at h3; exact h3⟩
  | t+1 => by
    rw [mnF]
    have ih := mnF_le (f := f) (i := i) (S := S) (t := t)
    by_cases hc : f (i + (t + 1)) < mnF f i t
    · rw [if_pos hc]
      constructor
      · intro h; exact ⟨_, by omega, Nat.le_refl _, h⟩
      · rintro ⟨k, h1, h2, h3⟩
        rcases Nat.lt_or_ge k (i + (t + 1)) with h4 | h4
        · have := ih.2 ⟨k, h1, by omega, h3⟩; omega
        · rw [show k = i + (t + 1) by omega] at h3; exact h3
    · rw [if_neg hc]
      rw [ih]
      constructor
      · rintro ⟨k, h1, h2, h3⟩; exact ⟨k, h1, by omega, h3⟩
      · rintro ⟨k, h1, h2, h3⟩
        rcases Nat.lt_or_ge k (i + (t + 1)) with h4 | h4
        · exact ⟨k, h1, by omega, h3⟩
        · rw [show k = i + (t + 1) by omega] at h3
          have h5 : mnF f i t ≤ S := by omega
          exact ih.1 h5
/-- the least step of g + 1 groups from item i on -/
def lst (l : List Int) : Nat → Nat → Int
  | 0, i => psm l l.length - psm l i
  | g+1, i => mnF (fun k => max (psm l k - psm l i) (lst l g k)) i (l.length - i)
/-- the step is enough for the items from i on exactly if what is left behind as many groups is i at most -/
theorem lst_rem {l : List Int} (h : ∀ j, 0 ≤ gt l j) {S : Int} (hS : 0 ≤ S) : ∀ (g i : Nat), i ≤ l.length → (lst l g i ≤ S ↔ rem l S (g + 1) ≤ i)
  | 0, i, hi => by
    have := grd_iff h (S := S) (k := l.length) (s := 0) hS i hi
    show psm l l.length - psm l i ≤ S ↔ grd l S l.length 0 ≤ i
    rw [this, Int.zero_add]
  | g+1, i, hi => by
    rw [lst, mnF_le]
    have ih := fun k hk => lst_rem h hS g k hk
    have hr := rem_le l S (g + 1)
    have hsum : ∀ k, i ≤ k → k ≤ rem l S (g + 1) → psm l k - psm l i ≤ psm l (rem l S (g + 1)) - psm l i := fun k _ hk => by have := psm_mono h hk; omega
    show _ ↔ grd l S (rem l S (g + 1)) 0 ≤ i
    constructor
    · rintro ⟨k, h1, h2, h3⟩
      have h4 : lst l g k ≤ S := by omega
      have h5 := (ih k (by omega)).1 h4
      have h6 : psm l k - psm l i ≤ S := by omega
      rcases Nat.lt_or_ge i (rem l S (g + 1)) with h7 | h7
      · rw [grd_iff h hS i (by omega)]
        have := psm_mono h h5
        omega
      · exact Nat.le_trans (grd_le l S _ 0) h7
    · intro h1
      rcases Nat.lt_or_ge i (rem l S (g + 1)) with h7 | h7
      · refine ⟨rem l S (g + 1), by omega, by omega, ?_⟩
        have h8 := (ih (rem l S (g + 1)) hr).2 (Nat.le_refl _)
        rw [grd_iff h hS i (by omega)] at h1
        omega
      · refine ⟨i, Nat.le_refl _, by omega, ?_⟩
        have h8 := (ih i hi).2 h7
        omega
theorem lst_pos {l : List Int} (h : ∀ j, 0 ≤ gt l j) : ∀ (g i : Nat), i ≤ l.length → 0 ≤ lst l g i ∧ lst l g i ≤ psm l l.length
  | 0, i, hi => by
    have h1 := psm_mono h hi
    have h2 := psm_pos h i
    show 0 ≤ psm l l.length - psm l i ∧ psm l l.length - psm l i ≤ psm l l.length
    omega
  | g+1, i, hi => by
    refine ⟨?_, ?_⟩
    · rcases Int.lt_or_le (lst l (g + 1) i) 0 with h1 | h1
      · have h2 : lst l (g + 1) i ≤ -1 := by omega
        rw [lst, mnF_le] at h2
        obtain ⟨k, k1, k2, k3⟩ := h2
        have := psm_mono h k1
        omega
      · exact h1
    · rw [lst, mnF_le]
      refine ⟨l.length, hi, by omega, ?_⟩
      have h1 := (lst_pos h g l.length (Nat.le_refl _)).2
      have h2 := psm_pos h i
      omega
/-- THE LEAST STEP is the least one for which all items fit -/
theorem fit_iff {l : List Int} (h : ∀ j, 0 ≤ gt l j) {S : Int} (hS : 0 ≤ S) (g : Nat) : rem l S (g + 1) = 0 ↔ lst l g 0 ≤ S := by
  rw [lst_rem h hS g 0 (Nat.zero_le _)]; omega
/-- where a group ends: the document's end is the program's -/
theorem end_iff {l : List Int} (h : ∀ j, 0 ≤ gt l j) {S : Int} (hS : 0 ≤ S) (g k : Nat) (hk : k ≤ l.length) : S < lst l g k ↔ k < rem l S (g + 1) := by
  have := lst_rem h hS g k hk
  omega
/-- the ends of a division -/
theorem lst_least {l : List Int} (h : ∀ j, 0 ≤ gt l j) {S : Int} : ∀ (g i : Nat) (b : Nat → Nat), b 0 = i → b (g + 1) = l.length → (∀ j, j ≤ g → b j ≤ b (j + 1)) → (∀ j, j ≤ g → psm l (b (j + 1)) - psm l (b j) ≤ S) → lst l g i ≤ S
  | 0, i, b, h0, h1, h2, h3 => by
    have := h3 0 (Nat.le_refl _)
    rw [h0, h1] at this
    exact this
  | g+1, i, b, h0, h1, h2, h3 => by
    have hm : ∀ j, j ≤ g + 1 → b (j + 1) ≤ l.length := fun j => by
      intro hj
      have : ∀ t, j + t = g + 1 → b (j + 1) ≤ b (g + 2) := fun t => by
        induction t generalizing j with
        | zero => intro ht; rw [show j = g + 1 by omega]; exact Nat.le_refl _
        | succ t ih => intro ht; exact Nat.le_trans (h2 (j + 1) (by omega)) (ih (j + 1) (by omega) (by omega))
      rw [← h1]; exact this (g + 1 - j) (by omega)
    rw [lst, mnF_le]
    refine ⟨b 1, by rw [← h0]; exact h2 0 (by omega), by have : b 1 ≤ l.length := hm 0 (by omega); omega, ?_⟩
    have ih := lst_least h (S := S) g (b 1) (fun j => b (j + 1)) rfl h1 (fun j hj => h2 (j + 1) (by omega)) (fun j hj => h3 (j + 1) (by omega))
    have := h3 0 (by omega)
    rw [h0] at this
    have e : psm l (b 1) - psm l i ≤ S := this
    omega
end Go.Proofs.YtbaojmfkjpnfhaaGreatDoor
