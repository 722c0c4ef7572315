/- Plain law: the runs of a place of a mixture, by its breaks and by its keys. No program in sight. -/
import Derived.Test.YtkjkbhkcebbjdaaGreatDoorMyC
namespace Go.Proofs.YtkjkbhkcebbjdaaGreatDoor
set_option linter.unusedSimpArgs false
set_option linter.unusedVariables false

/-- runs: from, to, shift -/
abbrev Rn := Int × Int × Int
/-- one more run, or the last one goes on -/
def rst (out : List Rn) (f t s : Int) : List Rn :=
  match out.getLast? with
  | some (f', t', s') => if t' = f - 1 ∧ s' = s then out.dropLast ++ [(f', t, s)] else out ++ [(f, t, s)]
  | none => [(f, t, s)]
theorem rst_nil (f t s : Int) : rst [] f t s = [(f, t, s)] := rfl
theorem rst_snoc (out : List Rn) (f' t' s' f t s : Int) : rst (out ++ [(f', t', s')]) f t s = if t' = f - 1 ∧ s' = s then out ++ [(f', t, s)] else out ++ [(f', t', s')] ++ [(f, t, s)] := by
  unfold rst
  rw [List.getLast?_append]
  simp
/-- key by key is the same as all keys at once -/
theorem rst_more (out : List Rn) (f t s : Int) : rst (rst out f t s) (t + 1) (t + 1) s = rst out f (t + 1) s := by
  rcases List.eq_nil_or_concat out with rfl | ⟨o, x, rfl⟩
  · rw [rst_nil, rst_nil, show ([(f, t, s)] : List Rn) = [] ++ [(f, t, s)] from rfl, rst_snoc, if_pos ⟨by omega, rfl⟩]
    rfl
  · obtain ⟨f', t', s'⟩ := x
    rw [List.concat_eq_append, rst_snoc, rst_snoc]
    split
    · rename_i h
      rw [rst_snoc, if_pos ⟨by omega, rfl⟩]
    · rw [rst_snoc, if_pos ⟨by omega, rfl⟩]
/-- the shift of a place in a break -/
def Mx.sh (x : Mx) (p : Nat) (own : Int) (i : Nat) : Int := gt (x.rk i) p - own
/-- the runs of the first i breaks -/
def Mx.runs (x : Mx) (p : Nat) (own : Int) : Nat → List Rn
  | 0 => []
  | i+1 => if p < (x.rk i).length then rst (x.runs p own i) (x.fr i) (x.last i) (x.sh p own i) else x.runs p own i
/-- the same by the first k keys -/
def Mx.kruns (x : Mx) (p : Nat) (own : Int) : Nat → List Rn
  | 0 => []
  | k+1 => if p < (x.rk (x.at (x.key k) x.n)).length then rst (x.kruns p own k) (x.key k) (x.key k) (x.sh p own (x.at (x.key k) x.n)) else x.kruns p own k
/-- the number of keys ahead of a break -/
def Mx.ahead (x : Mx) (i : Nat) : Nat := (x.fr i - x.a).toNat
theorem Mx.Ord.runs_in {x : Mx} (h : x.Ord) (p : Nat) (own : Int) {i : Nat} (hi : i < x.n) (h0 : x.kruns p own (x.ahead i) = x.runs p own i) :
    ∀ j : Nat, x.fr i + (j : Int) ≤ x.last i → x.kruns p own (x.ahead i + j + 1) = if p < (x.rk i).length then rst (x.runs p own i) (x.fr i) (x.fr i + (j : Int)) (x.sh p own i) else x.runs p own i := by
  have hf : x.a ≤ x.fr i := by rw [← h.first]; exact h.mono (Nat.zero_le i) hi
  have hk : ∀ j : Nat, x.key (x.ahead i + j) = x.fr i + (j : Int) := fun j => by unfold Mx.key Mx.ahead; omega
  intro j
  induction j with
  | zero =>
    intro hj
    have h00 : x.key (x.ahead i) = x.fr i := by unfold Mx.key Mx.ahead; omega
    have ha := h.at_of hi (key := x.key (x.ahead i)) (by rw [h00]; exact Int.le_refl _) (by rw [h00]; exact h.last_ge hi)
    have hz : x.fr i + ((0 : Nat) : Int) = x.fr i := by omega
    rw [Nat.add_zero, Mx.kruns, ha, h00, hz, h0]
  | succ j ih =>
    intro hj
    have ha := h.at_of hi (key := x.key (x.ahead i + (j + 1))) (by rw [hk (j + 1)]; omega) (by rw [hk (j + 1)]; exact hj)
    rw [Mx.kruns, ha, hk (j + 1), show x.ahead i + (j + 1) = x.ahead i + j + 1 by omega, ih (by omega)]
    split
    · rw [show x.fr i + ((j + 1 : Nat) : Int) = x.fr i + (j : Int) + 1 by omega]
      exact rst_more _ _ _ _
    · rfl
/-- THE RUNS by breaks are those by keys -/
theorem Mx.Ord.runs_keys {x : Mx} (h : x.Ord) (p : Nat) (own : Int) : ∀ i, i < x.n → x.kruns p own (x.ahead i) = x.runs p own i
  | 0, hi => by
    have : x.ahead 0 = 0 := by unfold Mx.ahead; rw [h.first]; omega
    rw [this]; rfl
  | i+1, hi => by
    have ih := h.runs_keys p own i (by omega)
    have hl : x.last i = x.fr (i + 1) - 1 := by unfold Mx.last; rw [if_pos hi]
    have hu := h.up i hi
    have hf : x.a ≤ x.fr i := by rw [← h.first]; exact h.mono (Nat.zero_le i) (by omega)
    have hr := h.runs_in p own (show i < x.n by omega) ih (x.fr (i + 1) - 1 - x.fr i).toNat (by omega)
    have e : x.ahead i + (x.fr (i + 1) - 1 - x.fr i).toNat + 1 = x.ahead (i + 1) := by unfold Mx.ahead; omega
    rw [e] at hr
    rw [hr, Mx.runs, hl]
    rw [show x.fr i + ((x.fr (i + 1) - 1 - x.fr i).toNat : Int) = x.fr (i + 1) - 1 by omega]
theorem Mx.Ord.runs_all {x : Mx} (h : x.Ord) (p : Nat) (own : Int) : x.kruns p own x.keys = x.runs p own x.n := by
  obtain ⟨i, hi⟩ : ∃ i, x.n = i + 1 := ⟨x.n - 1, by have := h.pos; omega⟩
  have ih := h.runs_keys p own i (by omega)
  have hl : x.last i = x.b := by unfold Mx.last; rw [if_neg (by omega)]
  have hle := h.le i (by omega)
  have hf : x.a ≤ x.fr i := by rw [← h.first]; exact h.mono (Nat.zero_le i) (by omega)
  have hr := h.runs_in p own (show i < x.n by omega) ih (x.b - x.fr i).toNat (by omega)
  have e : x.ahead i + (x.b - x.fr i).toNat + 1 = x.keys := by unfold Mx.ahead Mx.keys; omega
  rw [e] at hr
  rw [hr, hi, Mx.runs, hl]
  rw [show x.fr i + ((x.b - x.fr i).toNat : Int) = x.b by omega]
/-- a run goes from a lower to a higher key -/
theorem rst_ord {out : List Rn} {f t s : Int} (h : ∀ r ∈ out, r.1 ≤ r.2.1) (hft : f ≤ t) : ∀ r ∈ rst out f t s, r.1 ≤ r.2.1 := by
  rcases List.eq_nil_or_concat out with rfl | ⟨o, x, rfl⟩
  · intro r hr
    rw [rst_nil] at hr
    simp at hr
    subst hr; exact hft
  · obtain ⟨f', t', s'⟩ := x
    rw [List.concat_eq_append] at h ⊢
    have h1 := h (f', t', s') (by simp)
    simp only [] at h1
    intro r hr
    rw [rst_snoc] at hr
    split at hr
    · rename_i hc
      rcases List.mem_append.1 hr with hr | hr
      · exact h r (List.mem_append_left _ hr)
      · simp at hr; subst hr
        show f' ≤ t
        omega
    · rcases List.mem_append.1 hr with hr | hr
      · exact h r hr
      · simp at hr; subst hr; exact hft
theorem Mx.Ord.runs_ord {x : Mx} (h : x.Ord) (p : Nat) (own : Int) : ∀ i, i ≤ x.n → ∀ r ∈ x.runs p own i, r.1 ≤ r.2.1
  | 0, _ => fun r hr => by cases hr
  | i+1, hi => by
    rw [Mx.runs]
    split
    · exact rst_ord (h.runs_ord p own i (by omega)) (h.last_ge (by omega))
    · exact h.runs_ord p own i (by omega)
end Go.Proofs.YtkjkbhkcebbjdaaGreatDoor
