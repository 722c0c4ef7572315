/- Plain law: the rows, steps, counts and doubles of a mixture. No program in sight. -/
import Derived.Test.YtafadpaljanghaaGreatDoorMyA
namespace Go.Proofs.YtafadpaljanghaaGreatDoor
set_option linter.unusedSimpArgs false
set_option linter.unusedVariables false

/-- the sounding notes of a key -/
def Mx.row (x : Mx) (key : Int) : List Int := (x.rk (x.at key x.n)).map fun s => key + s
/-- the k-th key -/
def Mx.key (x : Mx) (k : Nat) : Int := x.a + (k : Int)
/-- how many keys -/
def Mx.keys (x : Mx) : Nat := (x.b - x.a + 1).toNat
/-- how often a note sounds in the rows of the first k keys -/
def Mx.cnt (x : Mx) (v : Int) : Nat → Nat
  | 0 => 0
  | k+1 => x.cnt v k + (x.row (x.key k)).count v
/-- the counts, of notes from 0 on -/
def Mx.counts (x : Mx) : Nat → List (Nat × Nat)
  | 0 => []
  | n+1 => if 0 < x.cnt (n : Int) x.keys then x.counts n ++ [(n, x.cnt (n : Int) x.keys)] else x.counts n
/-- the steps between two breaks, of the first k places -/
def stepsL (key : Int) (p q : List Int) : Nat → List (Int × Nat × Int)
  | 0 => []
  | k+1 => if gt q k = gt p k then stepsL key p q k else stepsL key p q k ++ [(key, k, gt q k - gt p k)]
/-- the steps of the first i breaks behind the first -/
def Mx.steps (x : Mx) : Nat → List (Int × Nat × Int)
  | 0 => []
  | i+1 => x.steps i ++ stepsL (x.fr (i + 1)) (x.rk i) (x.rk (i + 1)) (min (x.rk i).length (x.rk (i + 1)).length)
/-- does a row have a note twice in a row? -/
def twin (l : List Int) : Bool := anyN (l.length - 1) fun j => decide (gt l (j + 1) = gt l j)
/-- the keys with one, of the first k -/
def Mx.dbl (x : Mx) : Nat → List Int
  | 0 => []
  | k+1 => if twin (x.rk (x.at (x.key k) x.n)) then x.dbl k ++ [x.key k] else x.dbl k
theorem Mx.row_len (x : Mx) (key : Int) : (x.row key).length = (x.rk (x.at key x.n)).length := List.length_map ..
theorem Mx.row_at (x : Mx) (key : Int) {j : Nat} (h : j < (x.rk (x.at key x.n)).length) : (x.row key)[j]? = some (key + gt (x.rk (x.at key x.n)) j) := by
  unfold Mx.row
  rw [List.getElem?_map, gt_at h]
  rfl
/-- a break is in ascending order -/
theorem dn_mono {l : List Int} (h : dn l = false) : ∀ {j i : Nat}, i ≤ j → j < l.length → gt l i ≤ gt l j
  | 0, i, hi, _ => by rw [Nat.le_zero.1 hi]; exact Int.le_refl _
  | j+1, i, hi, hj => by
    rcases Nat.lt_or_ge i (j + 1) with h1 | h1
    · have h2 := dn_mono h (j := j) (i := i) (by omega) (by omega)
      have h3 := anyN_no.1 h j (by omega)
      simp at h3
      omega
    · rw [show i = j + 1 by omega]; exact Int.le_refl _
theorem Mx.Fine.keys_pos {x : Mx} (h : x.Fine) : 1 ≤ x.keys ∧ x.keys ≤ 61 := by
  have := h.ab
  have := h.wide
  unfold Mx.keys
  omega
theorem Mx.Fine.key_in {x : Mx} (h : x.Fine) {k : Nat} (hk : k < x.keys) : x.a ≤ x.key k ∧ x.key k ≤ x.b := by
  unfold Mx.keys at hk
  unfold Mx.key
  omega
/-- every sounding note lies from 0 to 139 -/
theorem Mx.Fine.note {x : Mx} (h : x.Fine) (hs : x.snd = false) {k : Nat} (hk : k < x.keys) {v : Int} (hv : v ∈ x.row (x.key k)) : 0 ≤ v ∧ v ≤ 139 := by
  rw [h.snd_keys] at hs
  have h1 := anyN_no.1 hs k hk
  have ek : x.a + (k : Int) = x.key k := rfl
  rw [ek] at h1
  obtain ⟨k1, k2⟩ := h.key_in hk
  obtain ⟨g1, g2, g3⟩ := h.ord.at_in k1 k2
  unfold Mx.kbad at h1
  simp only [Bool.or_eq_false_iff, decide_eq_false_iff_not] at h1
  obtain ⟨j, hj⟩ := List.mem_iff_getElem?.1 hv
  have hjl : j < (x.rk (x.at (x.key k) x.n)).length := by
    rcases Nat.lt_or_ge j (x.rk (x.at (x.key k) x.n)).length with a | a
    · exact a
    · rw [List.getElem?_eq_none (by rw [x.row_len]; exact a)] at hj; cases hj
  rw [x.row_at _ hjl] at hj
  injection hj with hj
  have d := h.dn0 _ g1
  have m1 := dn_mono d (Nat.zero_le j) hjl
  have m2 := dn_mono d (i := j) (j := (x.rk (x.at (x.key k) x.n)).length - 1) (by omega) (by omega)
  omega
/-- the counts add up -/
def sumT : List (Nat × Nat) → Nat
  | [] => 0
  | (_, t) :: l => t + sumT l
theorem sumT_snoc (n t : Nat) : ∀ l : List (Nat × Nat), sumT (l ++ [(n, t)]) = sumT l + t
  | [] => by simp [sumT]
  | (m, s) :: l => by rw [List.cons_append, sumT, sumT_snoc n t l, sumT, Nat.add_assoc]
/-- the occurrences of the first n notes in a list -/
def cntL (l : List Int) : Nat → Nat
  | 0 => 0
  | n+1 => cntL l n + l.count (n : Int)
theorem cntL_cons (v : Int) (l : List Int) : ∀ n : Nat, cntL (v :: l) n = cntL l n + (if 0 ≤ v ∧ v < n then 1 else 0)
  | 0 => by simp [cntL]
  | n+1 => by
    rw [cntL, cntL_cons v l n, cntL, List.count_cons]
    by_cases h : v = (n : Int)
    · subst h
      rw [if_neg (by omega), if_pos (beq_self_eq_true _), if_pos (by omega)]; omega
    · rw [if_neg (show ¬ ((v == (n : Int)) = true) by simpa using h)]
      by_cases h1 : 0 ≤ v ∧ v < (n : Int)
      · rw [if_pos h1, if_pos (by omega)]; omega
      · rw [if_neg h1, if_neg (by omega)]; omega
theorem cntL_nil : ∀ n, cntL [] n = 0
  | 0 => rfl
  | n+1 => by rw [cntL, cntL_nil n]; rfl
theorem cntL_upto (N : Nat) : ∀ {l : List Int}, (∀ v ∈ l, 0 ≤ v ∧ v < (N : Int)) → cntL l N = l.length
  | [], _ => cntL_nil N
  | v :: l, h => by
    rw [cntL_cons, cntL_upto N fun u hu => h u (List.mem_cons_of_mem _ hu), if_pos (h v List.mem_cons_self), List.length_cons]
theorem cntL_all {l : List Int} (h : ∀ v ∈ l, 0 ≤ v ∧ v ≤ 139) : cntL l 140 = l.length := cntL_upto 140 fun v hv => by have := h v hv; omega
/-- the lengths of the rows of the first k keys -/
def Mx.lens (x : Mx) : Nat → Nat
  | 0 => 0
  | k+1 => x.lens k + (x.row (x.key k)).length
theorem Mx.counts_sum (x : Mx) : ∀ n, sumT (x.counts n) = (List.range n).foldl (fun (s v : Nat) => s + x.cnt (v : Int) x.keys) 0
  | 0 => rfl
  | n+1 => by
    rw [List.range_succ, List.foldl_append, ← Mx.counts_sum x n, Mx.counts]
    show _ = sumT (x.counts n) + x.cnt (n : Int) x.keys
    split
    · exact sumT_snoc _ _ _
    · omega
theorem foldl_add (f g : Nat → Nat) : ∀ n, (List.range n).foldl (fun s v => s + (f v + g v)) 0 = (List.range n).foldl (fun s v => s + f v) 0 + (List.range n).foldl (fun s v => s + g v) 0
  | 0 => rfl
  | n+1 => by
    rw [List.range_succ, List.foldl_append, List.foldl_append, List.foldl_append, foldl_add f g n]
    simp only [List.foldl_cons, List.foldl_nil]
    omega
theorem foldl_cntL (l : List Int) : ∀ n, (List.range n).foldl (fun (s v : Nat) => s + l.count (v : Int)) 0 = cntL l n
  | 0 => rfl
  | n+1 => by
    rw [List.range_succ, List.foldl_append, foldl_cntL l n]; rfl
theorem foldl_zero : ∀ n, (List.range n).foldl (fun s (_ : Nat) => s + 0) 0 = 0
  | 0 => rfl
  | n+1 => by
    rw [List.range_succ, List.foldl_append, foldl_zero n]; rfl
/-- THE COUNTS: all ranks of all rows -/
theorem Mx.Fine.sum_counts {x : Mx} (h : x.Fine) (hs : x.snd = false) : sumT (x.counts 140) = x.lens x.keys := by
  rw [x.counts_sum]
  have key : ∀ N k, k ≤ x.keys → (∀ j, j < x.keys → cntL (x.row (x.key j)) N = (x.row (x.key j)).length) → (List.range N).foldl (fun (s v : Nat) => s + x.cnt (v : Int) k) 0 = x.lens k := by
    intro N k
    induction k with
    | zero => intro _ _; exact foldl_zero N
    | succ k ih =>
      intro hk hN
      have e : (fun (s v : Nat) => s + x.cnt (v : Int) (k + 1)) = fun (s v : Nat) => s + (x.cnt (v : Int) k + (x.row (x.key k)).count (v : Int)) := rfl
      rw [e, foldl_add, ih (by omega) hN, foldl_cntL, hN k (by omega)]
      rfl
  exact key _ _ (Nat.le_refl _) fun j hj => cntL_all (fun v hv => h.note hs hj hv)
/-- the steps of one place, added up -/
def sumK (k : Nat) : List (Int × Nat × Int) → Int
  | [] => 0
  | (_, j, b) :: l => (if j = k then b else 0) + sumK k l
theorem sumK_append (k : Nat) : ∀ l m : List (Int × Nat × Int), sumK k (l ++ m) = sumK k l + sumK k m
  | [], m => by rw [List.nil_append, sumK]; omega
  | (a, j, b) :: l, m => by rw [List.cons_append, sumK, sumK_append k l m, sumK]; omega
theorem sumK_steps (k : Nat) (key : Int) (p q : List Int) : ∀ n, sumK k (stepsL key p q n) = if k < n then gt q k - gt p k else 0
  | 0 => by rw [stepsL, sumK, if_neg (Nat.not_lt_zero _)]
  | n+1 => by
    have ih := sumK_steps k key p q n
    rw [stepsL]
    by_cases h : gt q n = gt p n
    · rw [if_pos h, ih]
      by_cases hk : k = n
      · subst hk; rw [if_neg (Nat.lt_irrefl _), if_pos (Nat.lt_succ_self _)]; omega
      · by_cases h1 : k < n
        · rw [if_pos h1, if_pos (by omega)]
        · rw [if_neg h1, if_neg (by omega)]
    · rw [if_neg h, sumK_append, ih]
      have e1 : sumK k [(key, n, gt q n - gt p n)] = if n = k then gt q n - gt p n else 0 := by simp [sumK]
      rw [e1]
      by_cases hk : k = n
      · subst hk; rw [if_neg (Nat.lt_irrefl k), if_pos rfl, if_pos (Nat.lt_succ_self k)]; omega
      · have hk2 : ¬ n = k := fun e => hk e.symm
        by_cases h1 : k < n
        · rw [if_pos h1, if_neg hk2, if_pos (by omega)]; omega
        · rw [if_neg h1, if_neg hk2, if_neg (by omega)]; omega
/-- THE STEPS of a place add up to the difference of the last and the first row -/
theorem Mx.steps_sum (x : Mx) {k : Nat} : ∀ i, (∀ j, j ≤ i → k < (x.rk j).length) → sumK k (x.steps i) = gt (x.rk i) k - gt (x.rk 0) k
  | 0, _ => by rw [Mx.steps, sumK]; omega
  | i+1, h => by
    have a := h i (by omega)
    have b := h (i + 1) (Nat.le_refl _)
    rw [Mx.steps, sumK_append, Mx.steps_sum x i (fun j hj => h j (by omega)), sumK_steps, if_pos (by omega)]
    omega
/-- the rows of the keys of a break, one after the other -/
theorem Mx.Ord.key_of {x : Mx} (h : x.Ord) {i : Nat} (hi : i < x.n) {k : Nat} (h1 : x.fr i ≤ x.key k) (h2 : x.key k ≤ x.last i) : x.at (x.key k) x.n = i := h.at_of hi h1 h2
end Go.Proofs.YtafadpaljanghaaGreatDoor
