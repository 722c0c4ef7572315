/- Plain facts on limbs: numbers as lists of limbs of 32 bits, the lowest first. No program in sight. -/
namespace Go.Proofs.YtbaojmfkjpnfhaaGreatDoor
set_option linter.unusedSimpArgs false
set_option linter.unusedVariables false
def LB : Nat := 4294967296
theorem LB_pos : 0 < LB := by decide
theorem LB_eq : LB = 4294967296 := rfl
/-- the number that limbs say -/
def valOf : List Nat → Nat
  | [] => 0
  | x :: r => x + LB * valOf r
/-- the limbs of a number, without a last 0 -/
def limbs (n : Nat) : List Nat := if _h : n = 0 then [] else n % LB :: limbs (n / LB)
termination_by n
decreasing_by exact Nat.div_lt_self (by omega) (by decide)
/-- without limbs 0 at the end -/
def trimN (l : List Nat) : List Nat := (l.reverse.dropWhile (· == 0)).reverse

theorem limbs_zero : limbs 0 = [] := by rw [limbs]; simp
theorem limbs_pos {n : Nat} (h : n ≠ 0) : limbs n = n % LB :: limbs (n / LB) := by rw [limbs]; simp [h]
theorem valOf_limbs (n : Nat) : valOf (limbs n) = n := by
  induction n using Nat.strongRecOn with
  | _ n ih =>
    by_cases h : n = 0
    · subst h; rw [limbs_zero]; rfl
    · rw [limbs_pos h]; show n % LB + LB * valOf (limbs (n / LB)) = n
      rw [ih _ (Nat.div_lt_self (by omega) (by decide))]; exact Nat.mod_add_div n LB
theorem limbs_lt (n : Nat) : ∀ x ∈ limbs n, x < LB := by
  induction n using Nat.strongRecOn with
  | _ n ih =>
    by_cases h : n = 0
    · subst h; rw [limbs_zero]; simp
    · rw [limbs_pos h]; intro x hx
      rcases List.mem_cons.1 hx with rfl | hx
      · exact Nat.mod_lt _ LB_pos
      · exact ih _ (Nat.div_lt_self (by omega) (by decide)) x hx
theorem valOf_append (a b : List Nat) : valOf (a ++ b) = valOf a + LB ^ a.length * valOf b := by
  induction a with
  | nil => simp [valOf]
  | cons x r ih => simp only [List.cons_append, valOf, ih, List.length_cons, Nat.pow_succ, Nat.mul_add]; rw [Nat.mul_comm (LB ^ r.length) LB, Nat.mul_assoc]; omega
theorem valOf_snoc (a : List Nat) (x : Nat) : valOf (a ++ [x]) = valOf a + LB ^ a.length * x := by rw [valOf_append]; simp [valOf]
theorem valOf_lt (l : List Nat) (h : ∀ x ∈ l, x < LB) : valOf l < LB ^ l.length := by
  induction l with
  | nil => simp [valOf]
  | cons x r ih =>
    have h1 := ih (fun y hy => h y (List.mem_cons_of_mem _ hy))
    have h2 := h x (List.mem_cons_self ..)
    simp only [valOf, List.length_cons, Nat.pow_succ]
    have : LB * (valOf r + 1) ≤ LB * LB ^ r.length := Nat.mul_le_mul_left _ h1
    rw [Nat.mul_comm (LB ^ r.length)]
    rw [Nat.mul_add] at this; omega
theorem valOf_cons_mod (x : Nat) (r : List Nat) (h : x < LB) : (x + LB * valOf r) % LB = x := by rw [Nat.add_mul_mod_self_left, Nat.mod_eq_of_lt h]
theorem valOf_cons_div (x : Nat) (r : List Nat) (h : x < LB) : (x + LB * valOf r) / LB = valOf r := by rw [Nat.add_mul_div_left _ _ LB_pos, Nat.div_eq_of_lt h, Nat.zero_add]

theorem trimN_nil : trimN [] = [] := rfl
theorem trimN_snoc0 (l : List Nat) : trimN (l ++ [0]) = trimN l := by simp [trimN]
theorem trimN_snoc (l : List Nat) (x : Nat) (h : x ≠ 0) : trimN (l ++ [x]) = l ++ [x] := by simp [trimN, h]
theorem take_trim0 (l : List Nat) (n : Nat) (hn : n < l.length) (h : l[n]?.getD 0 = 0) : trimN (l.take (n+1)) = trimN (l.take n) := by
  rw [List.take_succ_eq_append_getElem hn]
  have : l[n] = 0 := by simpa [hn] using h
  rw [this, trimN_snoc0]
theorem take_trim1 (l : List Nat) (n : Nat) (hn : n < l.length) (h : l[n]?.getD 0 ≠ 0) : trimN (l.take (n+1)) = l.take (n+1) := by
  rw [List.take_succ_eq_append_getElem hn]
  have : l[n] ≠ 0 := by simpa [hn] using h
  rw [trimN_snoc _ _ this]
theorem rev_ind {α : Type} {P : List α → Prop} (h0 : P []) (h1 : ∀ l x, P l → P (l ++ [x])) (l : List α) : P l := by
  have key : ∀ r : List α, P r.reverse := by
    intro r
    induction r with
    | nil => exact h0
    | cons x r ih => rw [List.reverse_cons]; exact h1 _ _ ih
  have := key l.reverse
  rwa [List.reverse_reverse] at this
/-- a list of limbs is that of its number if its last one is not 0 -/
def Norm (l : List Nat) : Prop := (∀ x ∈ l, x < LB) ∧ l.getLast? ≠ some 0
theorem limbs_norm (n : Nat) : Norm (limbs n) := by
  refine ⟨limbs_lt n, ?_⟩
  induction n using Nat.strongRecOn with
  | _ n ih =>
    by_cases h : n = 0
    · subst h; rw [limbs_zero]; simp
    · rw [limbs_pos h]
      by_cases h2 : n / LB = 0
      · rw [h2, limbs_zero]
        have : n < LB := by
          rcases Nat.lt_or_ge n LB with h3 | h3
          · exact h3
          · have := Nat.div_pos h3 LB_pos; omega
        rw [Nat.mod_eq_of_lt this]; simp [h]
      · have := ih (n / LB) (Nat.div_lt_self (by omega) (by decide))
        rw [limbs_pos h2] at this ⊢
        simpa using this
theorem norm_limbs {l : List Nat} (h : Norm l) : l = limbs (valOf l) := by
  obtain ⟨h1, h2⟩ := h
  induction l with
  | nil => simp [valOf, limbs_zero]
  | cons x r ih =>
    have hx := h1 x (List.mem_cons_self ..)
    have hr : ∀ y ∈ r, y < LB := fun y hy => h1 y (List.mem_cons_of_mem _ hy)
    have hl : r.getLast? ≠ some 0 := by
      cases r with
      | nil => simp
      | cons y s => simpa using h2
    have e := ih hr hl
    have hne : x + LB * valOf r ≠ 0 := by
      intro h0
      have hx0 : x = 0 := by omega
      have hv : valOf r = 0 := by
        rcases Nat.eq_zero_or_pos (valOf r) with h3 | h3
        · exact h3
        · have := Nat.mul_pos LB_pos h3; omega
      rw [hv, limbs_zero] at e
      subst e; subst hx0; simp at h2
    show x :: r = limbs (x + LB * valOf r)
    rw [limbs_pos hne, valOf_cons_mod _ _ hx, valOf_cons_div _ _ hx, ← e]
theorem trimN_val (l : List Nat) : valOf (trimN l) = valOf l := by
  refine rev_ind (P := fun l => valOf (trimN l) = valOf l) rfl (fun l x ih => ?_) l
  · by_cases h : x = 0
    · subst h; rw [trimN_snoc0, ih, valOf_snoc]; simp
    · rw [trimN_snoc _ _ h]
theorem trimN_mem (l : List Nat) : ∀ x ∈ trimN l, x ∈ l := by
  intro x hx
  have : x ∈ l.reverse.dropWhile (· == 0) := by simpa [trimN] using hx
  simpa using (List.dropWhile_sublist _).mem this
theorem trimN_last (l : List Nat) : (trimN l).getLast? ≠ some 0 := by
  refine rev_ind (P := fun l => (trimN l).getLast? ≠ some 0) (by simp [trimN]) (fun l x ih => ?_) l
  · by_cases h : x = 0
    · subst h; rw [trimN_snoc0]; exact ih
    · rw [trimN_snoc _ _ h]; simp [h]
theorem trimN_limbs {l : List Nat} (h : ∀ x ∈ l, x < LB) : trimN l = limbs (valOf l) := by
  have := norm_limbs (l := trimN l) ⟨fun x hx => h x (trimN_mem l x hx), trimN_last l⟩
  rw [trimN_val] at this; exact this
theorem limbs_len_le {n k : Nat} (h : n < LB ^ k) : (limbs n).length ≤ k := by
  induction k generalizing n with
  | zero => have : n = 0 := by simpa using h
            subst this; simp [limbs_zero]
  | succ k ih =>
    by_cases h0 : n = 0
    · subst h0; simp [limbs_zero]
    · rw [limbs_pos h0, List.length_cons]
      have := ih (n := n / LB) (Nat.div_lt_of_lt_mul (by rw [Nat.pow_succ, Nat.mul_comm] at h; exact h))
      omega
theorem lt_limbs_len (n : Nat) : n < LB ^ (limbs n).length := by
  have := valOf_lt (limbs n) (limbs_lt n); rwa [valOf_limbs] at this
theorem limbs_len_iff {n k : Nat} : (limbs n).length ≤ k ↔ n < LB ^ k :=
  ⟨fun h => Nat.lt_of_lt_of_le (lt_limbs_len n) (Nat.pow_le_pow_right LB_pos h), limbs_len_le⟩
theorem limbs_nil_iff {n : Nat} : limbs n = [] ↔ n = 0 := by
  constructor
  · intro h; have := valOf_limbs n; rw [h] at this; exact this.symm
  · rintro rfl; exact limbs_zero
theorem limbs_inj {a b : Nat} (h : limbs a = limbs b) : a = b := by rw [← valOf_limbs a, h, valOf_limbs]
theorem len_pos_iff {n : Nat} : 0 < (limbs n).length ↔ n ≠ 0 := by
  constructor
  · intro h h0; subst h0; simp [limbs_zero] at h
  · intro h; rw [limbs_pos h]; simp
/-- the number is at least the weight of its highest limb -/
theorem limbs_ge {n k : Nat} (h : k < (limbs n).length) : LB ^ k ≤ n := by
  rcases Nat.lt_or_ge n (LB ^ k) with h1 | h1
  · have := limbs_len_le h1; omega
  · exact h1
/-- a limb list that is right -/
def validL (l : List Nat) : Bool := decide (l.length ≤ 512) && (l.length == 0 || l[l.length - 1]?.getD 0 != 0)
theorem validL_succ {l : List Nat} {n : Nat} (hl : l.length = n + 1) (h5 : n + 1 ≤ 512) : validL l = (l[n]?.getD 0 != 0) := by
  simp [validL, hl, h5]
theorem validL_long {l : List Nat} (h : 512 < l.length) : validL l = false := by
  have : ¬ l.length ≤ 512 := by omega
  simp [validL, this]
theorem validL_iff {l : List Nat} (h : ∀ x ∈ l, x < LB) : validL l = true ↔ l = limbs (valOf l) ∧ l.length ≤ 512 := by
  constructor
  · intro hv
    simp only [validL, Bool.and_eq_true, decide_eq_true_eq, Bool.or_eq_true, beq_iff_eq, bne_iff_ne] at hv
    refine ⟨norm_limbs ⟨h, ?_⟩, hv.1⟩
    rcases hv.2 with h0 | h0
    · have : l = [] := List.eq_nil_of_length_eq_zero h0
      subst this; simp
    · intro he
      rw [List.getLast?_eq_getElem?] at he
      rw [he] at h0; simp at h0
  · rintro ⟨h1, h2⟩
    have hn := (limbs_norm (valOf l)).2
    rw [← h1] at hn
    simp only [validL, Bool.and_eq_true, decide_eq_true_eq, Bool.or_eq_true, beq_iff_eq, bne_iff_ne]
    refine ⟨h2, ?_⟩
    by_cases h0 : l.length = 0
    · exact .inl h0
    · right
      rw [List.getLast?_eq_getElem?] at hn
      intro he
      have : l[l.length - 1]? = some (l[l.length - 1]'(by omega)) := List.getElem?_eq_getElem _
      rw [this] at he hn
      simp at he
      exact hn (by rw [he])
theorem validL_limbs {n : Nat} (h : (limbs n).length ≤ 512) : validL (limbs n) = true := (validL_iff (limbs_lt n)).2 ⟨by rw [valOf_limbs], h⟩
/-- the order of two numbers -/
def cmpN (a b : Nat) : Int := if a < b then -1 else if b < a then 1 else 0
theorem cmpN_lt {a b : Nat} (h : a < b) : cmpN a b = -1 := by simp [cmpN, h]
theorem cmpN_gt {a b : Nat} (h : b < a) : cmpN a b = 1 := by
  have : ¬ a < b := by omega
  simp [cmpN, h, this]
theorem cmpN_eq (a : Nat) : cmpN a a = 0 := by simp [cmpN]
theorem valOf_split (l : List Nat) (j : Nat) (hj : j < l.length) : valOf l = valOf (l.take j) + LB ^ j * (l[j]?.getD 0 + LB * valOf (l.drop (j+1))) := by
  have e : l = l.take j ++ (l[j] :: l.drop (j+1)) := by rw [← List.drop_eq_getElem_cons hj, List.take_append_drop]
  have h1 : (l.take j).length = j := by simp; omega
  have e2 := congrArg valOf e
  rw [valOf_append, h1] at e2
  rw [e2, List.getElem?_eq_getElem hj]; rfl
theorem valOf_lt_of {la lb : List Nat} {j : Nat} (hl : la.length = lb.length) (hj : j < la.length) (ha : ∀ x ∈ la, x < LB)
    (hd : la.drop (j+1) = lb.drop (j+1)) (hlt : la[j]?.getD 0 < lb[j]?.getD 0) : valOf la < valOf lb := by
  rw [valOf_split la j hj, valOf_split lb j (by omega), hd]
  have h1 : valOf (la.take j) < LB ^ (la.take j).length := valOf_lt _ (fun x hx => ha x (List.mem_of_mem_take hx))
  have h2 : (la.take j).length = j := by simp; omega
  rw [h2] at h1
  have h3 : LB ^ j * (la[j]?.getD 0 + LB * valOf (lb.drop (j+1)) + 1) ≤ LB ^ j * (lb[j]?.getD 0 + LB * valOf (lb.drop (j+1))) := Nat.mul_le_mul_left _ (by omega)
  rw [Nat.mul_add _ _ 1] at h3
  omega
theorem drop_step {la lb : List Nat} {j : Nat} (hl : la.length = lb.length) (hj : j < la.length) (hd : la.drop (j+1) = lb.drop (j+1)) (he : la[j]?.getD 0 = lb[j]?.getD 0) : la.drop j = lb.drop j := by
  rw [List.drop_eq_getElem_cons hj, List.drop_eq_getElem_cons (show j < lb.length by omega), hd]
  congr 1
  rw [List.getElem?_eq_getElem hj, List.getElem?_eq_getElem (show j < lb.length by omega)] at he
  simpa using he
theorem limbs_len_lt {a b : Nat} (h : (limbs a).length < (limbs b).length) : a < b := by
  have h1 := lt_limbs_len a
  have h2 := limbs_ge h
  omega
theorem valOf_set (l : List Nat) (j v : Nat) (hj : j < l.length) : valOf (l.set j v) + LB ^ j * l[j]?.getD 0 = valOf l + LB ^ j * v := by
  have h1 := valOf_split l j hj
  have h2 := valOf_split (l.set j v) j (by simpa using hj)
  have e1 : (l.set j v).take j = l.take j := by rw [List.take_set_of_le (Nat.le_refl _)]
  have e2 : (l.set j v).drop (j+1) = l.drop (j+1) := by rw [List.drop_set_of_lt (by omega)]
  have e3 : (l.set j v)[j]?.getD 0 = v := by simp [hj]
  rw [e1, e2, e3] at h2
  rw [h1, h2, Nat.mul_add, Nat.mul_add]
  omega
theorem valOf_zeros (n : Nat) : valOf (List.replicate n 0) = 0 := by
  induction n with
  | zero => rfl
  | succ n ih => rw [List.replicate_succ]; simp [valOf, ih]
theorem valOf_take_succ (l : List Nat) (i : Nat) (hi : i < l.length) : valOf (l.take (i+1)) = valOf (l.take i) + LB ^ i * l[i]?.getD 0 := by
  rw [List.take_succ_eq_append_getElem hi, valOf_snoc, List.getElem?_eq_getElem hi]
  have : (l.take i).length = i := by simp; omega
  rw [this]; rfl
/-- a product under way: row i, k limbs of it done, carry q -/
structure TIn (la lb : List Nat) (n m i k : Nat) (O : List Nat) (q : Nat) : Prop where
  len : O.length = n + m
  cq : q < LB
  val : valOf O + q * LB ^ (i+k) = valOf (la.take i) * valOf lb + LB ^ i * (la[i]?.getD 0 * valOf (lb.take k))
  zero : ∀ j, i + m ≤ j → O[j]?.getD 0 = 0
structure TOut (la lb : List Nat) (n m i : Nat) (O : List Nat) : Prop where
  len : O.length = n + m
  val : valOf O = valOf (la.take i) * valOf lb
  zero : ∀ j, i + m ≤ j → O[j]?.getD 0 = 0
theorem TIn.step {la lb O : List Nat} {n m i k q : Nat} (h : TIn la lb n m i k O q) (hi : i < n) (hk : k < m) (hm : lb.length = m) (hx : la[i]?.getD 0 < LB) (hy : lb[k]?.getD 0 < LB) (ho : O[i+k]?.getD 0 < LB) :
    TIn la lb n m i (k+1) (O.set (i+k) ((O[i+k]?.getD 0 + la[i]?.getD 0 * lb[k]?.getD 0 + q) % LB)) ((O[i+k]?.getD 0 + la[i]?.getD 0 * lb[k]?.getD 0 + q) / LB) := by
  have hq := h.cq
  have hv := h.val
  have hset := valOf_set O (i+k) ((O[i+k]?.getD 0 + la[i]?.getD 0 * lb[k]?.getD 0 + q) % LB) (by rw [h.len]; omega)
  have ht := valOf_take_succ lb k (by omega)
  refine ⟨by simpa using h.len, ?_, ?_, fun j hj => ?_⟩
  · have h1 : la[i]?.getD 0 * lb[k]?.getD 0 ≤ (LB - 1) * (LB - 1) := Nat.mul_le_mul (by omega) (by omega)
    refine Nat.div_lt_of_lt_mul ?_
    unfold LB at *
    omega
  · rw [ht]
    generalize la[i]?.getD 0 = x at *
    generalize lb[k]?.getD 0 = y at *
    generalize O[i+k]?.getD 0 = o at *
    have e := Nat.mod_add_div (o + x * y + q) LB
    generalize (o + x * y + q) % LB = r at *
    generalize (o + x * y + q) / LB = q' at *
    generalize valOf (O.set (i+k) r) = V' at *
    generalize valOf O = V at *
    generalize valOf (lb.take k) = T at *
    generalize valOf (la.take i) * valOf lb = S at *
    have e1 : LB ^ (i + (k+1)) = LB ^ (i+k) * LB := by rw [← Nat.add_assoc, Nat.pow_succ]
    have e2 : LB ^ (i+k) = LB ^ i * LB ^ k := Nat.pow_add ..
    have e3 : q' * LB ^ (i + (k+1)) = LB ^ (i+k) * (LB * q') := by rw [e1, Nat.mul_comm, Nat.mul_assoc]
    have e4 : LB ^ (i+k) * (r + LB * q') = LB ^ (i+k) * (o + x * y + q) := by rw [e]
    have e5 : LB ^ i * (x * (T + LB ^ k * y)) = LB ^ i * (x * T) + LB ^ (i+k) * (x * y) := by
      rw [e2, Nat.mul_add, Nat.mul_add, Nat.mul_assoc (LB^i)]
      congr 2
      rw [← Nat.mul_assoc, Nat.mul_comm x, Nat.mul_assoc]
    rw [e3, e5]
    simp only [Nat.mul_add] at e4
    have e6 : q * LB ^ (i+k) = LB ^ (i+k) * q := Nat.mul_comm _ _
    rw [e6] at hv
    omega
  · rw [List.getElem?_set_ne (by omega)]; exact h.zero j hj
theorem TIn.done {la lb O : List Nat} {n m i q : Nat} (h : TIn la lb n m i m O q) (hi : i < n) (hn : la.length = n) (hm : lb.length = m) : TOut la lb n m (i+1) (O.set (i+m) q) := by
  have hv := h.val
  have hset := valOf_set O (i+m) q (by rw [h.len]; omega)
  rw [h.zero (i+m) (Nat.le_refl _), Nat.mul_zero, Nat.add_zero] at hset
  refine ⟨by simpa using h.len, ?_, fun j hj => ?_⟩
  · rw [hset, valOf_take_succ la i (by omega), Nat.add_mul, Nat.mul_assoc]
    rw [List.take_of_length_le (l := lb) (by omega), Nat.mul_comm q] at hv
    exact hv
  · rw [List.getElem?_set_ne (by omega)]; exact h.zero j (by omega)
theorem TOut.start (la lb : List Nat) (n m : Nat) : TOut la lb n m 0 (List.replicate (n+m) 0) :=
  ⟨by simp, by simp [valOf_zeros, valOf], fun j _ => by rcases Nat.lt_or_ge j (n+m) with h | h <;> simp [h]⟩
theorem TOut.enter {la lb O : List Nat} {n m i : Nat} (h : TOut la lb n m i O) : TIn la lb n m i 0 O 0 :=
  ⟨h.len, by decide, by rw [h.val]; simp [valOf], h.zero⟩
theorem LB_two : LB = 2 ^ 32 := by decide
theorem LB_pow (q : Nat) : LB ^ q = 2 ^ (32 * q) := by rw [LB_two, ← Nat.pow_mul]
/-- the bits of a low part beside those of a multiple of a power -/
theorem or_add (r o s : Nat) (ho : o < 2 ^ r) (hs : 2 ^ r ∣ s) : o ||| s = o + s := by
  obtain ⟨t, rfl⟩ := hs
  rw [Nat.or_comm, ← Nat.two_pow_add_eq_or_of_lt ho, Nat.add_comm]
/-- a shift to the left under way -/
structure UpI (la : List Nat) (n q r i : Nat) (O : List Nat) : Prop where
  len : O.length = n + q + 1
  val : valOf O = valOf (la.take i) * 2 ^ (32 * q + r)
  low : O[i+q]?.getD 0 < 2 ^ r
  zero : ∀ j, i + q < j → O[j]?.getD 0 = 0
theorem UpI.start (la : List Nat) (n q r : Nat) : UpI la n q r 0 (List.replicate (n+q+1) 0) := by
  have hz : ∀ j, (List.replicate (n+q+1) 0)[j]?.getD 0 = 0 := fun j => by rw [List.getElem?_replicate]; split <;> rfl
  exact ⟨by simp, by simp [valOf_zeros, valOf], by rw [hz]; exact Nat.two_pow_pos r, fun j _ => hz j⟩
theorem UpI.step {la O : List Nat} {n q r i : Nat} (h : UpI la n q r i O) (hi : i < n) (hl : la.length = n) (hr : r < 32) (hx : la[i]?.getD 0 < LB) :
    UpI la n q r (i+1) ((O.set (i+q) (O[i+q]?.getD 0 ||| (la[i]?.getD 0 * 2 ^ r) % LB)).set (i+q+1) ((la[i]?.getD 0 * 2 ^ r) / LB)) := by
  have hset1 := valOf_set O (i+q) (O[i+q]?.getD 0 ||| (la[i]?.getD 0 * 2 ^ r) % LB) (by rw [h.len]; omega)
  have hset2 := valOf_set (O.set (i+q) (O[i+q]?.getD 0 ||| (la[i]?.getD 0 * 2 ^ r) % LB)) (i+q+1) ((la[i]?.getD 0 * 2 ^ r) / LB) (by rw [List.length_set, h.len]; omega)
  have hz := h.zero (i+q+1) (by omega)
  rw [List.getElem?_set_ne (by omega), hz, Nat.mul_zero, Nat.add_zero] at hset2
  have hd : 2 ^ r ∣ (la[i]?.getD 0 * 2 ^ r) % LB := by
    have h1 : 2 ^ r ∣ LB := by rw [LB_two]; exact Nat.pow_dvd_pow 2 (by omega)
    exact (Nat.dvd_mod_iff h1).2 (Nat.dvd_mul_left _ _)
  rw [or_add r _ _ h.low hd] at hset1
  rw [or_add r _ _ h.low hd] at hset2 ⊢
  refine ⟨by simpa using h.len, ?_, ?_, fun j hj => ?_⟩
  · rw [hset2, valOf_take_succ la i (by omega), Nat.add_mul, ← h.val]
    have e := Nat.mod_add_div (la[i]?.getD 0 * 2 ^ r) LB
    generalize (la[i]?.getD 0 * 2 ^ r) % LB = m at *
    generalize (la[i]?.getD 0 * 2 ^ r) / LB = d at *
    have e1 : LB ^ (i+q+1) * d = LB ^ (i+q) * (LB * d) := by rw [Nat.pow_succ, Nat.mul_assoc]
    have e2 : LB ^ i * la[i]?.getD 0 * 2 ^ (32 * q + r) = LB ^ (i+q) * (m + LB * d) := by
      rw [e, Nat.pow_add, ← LB_pow, Nat.pow_add, Nat.mul_assoc, Nat.mul_assoc]
      congr 1
      rw [← Nat.mul_assoc, Nat.mul_comm (la[i]?.getD 0) (LB ^ q), Nat.mul_assoc]
    rw [e1, e2, Nat.mul_add]
    rw [Nat.mul_add] at hset1
    omega
  · have : i + 1 + q = i + q + 1 := by omega
    rw [this, List.getElem?_set_self (by rw [List.length_set, h.len]; omega)]
    refine Nat.div_lt_of_lt_mul ?_
    exact Nat.mul_lt_mul_of_pos_right hx (Nat.two_pow_pos r)
  · rw [List.getElem?_set_ne (by omega), List.getElem?_set_ne (by omega)]; exact h.zero j (by omega)
theorem or_lt_LB {a b : Nat} (ha : a < LB) (hb : b < LB) : a ||| b < LB := by rw [LB_two] at *; exact Nat.or_lt_two_pow ha hb
theorem sh_lt {x r : Nat} (hx : x < LB) (hr : r < 32) : x * 2 ^ r < 18446744073709551616 := by
  have h1 : 2 ^ r ≤ 2 ^ 31 := Nat.pow_le_pow_right (by decide) (by omega)
  have h2 : x * 2 ^ r ≤ x * 2 ^ 31 := Nat.mul_le_mul_left _ h1
  unfold LB at hx
  omega
/-- a shift to the right by less than a limb -/
def shr (r : Nat) : List Nat → List Nat
  | [] => []
  | x :: t => ((x + LB * t.headD 0) / 2 ^ r % LB) :: shr r t
theorem shr_len (r : Nat) (l : List Nat) : (shr r l).length = l.length := by
  induction l with
  | nil => rfl
  | cons x t ih => simp [shr, ih]
theorem shr_lt (r : Nat) (l : List Nat) : ∀ x ∈ shr r l, x < LB := by
  induction l with
  | nil => simp [shr]
  | cons y t ih =>
    intro x hx
    rcases List.mem_cons.1 hx with rfl | hx
    · exact Nat.mod_lt _ LB_pos
    · exact ih x hx
theorem shr_get (r : Nat) (l : List Nat) (i : Nat) (hi : i < l.length) : (shr r l)[i]? = some ((l[i]?.getD 0 + LB * l[i+1]?.getD 0) / 2 ^ r % LB) := by
  induction l generalizing i with
  | nil => simp at hi
  | cons x t ih =>
    cases i with
    | zero => cases t <;> simp [shr]
    | succ i => simpa [shr] using ih i (by simpa using hi)
theorem shr_val (r : Nat) (hr : r ≤ 32) (l : List Nat) (h : ∀ x ∈ l, x < LB) : valOf (shr r l) = valOf l / 2 ^ r := by
  have hM : LB = 2 ^ r * 2 ^ (32 - r) := by rw [LB_two, ← Nat.pow_add]; congr 1; omega
  have hP : 0 < 2 ^ r := Nat.two_pow_pos r
  have hQ : 0 < 2 ^ (32 - r) := Nat.two_pow_pos _
  induction l with
  | nil => simp [shr, valOf]
  | cons x t ih =>
    have ih := ih (fun y hy => h y (List.mem_cons_of_mem _ hy))
    have hx := h x (List.mem_cons_self ..)
    show (x + LB * t.headD 0) / 2 ^ r % LB + LB * valOf (shr r t) = (x + LB * valOf t) / 2 ^ r
    rw [ih]
    have hv : ∃ T, valOf t = t.headD 0 + LB * T := by cases t with | nil => exact ⟨0, rfl⟩ | cons y s => exact ⟨valOf s, rfl⟩
    obtain ⟨T, hT⟩ := hv
    generalize t.headD 0 = y at *
    generalize valOf t = v at *
    have key : ∀ z : Nat, (x + LB * z) / 2 ^ r = x / 2 ^ r + 2 ^ (32 - r) * z := fun z => by
      rw [hM, Nat.mul_assoc, Nat.add_mul_div_left _ _ hP]
    rw [key, key]
    have hxr : x / 2 ^ r < 2 ^ (32 - r) := Nat.div_lt_of_lt_mul (by rw [← hM]; exact hx)
    generalize x / 2 ^ r = x' at *
    have h1 : v / 2 ^ r = y / 2 ^ r + 2 ^ (32 - r) * T := by rw [hT, hM, Nat.mul_assoc, Nat.add_mul_div_left _ _ hP]
    have h2 : (x' + 2 ^ (32 - r) * y) / LB = y / 2 ^ r := by
      rw [hM, Nat.mul_comm (2 ^ r), ← Nat.div_div_eq_div_mul, Nat.add_mul_div_left _ _ hQ, Nat.div_eq_of_lt hxr, Nat.zero_add]
    have h3 := Nat.mod_add_div (x' + 2 ^ (32 - r) * y) LB
    rw [h2] at h3
    rw [h1, hT, Nat.mul_add, Nat.mul_add]
    have h4 : LB * (2 ^ (32 - r) * T) = 2 ^ (32 - r) * (LB * T) := by rw [← Nat.mul_assoc, ← Nat.mul_assoc, Nat.mul_comm LB]
    omega
theorem valOf_drop (l : List Nat) (h : ∀ x ∈ l, x < LB) (q : Nat) : valOf (l.drop q) = valOf l / LB ^ q := by
  induction q generalizing l with
  | zero => simp
  | succ q ih =>
    cases l with
    | nil => simp [valOf]
    | cons x t =>
      have hx := h x (List.mem_cons_self ..)
      rw [List.drop_succ_cons, ih t (fun y hy => h y (List.mem_cons_of_mem _ hy))]
      show _ = (x + LB * valOf t) / LB ^ (q+1)
      rw [Nat.pow_succ, Nat.mul_comm (LB ^ q), ← Nat.div_div_eq_div_mul, valOf_cons_div _ _ hx]
theorem down_val (a q r : Nat) (hr : r ≤ 32) : valOf (shr r ((limbs a).drop q)) = a / 2 ^ (32 * q + r) := by
  rw [shr_val r hr _ (fun x hx => limbs_lt a x (List.mem_of_mem_drop hx)), valOf_drop _ (limbs_lt a), valOf_limbs, LB_pow, Nat.div_div_eq_div_mul, Nat.pow_add]
theorem take_snoc_get {l : List Nat} {i x : Nat} (h : l[i]? = some x) : l.take (i+1) = l.take i ++ [x] := by
  have hi : i < l.length := by
    rcases Nat.lt_or_ge i l.length with h1 | h1
    · exact h1
    · rw [List.getElem?_eq_none h1] at h; cases h
  rw [List.getElem?_eq_getElem hi] at h
  cases h
  rw [List.take_succ_eq_append_getElem hi]
end Go.Proofs.YtbaojmfkjpnfhaaGreatDoor
