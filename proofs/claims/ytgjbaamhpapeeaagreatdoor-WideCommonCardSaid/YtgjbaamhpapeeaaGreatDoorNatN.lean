/- Plain facts on limbs, third part: division of long numbers. -/
import Derived.Test.YtgjbaamhpapeeaaGreatDoorNatM
namespace Go.Proofs.YtgjbaamhpapeeaaGreatDoor
set_option linter.unusedSimpArgs false
set_option linter.unusedVariables false
/-- one limb of 'subtract guess times v' -/
theorem take_step {S' T A c o i g y x cc o' : Nat} (hv : S' + g * T = A + (c + o) * LB ^ i) (hd : cc + (g * y + c) % LB + o = x + o' * LB) :
    (S' + LB ^ i * cc) + g * (T + LB ^ i * y) = (A + LB ^ i * x) + ((g * y + c) / LB + o') * LB ^ (i+1) := by
  have e := Nat.mod_add_div (g * y + c) LB
  generalize (g * y + c) % LB = lo at *
  generalize (g * y + c) / LB = hi at *
  have e1 : (hi + o') * LB ^ (i+1) = LB ^ i * (LB * hi) + LB ^ i * (o' * LB) := by
    rw [Nat.pow_succ, Nat.mul_comm, ← Nat.mul_add, Nat.mul_assoc, Nat.mul_comm o' LB, ← Nat.mul_add]
  have e2 : g * (T + LB ^ i * y) = g * T + LB ^ i * (g * y) := by
    rw [Nat.mul_add, ← Nat.mul_assoc g (LB ^ i) y, Nat.mul_comm g (LB ^ i), Nat.mul_assoc (LB ^ i)]
  have e3 : (c + o) * LB ^ i = LB ^ i * c + LB ^ i * o := by rw [Nat.mul_comm, Nat.mul_add]
  have e4 : LB ^ i * (cc + lo + o) = LB ^ i * (x + o' * LB) := by rw [hd]
  have e5 : LB ^ i * (lo + LB * hi) = LB ^ i * (g * y + c) := by rw [e]
  rw [e1, e2]; rw [e3] at hv
  simp only [Nat.mul_add] at e4 e5
  omega
/-- the last limb -/
theorem take_last {S' T A c o n g x cc o' : Nat} (hv : S' + g * T = A + (c + o) * LB ^ n) (hd : cc + c + o = x + o' * LB) :
    (S' + LB ^ n * cc) + g * T = (A + LB ^ n * x) + o' * LB ^ (n+1) := by
  have e3 : (c + o) * LB ^ n = LB ^ n * c + LB ^ n * o := by rw [Nat.mul_comm, Nat.mul_add]
  have e4 : LB ^ n * (cc + c + o) = LB ^ n * (x + o' * LB) := by rw [hd]
  have e1 : o' * LB ^ (n+1) = LB ^ n * (o' * LB) := by rw [Nat.pow_succ, Nat.mul_comm, Nat.mul_assoc, Nat.mul_comm LB]
  rw [e1]; rw [e3] at hv
  simp only [Nat.mul_add] at e4
  omega
theorem take_hi {g y c : Nat} (hg : g < LB) (hy : y < LB) (hc : c < LB) : (g * y + c) / LB < LB := by
  have h1 : g * y ≤ (LB - 1) * (LB - 1) := Nat.mul_le_mul (by omega) (by omega)
  refine Nat.div_lt_of_lt_mul ?_
  unfold LB at *; omega
theorem take_fits {g y c : Nat} (hg : g < LB) (hy : y < LB) (hc : c < LB) : g * y + c < 18446744073709551616 := by
  have h1 : g * y ≤ (LB - 1) * (LB - 1) := Nat.mul_le_mul (by omega) (by omega)
  unfold LB at *; omega
/-- a part of a list -/
theorem seg_get (L s R : List Nat) (j i : Nat) (hL : L.length = j) (hi : i < s.length) : (L ++ s ++ R)[j+i]?.getD 0 = s[i]?.getD 0 := by
  subst hL
  rw [List.append_assoc, List.getElem?_append_right (by omega), List.getElem?_append_left (by omega)]
  congr 2; omega
theorem seg_set (L s R : List Nat) (j i v : Nat) (hL : L.length = j) (hi : i < s.length) : (L ++ s ++ R).set (j+i) v = L ++ s.set i v ++ R := by
  subst hL
  rw [List.append_assoc, List.set_append_right _ _ (by omega), List.set_append_left _ _ (by omega), List.append_assoc]
  congr 3; omega
theorem set_mid (s' t : List Nat) (i x v : Nat) (hl : s'.length = i) : (s' ++ x :: t).set i v = s' ++ v :: t := by
  subst hl
  rw [List.set_append_right _ _ (by omega)]; simp
/-- what the top limbs of a number say of it -/
structure Tops (S P u : Nat) : Prop where
  lo : u * P ≤ S
  hi : S < (u + 1) * P
theorem tops2 (l : List Nat) (n : Nat) (hl : l.length = n + 2) (h : ∀ x ∈ l, x < LB) : Tops (valOf l) (LB ^ n) (l[n+1]?.getD 0 * LB + l[n]?.getD 0) := by
  have h1 := valOf_split l n (by omega)
  have h2 := valOf_split l (n+1) (by omega)
  have hd : valOf (l.drop (n+1)) = l[n+1]?.getD 0 := by
    rw [List.drop_eq_getElem_cons (by omega), List.drop_of_length_le (by omega), List.getElem?_eq_getElem (by omega)]
    simp [valOf]
  have hlow := valOf_lt (l.take n) (fun x hx => h x (List.mem_of_mem_take hx))
  rw [List.length_take, Nat.min_eq_left (by omega)] at hlow
  rw [hd] at h1
  have e : LB ^ n * (l[n]?.getD 0 + LB * l[n+1]?.getD 0) = (l[n+1]?.getD 0 * LB + l[n]?.getD 0) * LB ^ n := by
    rw [Nat.mul_comm, Nat.add_comm, Nat.mul_comm LB]
  rw [e] at h1
  refine ⟨by omega, ?_⟩
  rw [Nat.add_mul, Nat.one_mul]; omega
theorem tops3 (l : List Nat) (n : Nat) (hl : l.length = n + 3) (h : ∀ x ∈ l, x < LB) : Tops (valOf l) (LB ^ n) ((l[n+2]?.getD 0 * LB + l[n+1]?.getD 0) * LB + l[n]?.getD 0) := by
  have h1 := valOf_split l n (by omega)
  have hd : valOf (l.drop (n+1)) = l[n+1]?.getD 0 + LB * l[n+2]?.getD 0 := by
    have h2 := valOf_split (l.drop (n+1)) 0 (by simp; omega)
    simp only [List.take_zero, valOf, Nat.pow_zero, Nat.one_mul, Nat.zero_add, List.getElem?_drop, List.drop_drop, Nat.add_zero] at h2
    have h3 : valOf (l.drop (n+1+1)) = l[n+2]?.getD 0 := by
      rw [List.drop_eq_getElem_cons (by omega), List.drop_of_length_le (by omega), List.getElem?_eq_getElem (by omega)]
      simp [valOf]
    rw [h2, h3]
  have hlow := valOf_lt (l.take n) (fun x hx => h x (List.mem_of_mem_take hx))
  rw [List.length_take, Nat.min_eq_left (by omega)] at hlow
  rw [hd] at h1
  have e : LB ^ n * (l[n]?.getD 0 + LB * (l[n+1]?.getD 0 + LB * l[n+2]?.getD 0)) = ((l[n+2]?.getD 0 * LB + l[n+1]?.getD 0) * LB + l[n]?.getD 0) * LB ^ n := by
    rw [Nat.mul_comm]; congr 1
    rw [Nat.mul_comm LB (_ + _), Nat.mul_comm LB (l[n+2]?.getD 0)]
    rw [Nat.add_comm (l[n+1]?.getD 0)]; omega
  rw [e] at h1
  refine ⟨by omega, ?_⟩
  rw [Nat.add_mul, Nat.one_mul]; omega
/-- a guess that is too great is greater than the quotient -/
theorem guess_big {S T P u v1 v2 g r un2 : Nat} (hT : 0 < T) (hS : Tops S P (u * LB + un2)) (hV : Tops T P (v1 * LB + v2)) (hlt : S < T * LB) (hgr : g * v1 + r = u)
    (hc : LB ≤ g ∨ r * LB + un2 < g * v2) : S / T ≤ g - 1 ∧ 0 < g := by
  have key : S / T < g := by
    rcases hc with h | h
    · exact Nat.lt_of_lt_of_le ((Nat.div_lt_iff_lt_mul hT).2 (by rw [Nat.mul_comm]; exact hlt)) h
    · rw [Nat.div_lt_iff_lt_mul hT]
      have h1 : (u * LB + un2 + 1) * P ≤ g * (v1 * LB + v2) * P := by
        refine Nat.mul_le_mul_right _ ?_
        rw [Nat.mul_add, ← Nat.mul_assoc, ← hgr, Nat.add_mul]; omega
      have h2 : g * (v1 * LB + v2) * P ≤ g * T := by rw [Nat.mul_assoc]; exact Nat.mul_le_mul_left _ hV.lo
      have h3 := hS.hi
      omega
  exact ⟨Nat.le_sub_one_of_lt key, Nat.lt_of_le_of_lt (Nat.zero_le _) key⟩
/-- a guess that passes the test is right, or one too great -/
theorem guess_ok {S T P u v1 v2 g r un2 : Nat} (hT : 0 < T) (hS : Tops S P (u * LB + un2)) (hV : Tops T P (v1 * LB + v2)) (hgr : g * v1 + r = u)
    (hg : g < LB) (hQ : LB * P ≤ T) (hc : g * v2 ≤ r * LB + un2) : g ≤ S / T + 1 := by
  have h1 : g * (v1 * LB + v2) * P ≤ S := by
    refine Nat.le_trans (Nat.mul_le_mul_right _ ?_) hS.lo
    rw [Nat.mul_add, ← Nat.mul_assoc, ← hgr, Nat.add_mul]; omega
  rcases Nat.eq_zero_or_pos g with h0 | h0
  · rw [h0]; exact Nat.zero_le _
  · have h2 : g * T < g * ((v1 * LB + v2 + 1) * P) := Nat.mul_lt_mul_of_pos_left hV.hi h0
    have h3 : g * ((v1 * LB + v2 + 1) * P) = g * (v1 * LB + v2) * P + g * P := by
      rw [Nat.add_mul, Nat.mul_add, Nat.one_mul, Nat.mul_assoc]
    have h4 : g * P ≤ LB * P := Nat.mul_le_mul_right _ (Nat.le_of_lt hg)
    have h5 : (g - 1) * T ≤ S := by
      have : g * T = (g - 1) * T + T := by rw [← Nat.succ_mul]; congr 1; omega
      omega
    have := (Nat.le_div_iff_mul_le hT).2 h5
    generalize S / T = z at *
    omega
/-- where the rest has outgrown a limb the guess is one limb -/
theorem guess_break {S T P u v1 v2 g r un2 : Nat} (hS : Tops S P (u * LB + un2)) (hV : Tops T P (v1 * LB + v2)) (hv2 : v2 < LB) (hlt : S < T * LB) (hgr : g * v1 + r = u) (hr : LB ≤ r) : g < LB := by
  rcases Nat.lt_or_ge g LB with h | h
  · exact h
  · exfalso
    have h1 : LB * v1 + LB ≤ u := by
      have : LB * v1 ≤ g * v1 := Nat.mul_le_mul_right _ h
      omega
    have h2 : (LB * v1 + LB) * LB * P ≤ S := by
      refine Nat.le_trans (Nat.mul_le_mul_right _ ?_) hS.lo
      have := Nat.mul_le_mul_right LB h1
      omega
    have h3 : T < (v1 * LB + LB) * P := Nat.lt_of_lt_of_le hV.hi (Nat.mul_le_mul_right _ (by omega))
    have h4 : T * LB < (v1 * LB + LB) * P * LB := Nat.mul_lt_mul_of_pos_right h3 LB_pos
    have h5 : (v1 * LB + LB) * P * LB = (LB * v1 + LB) * LB * P := by
      rw [Nat.mul_assoc, Nat.mul_comm P, ← Nat.mul_assoc, Nat.mul_comm v1]
    omega
/-- what is left, and the limb of the quotient, behind a guess -/
theorem guess_done {S T g s1 M : Nat} {neg : Bool} (hT : 0 < T) (h : s1 + g * T = S + (if neg then M else 0)) (hs : s1 < M) (hlo : S / T ≤ g) (hhi : g ≤ S / T + 1) :
    (neg = false → g = S / T ∧ s1 = S % T) ∧ (neg = true → g = S / T + 1 ∧ s1 + T = M + S % T) := by
  have e := Nat.div_add_mod S T
  have hm := Nat.mod_lt S hT
  have hg : g = S / T ∨ g = S / T + 1 := by omega
  have e2 : S / T * T = T * (S / T) := Nat.mul_comm _ _
  constructor
  · rintro rfl
    simp only [Bool.false_eq_true, if_false, Nat.add_zero] at h
    rcases hg with rfl | rfl
    · exact ⟨rfl, by omega⟩
    · rw [Nat.add_mul, Nat.one_mul] at h; omega
  · rintro rfl
    simp only [if_true] at h
    rcases hg with rfl | rfl
    · omega
    · rw [Nat.add_mul, Nat.one_mul] at h; exact ⟨rfl, by omega⟩
/-- a division under way: the limbs of the quotient from place k on are q, what is left is O -/
structure DivI (A T m K k : Nat) (O q : List Nat) : Prop where
  len : q.length + k = K
  val : A = LB ^ k * valOf q * T + valOf O
  lt : valOf O < T * LB ^ k
theorem DivI.parts {A T m K k N : Nat} {O q : List Nat} (h : DivI A T m K (k+1) O q) (hT : T < LB ^ m) (hO : O.length = N) (hN : k + (m + 1) ≤ N) :
    O = O.take k ++ (O.drop k).take (m+1) ++ O.drop (k + (m + 1)) ∧ (O.take k).length = k ∧ ((O.drop k).take (m+1)).length = m + 1 ∧ k + (m + 1) + (O.drop (k + (m + 1))).length = N ∧
      valOf O = valOf (O.take k) + LB ^ k * valOf ((O.drop k).take (m+1)) ∧ valOf ((O.drop k).take (m+1)) < T * LB ∧ valOf (O.drop (k + (m + 1))) = 0 := by
  have e1 : O = O.take k ++ (O.drop k).take (m+1) ++ O.drop (k + (m + 1)) := by
    rw [← List.drop_drop, List.append_assoc, List.take_append_drop, List.take_append_drop]
  have l1 : (O.take k).length = k := by simp; omega
  have l2 : ((O.drop k).take (m+1)).length = m + 1 := by simp; omega
  have e2 := congrArg valOf e1
  rw [valOf_append, valOf_append, List.length_append, l1, l2] at e2
  have hlt := h.lt
  have h3 : T * LB ^ (k+1) ≤ LB ^ m * LB ^ (k+1) := Nat.mul_le_mul_right _ (Nat.le_of_lt hT)
  rw [← Nat.pow_add, show m + (k + 1) = k + (m + 1) by omega] at h3
  have hz : valOf (O.drop (k + (m + 1))) = 0 := by
    rcases Nat.eq_zero_or_pos (valOf (O.drop (k + (m + 1)))) with h0 | h0
    · exact h0
    · have : LB ^ (k + (m + 1)) ≤ LB ^ (k + (m + 1)) * valOf (O.drop (k + (m + 1))) := Nat.le_mul_of_pos_right _ h0
      omega
  rw [hz, Nat.mul_zero, Nat.add_zero] at e2
  refine ⟨e1, l1, l2, by simp; omega, e2, ?_, hz⟩
  have h4 : LB ^ k * valOf ((O.drop k).take (m+1)) < LB ^ k * (T * LB) := by
    have : LB ^ k * (T * LB) = T * LB ^ (k+1) := by rw [Nat.pow_succ, ← Nat.mul_assoc, Nat.mul_comm (LB ^ k), Nat.mul_assoc]
    omega
  exact Nat.lt_of_mul_lt_mul_left h4
theorem DivI.cut {A T m K k N : Nat} {O q : List Nat} (h : DivI A T m K (k+1) O q) (hT : T < LB ^ m) (hO : O.length = N) (hN : k + (m + 1) ≤ N) :
    ∃ L s R, O = L ++ s ++ R ∧ L.length = k ∧ s.length = m + 1 ∧ k + (m + 1) + R.length = N ∧ valOf O = valOf L + LB ^ k * valOf s ∧ valOf s < T * LB ∧ valOf R = 0 :=
  ⟨_, _, _, h.parts hT hO hN⟩
theorem DivI.step {A T m K k : Nat} {O q L s s' R : List Nat} (h : DivI A T m K (k+1) O q) (hT : 0 < T) (hL : L.length = k) (hLl : ∀ x ∈ L, x < LB) (hs : s.length = m + 1) (hs' : s'.length = m + 1) (hO : valOf O = valOf L + LB ^ k * valOf s)
    (hR : valOf R = 0) (hv : valOf s' = valOf s % T) : DivI A T m K k (L ++ s' ++ R) ((valOf s / T) :: q) := by
  have e : valOf (L ++ s' ++ R) = valOf L + LB ^ k * (valOf s % T) := by
    rw [valOf_append, valOf_append, hL, hR, hv]; simp
  have hl := valOf_lt L hLl
  rw [hL] at hl
  refine ⟨by have := h.len; simp; omega, ?_, ?_⟩
  · have h1 := h.val
    have e2 := Nat.div_add_mod (valOf s) T
    rw [h1, e, hO]
    show _ = LB ^ k * (valOf s / T + LB * valOf q) * T + _
    have e3 : LB ^ k * (valOf s / T + LB * valOf q) * T = LB ^ k * (T * (valOf s / T)) + LB ^ (k+1) * valOf q * T := by
      rw [Nat.mul_add, Nat.add_mul, Nat.pow_succ, Nat.mul_comm T, Nat.mul_assoc, Nat.mul_assoc (LB ^ k) LB]
    have e4 : LB ^ k * valOf s = LB ^ k * (T * (valOf s / T)) + LB ^ k * (valOf s % T) := by rw [← Nat.mul_add, e2]
    rw [e3, e4]; omega
  · rw [e]
    have hm := Nat.mod_lt (valOf s) hT
    have : LB ^ k * (valOf s % T + 1) ≤ LB ^ k * T := Nat.mul_le_mul_left _ hm
    rw [Nat.mul_add, Nat.mul_one] at this
    rw [Nat.mul_comm T]; omega
end Go.Proofs.YtgjbaamhpapeeaaGreatDoor
