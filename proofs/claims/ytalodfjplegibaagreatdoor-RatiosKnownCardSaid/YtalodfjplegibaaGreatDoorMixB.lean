/- Plain law: numbers without common divisors are found in time. No program in sight. Plain law: numbers without common divisors, of whose powers all of some numbers are products; when a product of powers is 1. No program in sight. -/
import Derived.Test.YtalodfjplegibaaGreatDoorNatL
namespace Go.Proofs.YtalodfjplegibaaGreatDoor
set_option linter.unusedSimpArgs false
set_option linter.unusedVariables false

theorem log2_mul {a b : Nat} (ha : a ≠ 0) (hb : b ≠ 0) : a.log2 + b.log2 ≤ (a * b).log2 := by
  rw [Nat.le_log2 (Nat.mul_ne_zero ha hb), Nat.pow_add]
  exact Nat.mul_le_mul (Nat.log2_self_le ha) (Nat.log2_self_le hb)
theorem log2_pos {a : Nat} (h : 2 ≤ a) : 1 ≤ a.log2 := by rw [Nat.le_log2 (by omega)]; omega
/-- what is left to do: numbers that are found, numbers that wait -/
def mz (o w : List Nat) : Nat := (o.map fun n => 3 * n.log2).sum + (w.map fun n => 3 * n.log2 + 1).sum
theorem mz_one (o w : List Nat) : mz o w < mz o (w ++ [1]) := by
  unfold mz; rw [List.map_append, List.sum_append]; simp
theorem mz_move (o w : List Nat) (n : Nat) : mz (o ++ [n]) w < mz o (w ++ [n]) := by
  unfold mz; rw [List.map_append, List.map_append, List.sum_append, List.sum_append]; simp; omega
theorem mz_split (o1 o2 w : List Nat) {b n g : Nat} (hb : b ≠ 0) (hn : n ≠ 0) (hg : 2 ≤ g) (h1 : g ∣ b) (h2 : g ∣ n) : mz (o1 ++ o2) (w ++ [g, b / g, n / g]) < mz (o1 ++ b :: o2) (w ++ [n]) := by
  obtain ⟨c, rfl⟩ := h1
  obtain ⟨d, rfl⟩ := h2
  have hc : c ≠ 0 := fun h => hb (by rw [h, Nat.mul_zero])
  have hd : d ≠ 0 := fun h => hn (by rw [h, Nat.mul_zero])
  rw [Nat.mul_div_cancel_left _ (by omega), Nat.mul_div_cancel_left _ (by omega)]
  have k1 := log2_mul (a := g) (b := c) (by omega) hc
  have k2 := log2_mul (a := g) (b := d) (by omega) hd
  have k3 := log2_pos hg
  unfold mz
  simp only [List.map_append, List.sum_append, List.map_cons, List.map_nil, List.sum_cons, List.sum_nil]
  omega
end Go.Proofs.YtalodfjplegibaaGreatDoor
namespace Go.Proofs.YtalodfjplegibaaGreatDoor
set_option linter.unusedSimpArgs false
set_option linter.unusedVariables false

/-- n is a product of numbers of S -/
inductive Gen (S : List Nat) : Nat → Prop where
  | one : Gen S 1
  | mul {b m : Nat} (hb : b ∈ S) (hm : Gen S m) : Gen S (b * m)
theorem Gen.times {S : List Nat} {a b : Nat} (ha : Gen S a) (hb : Gen S b) : Gen S (a * b) := by
  induction ha with
  | one => rw [Nat.one_mul]; exact hb
  | mul h1 _ ih => rw [Nat.mul_assoc]; exact .mul h1 ih
theorem Gen.pow {S : List Nat} {a : Nat} (ha : Gen S a) : ∀ k, Gen S (a ^ k)
  | 0 => by rw [Nat.pow_zero]; exact .one
  | k+1 => by rw [Nat.pow_succ]; exact (ha.pow k).times ha
theorem Gen.of {S : List Nat} {a : Nat} (h : a ∈ S) : Gen S a := by have := Gen.mul h Gen.one; rwa [Nat.mul_one] at this
theorem Gen.subst {S T : List Nat} {n : Nat} (h : Gen S n) (hs : ∀ s ∈ S, Gen T s) : Gen T n := by
  induction h with
  | one => exact .one
  | mul h1 _ ih => exact (hs _ h1).times ih
theorem Gen.sub {S T : List Nat} {n : Nat} (h : Gen S n) (hs : ∀ s ∈ S, s ∈ T) : Gen T n := h.subst fun s h => .of (hs s h)
theorem Gen.pos {S : List Nat} {n : Nat} (h : Gen S n) (hs : ∀ s ∈ S, 0 < s) : 0 < n := by
  induction h with
  | one => decide
  | mul h1 _ ih => exact Nat.mul_pos (hs _ h1) ih

/-- how often b divides n -/
def mult (b : Nat) : Nat → Nat → Nat
  | 0, _ => 0
  | k+1, n => if n % b = 0 then mult b k (n / b) + 1 else 0
/-- numbers from 2 on, no two with a common divisor -/
structure Cop (S : List Nat) : Prop where
  two : ∀ s ∈ S, 2 ≤ s
  pair : S.Pairwise fun a b => Nat.gcd a b = 1
theorem Cop.gcd {S : List Nat} (h : Cop S) {a b : Nat} (ha : a ∈ S) (hb : b ∈ S) (hne : a ≠ b) : Nat.gcd a b = 1 := by
  have hp := h.pair
  clear h
  induction S with
  | nil => cases ha
  | cons s S ih =>
    rw [List.pairwise_cons] at hp
    rcases List.mem_cons.1 ha with e1 | h1
    · rcases List.mem_cons.1 hb with e2 | h2
      · exact absurd (e1.trans e2.symm) hne
      · rw [e1]; exact hp.1 _ h2
    · rcases List.mem_cons.1 hb with e2 | h2
      · rw [e2, Nat.gcd_comm]; exact hp.1 _ h1
      · exact ih h1 h2 hp.2
/-- a number of the base does not divide a product of others -/
theorem Cop.not_dvd {S : List Nat} (h : Cop S) {b : Nat} (hb : b ∈ S) {T : List Nat} (hT : ∀ t ∈ T, t ∈ S ∧ t ≠ b) {n : Nat} (hn : Gen T n) : Nat.gcd b n = 1 := by
  induction hn with
  | one => exact Nat.gcd_one_right b
  | mul h1 _ ih => exact Nat.Coprime.mul_right (h.gcd hb (hT _ h1).1 (fun e => (hT _ h1).2 e.symm)) ih
/-- what is left of a product when a number of the base is divided away -/
theorem Gen.split {S : List Nat} {b n : Nat} (hb : b ∈ S) (h : Gen S n) : ∃ k m, n = b ^ k * m ∧ Gen (S.filter (· ≠ b)) m := by
  induction h with
  | one => exact ⟨0, 1, rfl, .one⟩
  | @mul c m h1 _ ih =>
    obtain ⟨k, r, rfl, hr⟩ := ih
    by_cases hc : c = b
    · subst hc
      exact ⟨k + 1, r, by rw [Nat.pow_succ, ← Nat.mul_assoc, Nat.mul_comm c], hr⟩
    · refine ⟨k, c * r, by rw [Nat.mul_left_comm], .mul ?_ hr⟩
      rw [List.mem_filter]
      exact ⟨h1, by simpa using hc⟩
theorem mult_pow {b m : Nat} (hb : 2 ≤ b) (hm : Nat.gcd b m = 1) : ∀ k f, k ≤ f → mult b f (b ^ k * m) = k
  | 0, 0, _ => rfl
  | 0, f+1, _ => by
    rw [mult, if_neg]
    rw [Nat.pow_zero, Nat.one_mul]
    intro h
    have : b ∣ Nat.gcd b m := Nat.dvd_gcd (Nat.dvd_refl b) (Nat.dvd_of_mod_eq_zero h)
    rw [hm] at this
    have := Nat.le_of_dvd (by decide) this
    omega
  | k+1, 0, h => absurd h (by omega)
  | k+1, f+1, h => by
    have e : b ^ (k + 1) * m = b * (b ^ k * m) := by rw [Nat.pow_succ, Nat.mul_comm (b ^ k), Nat.mul_assoc]
    rw [mult, e, if_pos (Nat.mul_mod_right _ _), Nat.mul_div_cancel_left _ (by omega), mult_pow hb hm k f (by omega)]
theorem lt_pow_of {b : Nat} (hb : 2 ≤ b) : ∀ k, k < b ^ k
  | 0 => by simp
  | k+1 => by
    have := lt_pow_of hb k
    have h1 : b ^ k * 2 ≤ b ^ k * b := Nat.mul_le_mul_left _ hb
    rw [Nat.pow_succ]; omega
/-- how often a number of the base divides a product -/
noncomputable def vb (b n : Nat) : Nat := mult b n n
theorem vb_pow {b m : Nat} (hb : 2 ≤ b) (h0 : 0 < m) (hm : Nat.gcd b m = 1) (k : Nat) : vb b (b ^ k * m) = k := by
  refine mult_pow hb hm k _ ?_
  have h1 := lt_pow_of hb k
  have : b ^ k * 1 ≤ b ^ k * m := Nat.mul_le_mul_left _ h0
  omega
theorem Cop.eq_vb {S : List Nat} (h : Cop S) {b n : Nat} (hb : b ∈ S) (hn : Gen S n) : ∃ m, n = b ^ vb b n * m ∧ 0 < m ∧ Nat.gcd b m = 1 ∧ Gen (S.filter (· ≠ b)) m := by
  obtain ⟨k, m, rfl, hm⟩ := hn.split hb
  have hT : ∀ t ∈ S.filter (· ≠ b), t ∈ S ∧ t ≠ b := fun t ht => by
    rw [List.mem_filter] at ht
    exact ⟨ht.1, by simpa using ht.2⟩
  have hg := h.not_dvd hb hT hm
  have hp : 0 < m := hm.pos fun s hs => by have := h.two s (hT s hs).1; omega
  exact ⟨m, by rw [vb_pow (h.two b hb) hp hg], hp, hg, hm⟩
theorem Cop.vb_mul {S : List Nat} (h : Cop S) {b m n : Nat} (hb : b ∈ S) (hm : Gen S m) (hn : Gen S n) : vb b (m * n) = vb b m + vb b n := by
  obtain ⟨x, e1, p1, g1, _⟩ := h.eq_vb hb hm
  obtain ⟨y, e2, p2, g2, _⟩ := h.eq_vb hb hn
  generalize vb b m = j at *
  generalize vb b n = k at *
  subst e1 e2
  rw [show b ^ j * x * (b ^ k * y) = b ^ (j + k) * (x * y) by rw [Nat.pow_add]; ac_rfl]
  exact vb_pow (h.two b hb) (Nat.mul_pos p1 p2) (Nat.Coprime.mul_right g1 g2) _
theorem Cop.vb_one {S : List Nat} (h : Cop S) {b : Nat} (hb : b ∈ S) : vb b 1 = 0 := by
  have := vb_pow (h.two b hb) (by decide : 0 < 1) (Nat.gcd_one_right b) 0
  simpa using this
theorem Cop.vb_npow {S : List Nat} (h : Cop S) {b n : Nat} (hb : b ∈ S) (hn : Gen S n) : ∀ k, vb b (n ^ k) = k * vb b n
  | 0 => by rw [Nat.pow_zero, h.vb_one hb, Nat.zero_mul]
  | k+1 => by rw [Nat.pow_succ, h.vb_mul hb (hn.pow k) hn, h.vb_npow hb hn k, Nat.succ_mul]
theorem Cop.tail {s : Nat} {S : List Nat} (h : Cop (s :: S)) : Cop S := ⟨fun t ht => h.two t (List.mem_cons_of_mem _ ht), (List.pairwise_cons.1 h.pair).2⟩
/-- products are the same that have each number of the base as often -/
theorem Cop.ext {S : List Nat} (h : Cop S) : ∀ {m n : Nat}, Gen S m → Gen S n → (∀ b ∈ S, vb b m = vb b n) → m = n := by
  induction S with
  | nil =>
    intro m n hm hn _
    have e : ∀ {k}, Gen [] k → k = 1 := fun hk => by cases hk with
      | one => rfl
      | mul hb _ => cases hb
    rw [e hm, e hn]
  | cons s S ih =>
    intro m n hm hn he
    have hs : s ∈ s :: S := List.mem_cons_self
    obtain ⟨x, e1, p1, g1, k1⟩ := h.eq_vb hs hm
    obtain ⟨y, e2, p2, g2, k2⟩ := h.eq_vb hs hn
    have hf : ∀ {k}, Gen ((s :: S).filter (· ≠ s)) k → Gen S k := fun hk => hk.sub fun t ht => by
      rw [List.mem_filter] at ht
      rcases List.mem_cons.1 ht.1 with rfl | h1
      · simp at ht
      · exact h1
    have hc : ∀ {k}, Gen S k → Gen (s :: S) k := fun hk => hk.sub fun t ht => List.mem_cons_of_mem _ ht
    have hxy : x = y := by
      refine ih h.tail (hf k1) (hf k2) fun b hb => ?_
      have hb' : b ∈ s :: S := List.mem_cons_of_mem _ hb
      have h3 := he b hb'
      rw [e1, e2, h.vb_mul hb' ((Gen.of hs).pow _) (hc (hf k1)), h.vb_mul hb' ((Gen.of hs).pow _) (hc (hf k2)), he s hs] at h3
      omega
    rw [e1, e2, he s hs, hxy]

/-- the product of the powers with exponents from 0 on -/
def up : List (Nat × Int) → Nat
  | [] => 1
  | (n, k) :: l => if 0 ≤ k then n ^ k.natAbs * up l else up l
/-- the product of the inverses of the others -/
def down : List (Nat × Int) → Nat
  | [] => 1
  | (n, k) :: l => if 0 ≤ k then down l else n ^ k.natAbs * down l
/-- the exponent of a number of the base in the product -/
noncomputable def expo (b : Nat) : List (Nat × Int) → Int
  | [] => 0
  | (n, k) :: l => k * (vb b n : Int) + expo b l
theorem up_gen {S : List Nat} : ∀ {l : List (Nat × Int)}, (∀ x ∈ l, Gen S x.1) → Gen S (up l)
  | [], _ => .one
  | (n, k) :: l, h => by
    have h1 := up_gen fun x hx => h x (List.mem_cons_of_mem _ hx)
    rw [up]
    split
    · exact ((h _ List.mem_cons_self).pow _).times h1
    · exact h1
theorem down_gen {S : List Nat} : ∀ {l : List (Nat × Int)}, (∀ x ∈ l, Gen S x.1) → Gen S (down l)
  | [], _ => .one
  | (n, k) :: l, h => by
    have h1 := down_gen fun x hx => h x (List.mem_cons_of_mem _ hx)
    rw [down]
    split
    · exact h1
    · exact ((h _ List.mem_cons_self).pow _).times h1
theorem Cop.expo_eq {S : List Nat} (h : Cop S) {b : Nat} (hb : b ∈ S) : ∀ {l : List (Nat × Int)}, (∀ x ∈ l, Gen S x.1) → expo b l = (vb b (up l) : Int) - vb b (down l)
  | [], _ => by simp [expo, up, down]
  | (n, k) :: l, hl => by
    have hn := hl _ List.mem_cons_self
    have hr : ∀ x ∈ l, Gen S x.1 := fun x hx => hl x (List.mem_cons_of_mem _ hx)
    have ih := h.expo_eq hb hr
    rw [expo, up, down, ih]
    simp only [] at hn
    have hv : ∀ j : Nat, ((j * vb b n : Nat) : Int) = (j : Int) * (vb b n : Int) := fun j => by simp
    split
    · rename_i hk
      obtain ⟨j, rfl⟩ := Int.eq_ofNat_of_zero_le hk
      rw [h.vb_mul hb (hn.pow _) (up_gen hr), h.vb_npow hb hn]
      have := hv j
      simp only [Int.ofNat_eq_natCast, Int.natAbs_natCast, Int.natCast_add]
      omega
    · rename_i hk
      obtain ⟨j, rfl⟩ : ∃ j : Nat, k = -(j : Int) := ⟨k.natAbs, by omega⟩
      rw [h.vb_mul hb (hn.pow _) (down_gen hr), h.vb_npow hb hn]
      have := hv j
      have e : -(j : Int) * (vb b n : Int) = -((j : Int) * (vb b n : Int)) := Int.neg_mul _ _
      simp only [Int.natAbs_neg, Int.natAbs_natCast, Int.natCast_add]
      omega
/-- a product is 1 if no number of the base is left -/
theorem Cop.one_iff {S : List Nat} (h : Cop S) {l : List (Nat × Int)} (hl : ∀ x ∈ l, Gen S x.1) : (∀ b ∈ S, expo b l = 0) ↔ up l = down l := by
  constructor
  · intro he
    refine h.ext (up_gen hl) (down_gen hl) fun b hb => ?_
    have := he b hb
    rw [h.expo_eq hb hl] at this
    omega
  · intro he b hb
    rw [h.expo_eq hb hl, he]
    omega
theorem expo_snoc (b n : Nat) (k : Int) : ∀ l : List (Nat × Int), expo b (l ++ [(n, k)]) = expo b l + k * (vb b n : Int)
  | [] => by simp [expo]
  | (m, j) :: l => by rw [List.cons_append, expo, expo_snoc b n k l, expo]; omega
/-- one step of the division -/
theorem vb_step {b n : Nat} (hb : 2 ≤ b) (hn : 0 < n) : ∀ f g, n ≤ f → n ≤ g → mult b f n = mult b g n := by
  suffices h : ∀ N f g n, n ≤ N → 0 < n → n ≤ f → n ≤ g → mult b f n = mult b g n from fun f g h1 h2 => h n f g n (Nat.le_refl _) hn h1 h2
  intro N
  induction N with
  | zero => intro f g n h1 h2; omega
  | succ N ih =>
    intro f g n h1 h2 h3 h4
    obtain ⟨f, rfl⟩ : ∃ f', f = f' + 1 := ⟨f - 1, by omega⟩
    obtain ⟨g, rfl⟩ : ∃ g', g = g' + 1 := ⟨g - 1, by omega⟩
    rw [mult, mult]
    split
    · rename_i hm
      obtain ⟨c, rfl⟩ := Nat.dvd_of_mod_eq_zero hm
      have hc : 0 < c := Nat.pos_of_ne_zero fun h => by subst h; simp at h2
      have hlt : c < b * c := by have := Nat.mul_le_mul_right c hb; omega
      rw [Nat.mul_div_cancel_left _ (by omega), ih f g c (by omega) hc (by omega) (by omega)]
    · rfl
theorem vb_div {b n : Nat} (hb : 2 ≤ b) (hn : 0 < n) : vb b n = if n % b = 0 then vb b (n / b) + 1 else 0 := by
  unfold vb
  obtain ⟨m, rfl⟩ : ∃ m, n = m + 1 := ⟨n - 1, by omega⟩
  rw [mult]
  split
  · rename_i hm
    obtain ⟨c, hc⟩ := Nat.dvd_of_mod_eq_zero hm
    have h0 : 0 < c := Nat.pos_of_ne_zero fun h => by subst h; omega
    have hlt : c < b * c := by have := Nat.mul_le_mul_right c hb; omega
    have hd : (m + 1) / b = c := by rw [hc, Nat.mul_div_cancel_left _ (by omega)]
    rw [hd, vb_step hb h0 m c (by omega) (Nat.le_refl _)]
  · rfl
end Go.Proofs.YtalodfjplegibaaGreatDoor
