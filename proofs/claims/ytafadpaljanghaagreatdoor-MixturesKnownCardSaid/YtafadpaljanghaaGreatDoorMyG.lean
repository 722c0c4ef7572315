/- Plain law: plans of mixtures: key by key, and from one due lowering to the next. No program in sight. -/
import Derived.Test.YtafadpaljanghaaGreatDoorMyA
namespace Go.Proofs.YtafadpaljanghaaGreatDoor
set_option linter.unusedSimpArgs false
set_option linter.unusedVariables false

/-- a lowering: the rank, and when it is due -/
abbrev Lw := Nat × Int
/-- how many lowerings a rank has -/
def lwN (c to : Int) : Nat := if c ≤ to then ((to - c) / 12).toNat + 1 else 0
def lwI (i : Nat) (c to : Int) : List Lw := (List.range (lwN c to)).map fun (t : Nat) => (i, c + 12 * (t : Int))
/-- all lowerings of the first k ranks -/
def lwA (l : List Int) (most to : Int) : Nat → List Lw
  | 0 => []
  | k+1 => lwA l most to k ++ lwI k (most - gt l k + 1) to
theorem lwI_mem {i : Nat} {c to : Int} {x : Lw} : x ∈ lwI i c to ↔ x.1 = i ∧ ∃ t : Nat, x.2 = c + 12 * (t : Int) ∧ x.2 ≤ to := by
  unfold lwI lwN
  rw [List.mem_map]
  constructor
  · rintro ⟨t, ht, rfl⟩
    rw [List.mem_range] at ht
    refine ⟨rfl, t, rfl, ?_⟩
    show c + 12 * (t : Int) ≤ to
    split at ht <;> omega
  · rintro ⟨rfl, t, h1, h2⟩
    refine ⟨t, List.mem_range.2 ?_, ?_⟩
    · rw [if_pos (by omega)]; omega
    · obtain ⟨a, b⟩ := x
      simp only [] at h1
      rw [h1]
theorem lwA_mem {l : List Int} {most to : Int} {x : Lw} : ∀ {k : Nat}, x ∈ lwA l most to k ↔ x.1 < k ∧ ∃ t : Nat, x.2 = most - gt l x.1 + 1 + 12 * (t : Int) ∧ x.2 ≤ to
  | 0 => by simp [lwA]
  | k+1 => by
    rw [lwA, List.mem_append, lwA_mem, lwI_mem]
    constructor
    · rintro (⟨h1, h2⟩ | ⟨rfl, h2⟩)
      · exact ⟨by omega, h2⟩
      · exact ⟨Nat.lt_succ_self _, h2⟩
    · rintro ⟨h1, h2⟩
      rcases Nat.lt_or_ge x.1 k with h | h
      · exact .inl ⟨h, h2⟩
      · obtain rfl : x.1 = k := by omega
        exact .inr ⟨rfl, h2⟩
/-- how many lowerings of a rank are due at T or before -/
def cntT (all : List Lw) (i : Nat) (T : Int) : Nat := all.countP fun x => decide (x.1 = i) && decide (x.2 ≤ T)
/-- a number sinks into an ascending list -/
def ins (v : Int) : List Int → List Int
  | [] => [v]
  | u :: l => if v < u then v :: u :: l else u :: ins v l
def srt : List Int → List Int
  | [] => []
  | v :: l => ins v (srt l)
/-- ascending -/
def Asc : List Int → Prop
  | [] => True
  | [_] => True
  | a :: b :: l => a ≤ b ∧ Asc (b :: l)
theorem Asc.tail {a : Int} : ∀ {l : List Int}, Asc (a :: l) → Asc l
  | [], _ => trivial
  | b :: l, h => h.2
theorem Asc.le {a : Int} : ∀ {l : List Int}, Asc (a :: l) → ∀ v ∈ l, a ≤ v
  | [], _, v, h => by cases h
  | b :: l, h, v, hv => by
    rcases List.mem_cons.1 hv with rfl | h2
    · exact h.1
    · exact Int.le_trans h.1 (Asc.le h.2 v h2)
theorem Asc.cons {a : Int} : ∀ {l : List Int}, (∀ v ∈ l, a ≤ v) → Asc l → Asc (a :: l)
  | [], _, _ => trivial
  | b :: l, h, hl => ⟨h b List.mem_cons_self, hl⟩
theorem ins_perm (v : Int) : ∀ l, (ins v l).Perm (v :: l)
  | [] => List.Perm.refl _
  | u :: l => by
    rw [ins]
    split
    · exact List.Perm.refl _
    · exact ((ins_perm v l).cons u).trans (List.Perm.swap v u l)
theorem ins_asc {v : Int} : ∀ {l}, Asc l → Asc (ins v l)
  | [], _ => trivial
  | u :: l, h => by
    rw [ins]
    split
    · rename_i hv
      exact ⟨by omega, h⟩
    · rename_i hv
      refine Asc.cons (fun w hw => ?_) (ins_asc h.tail)
      rcases List.mem_cons.1 ((ins_perm v l).mem_iff.1 hw) with rfl | h2
      · omega
      · exact Asc.le h w h2
theorem srt_perm : ∀ l, (srt l).Perm l
  | [] => List.Perm.refl _
  | v :: l => (ins_perm v _).trans ((srt_perm l).cons v)
theorem srt_asc : ∀ l, Asc (srt l)
  | [] => trivial
  | v :: l => ins_asc (srt_asc l)
theorem asc_perm : ∀ {l m : List Int}, Asc l → Asc m → l.Perm m → l = m
  | [], m, _, _, h => (List.nil_perm.1 h).symm
  | a :: l, [], _, _, h => absurd h.symm (by simp)
  | a :: l, b :: m, hl, hm, h => by
    have h1 : a ∈ b :: m := h.mem_iff.1 List.mem_cons_self
    have h2 : b ∈ a :: l := h.mem_iff.2 List.mem_cons_self
    have e1 : b ≤ a := by
      rcases List.mem_cons.1 h1 with rfl | h
      · exact Int.le_refl _
      · exact Asc.le hm a h
    have e2 : a ≤ b := by
      rcases List.mem_cons.1 h2 with rfl | h
      · exact Int.le_refl _
      · exact Asc.le hl b h
    obtain rfl : a = b := by omega
    rw [asc_perm hl.tail hm.tail (List.Perm.cons_inv h)]
/-- an ascending arrangement is the one -/
theorem srt_of {l m : List Int} (h : Asc m) (hp : m.Perm l) : m = srt l := asc_perm h (srt_asc l) (hp.trans (srt_perm l).symm)
/-- the row, all lowerings that are due at T or before being made -/
def rowN (l : List Int) (all : List Lw) (T : Int) : List Int := (List.range l.length).map fun i => gt l i - 12 * (cntT all i T : Int)
def rowT (l : List Int) (all : List Lw) (T : Int) : List Int := srt (rowN l all T)
theorem rowN_len (l : List Int) (all : List Lw) (T : Int) : (rowN l all T).length = l.length := by unfold rowN; simp
theorem rowT_len (l : List Int) (all : List Lw) (T : Int) : (rowT l all T).length = l.length := by unfold rowT; rw [(srt_perm _).length_eq, rowN_len]
/-- is there a lowering behind T that is due at a key? -/
def dueAt (all : List Lw) (T key : Int) : Bool := all.any fun x => decide (T < x.2) && decide (x.2 = key)
/-- key by key: up to where lowerings are made, and the breaks -/
def scn (l : List Int) (all : List Lw) (e a : Int) : Nat → Int × List (Int × List Int)
  | 0 => (-1000, [])
  | k+1 => if k = 0 ∨ dueAt all (scn l all e a k).1 (a + (k : Int)) = true then (a + (k : Int) + e, (scn l all e a k).2 ++ [(a + (k : Int), rowT l all (a + (k : Int) + e))]) else scn l all e a k
theorem dueAt_iff {all : List Lw} {T key : Int} : dueAt all T key = true ↔ ∃ x ∈ all, T < x.2 ∧ x.2 = key := by
  unfold dueAt
  rw [List.any_eq_true]
  constructor
  · rintro ⟨x, h1, h2⟩
    simp only [Bool.and_eq_true, decide_eq_true_eq] at h2
    exact ⟨x, h1, h2⟩
  · rintro ⟨x, h1, h2⟩
    exact ⟨x, h1, by simp only [Bool.and_eq_true, decide_eq_true_eq]; exact h2⟩
/-- where nothing is due, nothing happens -/
theorem scn_idle {l : List Int} {all : List Lw} {e a : Int} {k : Nat} (hk : 0 < k) : ∀ {k' : Nat}, k ≤ k' → (∀ x ∈ all, (scn l all e a k).1 < x.2 → a + (k' : Int) ≤ x.2) → scn l all e a k' = scn l all e a k
  | 0, h, _ => by omega
  | k'+1, h, hx => by
    rcases Nat.lt_or_ge k (k' + 1) with h1 | h1
    · have ih := scn_idle hk (k' := k') (by omega) (fun x h2 h3 => by have := hx x h2 h3; omega)
      rw [scn, if_neg, ih]
      rintro (h2 | h2)
      · omega
      · rw [ih] at h2
        obtain ⟨x, x1, x2, x3⟩ := dueAt_iff.1 h2
        have := hx x x1 x2
        omega
    · rw [show k = k' + 1 by omega]
/-- a break where one is due -/
theorem scn_hit {l : List Int} {all : List Lw} {e a : Int} {k : Nat} (h : k = 0 ∨ dueAt all (scn l all e a k).1 (a + (k : Int)) = true) : scn l all e a (k + 1) = (a + (k : Int) + e, (scn l all e a k).2 ++ [(a + (k : Int), rowT l all (a + (k : Int) + e))]) := by
  rw [scn, if_pos h]
/-- what the last break tells -/
theorem scn_last {l : List Int} {all : List Lw} {e a : Int} (he : 0 ≤ e) : ∀ k, 0 < k → ∃ o key, (scn l all e a k).2 = o ++ [(key, rowT l all (key + e))] ∧ (scn l all e a k).1 = key + e ∧ a ≤ key ∧ key < a + (k : Int)
  | 0, h => absurd h (Nat.lt_irrefl 0)
  | k+1, _ => by
    by_cases h : k = 0 ∨ dueAt all (scn l all e a k).1 (a + (k : Int)) = true
    · rw [scn_hit h]
      exact ⟨_, _, rfl, rfl, by omega, by omega⟩
    · rw [scn, if_neg h]
      obtain ⟨o, key, h1, h2, h3, h4⟩ := scn_last he k (by omega)
      exact ⟨o, key, h1, h2, h3, by omega⟩
/-- a break sounds too low -/
def lowB (x : Int × List Int) : Bool := decide (gt x.2 0 < -24) || decide (x.1 + gt x.2 0 < 0)
/-- the keys of the breaks ascend, more than e apart; each but the first is a due one -/
structure Brk (all : List Lw) (e a : Int) (o : List (Int × List Int)) (T : Int) : Prop where
  first : ∀ x, o[0]? = some x → x.1 = a
  up : ∀ i x y, o[i]? = some x → o[i + 1]? = some y → x.1 + e < y.1
  due : ∀ i x, 0 < i → o[i]? = some x → ∃ d ∈ all, d.2 = x.1
  last : ∀ x, o.getLast? = some x → T = x.1 + e
theorem snoc_get {α : Type} {o : List α} {z x : α} {i : Nat} (h : (o ++ [z])[i]? = some x) : (i < o.length ∧ o[i]? = some x) ∨ (i = o.length ∧ x = z) := by
  rcases Nat.lt_or_ge i o.length with h1 | h1
  · rw [List.getElem?_append_left h1] at h
    exact .inl ⟨h1, h⟩
  · rw [List.getElem?_append_right h1] at h
    rcases hk : i - o.length with _ | m
    · rw [hk] at h
      simp at h
      exact .inr ⟨by omega, h.symm⟩
    · rw [hk] at h
      simp at h
theorem scn_brk {l : List Int} {all : List Lw} {e a : Int} (he : 0 ≤ e) : ∀ k, Brk all e a (scn l all e a k).2 (scn l all e a k).1
  | 0 => ⟨fun x h => by simp [scn] at h, fun i x y h => by simp [scn] at h, fun i x _ h => by simp [scn] at h, fun x h => by simp [scn] at h⟩
  | k+1 => by
    have ih := scn_brk (l := l) (all := all) (a := a) he k
    by_cases h : k = 0 ∨ dueAt all (scn l all e a k).1 (a + (k : Int)) = true
    · have hz : (scn l all e a k).2 = [] → k = 0 := fun h0 => by
        rcases Nat.eq_zero_or_pos k with h1 | h1
        · exact h1
        · obtain ⟨o2, key, e1, _⟩ := scn_last (l := l) (all := all) (a := a) he k h1
          rw [e1] at h0
          simp at h0
      have hlast : ∀ y, (scn l all e a k).2.getLast? = some y → y.1 + e < a + (k : Int) ∧ ∃ d ∈ all, d.2 = a + (k : Int) := fun y hy => by
        have hT := ih.last y hy
        rcases h with h | h
        · subst h; simp [scn] at hy
        · obtain ⟨d, d1, d2, d3⟩ := dueAt_iff.1 h
          exact ⟨by omega, d, d1, d3⟩
      rw [scn_hit h]
      simp only []
      generalize (scn l all e a k).2 = o at *
      have hl : ∀ {i : Nat} {x}, i + 1 = o.length → o[i]? = some x → o.getLast? = some x := fun {i x} hi hx => by
        rw [List.getLast?_eq_getElem?, show o.length - 1 = i by omega]; exact hx
      refine ⟨fun x hx => ?_, fun i x y hx hy => ?_, fun i x hi hx => ?_, fun x hx => ?_⟩
      · rcases snoc_get hx with ⟨_, h2⟩ | ⟨h1, h2⟩
        · exact ih.first x h2
        · have := hz (List.eq_nil_of_length_eq_zero h1.symm)
          rw [h2, this]
          show a + ((0 : Nat) : Int) = a
          omega
      · rcases snoc_get hy with ⟨g1, g2⟩ | ⟨g1, g2⟩
        · rcases snoc_get hx with ⟨_, h2⟩ | ⟨h1, _⟩
          · exact ih.up i x y h2 g2
          · omega
        · rcases snoc_get hx with ⟨_, h2⟩ | ⟨h1, _⟩
          · rw [g2]
            exact (hlast x (hl g1 h2)).1
          · omega
      · rcases snoc_get hx with ⟨_, h2⟩ | ⟨h1, h2⟩
        · exact ih.due i x hi h2
        · have hne : o ≠ [] := fun h0 => by rw [h0] at h1; simp at h1; omega
          obtain ⟨y, hy⟩ : ∃ y, o.getLast? = some y := ⟨_, List.getLast?_eq_some_getLast hne⟩
          obtain ⟨d, d1, d2⟩ := (hlast y hy).2
          exact ⟨d, d1, by rw [d2, h2]⟩
      · rw [List.getLast?_concat] at hx
        injection hx with hx
        rw [← hx]
    · rw [scn, if_neg h]; exact ih
/-- what is due up to a key is made -/
theorem scn_made {l : List Int} {all : List Lw} {e a : Int} (he : 0 ≤ e) : ∀ k : Nat, (∀ x ∈ all, x.2 ≤ a + (k : Int) → x.2 ≤ (scn l all e a (k + 1)).1)
  | 0 => fun x hx h => by
    rw [scn_hit (.inl rfl)]
    simp only []
    omega
  | k+1 => fun x hx h => by
    by_cases hc : k + 1 = 0 ∨ dueAt all (scn l all e a (k + 1)).1 (a + ((k + 1 : Nat) : Int)) = true
    · rw [scn_hit hc]
      simp only []
      omega
    · rw [scn, if_neg hc]
      rcases Int.lt_or_le (a + (k : Int)) x.2 with h1 | h1
      · have h2 : x.2 = a + ((k + 1 : Nat) : Int) := by omega
        rcases Int.lt_or_le (scn l all e a (k + 1)).1 x.2 with h3 | h3
        · exact absurd (.inr (dueAt_iff.2 ⟨x, hx, h3, h2⟩)) hc
        · exact h3
      · exact scn_made he k x hx h1
theorem range_count (c T : Int) : ∀ n : Nat, (List.range n).countP (fun (t : Nat) => decide (c + 12 * (t : Int) ≤ T)) = min n (lwN c T)
  | 0 => by simp
  | n+1 => by
    rw [List.range_succ, List.countP_append, range_count c T n]
    simp only [List.countP_cons, List.countP_nil, Nat.zero_add]
    by_cases h : c + 12 * (n : Int) ≤ T
    · rw [if_pos (decide_eq_true h)]
      unfold lwN
      split <;> omega
    · have hd : ¬ decide (c + 12 * (n : Int) ≤ T) = true := by simpa using h
      rw [if_neg hd]
      unfold lwN
      split <;> omega
theorem lwI_count (i j : Nat) (c to T : Int) : cntT (lwI j c to) i T = if i = j then lwN c (min T to) else 0 := by
  unfold cntT lwI
  rw [List.countP_map]
  by_cases h : i = j
  · subst h
    rw [if_pos rfl]
    have e : ((fun x : Lw => decide (x.1 = i) && decide (x.2 ≤ T)) ∘ fun t : Nat => (i, c + 12 * (t : Int))) = fun t : Nat => decide (c + 12 * (t : Int) ≤ T) := by
      funext t
      simp
    rw [e, range_count]
    unfold lwN
    split <;> split <;> split <;> omega
  · rw [if_neg h, List.countP_eq_zero]
    intro t _
    have hji : ¬ j = i := fun e => h e.symm
    simp [hji]
theorem cnt_app (l m : List Lw) (i : Nat) (T : Int) : cntT (l ++ m) i T = cntT l i T + cntT m i T := List.countP_append
theorem lwA_count (l : List Int) (most to : Int) (i : Nat) (T : Int) : ∀ k, cntT (lwA l most to k) i T = if i < k then lwN (most - gt l i + 1) (min T to) else 0
  | 0 => by rw [if_neg (Nat.not_lt_zero _)]; rfl
  | k+1 => by
    rw [lwA, cnt_app, lwA_count l most to i T k, lwI_count]
    by_cases h : i = k
    · subst h
      rw [if_neg (Nat.lt_irrefl _), if_pos rfl, if_pos (Nat.lt_succ_self _), Nat.zero_add]
    · rw [if_neg h]
      by_cases h1 : i < k
      · rw [if_pos h1, if_pos (by omega), Nat.add_zero]
      · rw [if_neg h1, if_neg (by omega)]
/-- no rank sounds above most -/
theorem made_most {l : List Int} {most to T key : Int} {i : Nat} (hi : i < l.length) (hk : key ≤ to) (hm : ∀ x ∈ lwA l most to l.length, x.2 ≤ key → x.2 ≤ T) : key + (gt l i - 12 * (cntT (lwA l most to l.length) i T : Int)) ≤ most := by
  rw [lwA_count, if_pos hi]
  obtain ⟨c, hc⟩ : ∃ c, most - gt l i + 1 = c := ⟨_, rfl⟩
  rw [hc]
  rcases Int.lt_or_le key (c + 12 * (lwN c (min T to) : Int)) with h | h
  · omega
  · exfalso
    have hx : ((i, c + 12 * (lwN c (min T to) : Int)) : Lw) ∈ lwA l most to l.length := lwA_mem.2 ⟨hi, _, by show _ = most - gt l i + 1 + _; rw [hc], by show _ ≤ to; omega⟩
    have h2 := hm _ hx h
    simp only [] at h2
    by_cases hcm : c ≤ min T to
    · have e : lwN c (min T to) = ((min T to - c) / 12).toNat + 1 := by unfold lwN; rw [if_pos hcm]
      rw [e] at h2 h
      omega
    · have e : lwN c (min T to) = 0 := by unfold lwN; rw [if_neg hcm]
      rw [e] at h2 h
      omega
/-- as many points as there are breaks behind the first -/
theorem count_more {b b' p : Int} {q : List Int} (hp : p ∈ q) (h1 : b < p) (h2 : p ≤ b') : q.countP (fun x => decide (x ≤ b)) + 1 ≤ q.countP (fun x => decide (x ≤ b')) := by
  induction q with
  | nil => cases hp
  | cons x q ih =>
    rw [List.countP_cons, List.countP_cons]
    have mono : q.countP (fun x => decide (x ≤ b)) ≤ q.countP (fun x => decide (x ≤ b')) := List.countP_mono_left (fun y _ hy => by simp at hy ⊢; omega)
    rcases List.mem_cons.1 hp with rfl | hp
    · rw [if_neg (by simp; omega), if_pos (by simp; omega)]
      omega
    · have := ih hp
      by_cases hx : x ≤ b
      · rw [if_pos (by simpa using hx), if_pos (by simp; omega)]; omega
      · rw [if_neg (by simpa using hx)]
        omega
theorem Brk.points {all : List Lw} {e a T : Int} {o : List (Int × List Int)} (h : Brk all e a o T) {q : List Int} (hq : ∀ i x, 0 < i → o[i]? = some x → ∃ p ∈ q, x.1 - e ≤ p ∧ p ≤ x.1) : ∀ i x, o[i]? = some x → i ≤ q.countP (fun p => decide (p ≤ x.1))
  | 0, x, _ => Nat.zero_le _
  | i+1, x, hx => by
    have hl : i < o.length := by
      rcases Nat.lt_or_ge (i + 1) o.length with a | a
      · omega
      · rw [List.getElem?_eq_none a] at hx; cases hx
    have hy : o[i]? = some o[i] := List.getElem?_eq_getElem hl
    have ih := h.points hq i _ hy
    obtain ⟨p, p1, p2, p3⟩ := hq (i + 1) x (Nat.succ_pos i) hx
    have hu := h.up i _ x hy hx
    have := count_more p1 (show o[i].1 < p by omega) p3
    omega
/-- FEWER points leave a break unmet -/
theorem Brk.unmet {all : List Lw} {e a T : Int} {o : List (Int × List Int)} (h : Brk all e a o T) {q : List Int} (hq : q.length < o.length - 1) : ∃ i x, 0 < i ∧ o[i]? = some x ∧ ∀ p ∈ q, ¬ (x.1 - e ≤ p ∧ p ≤ x.1) := by
  refine Classical.byContradiction fun hn => ?_
  have hall : ∀ i x, 0 < i → o[i]? = some x → ∃ p ∈ q, x.1 - e ≤ p ∧ p ≤ x.1 := fun i x hi hx => Classical.byContradiction fun h2 => hn ⟨i, x, hi, hx, fun p hp hc => h2 ⟨p, hp, hc⟩⟩
  have hlast : o[o.length - 1]? = some o[o.length - 1] := List.getElem?_eq_getElem (by omega)
  have h1 := h.points hall _ _ hlast
  have h2 : q.countP (fun p => decide (p ≤ o[o.length - 1].1)) ≤ q.length := List.countP_le_length
  omega
end Go.Proofs.YtafadpaljanghaaGreatDoor
