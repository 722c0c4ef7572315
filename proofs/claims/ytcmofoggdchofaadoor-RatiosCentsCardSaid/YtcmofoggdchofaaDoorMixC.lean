/- Package ratios: base: numbers without common divisors. -/
import Derived.Test.YtcmofoggdchofaaDoorMixB
import Derived.Test.YtcmofoggdchofaaDoorMixG
import Derived.WalkMore
import Derived.Deep.RegionHeld3
namespace Go.Proofs.YtcmofoggdchofaaDoor
set_option linter.unusedSimpArgs false
open Go.RowKit
set_option linter.unusedVariables false

/-- where base stands: numbers found, numbers that wait, numbers whose turn has come -/
structure BInv (o wt : List Nat) (l : List Nat) (M : Nat) : Prop where
  cop : Cop o
  pos : ∀ x ∈ wt, 0 < x
  le : ∀ x ∈ o ++ wt, x ≤ 1000000000000
  gen : ∀ n ∈ l, Gen (o ++ wt) n
  mz : mz o wt ≤ M
theorem Cop.nil : Cop [] := ⟨fun _ h => (by cases h), List.Pairwise.nil⟩
theorem BInv.nil (M : Nat) : BInv [] [] [] M := ⟨.nil, fun _ h => (by cases h), fun _ h => (by cases h), fun _ h => (by cases h), by simp [Go.Proofs.YtcmofoggdchofaaDoor.mz]⟩
theorem log2_le40 {n : Nat} (h : n ≤ 1000000000000) : n.log2 ≤ 40 := by
  rcases Nat.eq_zero_or_pos n with h0 | h0
  · subst h0; decide
  · rcases Nat.lt_or_ge 40 n.log2 with h1 | h1
    · have := (Nat.le_log2 (k := 41) (by omega)).1 h1
      have e : 2 ^ 41 = 2199023255552 := by decide
      omega
    · exact h1
theorem BInv.start {o l : List Nat} {M n : Nat} (h : BInv o [] l M) (h1 : 0 < n) (h2 : n ≤ 1000000000000) : BInv o [n] (l ++ [n]) (M + 121) := by
  refine ⟨h.cop, fun x hx => by simp at hx; omega, fun x hx => ?_, fun x hx => ?_, ?_⟩
  · rw [List.mem_append] at hx
    rcases hx with hx | hx
    · exact h.le x (by simp [hx])
    · simp at hx; omega
  · rw [List.mem_append] at hx
    rcases hx with hx | hx
    · exact (h.gen x hx).sub fun s hs => by simp at hs; simp [hs]
    · simp at hx; subst hx; exact .of (by simp)
  · have h3 := h.mz
    have h4 := log2_le40 h2
    simp [Go.Proofs.YtcmofoggdchofaaDoor.mz] at h3 ⊢
    omega
theorem BInv.one {o wt l : List Nat} {M : Nat} (h : BInv o (wt ++ [1]) l M) : BInv o wt l M := by
  refine ⟨h.cop, fun x hx => h.pos x (by simp [hx]), fun x hx => h.le x (by simp at hx ⊢; rcases hx with h | h <;> simp [h]), fun x hx => (h.gen x hx).subst fun s hs => ?_, Nat.le_trans (Nat.le_of_lt (mz_one o wt)) h.mz⟩
  rw [← List.append_assoc, List.mem_append] at hs
  rcases hs with hs | hs
  · exact .of hs
  · simp at hs; subst hs; exact .one
theorem pairwise_snoc {o : List Nat} {n : Nat} (h : o.Pairwise fun a b => Nat.gcd a b = 1) (hn : ∀ b ∈ o, Nat.gcd b n = 1) : (o ++ [n]).Pairwise fun a b => Nat.gcd a b = 1 := by
  rw [List.pairwise_append]
  exact ⟨h, List.pairwise_singleton _ _, fun a ha b hb => by simp at hb; subst hb; exact hn a ha⟩
theorem BInv.move {o wt l : List Nat} {M n : Nat} (h : BInv o (wt ++ [n]) l M) (h2 : 2 ≤ n) (hn : ∀ b ∈ o, Nat.gcd b n = 1) : BInv (o ++ [n]) wt l M := by
  refine ⟨⟨fun s hs => ?_, pairwise_snoc h.cop.pair hn⟩, fun x hx => h.pos x (by simp [hx]), fun x hx => h.le x ?_, fun x hx => (h.gen x hx).sub fun s hs => ?_, Nat.le_trans (Nat.le_of_lt (mz_move o wt n)) h.mz⟩
  · rw [List.mem_append] at hs
    rcases hs with hs | hs
    · exact h.cop.two s hs
    · simp at hs; omega
  · simp at hx ⊢; rcases hx with h | h | h <;> simp [h]
  · simp at hs ⊢; rcases hs with h | h | h <;> simp [h]
theorem BInv.split {o1 o2 wt l : List Nat} {M n b g : Nat} (h : BInv (o1 ++ b :: o2) (wt ++ [n]) l M) (hg : 1 < g) (h1 : g ∣ b) (h2 : g ∣ n) : BInv (o1 ++ o2) (wt ++ [g, b / g, n / g]) l M := by
  have hb0 : 2 ≤ b := h.cop.two b (by simp)
  have hn0 : 0 < n := h.pos n (by simp)
  have hgb := Nat.le_of_dvd (by omega) h1
  have hgn := Nat.le_of_dvd hn0 h2
  have hb1 : 0 < b / g := Nat.div_pos hgb (by omega)
  have hn1 : 0 < n / g := Nat.div_pos hgn (by omega)
  have hbl := h.le b (by simp)
  have hnl := h.le n (by simp)
  have hb2 := Nat.div_le_self b g
  have hn2 := Nat.div_le_self n g
  refine ⟨⟨fun s hs => h.cop.two s ?_, ?_⟩, fun x hx => ?_, fun x hx => ?_, fun x hx => (h.gen x hx).subst fun s hs => ?_, Nat.le_trans (Nat.le_of_lt (mz_split o1 o2 wt (by omega) (by omega) hg h1 h2)) h.mz⟩
  · simp at hs ⊢; rcases hs with h | h <;> simp [h]
  · exact h.cop.pair.sublist (List.Sublist.append (List.Sublist.refl _) (List.sublist_cons_self _ _))
  · rw [List.mem_append] at hx
    rcases hx with hx | hx
    · exact h.pos x (by simp [hx])
    · simp at hx; omega
  · rw [List.mem_append] at hx
    rcases hx with hx | hx
    · exact h.le x (by simp at hx ⊢; rcases hx with h | h <;> simp [h])
    · rw [List.mem_append] at hx
      rcases hx with hx | hx
      · exact h.le x (by simp [hx])
      · simp at hx; omega
  · have hG : Gen (o1 ++ o2 ++ (wt ++ [g, b / g, n / g])) b := by
      have := Gen.times (Gen.of (S := o1 ++ o2 ++ (wt ++ [g, b / g, n / g])) (a := g) (by simp)) (Gen.of (a := b / g) (by simp))
      rwa [Nat.mul_div_cancel' h1] at this
    have hN : Gen (o1 ++ o2 ++ (wt ++ [g, b / g, n / g])) n := by
      have := Gen.times (Gen.of (S := o1 ++ o2 ++ (wt ++ [g, b / g, n / g])) (a := g) (by simp)) (Gen.of (a := n / g) (by simp))
      rwa [Nat.mul_div_cancel' h2] at this
    rw [List.append_assoc, List.mem_append] at hs
    rcases hs with hs | hs
    · exact .of (by simp [hs])
    · rw [List.cons_append] at hs
      rcases List.mem_cons.1 hs with hs | hs
      · rw [hs]; exact hG
      · rw [← List.append_assoc, List.mem_append] at hs
        rcases hs with hs | hs
        · refine .of ?_
          rw [List.mem_append] at hs
          rcases hs with hs | hs <;> simp [hs]
        · simp at hs; rw [hs]; exact hN
theorem mz_len (o wt : List Nat) (h : ∀ s ∈ o, 2 ≤ s) : o.length + wt.length ≤ mz o wt := by
  have h1 : o.length ≤ (o.map fun n => 3 * n.log2).sum := by
    induction o with
    | nil => simp
    | cons a o ih =>
      have := ih fun s hs => h s (List.mem_cons_of_mem _ hs)
      have := log2_pos (h a List.mem_cons_self)
      simp; omega
  have h2 : wt.length ≤ (wt.map fun n => 3 * n.log2 + 1).sum := by
    clear h h1
    induction wt with
    | nil => simp
    | cons a o ih => simp; omega
  unfold Go.Proofs.YtcmofoggdchofaaDoor.mz; omega

/-- numbers that the call made lie here -/
def IR (w : World) (base : Nat) (A : Option Addr) (n c : Nat) (l : List Nat) : Prop := l.length = n ∧ w.ownsRow base 2 1 (.slice A n c) n (l.map fun x : Nat => .int .i64 (x : Int))
theorem info_i64 : ∃ i, Tryd.prog.info? 2 = some i ∧ i.zero = some (.int .i64 0) ∧ i.size = 1 ∧ i.bytes = 8 := by
  have h : (Tryd.prog.info? 2).map (fun i => (i.zero, i.size, i.bytes)) = some (some (.int .i64 0), 1, 8) := by kernel_rfl
  obtain ⟨i, hi, he⟩ := Option.map_eq_some_iff.1 h
  injection he with e1 e2
  injection e2 with e2 e3
  exact ⟨i, hi, e1, e2, e3⟩
section
variable {w w' : World} {base n c : Nat} {A : Option Addr} {l : List Nat}
theorem IR.nil (w : World) (base : Nat) : IR w base none 0 0 [] := ⟨rfl, World.ownsRow_nil w base _ 1⟩
theorem IR.form (h : IR w base A n c l) (hn : 0 < n) : ∃ g, A = some ⟨g, 0, none⟩ ∧ n ≤ c ∧ base ≤ g ∧ g < w.heap.size := by
  rcases h.2.2 with ⟨_, h0⟩ | ⟨g, cap, cur, e, hb, hg, h1, _⟩
  · omega
  · injection e with e1 e2 e3
    exact ⟨g, e1, e3 ▸ h1, hb, Blk.lt (t := 2) (cs := cur) hg⟩
theorem IR.cell {g : Nat} (h : IR w base (some ⟨g, 0, none⟩) n c l) {i x : Nat} (hi : l[i]? = some x) : w.cell? ⟨g, i, none⟩ = some (.int .i64 (x : Int)) := by
  have hl := (List.getElem?_eq_some_iff.1 hi).1
  rw [h.2.cellAt i (by have := h.1; omega), List.getElem?_map, hi]
  rfl
theorem IR.keep (h : IR w base A n c l) (hk : ∀ g, A = some ⟨g, 0, none⟩ → w'.heap[g]? = w.heap[g]?) : IR w' base A n c l := by
  refine ⟨h.1, h.2.1, ?_⟩
  rcases h.2.2 with h0 | ⟨g, cap, cur, e, hb, hg, h1, h2⟩
  · exact .inl h0
  · injection e with e1 e2 e3
    exact .inr ⟨g, cap, cur, by rw [e1, e3], hb, (hk g e1).trans hg, h1, h2⟩
theorem IR.drewN (h : IR w base A n c l) (k : Nat) : IR (w.drewN k) base A n c l := h
theorem IR.blk (h : IR w base A n c l) {g : Nat} (hA : A = some ⟨g, 0, none⟩) : base ≤ g ∧ g < w.heap.size := by
  rcases h.2.2 with ⟨e, _⟩ | ⟨g', cap, cur, e, hb, hg, h1, _⟩
  · injection e with e1; subst hA; cases e1
  · injection e with e1
    rw [hA] at e1
    injection e1 with e1
    injection e1 with e1
    subst e1
    exact ⟨hb, Blk.lt (t := 2) (cs := cur) hg⟩
theorem IR.alloc (h : IR w base A n c l) (o : Obj) : IR (w.alloc o) base A n c l := h.keep fun g hg => Below.heap_alloc w o g (h.blk hg).2
/-- its first elements -/
theorem IR.front {a b : List Nat} (h : IR w base A n c (a ++ b)) : IR w base A a.length c a := by
  refine ⟨rfl, by simp, ?_⟩
  rcases h.2.2 with ⟨e, h0⟩ | ⟨g, cap, cur, e, hb, hg, h1, h2, h3, h4⟩
  · subst h0
    injection e with e1 e2 e3
    have : a.length = 0 := by have := h.1; rw [List.length_append] at this; omega
    exact .inl ⟨by rw [this, e1, e3], this⟩
  · injection e with e1 e2 e3
    refine .inr ⟨g, cap, cur, by rw [e1, e3], hb, hg, by have := h.1; simp at this; omega, h2, h3, ?_⟩
    have : (cur.toList.take (n * 1)).take (a.length * 1) = ((a ++ b).map fun x : Nat => Value.int .i64 (x : Int)).take (a.length * 1) := by rw [h4]
    rw [List.take_take, Nat.min_eq_left (by have := h.1; simp at this; omega)] at this
    rw [this, List.map_append, Nat.mul_one]
    exact List.take_left' (by simp)
end
/-- both lists lie in blocks of their own -/
structure Two (w : World) (B : Nat) (A : Option Addr) (n c : Nat) (o : List Nat) (A2 : Option Addr) (n2 c2 : Nat) (wt : List Nat) : Prop where
  a : IR w B A n c o
  b : IR w B A2 n2 c2 wt
  ne : ∀ g, A = some ⟨g, 0, none⟩ → A2 ≠ some ⟨g, 0, none⟩
theorem Two.drewN {w : World} {B : Nat} {A : Option Addr} {n c : Nat} {o : List Nat} {A2 : Option Addr} {n2 c2 : Nat} {wt : List Nat} (h : Two w B A n c o A2 n2 c2 wt) (k : Nat) : Two (w.drewN k) B A n c o A2 n2 c2 wt := ⟨h.a.drewN k, h.b.drewN k, h.ne⟩
theorem Two.pop {w : World} {B : Nat} {A : Option Addr} {n c : Nat} {o : List Nat} {A2 : Option Addr} {n2 c2 : Nat} {wt : List Nat} {x : Nat} (h : Two w B A n c o A2 n2 c2 (wt ++ [x])) : Two w B A n c o A2 wt.length c2 wt := ⟨h.a, h.b.front, h.ne⟩
theorem Two.symm {w : World} {B : Nat} {A : Option Addr} {n c : Nat} {o : List Nat} {A2 : Option Addr} {n2 c2 : Nat} {wt : List Nat} (h : Two w B A n c o A2 n2 c2 wt) : Two w B A2 n2 c2 wt A n c o := ⟨h.b, h.a, fun g e1 e2 => h.ne g e2 e1⟩
theorem IR.own {w : World} {base n c : Nat} {A : Option Addr} {l : List Nat} (h : IR w base A n c l) {k : Nat} (hk : (Value.slice A n c).ownBlock = some k) : A = some ⟨k, 0, none⟩ := by
  rcases h.2.2 with ⟨e, _⟩ | ⟨g, cap, cur, e, hb, hg, h1, _⟩
  · injection e with e1; subst e1; simp [Value.ownBlock] at hk
  · injection e with e1; subst e1; simp [Value.ownBlock] at hk; subst hk; rfl
theorem Two.push {w w' : World} {B : Nat} {A : Option Addr} {n c : Nat} {o : List Nat} {A2 : Option Addr} {n2 c2 : Nat} {wt : List Nat} (h : Two w B A n c o A2 n2 c2 wt) {v : Value} {m : Nat} {news : List Nat}
    (hown : w'.ownsRow B 2 1 v (n + m) (o.map (fun x : Nat => .int .i64 (x : Int)) ++ news.map (fun x : Nat => .int .i64 (x : Int)))) (hg : w.grownBy w' (Value.slice A n c).ownBlock) (hat : v.ownBlock = (Value.slice A n c).ownBlock ∨ v.ownBlock = some w.heap.size) :
    ∃ A' c', v = .slice A' (n + m) c' ∧ Two w' B A' (n + m) c' (o ++ news) A2 n2 c2 wt := by
  obtain ⟨A', c', rfl⟩ : ∃ A' c', v = .slice A' (n + m) c' := by
    rcases hown.2 with ⟨e, h0⟩ | ⟨g, cap, cur, e, _⟩
    · exact ⟨none, 0, by rw [e, h0]⟩
    · exact ⟨_, _, e⟩
  have hi : IR w' B A' (n + m) c' (o ++ news) := ⟨by
    have := hown.1
    rw [List.length_append] at this ⊢
    simpa using this, by rw [List.map_append]; exact hown⟩
  refine ⟨A', c', rfl, ⟨hi, h.b.keep fun k hk => hg.block k (h.b.blk hk).2 fun e => h.ne k (h.a.own e.symm) hk, fun k e1 e2 => ?_⟩⟩
  subst e1
  rcases hat with hat | hat
  · exact h.ne k (h.a.own hat.symm) e2
  · have := (h.b.blk e2).2
    simp [Value.ownBlock] at hat
    omega
theorem Two.below {w w' a : World} {B : Nat} {A : Option Addr} {n c : Nat} {o : List Nat} {A2 : Option Addr} {n2 c2 : Nat} {wt : List Nat} (h : Two w B A n c o A2 n2 c2 wt) (hb : Below B a w) (hB : B ≤ w.heap.size) (hg : w.grownBy w' (Value.slice A n c).ownBlock) : Below B a w' :=
  hb.grown hg hB fun k hk => (h.a.blk (h.a.own hk)).1
theorem news_reads (W : World) (l : List Nat) : Reads (W.alloc (.cells (l.map fun x : Nat => Value.int .i64 (x : Int)).toArray 2)) (W.heap.size + 1) 1 (some ⟨W.heap.size, 0, none⟩) l.length (l.map fun x : Nat => .int .i64 (x : Int)) := by
  refine ⟨by simp, fun _ => ⟨_, rfl, Nat.lt_succ_self _, fun j u hu => ?_⟩⟩
  have hb := Blk.new W 2 (l.map fun x : Nat => Value.int .i64 (x : Int)).toArray
  have e : (⟨W.heap.size, 0, none⟩ : Addr).add j = ⟨W.heap.size, j, none⟩ := by
    unfold Addr.add
    by_cases h : j = 0
    · subst h; simp
    · simp [h]
  rw [e, hb.cell]
  simpa using hu
theorem news_one (l : List Nat) : ∀ u ∈ l.map (fun x : Nat => Value.int .i64 (x : Int)), u.oneCell' = true := fun u hu => by
  obtain ⟨x, _, rfl⟩ := List.mem_map.1 hu
  rfl
theorem Two.allocd {w : World} {B : Nat} {A : Option Addr} {n c : Nat} {o : List Nat} {A2 : Option Addr} {n2 c2 : Nat} {wt : List Nat} (h : Two w B A n c o A2 n2 c2 wt) (ob : Obj) : Two (w.alloc ob) B A n c o A2 n2 c2 wt := ⟨h.a.alloc ob, h.b.alloc ob, h.ne⟩
/-- what lies behind the first elements -/
theorem IR.behind {w : World} {base n c k g : Nat} {l : List Nat} (h : IR w base (some ⟨g, 0, none⟩) n c l) (hk : k ≤ n) (hc : n ≤ c) :
    ∃ X : Option Addr, (∀ W : World, (Instr.slice 48 (.slice (some ⟨g, 0, none⟩) n c) (some (.int .i64 (k : Int))) none none).run Tryd.prog W = .ok (.slice X (n - k) (c - k)) W) ∧ Reads w w.heap.size 1 X (n - k) ((l.drop k).map fun x : Nat => .int .i64 (x : Int)) := by
  refine ⟨if c = k then some ⟨g, 0, none⟩ else (some (⟨g, 0, none⟩ : Addr)).map (·.add (k * 1)), fun W => ?_, ?_⟩
  · have he : Tryd.prog.elem 48 = 2 := by kernel_rfl
    have ht : Tryd.prog.underlying 48 = some (.slice (Tryd.prog.elem 48)) := by rw [he]; exact Tryd.underlying48
    have hr := run_slice_l (P := Tryd.prog) W 48 (some ⟨g, 0, none⟩) n c ht .i64 (k : Int) (by omega) (by omega)
    obtain ⟨i0, hi0, _, hz1, _⟩ := info_i64
    have hs : ((sizeOf (Tryd.prog.elem 48)).run Tryd.prog W) = .ok 1 W := by
      rw [he]
      simp [sizeOf, typeInfo, hi0, hz1]
    rw [hr, hs]
    simp [Result.andThen, sliced]
  · have := (Reads.of_own h.2).cut hk hc
    rw [List.map_drop]
    simpa using this
theorem Two.start {w : World} {B : Nat} {A : Option Addr} {n c : Nat} {o : List Nat} (h : IR w B A n c o) (hB : B ≤ w.heap.size) (x : Nat) :
    Two (w.alloc (.cells #[.int .i64 (x : Int)] 2)) B A n c o (some ⟨w.heap.size, 0, none⟩) 1 1 [x] :=
  ⟨h.alloc _, ⟨rfl, World.ownsRow_lit w #[.int .i64 (x : Int)] 1 hB (by decide) rfl⟩, fun g hg e => by
    have := (h.blk hg).2
    injection e with e
    injection e with e
    omega⟩
end Go.Proofs.YtcmofoggdchofaaDoor
