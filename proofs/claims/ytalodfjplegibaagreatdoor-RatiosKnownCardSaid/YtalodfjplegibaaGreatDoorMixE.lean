/- Package ratios: base: numbers without common divisors. Package ratios: base, the walk. Package ratios: one: is a product of powers 1? -/
import Derived.Test.YtalodfjplegibaaGreatDoorMixB
import Derived.Test.YtalodfjplegibaaGreatDoorMixG
import Derived.WalkMore
import Derived.Deep.RegionHeld3
import Derived.Deep.RegionLaw
import Derived.Deep.RegionWith
namespace Go.Proofs.YtalodfjplegibaaGreatDoor
set_option linter.unusedSimpArgs false
open Go.RowKit
set_option linter.unusedVariables false

/-- where base stands: numbers found, numbers that wait, numbers whose turn has come -/
structure BInv (o wt : List Nat) (l : List Nat) (M : Nat) : Prop where
  cop : Cop o
  pos : ∀ x ∈ wt, 0 < x
  le : ∀ x ∈ o ++ wt, x ≤ 1000000000000
  gen : ∀ n ∈ l, Gen (o ++ wt) n
  mz : mz o wt ≤ M
theorem Cop.nil : Cop [] := ⟨fun _ h => (by cases h), List.Pairwise.nil⟩
theorem BInv.nil (M : Nat) : BInv [] [] [] M := ⟨.nil, fun _ h => (by cases h), fun _ h => (by cases h), fun _ h => (by cases h), by simp [Go.Proofs.YtalodfjplegibaaGreatDoor.mz]⟩
theorem log2_le40 {n : Nat} (h : n ≤ 1000000000000) : n.log2 ≤ 40 := by
  rcases Nat.eq_zero_or_pos n with h0 | h0
  · subst h0; decide
  · rcases Nat.lt_or_ge 40 n.log2 with h1 | h1
    · have := (Nat.le_log2 (k := 41) (by omega)).1 h1
      have e : 2 ^ 41 = 2199023255552 := by decide
      omega
    · exact h1
theorem BInv.start {o l : List Nat} {M n : Nat} (h : BInv o [] l M) (h1 : 0 < n) (h2 : n ≤ 1000000000000) : BInv o [n] (l ++ [n]) (M + 121) := by
  refine ⟨h.cop, fun x hx => by simp at hx; omega, fun x hx => ?_, fun x hx => ?_, ?_⟩
  · rw [List.mem_append] at hx
    rcases hx with hx | hx
    · exact h.le x (by simp [hx])
    · simp at hx; omega
  · rw [List.mem_append] at hx
    rcases hx with hx | hx
    · exact (h.gen x hx).sub fun s hs => by simp at hs; simp [hs]
    · simp at hx; subst hx; exact .of (by simp)
  · have h3 := h.mz
    have h4 := log2_le40 h2
    simp [Go.Proofs.YtalodfjplegibaaGreatDoor.mz] at h3 ⊢
    omega
theorem BInv.one {o wt l : List Nat} {M : Nat} (h : BInv o (wt ++ [1]) l M) : BInv o wt l M := by
  refine ⟨h.cop, fun x hx => h.pos x (by simp [hx]), fun x hx => h.le x (by simp at hx ⊢; rcases hx with h | h <;> simp [h]), fun x hx => (h.gen x hx).subst fun s hs => ?_, Nat.le_trans (Nat.le_of_lt (mz_one o wt)) h.mz⟩
  rw [← List.append_assoc, List.mem_append] at hs
  rcases hs with hs | hs
  · exact .of hs
  · simp at hs; subst hs; exact .one
theorem pairwise_snoc {o : List Nat} {n : Nat} (h : o.Pairwise fun a b => Nat.gcd a b = 1) (hn : ∀ b ∈ o, Nat.gcd b n = 1) : (o ++ [n]).Pairwise fun a b => Nat.gcd a b = 1 := by
  rw [List.pairwise_append]
  exact ⟨h, List.pairwise_singleton _ _, fun a ha b hb => by simp at hb; subst hb; exact hn a ha⟩
theorem BInv.move {o wt l : List Nat} {M n : Nat} (h : BInv o (wt ++ [n]) l M) (h2 : 2 ≤ n) (hn : ∀ b ∈ o, Nat.gcd b n = 1) : BInv (o ++ [n]) wt l M := by
  refine ⟨⟨fun s hs => ?_, pairwise_snoc h.cop.pair hn⟩, fun x hx => h.pos x (by simp [hx]), fun x hx => h.le x ?_, fun x hx => (h.gen x hx).sub fun s hs => ?_, Nat.le_trans (Nat.le_of_lt (mz_move o wt n)) h.mz⟩
  · rw [List.mem_append] at hs
    rcases hs with hs | hs
    · exact h.cop.two s hs
    · simp at hs; omega
  · simp at hx ⊢; rcases hx with h | h | h <;> simp [h]
  · simp at hs ⊢; rcases hs with h | h | h <;> simp [h]
theorem BInv.split {o1 o2 wt l : List Nat} {M n b g : Nat} (h : BInv (o1 ++ b :: o2) (wt ++ [n]) l M) (hg : 1 < g) (h1 : g ∣ b) (h2 : g ∣ n) : BInv (o1 ++ o2) (wt ++ [g, b / g, n / g]) l M := by
  have hb0 : 2 ≤ b := h.cop.two b (by simp)
  have hn0 : 0 < n := h.pos n (by simp)
  have hgb := Nat.le_of_dvd (by omega) h1
  have hgn := Nat.le_of_dvd hn0 h2
  have hb1 : 0 < b / g := Nat.div_pos hgb (by omega)
  have hn1 : 0 < n / g := Nat.div_pos hgn (by omega)
  have hbl := h.le b (by simp)
  have hnl := h.le n (by simp)
  have hb2 := Nat.div_le_self b g
  have hn2 := Nat.div_le_self n g
  refine ⟨⟨fun s hs => h.cop.two s ?_, ?_⟩, fun x hx => ?_, fun x hx => ?_, fun x hx => (h.gen x hx).subst fun s hs => ?_, Nat.le_trans (Nat.le_of_lt (mz_split o1 o2 wt (by omega) (by omega) hg h1 h2)) h.mz⟩
  · simp at hs ⊢; rcases hs with h | h <;> simp [h]
  · exact h.cop.pair.sublist (List.Sublist.append (List.Sublist.refl _) (List.sublist_cons_self _ _))
  · rw [List.mem_append] at hx
    rcases hx with hx | hx
    · exact h.pos x (by simp [hx])
    · simp at hx; omega
  · rw [List.mem_append] at hx
    rcases hx with hx | hx
    · exact h.le x (by simp at hx ⊢; rcases hx with h | h <;> simp [h])
    · rw [List.mem_append] at hx
      rcases hx with hx | hx
      · exact h.le x (by simp [hx])
      · simp at hx; omega
  · have hG : Gen (o1 ++ o2 ++ (wt ++ [g, b / g, n / g])) b := by
      have := Gen.times (Gen.of (S := o1 ++ o2 ++ (wt ++ [g, b / g, n / g])) (a := g) (by simp)) (Gen.of (a := b / g) (by simp))
      rwa [Nat.mul_div_cancel' h1] at this
    have hN : Gen (o1 ++ o2 ++ (wt ++ [g, b / g, n / g])) n := by
      have := Gen.times (Gen.of (S := o1 ++ o2 ++ (wt ++ [g, b / g, n / g])) (a := g) (by simp)) (Gen.of (a := n / g) (by simp))
      rwa [Nat.mul_div_cancel' h2] at this
    rw [List.append_assoc, List.mem_append] at hs
    rcases hs with hs | hs
    · exact .of (by simp [hs])
    · rw [List.cons_append] at hs
      rcases List.mem_cons.1 hs with hs | hs
      · rw [hs]; exact hG
      · rw [← List.append_assoc, List.mem_append] at hs
        rcases hs with hs | hs
        · refine .of ?_
          rw [List.mem_append] at hs
          rcases hs with hs | hs <;> simp [hs]
        · simp at hs; rw [hs]; exact hN
theorem mz_len (o wt : List Nat) (h : ∀ s ∈ o, 2 ≤ s) : o.length + wt.length ≤ mz o wt := by
  have h1 : o.length ≤ (o.map fun n => 3 * n.log2).sum := by
    induction o with
    | nil => simp
    | cons a o ih =>
      have := ih fun s hs => h s (List.mem_cons_of_mem _ hs)
      have := log2_pos (h a List.mem_cons_self)
      simp; omega
  have h2 : wt.length ≤ (wt.map fun n => 3 * n.log2 + 1).sum := by
    clear h h1
    induction wt with
    | nil => simp
    | cons a o ih => simp; omega
  unfold Go.Proofs.YtalodfjplegibaaGreatDoor.mz; omega

/-- numbers that the call made lie here -/
def IR (w : World) (base : Nat) (A : Option Addr) (n c : Nat) (l : List Nat) : Prop := l.length = n ∧ w.ownsRow base 2 1 (.slice A n c) n (l.map fun x : Nat => .int .i64 (x : Int))
theorem info_i64 : ∃ i, Tryz.prog.info? 2 = some i ∧ i.zero = some (.int .i64 0) ∧ i.size = 1 ∧ i.bytes = 8 := by
  have h : (Tryz.prog.info? 2).map (fun i => (i.zero, i.size, i.bytes)) = some (some (.int .i64 0), 1, 8) := by kernel_rfl
  obtain ⟨i, hi, he⟩ := Option.map_eq_some_iff.1 h
  injection he with e1 e2
  injection e2 with e2 e3
  exact ⟨i, hi, e1, e2, e3⟩
section
variable {w w' : World} {base n c : Nat} {A : Option Addr} {l : List Nat}
theorem IR.nil (w : World) (base : Nat) : IR w base none 0 0 [] := ⟨rfl, World.ownsRow_nil w base _ 1⟩
theorem IR.form (h : IR w base A n c l) (hn : 0 < n) : ∃ g, A = some ⟨g, 0, none⟩ ∧ n ≤ c ∧ base ≤ g ∧ g < w.heap.size := by
  rcases h.2.2 with ⟨_, h0⟩ | ⟨g, cap, cur, e, hb, hg, h1, _⟩
  · omega
  · injection e with e1 e2 e3
    exact ⟨g, e1, e3 ▸ h1, hb, Blk.lt (t := 2) (cs := cur) hg⟩
theorem IR.cell {g : Nat} (h : IR w base (some ⟨g, 0, none⟩) n c l) {i x : Nat} (hi : l[i]? = some x) : w.cell? ⟨g, i, none⟩ = some (.int .i64 (x : Int)) := by
  have hl := (List.getElem?_eq_some_iff.1 hi).1
  rw [h.2.cellAt i (by have := h.1; omega), List.getElem?_map, hi]
  rfl
theorem IR.keep (h : IR w base A n c l) (hk : ∀ g, A = some ⟨g, 0, none⟩ → w'.heap[g]? = w.heap[g]?) : IR w' base A n c l := by
  refine ⟨h.1, h.2.1, ?_⟩
  rcases h.2.2 with h0 | ⟨g, cap, cur, e, hb, hg, h1, h2⟩
  · exact .inl h0
  · injection e with e1 e2 e3
    exact .inr ⟨g, cap, cur, by rw [e1, e3], hb, (hk g e1).trans hg, h1, h2⟩
theorem IR.drewN (h : IR w base A n c l) (k : Nat) : IR (w.drewN k) base A n c l := h
theorem IR.blk (h : IR w base A n c l) {g : Nat} (hA : A = some ⟨g, 0, none⟩) : base ≤ g ∧ g < w.heap.size := by
  rcases h.2.2 with ⟨e, _⟩ | ⟨g', cap, cur, e, hb, hg, h1, _⟩
  · injection e with e1; subst hA; cases e1
  · injection e with e1
    rw [hA] at e1
    injection e1 with e1
    injection e1 with e1
    subst e1
    exact ⟨hb, Blk.lt (t := 2) (cs := cur) hg⟩
theorem IR.alloc (h : IR w base A n c l) (o : Obj) : IR (w.alloc o) base A n c l := h.keep fun g hg => Below.heap_alloc w o g (h.blk hg).2
/-- its first elements -/
theorem IR.front {a b : List Nat} (h : IR w base A n c (a ++ b)) : IR w base A a.length c a := by
  refine ⟨rfl, by simp, ?_⟩
  rcases h.2.2 with ⟨e, h0⟩ | ⟨g, cap, cur, e, hb, hg, h1, h2, h3, h4⟩
  · subst h0
    injection e with e1 e2 e3
    have : a.length = 0 := by have := h.1; rw [List.length_append] at this; omega
    exact .inl ⟨by rw [this, e1, e3], this⟩
  · injection e with e1 e2 e3
    refine .inr ⟨g, cap, cur, by rw [e1, e3], hb, hg, by have := h.1; simp at this; omega, h2, h3, ?_⟩
    have : (cur.toList.take (n * 1)).take (a.length * 1) = ((a ++ b).map fun x : Nat => Value.int .i64 (x : Int)).take (a.length * 1) := by rw [h4]
    rw [List.take_take, Nat.min_eq_left (by have := h.1; simp at this; omega)] at this
    rw [this, List.map_append, Nat.mul_one]
    exact List.take_left' (by simp)
end
/-- both lists lie in blocks of their own -/
structure Two (w : World) (B : Nat) (A : Option Addr) (n c : Nat) (o : List Nat) (A2 : Option Addr) (n2 c2 : Nat) (wt : List Nat) : Prop where
  a : IR w B A n c o
  b : IR w B A2 n2 c2 wt
  ne : ∀ g, A = some ⟨g, 0, none⟩ → A2 ≠ some ⟨g, 0, none⟩
theorem Two.drewN {w : World} {B : Nat} {A : Option Addr} {n c : Nat} {o : List Nat} {A2 : Option Addr} {n2 c2 : Nat} {wt : List Nat} (h : Two w B A n c o A2 n2 c2 wt) (k : Nat) : Two (w.drewN k) B A n c o A2 n2 c2 wt := ⟨h.a.drewN k, h.b.drewN k, h.ne⟩
theorem Two.pop {w : World} {B : Nat} {A : Option Addr} {n c : Nat} {o : List Nat} {A2 : Option Addr} {n2 c2 : Nat} {wt : List Nat} {x : Nat} (h : Two w B A n c o A2 n2 c2 (wt ++ [x])) : Two w B A n c o A2 wt.length c2 wt := ⟨h.a, h.b.front, h.ne⟩
theorem Two.symm {w : World} {B : Nat} {A : Option Addr} {n c : Nat} {o : List Nat} {A2 : Option Addr} {n2 c2 : Nat} {wt : List Nat} (h : Two w B A n c o A2 n2 c2 wt) : Two w B A2 n2 c2 wt A n c o := ⟨h.b, h.a, fun g e1 e2 => h.ne g e2 e1⟩
theorem IR.own {w : World} {base n c : Nat} {A : Option Addr} {l : List Nat} (h : IR w base A n c l) {k : Nat} (hk : (Value.slice A n c).ownBlock = some k) : A = some ⟨k, 0, none⟩ := by
  rcases h.2.2 with ⟨e, _⟩ | ⟨g, cap, cur, e, hb, hg, h1, _⟩
  · injection e with e1; subst e1; simp [Value.ownBlock] at hk
  · injection e with e1; subst e1; simp [Value.ownBlock] at hk; subst hk; rfl
theorem Two.push {w w' : World} {B : Nat} {A : Option Addr} {n c : Nat} {o : List Nat} {A2 : Option Addr} {n2 c2 : Nat} {wt : List Nat} (h : Two w B A n c o A2 n2 c2 wt) {v : Value} {m : Nat} {news : List Nat}
    (hown : w'.ownsRow B 2 1 v (n + m) (o.map (fun x : Nat => .int .i64 (x : Int)) ++ news.map (fun x : Nat => .int .i64 (x : Int)))) (hg : w.grownBy w' (Value.slice A n c).ownBlock) (hat : v.ownBlock = (Value.slice A n c).ownBlock ∨ v.ownBlock = some w.heap.size) :
    ∃ A' c', v = .slice A' (n + m) c' ∧ Two w' B A' (n + m) c' (o ++ news) A2 n2 c2 wt := by
  obtain ⟨A', c', rfl⟩ : ∃ A' c', v = .slice A' (n + m) c' := by
    rcases hown.2 with ⟨e, h0⟩ | ⟨g, cap, cur, e, _⟩
    · exact ⟨none, 0, by rw [e, h0]⟩
    · exact ⟨_, _, e⟩
  have hi : IR w' B A' (n + m) c' (o ++ news) := ⟨by
    have := hown.1
    rw [List.length_append] at this ⊢
    simpa using this, by rw [List.map_append]; exact hown⟩
  refine ⟨A', c', rfl, ⟨hi, h.b.keep fun k hk => hg.block k (h.b.blk hk).2 fun e => h.ne k (h.a.own e.symm) hk, fun k e1 e2 => ?_⟩⟩
  subst e1
  rcases hat with hat | hat
  · exact h.ne k (h.a.own hat.symm) e2
  · have := (h.b.blk e2).2
    simp [Value.ownBlock] at hat
    omega
theorem Two.below {w w' a : World} {B : Nat} {A : Option Addr} {n c : Nat} {o : List Nat} {A2 : Option Addr} {n2 c2 : Nat} {wt : List Nat} (h : Two w B A n c o A2 n2 c2 wt) (hb : Below B a w) (hB : B ≤ w.heap.size) (hg : w.grownBy w' (Value.slice A n c).ownBlock) : Below B a w' :=
  hb.grown hg hB fun k hk => (h.a.blk (h.a.own hk)).1
theorem news_reads (W : World) (l : List Nat) : Reads (W.alloc (.cells (l.map fun x : Nat => Value.int .i64 (x : Int)).toArray 2)) (W.heap.size + 1) 1 (some ⟨W.heap.size, 0, none⟩) l.length (l.map fun x : Nat => .int .i64 (x : Int)) := by
  refine ⟨by simp, fun _ => ⟨_, rfl, Nat.lt_succ_self _, fun j u hu => ?_⟩⟩
  have hb := Blk.new W 2 (l.map fun x : Nat => Value.int .i64 (x : Int)).toArray
  have e : (⟨W.heap.size, 0, none⟩ : Addr).add j = ⟨W.heap.size, j, none⟩ := by
    unfold Addr.add
    by_cases h : j = 0
    · subst h; simp
    · simp [h]
  rw [e, hb.cell]
  simpa using hu
theorem news_one (l : List Nat) : ∀ u ∈ l.map (fun x : Nat => Value.int .i64 (x : Int)), u.oneCell' = true := fun u hu => by
  obtain ⟨x, _, rfl⟩ := List.mem_map.1 hu
  rfl
theorem Two.allocd {w : World} {B : Nat} {A : Option Addr} {n c : Nat} {o : List Nat} {A2 : Option Addr} {n2 c2 : Nat} {wt : List Nat} (h : Two w B A n c o A2 n2 c2 wt) (ob : Obj) : Two (w.alloc ob) B A n c o A2 n2 c2 wt := ⟨h.a.alloc ob, h.b.alloc ob, h.ne⟩
/-- what lies behind the first elements -/
theorem IR.behind {w : World} {base n c k g : Nat} {l : List Nat} (h : IR w base (some ⟨g, 0, none⟩) n c l) (hk : k ≤ n) (hc : n ≤ c) :
    ∃ X : Option Addr, (∀ W : World, (Instr.slice 80 (.slice (some ⟨g, 0, none⟩) n c) (some (.int .i64 (k : Int))) none none).run Tryz.prog W = .ok (.slice X (n - k) (c - k)) W) ∧ Reads w w.heap.size 1 X (n - k) ((l.drop k).map fun x : Nat => .int .i64 (x : Int)) := by
  refine ⟨if c = k then some ⟨g, 0, none⟩ else (some (⟨g, 0, none⟩ : Addr)).map (·.add (k * 1)), fun W => ?_, ?_⟩
  · have he : Tryz.prog.elem 80 = 2 := by kernel_rfl
    have ht : Tryz.prog.underlying 80 = some (.slice (Tryz.prog.elem 80)) := by rw [he]; exact Tryz.underlying80
    have hr := run_slice_l (P := Tryz.prog) W 80 (some ⟨g, 0, none⟩) n c ht .i64 (k : Int) (by omega) (by omega)
    obtain ⟨i0, hi0, _, hz1, _⟩ := info_i64
    have hs : ((sizeOf (Tryz.prog.elem 80)).run Tryz.prog W) = .ok 1 W := by
      rw [he]
      simp [sizeOf, typeInfo, hi0, hz1]
    rw [hr, hs]
    simp [Result.andThen, sliced]
  · have := (Reads.of_own h.2).cut hk hc
    rw [List.map_drop]
    simpa using this
theorem Two.start {w : World} {B : Nat} {A : Option Addr} {n c : Nat} {o : List Nat} (h : IR w B A n c o) (hB : B ≤ w.heap.size) (x : Nat) :
    Two (w.alloc (.cells #[.int .i64 (x : Int)] 2)) B A n c o (some ⟨w.heap.size, 0, none⟩) 1 1 [x] :=
  ⟨h.alloc _, ⟨rfl, World.ownsRow_lit w #[.int .i64 (x : Int)] 1 hB (by decide) rfl⟩, fun g hg e => by
    have := (h.blk hg).2
    injection e with e
    injection e with e
    omega⟩
end Go.Proofs.YtalodfjplegibaaGreatDoor
namespace Go.Proofs.YtalodfjplegibaaGreatDoor
set_option linter.unusedSimpArgs false
open Go.RowKit
set_option linter.unusedVariables false

/-- base's result -/
def BaseRes (l : List Nat) (e : Ending) (w : World) (B : Nat) : Prop := ∃ A c o, e = .returned (.slice A (o.length) c) ∧ IR w B A o.length c o ∧ BInv o [] l 2100
set_option maxHeartbeats 6400000 in
set_option maxRecDepth 100000 in
theorem base_any (A : Option Addr) (n c : Nat) (l : List (Nat × Int)) (w : World) (hl : TR w A n l) (hn : n ≤ 17) (hN : ∀ x ∈ l, 0 < x.1 ∧ x.1 ≤ 1000000000000) :
    Calls Tryz.prog 59 #[.slice A n c] w fun e w' => BaseRes (l.map (·.1)) e w' w.heap.size ∧ Below w.heap.size w w' := by
  have HL : Sl _ := ⟨hl⟩
  have HN : Sl _ := ⟨hN⟩
  clear hl hN
  obtain ⟨i0, hi0, hz0, hz1, hz2⟩ := info_i64
  have HI64 : Sl _ := ⟨And.intro hi0 (And.intro hz0 (And.intro hz1 hz2))⟩
  clear hi0 hz0 hz1 hz2
  go_enter Tryz.func59, Tryz.ntmps59
  go_wp2_with fail
  go_loopg [3, 13] (n + 1) (fun k s3 s13 wr => ∃ (i : Nat) (A' : Option Addr) (c' : Nat) (o : List Nat), i ≤ n ∧ k = n - i + 1 ∧ s13 = .int .i64 i ∧ s3 = .slice A' o.length c' ∧ Below w.heap.size w wr ∧ Sl (IR wr w.heap.size A' o.length c' o ∧ BInv o [] ((l.map (·.1)).take i) (121 * i)))
  case atStart => exact ⟨0, none, 0, [], Nat.zero_le _, rfl, rfl, rfl, Below.refl _ _, ⟨IR.nil _ _, BInv.nil _⟩⟩
  case round =>
    obtain ⟨i, A1, c1, o, hi, hgk, rfl, rfl, hB, HI⟩ := hrel
    by_cases hin : i < n
    · obtain ⟨⟨nn, kk⟩, hx⟩ : ∃ x, l[i]? = some x := ⟨_, List.getElem?_eq_getElem (by rw [HL.out.1]; exact hin)⟩
      obtain ⟨ad, rfl, hab, e1, e2⟩ := (HL.out.below hB).cells hx
      have e3 : (ad.add (i * 2)).add 1 = ⟨(ad.add (i * 2)).block, (ad.add (i * 2)).off + 1, none⟩ := by
        generalize ad.add (i * 2) = a1
        simp [Addr.add]
      rw [← add_of_add, e3] at e2
      have hnn := HN.out _ (List.mem_of_getElem? hx)
      simp only [] at hnn e1 e2
      have HX : Sl _ := ⟨And.intro hx hnn⟩
      have HU : Sl _ := ⟨hB⟩
      clear hx hnn hB e3
      go_wp2_with fail
      go_step3
      go_wp2_with fail
      have hW2 := (HU.out.alloc HU.out.size (.cells #[.int .i64 (nn : Int), .int .i64 kk] 35)).alloc (Nat.le_trans HU.out.size (by simp)) (.cells #[.int .i64 (nn : Int)] 2)
      have HT := Two.start (HI.out.1.alloc (.cells #[.int .i64 (nn : Int), .int .i64 kk] 35)) (Nat.le_trans HU.out.size (by simp)) nn
      have HI2 : BInv o [nn] ((l.map (·.1)).take (i + 1)) (121 * (i + 1)) := by
        have h := HI.out.2.start HX.out.2.1 HX.out.2.2
        rw [List.take_add_one, List.getElem?_map, HX.out.1]
        exact h
      have es : (wr.alloc (.cells #[.int .i64 (nn : Int), .int .i64 kk] 35)).heap.size = wr.heap.size + 1 := by simp
      rw [es] at HT
      have HS : Sl _ := ⟨And.intro hW2 (And.intro HT HI2)⟩
      clear hW2 HT HI2 es HI
      go_step3
      go_wp2_with fail
      go_loopg [3, 6] (mz o [nn]) (fun k s3 s6 wl => ∃ (A2 : Option Addr) (c2 : Nat) (p : List Nat) (A3 : Option Addr) (n3 c3 : Nat) (wt : List Nat), s3 = .slice A2 p.length c2 ∧ s6 = .slice A3 n3 c3 ∧ Sl (Below w.heap.size w wl ∧ Two wl w.heap.size A2 p.length c2 p A3 n3 c3 wt ∧ BInv p wt ((l.map (·.1)).take (i + 1)) (121 * (i + 1)) ∧ mz p wt = k))
      case atStart => exact ⟨A1, c1, o, _, 1, 1, [nn], rfl, rfl, ⟨HS.out.1, HS.out.2.1, HS.out.2.2, rfl⟩⟩
      case round =>
        clear HS
        obtain ⟨A2, c2, p, A3, n3, c3, wt, rfl, rfl, HS⟩ := hrel
        obtain ⟨hbw, htw, hiv, hmz⟩ := HS.out
        rcases Nat.eq_zero_or_pos n3 with h0 | h0
        · subst h0
          clear hbw htw hiv hmz
          go_wp2_with fail
          rw [Exit.noGoto_normal]
          go_wp2_with fail
          obtain ⟨hbw, htw, hiv, hmz⟩ := HS.out
          obtain rfl : wt = [] := List.eq_nil_of_length_eq_zero htw.b.1
          go_roundg (n - (i + 1) + 1)
          case measure => rw [hgk]; omega
          case rel => exact ⟨i + 1, A2, c2, p, hin, rfl, by go_num, rfl, hbw, ⟨htw.a, hiv⟩⟩
        · obtain ⟨m, rfl⟩ : ∃ m, n3 = m + 1 := ⟨n3 - 1, by omega⟩
          obtain ⟨wt', x, rfl⟩ : ∃ wt' x, wt = wt' ++ [x] := by
            rcases List.eq_nil_or_concat wt with e | ⟨a, b, e⟩
            · have := htw.b.1; rw [e] at this; simp at this
            · exact ⟨a, b, by simpa using e⟩
          have hm : wt'.length = m := by have := htw.b.1; simp at this; omega
          obtain ⟨g3, rfl, hcc, hgb, hgl⟩ := htw.b.form (Nat.succ_pos _)
          have hcx := htw.b.cell (i := m) (x := x) (by rw [← hm]; simp)
          have hx0 := hiv.pos x (by simp)
          have hx1 := hiv.le x (by simp)
          have hpop := htw.pop
          rw [hm] at hpop
          have HS2 : Sl _ := ⟨And.intro hbw (And.intro hpop (And.intro hiv (And.intro hmz hm)))⟩
          have hml := mz_len p (wt' ++ [x]) hiv.cop.two
          have hbound : mz p (wt' ++ [x]) ≤ 2200 := Nat.le_trans hiv.mz (by omega)
          have hmb : m ≤ 2200 := by simp at hml; omega
          have hpb : p.length ≤ 2200 := by simp at hml; omega
          clear hbw htw hiv hmz HS hml hbound h0 hgb hgl hm hpop
          by_cases hx2 : x = 1
          · subst hx2
            go_wp2_with fail
            obtain ⟨hbw, htw, hiv, hmz, hm⟩ := HS2.out
            go_roundg (mz p wt')
            case measure => rw [← hmz]; exact mz_one p wt'
            case rel => exact ⟨A2, c2, p, _, m, c3, wt', rfl, rfl, ⟨hbw, htw, hiv.one, rfl⟩⟩
          · have hx3 : ((x : Int) == 1) = false := by rw [beq_eq_false_iff_ne]; omega
            go_wp2_with fail
            go_loopw [3, 6, 38] (fun s3 s6 s38 wq => ∃ j : Nat, j ≤ p.length ∧ s3 = .slice A2 p.length c2 ∧ s6 = .slice (some ⟨g3, 0, none⟩) m c3 ∧ s38 = .int .i64 j ∧ Sl ((∃ d, wq = wr.drewN d) ∧ ∀ b ∈ p.take j, Nat.gcd b x = 1)) (fun _ _ s38 _ => p.length - (RowKit.intOf s38).toNat)
            case atStart => exact ⟨0, Nat.zero_le _, rfl, rfl, rfl, ⟨⟨0, rfl⟩, fun b hb => by simp at hb⟩⟩
            case round =>
              obtain ⟨j, hj, rfl, rfl, rfl, HQ⟩ := hrel
              obtain ⟨d, rfl⟩ := HQ.out.1
              by_cases hjp : j < p.length
              · obtain ⟨b, hb⟩ : ∃ b, p[j]? = some b := ⟨_, List.getElem?_eq_getElem hjp⟩
                obtain ⟨g2, rfl, hcc2, _, hgl2⟩ := HS2.out.2.1.a.form (by omega)
                have hcb : (wr.drewN d).cell? ⟨g2, j, none⟩ = some (.int .i64 (b : Int)) := (HS2.out.2.1.a.drewN d).cell hb
                have hble : b ≤ 1000000000000 := HS2.out.2.2.1.le b (by simp [List.mem_of_getElem? hb])
                have hb2 : 2 ≤ b := HS2.out.2.2.1.cop.two b (List.mem_of_getElem? hb)
                have hG := fun W : World => rgcd_any b x W (by omega) (by omega)
                obtain ⟨g, hgd⟩ : ∃ g, Nat.gcd b x = g := ⟨_, rfl⟩
                rw [hgd] at hG
                have hg0 : 0 < g := by rw [← hgd]; exact Nat.gcd_pos_of_pos_right _ hx0
                have hgx : g ≤ x := by rw [← hgd]; exact Nat.gcd_le_right _ hx0
                have HGD : Sl _ := ⟨And.intro hgd hb⟩
                have HG : Sl (∀ W : World, Calls Tryz.prog 19 #[.int .i64 b, .int .i64 x] W fun e w' => e = .returned (.int .i64 g) ∧ ∃ m, w' = W.drewN m) := ⟨hG⟩
                clear hG hgd hb
                by_cases hg1 : 1 < g
                · go_wp2_with fail
                  refine (HG.out _).mono ?_; rintro e w1 ⟨rfl, d2, rfl⟩
                  rw [drew2]
                  go_wp2_with fail
                  have hj1 : IntKind.i64.wrap ((j : Int) + 1) = (j : Int) + 1 := by rw [IntKind.wrap_i64]; omega
                  have hjl : j + 1 ≤ p.length := hjp
                  have hjc : j ≤ c2 := by omega
                  have ha := HS2.out.2.1.a.drewN (d + d2 + 1)
                  obtain ⟨XA, hsl, hrd⟩ := ha.behind hjl hcc2
                  rw [show ((j + 1 : Nat) : Int) = (j : Int) + 1 by omega] at hsl
                  have hsplit : p = p.take j ++ b :: p.drop (j + 1) := by
                    have e1 := List.getElem?_eq_some_iff.1 HGD.out.2
                    obtain ⟨e1, e2⟩ := e1
                    rw [← e2, ← List.drop_eq_getElem_cons, List.take_append_drop]
                  have hfr : IR (wr.drewN (d + d2 + 1)) w.heap.size (some ⟨g2, 0, none⟩) j c2 (p.take j) := by
                    have h := ha
                    rw [← List.take_append_drop j p] at h
                    have h2 := h.front
                    rw [List.length_take, Nat.min_eq_left hj] at h2
                    exact h2
                  have HFR : Sl _ := ⟨And.intro hfr (And.intro hrd hsplit)⟩
                  have HBZ : Sl (w.heap.size ≤ (wr.drewN (d + d2 + 1)).heap.size) := ⟨(below_drewN HS2.out.1 (d + d2 + 1)).size⟩
                  clear ha hfr hrd hsplit
                  go_region_held3 (fun _ => True)
                      (trivial)
                      (first
                        | (refine step_append_any _ rfl (.tmp 50) (.tmp 54) _ rfl w.heap.size 2 i0 _ 1 8 Tryz.underlying80 HI64.out.1 HI64.out.2.1 HI64.out.2.2.1 HI64.out.2.2.2 rfl (by decide) (.slice (some ⟨g2, 0, none⟩) j c2) j _ (by simp [Act.eval, Act.put]) HFR.out.1.2 _ XA (p.length - (j + 1)) (c2 - (j + 1)) _ (by simp [Act.eval, Act.put]) HFR.out.2.1 (news_one _) (by unfold maxLen; omega) (by omega) HBZ.out ?_; intro v1 w1 hown1 hgr1 hat1)
                        | fail)
                  have htw0 : Two (wr.drewN (d + d2 + 1)) w.heap.size (some ⟨g2, 0, none⟩) j c2 (p.take j) (some ⟨g3, 0, none⟩) m c3 wt' := ⟨HFR.out.1, HS2.out.2.1.b.drewN _, HS2.out.2.1.ne⟩
                  have hbw1 := htw0.below (below_drewN HS2.out.1 (d + d2 + 1)) HBZ.out hgr1
                  obtain ⟨A4, c4, rfl, htw1⟩ := htw0.push hown1 hgr1 hat1
                  have en : j + (p.length - (j + 1)) = p.length - 1 := by omega
                  rw [en] at htw1
                  rw [en]
                  obtain ⟨bq, hbq⟩ : ∃ bq, b / g = bq := ⟨_, rfl⟩
                  obtain ⟨xq, hxq⟩ : ∃ xq, x / g = xq := ⟨_, rfl⟩
                  have hbl : bq ≤ b := by rw [← hbq]; exact Nat.div_le_self _ _
                  have hxl : xq ≤ x := by rw [← hxq]; exact Nat.div_le_self _ _
                  have ht1 : (b : Int).tdiv (g : Int) = (bq : Int) := by rw [Int.tdiv_eq_ediv_of_nonneg (by omega), ← hbq]; rfl
                  have ht2 : (x : Int).tdiv (g : Int) = (xq : Int) := by rw [Int.tdiv_eq_ediv_of_nonneg (by omega), ← hxq]; rfl
                  have hw1 : IntKind.i64.wrap (bq : Int) = (bq : Int) := by rw [IntKind.wrap_i64]; omega
                  have hw2 : IntKind.i64.wrap (xq : Int) = (xq : Int) := by rw [IntKind.wrap_i64]; omega
                  have hgz : ¬ (g = 0) := by omega
                  have hgne : ((g : Int) == 0) = false := by rw [beq_eq_false_iff_ne]; omega
                  have HQB : Sl _ := ⟨And.intro hbq hxq⟩
                  have htw3 : Two ((w1.drewN 1).alloc (.cells ([g, bq, xq].map fun x : Nat => Value.int .i64 (x : Int)).toArray 2)) w.heap.size A4 (p.length - 1) c4 (p.take j ++ p.drop (j + 1)) (some ⟨g3, 0, none⟩) m c3 wt' := (htw1.drewN 1).allocd _
                  have hbw3 : Below w.heap.size w ((w1.drewN 1).alloc (.cells ([g, bq, xq].map fun x : Nat => Value.int .i64 (x : Int)).toArray 2)) := (below_drewN hbw1 1).alloc hbw1.size _
                  have HT3 : Sl _ := ⟨And.intro htw3 hbw3⟩
                  have HZ3 : Sl (w.heap.size ≤ ((w1.drewN 1).alloc (.cells ([g, bq, xq].map fun x : Nat => Value.int .i64 (x : Int)).toArray 2)).heap.size) := ⟨hbw3.size⟩
                  clear htw3 hbw3 htw0 htw1 hbw1 hown1 hgr1 hat1 hbq hxq en HBZ hsl hj1
                  go_wp2_with fail
                  go_region_law (refine step_append_any _ rfl (.tmp 56) (.tmp 64) _ rfl w.heap.size 2 i0 _ 1 8 Tryz.underlying80 HI64.out.1 HI64.out.2.1 HI64.out.2.2.1 HI64.out.2.2.2 rfl (by decide) (.slice (some ⟨g3, 0, none⟩) m c3) m _ (by simp [Act.eval, Act.put]) HT3.out.1.b.2 _ (some ⟨w1.heap.size, 0, none⟩) 3 3 ([g, bq, xq].map fun x : Nat => .int .i64 (x : Int)) (by simp [Act.eval, Act.put]) (news_reads (w1.drewN 1) [g, bq, xq]) (news_one _) (by unfold maxLen; omega) (by omega) HZ3.out ?_; intro v1 w3 hown1 hgr1 hat1)
                  all_goals (
                    obtain ⟨A5, c5, rfl, htw5⟩ := HT3.out.1.symm.push hown1 hgr1 hat1
                    have hbw5 := HT3.out.1.symm.below HT3.out.2 HZ3.out hgr1
                    have HT5 : Sl _ := ⟨And.intro htw5.symm hbw5⟩
                    clear htw5 hbw5 hown1 hgr1 hat1 HZ3 HT3
                    go_wp2_with fail
                    obtain ⟨hbw, htw, hiv, hmz, hm⟩ := HS2.out
                    obtain ⟨e1, e2⟩ := HQB.out
                    subst e1 e2
                    have hlen : (p.take j ++ p.drop (j + 1)).length = p.length - 1 := by simp; omega
                    have d1 : g ∣ b := by rw [← HGD.out.1]; exact Nat.gcd_dvd_left _ _
                    have d3 : g ∣ x := by rw [← HGD.out.1]; exact Nat.gcd_dvd_right _ _
                    have hiv2 := hiv
                    have hmz2 := hmz
                    rw [HFR.out.2.2] at hiv2 hmz2
                    have hne0 := hiv2.cop.two b (by simp)
                    go_roundg (mz (p.take j ++ p.drop (j + 1)) (wt' ++ [g, b / g, x / g]))
                    case measure => rw [← hmz2]; exact mz_split _ _ _ (by omega) (by omega) hg1 d1 d3
                    case rel => exact ⟨A4, c4, p.take j ++ p.drop (j + 1), A5, m + 3, c5, _, by rw [hlen], rfl, ⟨HT5.out.2, by rw [hlen]; exact HT5.out.1, hiv2.split hg1 d1 d3, rfl⟩⟩)
                · obtain rfl : g = 1 := by omega
                  go_wp2_with fail
                  refine (HG.out _).mono ?_; rintro e w1 ⟨rfl, d2, rfl⟩
                  rw [drew2]
                  go_wp2_with fail
                  refine ⟨⟨j + 1, hjp, rfl, rfl, by go_num, ⟨⟨d + d2, rfl⟩, fun y hy => ?_⟩⟩, by simp [RowKit.intOf]; omega⟩
                  rw [List.take_add_one, HGD.out.2, List.mem_append] at hy
                  rcases hy with hy | hy
                  · exact HQ.out.2 y hy
                  · simp at hy; rw [hy]; exact HGD.out.1
              · obtain rfl : j = p.length := by omega
                have HTW : Sl _ := ⟨(HS2.out.2.1.drewN d).allocd (.cells #[.int .i64 (x : Int)] 2)⟩
                have HBW : Sl _ := ⟨(below_drewN HS2.out.1 d).alloc HS2.out.1.size (.cells #[.int .i64 (x : Int)] 2)⟩
                have HSZ : Sl (w.heap.size ≤ ((wr.drewN d).alloc (.cells #[.int .i64 (x : Int)] 2)).heap.size) := ⟨HBW.out.size⟩
                clear hjp
                go_wp2_with (at_builtin; go_loud (refine wpList_append_any _ rfl (.tmp 67) (.tmp 69) _ rfl w.heap.size 2 i0 _ 1 8 Tryz.underlying80 HI64.out.1 HI64.out.2.1 HI64.out.2.2.1 HI64.out.2.2.2 rfl (by decide) _ p.length _ rfl HTW.out.a.2 _ (some ⟨wr.heap.size, 0, none⟩) 1 1 ([x].map fun x : Nat => .int .i64 (x : Int)) rfl (news_reads (wr.drewN d) [x]) (news_one [x]) (by unfold maxLen; omega) (by omega) HSZ.out ?_; intro v1 w3 hown1 hg1 hat1))
                obtain ⟨hbw, htw, hiv, hmz, hm⟩ := HS2.out
                obtain ⟨A4, c', rfl, htw2⟩ := HTW.out.push hown1 hg1 hat1
                have hq := HQ.out.2
                rw [List.take_of_length_le (Nat.le_refl _)] at hq
                have hx4 : 2 ≤ x := by omega
                go_roundg (mz (p ++ [x]) wt')
                case measure => rw [← hmz]; exact mz_move p wt' x
                case rel => exact ⟨A4, c', p ++ [x], _, m, c3, wt', by rw [List.length_append]; rfl, rfl, ⟨HTW.out.below HBW.out HSZ.out hg1, by rw [List.length_append]; exact htw2, hiv.move hx4 hq, rfl⟩⟩
    · obtain rfl : i = n := by omega
      clear hin
      go_wp2_with fail
      go_ret
      have h := HI.out
      rw [List.take_of_length_le (by rw [List.length_map, HL.out.1]; exact Nat.le_refl _)] at h
      exact ⟨⟨A1, c1, o, rfl, h.1, ⟨h.2.cop, h.2.pos, h.2.le, h.2.gen, Nat.le_trans h.2.mz (by omega)⟩⟩, hB⟩
end Go.Proofs.YtalodfjplegibaaGreatDoor
namespace Go.Proofs.YtalodfjplegibaaGreatDoor
set_option linter.unusedSimpArgs false
open Go.RowKit
set_option linter.unusedVariables false

theorem vb_le {b n : Nat} (hb : 2 ≤ b) (hn : 0 < n) (h : n ≤ 1000000000000) : vb b n ≤ 40 := by
  have key : ∀ f n, 0 < n → 2 ^ mult b f n ≤ n := by
    intro f
    induction f with
    | zero => intro n h; simp [mult]; omega
    | succ f ih =>
      intro n h
      rw [mult]
      split
      · rename_i hm
        obtain ⟨c, rfl⟩ := Nat.dvd_of_mod_eq_zero hm
        have hc : 0 < c := Nat.pos_of_ne_zero fun h0 => by subst h0; simp at h
        rw [Nat.mul_div_cancel_left _ (by omega), Nat.pow_succ]
        have h1 := ih c hc
        have h2 := Nat.mul_le_mul_right c hb
        omega
      · simp; omega
  have h1 := key n n hn
  rcases Nat.lt_or_ge 40 (mult b n n) with h2 | h2
  · have := Nat.pow_le_pow_right (n := 2) (by decide) h2
    have e : 2 ^ (40 + 1) = 2199023255552 := by decide
    omega
  · exact h2
/-- terms of which the exponents fit -/
def okE (l : List (Nat × Int)) : Prop := l.length ≤ 17 ∧ ∀ x ∈ l, 0 < x.1 ∧ x.1 ≤ 1000000000000 ∧ x.2.natAbs ≤ 10000000000000000
theorem expo_le {b : Nat} (hb : 2 ≤ b) : ∀ l : List (Nat × Int), (∀ x ∈ l, 0 < x.1 ∧ x.1 ≤ 1000000000000 ∧ x.2.natAbs ≤ 10000000000000000) → (expo b l).natAbs ≤ l.length * 400000000000000000
  | [], _ => by simp [expo]
  | (n, k) :: l, h => by
    have h1 := h _ List.mem_cons_self
    have h2 := expo_le hb l fun x hx => h x (List.mem_cons_of_mem _ hx)
    simp only [] at h1
    have h3 := vb_le hb h1.1 h1.2.1
    rw [expo, List.length_cons]
    have h4 : (k * (vb b n : Int)).natAbs ≤ 10000000000000000 * 40 := by
      rw [Int.natAbs_mul]
      exact Nat.mul_le_mul h1.2.2 (by simpa using h3)
    omega
set_option maxHeartbeats 6400000 in
set_option maxRecDepth 100000 in
theorem one_any (A : Option Addr) (n c : Nat) (l : List (Nat × Int)) (w : World) (hl : TR w A n l) (hok : okE l) :
    Calls Tryz.prog 39 #[.slice A n c] w fun e w' => e = .returned (.bool (decide (up l = down l))) ∧ Below w.heap.size w w' := by
  have hn : n ≤ 17 := by rw [← hl.1]; exact hok.1
  have HBS : Sl _ := ⟨base_any A n c l w hl hn (fun x hx => ⟨(hok.2 x hx).1, (hok.2 x hx).2.1⟩)⟩
  have HL : Sl _ := ⟨hl⟩
  have HK : Sl _ := ⟨hok⟩
  clear hl hok
  go_enter Tryz.func39, Tryz.ntmps39
  go_wp2_with fail
  refine HBS.out.mono ?_; rintro e w1 ⟨⟨A1, c1, o, rfl, hI, hO⟩, hB⟩
  have hol : o.length ≤ 2100 := by
    have h1 := mz_len o [] hO.cop.two
    have h2 := hO.mz
    simp at h1
    omega
  have HO : Sl _ := ⟨And.intro hI hO⟩
  have HU : Sl _ := ⟨hB⟩
  have HL1 : Sl _ := ⟨HL.out.below hB⟩
  clear hI hO hB HBS
  have hiff : (∀ b ∈ o, expo b l = 0) ↔ up l = down l := HO.out.2.cop.one_iff fun x hx => by
    have := HO.out.2.gen x.1 (List.mem_map.2 ⟨x, hx, rfl⟩)
    simpa using this
  have HIF : Sl _ := ⟨hiff⟩
  clear hiff
  go_wp2_with fail
  go_loopw [12] (fun s12 wr => ∃ i : Nat, i ≤ o.length ∧ s12 = .int .i64 i ∧ Sl (Below w1.heap.size w1 wr ∧ ∀ b ∈ o.take i, expo b l = 0)) (fun s12 _ => o.length - (RowKit.intOf s12).toNat)
  case atStart => exact ⟨0, Nat.zero_le _, rfl, ⟨Below.refl _ _, fun b hb => by simp at hb⟩⟩
  case round =>
    obtain ⟨i, hi, rfl, HR⟩ := hrel
    by_cases hin : i < o.length
    · obtain ⟨b, hb⟩ : ∃ b, o[i]? = some b := ⟨_, List.getElem?_eq_getElem hin⟩
      have hb2 : 2 ≤ b := HO.out.2.cop.two b (List.mem_of_getElem? hb)
      obtain ⟨g, rfl, _, _, hgl⟩ := HO.out.1.form (by omega)
      have hcb : wr.cell? ⟨g, i, none⟩ = some (.int .i64 (b : Int)) := by
        rw [HR.out.1.cell (p := ⟨g, i, none⟩) hgl]
        exact HO.out.1.cell hb
      have HBB : Sl _ := ⟨hb⟩
      have hbl : b ≤ 1000000000000 := HO.out.2.le b (by simp [List.mem_of_getElem? hb])
      clear hb
      go_wp2_with fail
      go_loopw [5, 18] (fun s5 s18 wq => ∃ (j : Nat) (z : Int), j ≤ n ∧ s5 = .int .i64 z ∧ s18 = .int .i64 j ∧ Sl (Below w1.heap.size w1 wq ∧ expo b (l.take j) = z)) (fun _ s18 _ => n - (RowKit.intOf s18).toNat)
      case atStart => exact ⟨0, 0, Nat.zero_le _, rfl, rfl, ⟨HR.out.1, by simp [expo]⟩⟩
      case round =>
        obtain ⟨j, z, hj, rfl, rfl, HZ⟩ := hrel
        by_cases hjn : j < n
        · obtain ⟨⟨nn, kk⟩, hx⟩ : ∃ x, l[j]? = some x := ⟨_, List.getElem?_eq_getElem (by rw [HL1.out.1]; exact hjn)⟩
          obtain ⟨ad, rfl, hab, e1, e2⟩ := (HL1.out.below HZ.out.1).cells hx
          have e3 : (ad.add (j * 2)).add 1 = ⟨(ad.add (j * 2)).block, (ad.add (j * 2)).off + 1, none⟩ := by
            generalize ad.add (j * 2) = a1
            simp [Addr.add]
          rw [← add_of_add, e3] at e2
          have hnn := HK.out.2 _ (List.mem_of_getElem? hx)
          simp only [] at hnn e1 e2
          have hvb := vb_le hb2 hnn.1 hnn.2.1
          have hzl := expo_le hb2 (l.take j) (fun x hx => HK.out.2 x (List.mem_of_mem_take hx))
          rw [HZ.out.2, List.length_take] at hzl
          have hz2 : z.natAbs ≤ 16 * 400000000000000000 := Nat.le_trans hzl (Nat.mul_le_mul_right _ (by omega))
          have HZ2 : Sl _ := ⟨hz2⟩
          have HX : Sl _ := ⟨And.intro hx (And.intro hnn hvb)⟩
          have HBW := HZ.out.1.alloc HZ.out.1.size (.cells #[.int .i64 (nn : Int), .int .i64 kk] 35)
          have HBX : Sl _ := ⟨HBW⟩
          clear hx hnn hvb hzl hz2 e3 HBW
          go_wp2_with fail
          go_loopw [5, 8] (fun s5 s8 wx => ∃ (m t : Nat), 0 < m ∧ m ≤ 1000000000000 ∧ wx = wr.alloc (.cells #[.int .i64 (nn : Int), .int .i64 kk] 35) ∧ s8 = .int .i64 m ∧ s5 = .int .i64 (z + kk * t) ∧ Sl (t + vb b m = vb b nn)) (fun _ s8 _ => (RowKit.intOf s8).toNat)
          case atStart => exact ⟨nn, 0, HX.out.2.1.1, HX.out.2.1.2.1, rfl, rfl, by simp, ⟨by omega⟩⟩
          case round =>
            obtain ⟨m, t, hm0, hm1, rfl, rfl, rfl, HV⟩ := hrel
            have hmod : (m : Int).tmod (b : Int) = ((m % b : Nat) : Int) := by rw [Int.tmod_eq_emod_of_nonneg (by omega)]; omega
            have hbz : ¬ (b = 0) := by omega
            have hd := vb_div hb2 hm0
            by_cases hmb : m % b = 0
            · rw [if_pos hmb] at hd
              rw [hmb] at hmod
              have hdiv : (m : Int).tdiv (b : Int) = ((m / b : Nat) : Int) := by rw [Int.tdiv_eq_ediv_of_nonneg (by omega)]; rfl
              have hq0 : 0 < m / b := Nat.div_pos (Nat.le_of_dvd hm0 (Nat.dvd_of_mod_eq_zero hmb)) (by omega)
              have hq1 : m / b < m := Nat.div_lt_self hm0 (by omega)
              have hV := HV.out
              have ht : t + 1 ≤ 40 := by have := HX.out.2.2; omega
              have hnew : Sl (t + 1 + vb b (m / b) = vb b nn) := ⟨by omega⟩
              have hkt : (kk * ((t : Int) + 1)).natAbs ≤ 10000000000000000 * 40 := by
                rw [Int.natAbs_mul]
                exact Nat.mul_le_mul HX.out.2.1.2.2 (by omega)
              have hadd : z + kk * (t : Int) + kk = z + kk * ((t : Int) + 1) := by rw [Int.mul_add, Int.mul_one]; omega
              have hwr : IntKind.i64.wrap (z + kk * (t : Int) + kk) = z + kk * ((t : Int) + 1) := by
                rw [hadd]
                have := HZ2.out
                generalize kk * ((t : Int) + 1) = y at *
                rw [IntKind.wrap_i64]; omega
              obtain ⟨zn, hzn⟩ : ∃ zn, z + kk * ((t : Int) + 1) = zn := ⟨_, rfl⟩
              rw [hzn] at hwr
              have HZN : Sl _ := ⟨hzn⟩
              clear hd hV hkt hadd hmb hzn
              generalize m / b = q at *
              generalize z + kk * (t : Int) = zc at *
              go_wp2_with fail
              refine ⟨⟨q, t + 1, hq0, by omega, by first | rfl | trivial, by first | rfl | trivial, ?_, hnew⟩, by simp [RowKit.intOf]; omega⟩
              rw [← HZN.out]
              rfl
            · rw [if_neg hmb] at hd
              have hne : ((m % b : Nat) : Int) ≠ 0 := by omega
              have hbq : (((m % b : Nat) : Int) == 0) = false := by rw [beq_eq_false_iff_ne]; exact hne
              have hfin : Sl (expo b (l.take (j + 1)) = z + kk * (t : Int)) := ⟨by
                have hV := HV.out
                rw [hd, Nat.add_zero] at hV
                rw [List.take_add_one, HX.out.1]
                show expo b (l.take j ++ [(nn, kk)]) = _
                rw [expo_snoc, HZ.out.2, hV]⟩
              clear hd hmb
              generalize m % b = q at *
              generalize z + kk * (t : Int) = zc at *
              go_wp2_with fail
              exact ⟨⟨j + 1, zc, hjn, rfl, by go_num, ⟨HBX.out, hfin.out⟩⟩, by simp [RowKit.intOf]; omega⟩
        · obtain rfl : j = n := by omega
          have hz : expo b l = z := by
            have h := HZ.out.2
            rw [List.take_of_length_le (by rw [HL1.out.1]; exact Nat.le_refl _)] at h
            exact h
          by_cases h0 : z = 0
          · subst h0
            have HZ0 : Sl _ := ⟨hz⟩
            clear hz
            go_wp2_with fail
            refine ⟨⟨i + 1, hin, by go_num, ⟨HZ.out.1, fun y hy => ?_⟩⟩, by simp [RowKit.intOf]; omega⟩
            rw [List.take_add_one, HBB.out, List.mem_append] at hy
            rcases hy with hy | hy
            · exact HR.out.2 y hy
            · simp at hy; rw [hy]; exact HZ0.out
          · have hd : decide (up l = down l) = false := by
              rw [decide_eq_false_iff_not, ← HIF.out]
              intro h
              rw [h b (List.mem_of_getElem? HBB.out)] at hz
              exact h0 hz.symm
            have HD : Sl _ := ⟨hd⟩
            clear hd hz
            go_wp2_with fail
            go_ret
            exact ⟨by rw [HD.out]; rfl, HU.out.trans (HZ.out.1.mono HU.out.size)⟩
    · obtain rfl : i = o.length := by omega
      have hd : decide (up l = down l) = true := by
        rw [decide_eq_true_iff, ← HIF.out]
        intro b hb
        have h := HR.out.2
        rw [List.take_of_length_le (Nat.le_refl _)] at h
        exact h b hb
      have HD : Sl _ := ⟨hd⟩
      clear hd hin
      go_wp2_with fail
      go_ret
      exact ⟨by rw [HD.out]; rfl, HU.out.trans (HR.out.1.mono HU.out.size)⟩
end Go.Proofs.YtalodfjplegibaaGreatDoor
