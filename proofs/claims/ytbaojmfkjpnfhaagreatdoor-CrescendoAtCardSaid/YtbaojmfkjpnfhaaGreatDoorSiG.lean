/- Rows of int64 and rows of rows of a call's own; the groups of a plan (plain). -/
import Derived.Test.YtbaojmfkjpnfhaaGreatDoorSiF
namespace Go.Proofs.YtbaojmfkjpnfhaaGreatDoor
set_option linter.unusedSimpArgs false
open Go.RowKit
set_option linter.unusedVariables false

theorem own_own_ne {w : World} {b b' s s' n n' : Nat} {e e' : TypeId} {v v' : Value} {xs xs' : List Value} (h : w.ownsRow b e s v n xs) (h' : w.ownsRow b' e' s' v' n' xs') (he : e ≠ e') (k : Nat) (hk : v.ownBlock = some k) : v'.ownBlock ≠ some k := by
  rcases h'.2 with ⟨rfl, _⟩ | ⟨g, cap, cur, rfl, _, hh, _⟩
  · simp [Value.ownBlock]
  · intro hk2
    have hg : g = k := by simpa [Value.ownBlock] using hk2
    subst hg
    exact own_blk_ne (t := e') (cs := cur) h hh he hk
theorem OI.alloc {w : World} {base : Nat} {A : Option Addr} {n c : Nat} {l : List Int} (h : OI w base A n c l) (o : Obj) : OI (w.alloc o) base A n c l := World.ownsRow.alloc h o
theorem II.made (w : World) (z : Int) (t : TypeId) : II (w.alloc (.cells #[.int .i64 z] t)) (some ⟨w.heap.size, 0, none⟩) 1 [z] := by
  refine ⟨rfl, rfl, fun _ => ⟨⟨w.heap.size, 0, none⟩, rfl, by simp, fun j u hu => ?_⟩⟩
  have hj : j = 0 := by
    have := (List.getElem?_eq_some_iff.1 hu).1
    simp at this
    exact this
  subst hj
  have : u = .int .i64 z := by simpa [iv] using hu.symm
  rw [this]
  exact (Blk.new w t #[.int .i64 z]).cell 0
/-- a row of int64 of a call's own -/
def OL (w : World) (base : Nat) (A : Option Addr) (n c : Nat) (l : List Int) : Prop := w.ownsRow base 2 1 (.slice A n c) n (l.map iv)
theorem OL.len {w : World} {base : Nat} {A : Option Addr} {n c : Nat} {l : List Int} (h : OL w base A n c l) : l.length = n := by
  have := h.1
  simpa using this
theorem OL.ii {w : World} {base : Nat} {A : Option Addr} {n c : Nat} {l : List Int} (h : OL w base A n c l) : II w A n l := ⟨h.len, Reads.of_own h⟩
theorem OL.nil (w : World) (base : Nat) : OL w base none 0 0 [] := World.ownsRow_nil _ _ _ _
theorem OL.alloc {w : World} {base : Nat} {A : Option Addr} {n c : Nat} {l : List Int} (h : OL w base A n c l) (o : Obj) : OL (w.alloc o) base A n c l := World.ownsRow.alloc h o
theorem OL.below {w w' : World} {base : Nat} {A : Option Addr} {n c : Nat} {l : List Int} (h : OL w base A n c l) (hb : Below w.heap.size w w') : OL w' base A n c l :=
  own_mv h (Mv.of_below hb) (fun k hk => by have := (World.ownsRow.lt h k hk).2; omega)
theorem OL.grown {w w' : World} {row : Option Nat} {base : Nat} {A : Option Addr} {n c : Nat} {l : List Int} (h : OL w base A n c l) (hg : w.grownBy w' row) (hne : ∀ k, (Value.slice A n c).ownBlock = some k → row ≠ some k) : OL w' base A n c l := by
  refine World.ownsRow.kept h hg ?_
  cases hb : (Value.slice A n c).ownBlock with
  | none => exact .inl rfl
  | some k => exact .inr (fun e => hne k hb e.symm)
theorem infoL64 : ∃ i, Tryz.prog.info? 2 = some i ∧ i.zero = some (.int .i64 0) ∧ i.size = 1 ∧ i.bytes = 8 := by
  have h : (Tryz.prog.info? 2).map (fun i => (i.zero, i.size, i.bytes)) = some (some (.int .i64 0), 1, 8) := by kernel_rfl
  obtain ⟨i, hi, he⟩ := Option.map_eq_some_iff.1 h
  injection he with e1 e2
  injection e2 with e2 e3
  exact ⟨i, hi, e1, e2, e3⟩
theorem wpList_append_ol {ops : Array Oper} {rest : List Oper} {o : Oper} {a : Act} {w : World} {Q : Exit → Act → World → Prop} (hgd : o.guard = none) (s x : Operand)
    (ho : o.op = .call { callee := .builtin .append, args := #[s, x], argTypes := #[70, 70] })
    (base : Nat) (A : Option Addr) (n c : Nat) (l : List Int) (hs : a.eval s = .slice A n c) (hown : OL w base A n c l)
    (B : Option Addr) (m d : Nat) (k : List Int) (hx : a.eval x = .slice B m d) (hr : II w B m k) (hnm : n + m ≤ 1000000) (hbase : base ≤ w.heap.size)
    (h : ∀ A' c' w', OL w' base A' (n + m) c' (l ++ k) → w.grownBy w' (Value.slice A n c).ownBlock → ((Value.slice A' (n + m) c').ownBlock = (Value.slice A n c).ownBlock ∨ (Value.slice A' (n + m) c').ownBlock = some w.heap.size) → wpList Tryz.prog ops Q rest (a.put o.dst (.slice A' (n + m) c')) w') :
    wpList Tryz.prog ops Q (o :: rest) a w := by
  obtain ⟨i, h1, h2, h3, h4⟩ := infoL64
  refine wpList_append_any w hgd s x _ ho base 2 i _ 1 8 Tryz.underlying70 h1 h2 h3 h4 rfl (by decide) _ n _ hs hown w.heap.size B m d (k.map iv) hx hr.2 (fun u hu => ?_) (by unfold maxLen; omega) (by omega) hbase (fun v' w' h5 h6 h7 => ?_)
  · obtain ⟨z, _, rfl⟩ := List.mem_map.1 hu
    rfl
  · rw [← List.map_append] at h5
    rcases h5.2 with ⟨rfl, h0⟩ | ⟨g, cap, cur, rfl, _⟩
    · have hn0 : n + m = 0 := h0
      have e : Value.slice none 0 0 = Value.slice none (n + m) 0 := by rw [hn0]
      rw [e] at h5 h7 ⊢
      exact h _ _ _ h5 h6 h7
    · exact h _ _ _ h5 h6 h7
/-- a slice of integers as a value -/
structure SlV where
  A : Option Addr
  n : Nat
  c : Nat
  l : List Int
def SlV.val (s : SlV) : Value := .slice s.A s.n s.c
/-- a row of rows of a call's own -/
structure OG (w : World) (base : Nat) (A : Option Addr) (n c : Nat) (L : List SlV) : Prop where
  row : w.ownsRow base 31 1 (.slice A n c) n (L.map SlV.val)
  all : ∀ s ∈ L, OI w base s.A s.n s.c s.l
theorem OG.nil (w : World) (base : Nat) : OG w base none 0 0 [] := ⟨World.ownsRow_nil _ _ _ _, fun s hs => by cases hs⟩
theorem OG.len {w : World} {base : Nat} {A : Option Addr} {n c : Nat} {L : List SlV} (h : OG w base A n c L) : L.length = n := by
  have := h.row.1
  simpa using this
theorem OG.below {w w' : World} {base : Nat} {A : Option Addr} {n c : Nat} {L : List SlV} (h : OG w base A n c L) (hb : Below w.heap.size w w') : OG w' base A n c L :=
  ⟨own_mv h.row (Mv.of_below hb) (fun k hk => by have := (World.ownsRow.lt h.row k hk).2; omega), fun s hs => (h.all s hs).below hb⟩
theorem infoSl : ∃ i, Tryz.prog.info? 31 = some i ∧ i.zero = some (.slice none 0 0) ∧ i.size = 1 ∧ i.bytes = 24 := by
  have h : (Tryz.prog.info? 31).map (fun i => (i.zero, i.size, i.bytes)) = some (some (.slice none 0 0), 1, 24) := by kernel_rfl
  obtain ⟨i, hi, he⟩ := Option.map_eq_some_iff.1 h
  injection he with e1 e2
  injection e2 with e2 e3
  exact ⟨i, hi, e1, e2, e3⟩
/-- a row of its own is appended to a row of rows -/
theorem wpList_append_og {ops : Array Oper} {rest : List Oper} {o : Oper} {a : Act} {w : World} {Q : Exit → Act → World → Prop} (hgd : o.guard = none) (s x : Operand)
    (ho : o.op = .call { callee := .builtin .append, args := #[s, x], argTypes := #[67, 67] })
    (base : Nat) (A : Option Addr) (n c : Nat) (L : List SlV) (hs : a.eval s = .slice A n c) (w0 : World) (t : TypeId) (y : SlV) (hw : w = w0.alloc (.cells #[y.val] t)) (hown : OG w0 base A n c L)
    (hy : OI w0 base y.A y.n y.c y.l) (hx : a.eval x = .slice (some ⟨w0.heap.size, 0, none⟩) 1 1) (hnm : n + 1 ≤ 1000000) (hbase : base ≤ w0.heap.size)
    (h : ∀ A' c' w', OG w' base A' (n + 1) c' (L ++ [y]) → w.grownBy w' (Value.slice A n c).ownBlock → wpList Tryz.prog ops Q rest (a.put o.dst (.slice A' (n + 1) c')) w') :
    wpList Tryz.prog ops Q (o :: rest) a w := by
  obtain ⟨i, h1, h2, h3, h4⟩ := infoSl
  subst hw
  have hb : Below w0.heap.size w0 (w0.alloc (.cells #[y.val] t)) := (Below.refl _ _).alloc (Nat.le_refl _) _
  have hO := hown.below hb
  have hY := hy.below hb
  refine wpList_append_any _ hgd s x _ ho base 31 i _ 1 24 Tryz.underlying67 h1 h2 h3 h4 rfl (by decide) _ n _ hs hO.row (w0.alloc (.cells #[y.val] t)).heap.size (some ⟨w0.heap.size, 0, none⟩) 1 1 [y.val] hx ?_ (fun u hu => ?_) (by unfold maxLen; omega) (by omega) (Nat.le_trans hbase hb.size) (fun v' w' h5 h6 h7 => ?_)
  · refine ⟨rfl, fun _ => ⟨⟨w0.heap.size, 0, none⟩, rfl, by simp, fun j u hu => ?_⟩⟩
    have hj : j = 0 := by
      have := (List.getElem?_eq_some_iff.1 hu).1
      simp at this
      exact this
    subst hj
    have : u = y.val := by simpa using hu.symm
    rw [this]
    exact (Blk.new w0 t #[y.val]).cell 0
  · have : u = y.val := by simpa using hu
    rw [this]
    rfl
  · rw [show L.map SlV.val ++ [y.val] = (L ++ [y]).map SlV.val by simp] at h5
    have hall : ∀ z ∈ L ++ [y], OI w' base z.A z.n z.c z.l := fun z hz => by
      have h0 : OI (w0.alloc (.cells #[y.val] t)) base z.A z.n z.c z.l := by
        rcases List.mem_append.1 hz with hz | hz
        · exact hO.all z hz
        · rw [List.mem_singleton.1 hz]; exact hY
      exact h0.grown h6 (fun k hk => own_own_ne h0 hO.row (by decide) k hk)
    rcases h5.2 with ⟨rfl, h0⟩ | ⟨g, cap, cur, rfl, _⟩
    · cases h0
    · exact h _ _ _ ⟨h5, hall⟩ h6
theorem OG.rd {w : World} {base : Nat} {A : Option Addr} {n c : Nat} {L : List SlV} (h : OG w base A n c L) : RowG w A n 1 (fun s => [SlV.val s]) L := by
  refine ⟨h.len, ?_, fun _ => rfl⟩
  have := Reads.of_own h.row
  have e : ∀ L : List SlV, L.flatMap (fun s => [SlV.val s]) = L.map SlV.val := fun L => by
    induction L with
    | nil => rfl
    | cons y L ih => rw [List.flatMap_cons, ih]; rfl
  rw [e]
  exact this
/-- the groups' ends -/
def grpE (l : List Int) (S : Int) : Nat → Nat → List (Nat × Nat)
  | 0, _ => []
  | n+1, f => (f, max f (rem l S n)) :: grpE l S n (max f (rem l S n))
def cutL (od : List Int) (p : Nat × Nat) : List Int := (od.take p.2).drop p.1
/-- the sorted weights -/
def wtL (ws : List Int) : List Int := (ordL ws).map fun x => gt ws x.toNat
/-- weights out of range -/
def rngW (ws : List Int) (k : Nat) : Int := if gt ws k < 0 ∨ 1073741824 < gt ws k then 7 else 0
/-- what Plan returns: groups, step, error -/
def planE (ws : List Int) (steps : Int) : Int := if 80 < ws.length then 3 else if steps < 1 ∨ 60 < steps then 2 else fstE (rngW ws) ws.length 0
def planS (ws : List Int) (steps : Int) : Int := if planE ws steps = 0 then lst (wtL ws) (steps.toNat - 1) 0 else 0
def planG (ws : List Int) (steps : Int) : List (List Int) := if planE ws steps = 0 then (grpE (wtL ws) (planS ws steps) steps.toNat 0).map (cutL (ordL ws)) else []
theorem rngW_ok {ws : List Int} (h : fstE (rngW ws) ws.length 0 = 0) (j : Nat) : 0 ≤ gt ws j ∧ gt ws j ≤ 1073741824 := by
  rcases Nat.lt_or_ge j ws.length with hj | hj
  · have := fstE_zero h j (Nat.zero_le _) (by omega)
    unfold rngW at this
    split at this
    · cases this
    · omega
  · rw [gt, List.getElem?_eq_none hj]
    exact ⟨Int.le_refl _, by decide⟩
theorem wtL_len (ws : List Int) : (wtL ws).length = ws.length := by rw [wtL, List.length_map]; exact ordF_len ws _
theorem wtL_bd {ws : List Int} (h : fstE (rngW ws) ws.length 0 = 0) (j : Nat) : 0 ≤ gt (wtL ws) j ∧ gt (wtL ws) j ≤ 1073741824 := by
  unfold wtL
  rcases Nat.lt_or_ge j (ordL ws).length with hj | hj
  · rw [gt, List.getElem?_map, List.getElem?_eq_getElem hj]
    exact rngW_ok h _
  · rw [gt, List.getElem?_map, List.getElem?_eq_none hj]
    simp
theorem psm_le {l : List Int} (h : ∀ j, 0 ≤ gt l j ∧ gt l j ≤ 1073741824) : ∀ k, 0 ≤ psm l k ∧ psm l k ≤ (k : Int) * 1073741824
  | 0 => by rw [psm]; omega
  | k+1 => by
    have ih := psm_le h k
    have h1 := h k
    rw [psm, Int.natCast_succ, Int.add_mul]
    omega
end Go.Proofs.YtbaojmfkjpnfhaaGreatDoor
