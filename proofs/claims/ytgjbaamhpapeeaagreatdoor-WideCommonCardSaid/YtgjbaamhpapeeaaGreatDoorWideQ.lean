/- Package wide: arguments that are fractions. -/
import Derived.Test.YtgjbaamhpapeeaaGreatDoorWideP
namespace Go.Proofs.YtgjbaamhpapeeaaGreatDoor
set_option linter.unusedSimpArgs false
open Go.RowKit
set_option linter.unusedVariables false

/-- a fraction that is handed in: its value, and the limbs that its slices read as -/
structure QV where
  neg : Bool
  A : Option Addr
  n : Nat
  c : Nat
  B : Option Addr
  m : Nat
  d : Nat
  la : List Nat
  lb : List Nat
def QV.val (q : QV) : Value := qv q.neg q.A q.n q.c q.B q.m q.d
structure QV.ok (w : World) (q : QV) : Prop where
  num : Arg w q.A q.n q.c q.la
  den : Arg w q.B q.m q.d q.lb
theorem QV.ok.below {w w' : World} {q : QV} (h : q.ok w) (hb : Below w.heap.size w w') : q.ok w' := ⟨h.num.below hb, h.den.below hb⟩
def QV.long (q : QV) : Bool := decide (512 < q.la.length) || decide (512 < q.lb.length)
def QV.proper (q : QV) : Bool := properS q.neg q.la q.lb

set_option maxHeartbeats 400000 in
theorem longq_any (q : QV) (w : World) (h : q.ok w) :
    Calls Tryz.prog 65 #[q.val] w fun e w' => e = .returned (.bool q.long) ∧ Below w.heap.size w w' := by
  obtain ⟨neg, A, n, c, B, m, d, la, lb⟩ := q
  have hna := h.num.1.len
  have hnb := h.den.1.len
  simp only at hna hnb
  have e1 : QV.long ⟨neg, A, n, c, B, m, d, la, lb⟩ = (decide ((512 : Int) < (n : Int)) || decide ((512 : Int) < (m : Int))) := by
    unfold QV.long
    simp only
    rw [hna, hnb]
    congr 1 <;> (rw [Bool.eq_iff_iff, decide_eq_true_iff, decide_eq_true_iff]; omega)
  have hnl : (n : Int) ≤ 9223372036854775807 := by have := h.num.2; unfold maxLen at this; simp at this; omega
  have hml : (m : Int) ≤ 9223372036854775807 := by have := h.den.2; unfold maxLen at this; simp at this; omega
  have HE : Sl _ := ⟨e1⟩
  clear e1 hna hnb h
  unfold QV.val qv
  have hu : Below w.heap.size w (w.alloc (.cells #[.bool neg, .slice A n c, .slice B m d] 25)) := (Below.refl _ _).alloc (Nat.le_refl _) _
  by_cases h1 : (512 : Int) < (n : Int)
  · have h2 : decide ((512 : Int) < (n : Int)) = true := by simpa using h1
    rw [h2, Bool.true_or] at HE
    go_enter Tryz.func65, Tryz.ntmps65
    go_wp2
    go_ret
    exact ⟨by rw [HE.out]; rfl, hu⟩
  · have h2 : decide ((512 : Int) < (n : Int)) = false := by simpa using h1
    rw [h2, Bool.false_or] at HE
    go_enter Tryz.func65, Tryz.ntmps65
    go_wp2
    go_ret
    exact ⟨by rw [HE.out]; rfl, hu⟩

/-- block g holds these fractions -/
def QCells (w : World) (g k : Nat) (qs : Nat → QV) : Prop := ∃ t cs, Blk w g t cs ∧ ∀ i, i < k → cs[i * 3]? = some (.bool (qs i).neg) ∧ cs[i * 3 + 1]? = some (.slice (qs i).A (qs i).n (qs i).c) ∧ cs[i * 3 + 2]? = some (.slice (qs i).B (qs i).m (qs i).d)
theorem QCells.below {w w' : World} {g k : Nat} {qs : Nat → QV} (h : QCells w g k qs) (hb : Below w.heap.size w w') : QCells w' g k qs := by
  obtain ⟨t, cs, h1, h2⟩ := h
  exact ⟨t, cs, h1.below hb h1.lt, h2⟩
theorem QCells.cells {w : World} {g k : Nat} {qs : Nat → QV} (h : QCells w g k qs) {i : Nat} (hi : i < k) :
    w.cell? ⟨g, i * 3, none⟩ = some (.bool (qs i).neg) ∧ w.cell? ⟨g, i * 3 + 1, none⟩ = some (.slice (qs i).A (qs i).n (qs i).c) ∧ w.cell? ⟨g, i * 3 + 2, none⟩ = some (.slice (qs i).B (qs i).m (qs i).d) := by
  obtain ⟨t, cs, h1, h2⟩ := h
  obtain ⟨a, b, c⟩ := h2 i hi
  exact ⟨(h1.cell _).trans a, (h1.cell _).trans b, (h1.cell _).trans c⟩

set_option maxHeartbeats 400000 in
theorem indexq_any (g k c : Nat) (qs : Nat → QV) (w : World) (hk : k ≤ 1000) (hQ : QCells w g k qs) (hok : ∀ i, i < k → (qs i).ok w) :
    Calls Tryz.prog 97 #[.slice (some ⟨g, 0, none⟩) k c, .func (.func 65) #[] #[]] w fun e w' => IdxR (fun i => (qs i).long) k e ∧ Below w.heap.size w w' := by
  have HC : Sl _ := ⟨hQ⟩
  have HF : Sl _ := ⟨hok⟩
  clear hQ hok
  have hrun : ∀ (args : Array Value) (w : World), (callFunc 65 args).run Tryz.prog w = .ok (.enter 65 args) w := fun a w => by go_simp
  go_enter Tryz.func97, Tryz.ntmps97
  go_wp2
  go_loopw [8] (fun s8 wr => ∃ i : Nat, i ≤ k ∧ s8 = .int .i64 i ∧ (∀ j, j < i → (qs j).long = false) ∧ Below w.heap.size w wr) (fun s8 _ => k - (intOf s8).toNat)
  case atStart => exact ⟨0, Nat.zero_le _, rfl, fun j hj => absurd hj (Nat.not_lt_zero _), Below.refl _ _⟩
  case round =>
    obtain ⟨i, hi, rfl, hp, hB⟩ := hrel
    have HP : Sl _ := ⟨hp⟩
    clear hp
    by_cases hik : i < k
    · have hcs := (HC.out.below hB).cells hik
      have hcl := longq_any (qs i) wr ((HF.out i hik).below hB)
      unfold QV.val qv at hcl
      generalize hpi : (qs i).long = p at hcl
      have HCL : Sl _ := ⟨hcl⟩
      have HH : Sl _ := ⟨hpi⟩
      obtain ⟨x0, x1, x2⟩ := hcs
      clear hcl hpi
      go_wp2_with fail
      refine HCL.out.mono ?_; rintro e w' ⟨rfl, hb⟩
      have hB2 := hB.trans (hb.mono hB.size)
      rcases p with _ | _
      · go_wp2_with fail
        refine ⟨⟨i + 1, hik, by go_num, fun j hj => ?_, hB2⟩, by simp [intOf]; omega⟩
        rcases Nat.lt_or_ge j i with h1 | h1
        · exact HP.out j h1
        · obtain rfl : j = i := by omega
          exact HH.out
      · go_wp2_with fail
        go_ret
        exact ⟨IdxR.hit (p := fun i => (qs i).long) hik HH.out, hB2⟩
    · go_wp2
      go_ret
      exact ⟨IdxR.miss (fun j hj => HP.out j (by omega)), hB⟩

set_option maxHeartbeats 400000 in
theorem containsq_any (g k c : Nat) (qs : Nat → QV) (w : World) (hk : k ≤ 1000) (hQ : QCells w g k qs) (hok : ∀ i, i < k → (qs i).ok w) :
    Calls Tryz.prog 64 #[.slice (some ⟨g, 0, none⟩) k c, .func (.func 65) #[] #[]] w fun e w' => e = .returned (.bool ((List.range k).any fun i => (qs i).long)) ∧ Below w.heap.size w w' := by
  have H : Sl _ := ⟨indexq_any g k c qs w hk hQ hok⟩
  clear hQ hok
  go_enter Tryz.func64, Tryz.ntmps64
  go_wp2_with fail
  refine H.out.mono ?_; rintro e w' ⟨⟨r, rfl, hr, h0, h1⟩, hb⟩
  have HR : Sl _ := ⟨hr⟩
  clear hr
  go_wp2_with fail
  go_ret
  refine ⟨?_, hb⟩
  rw [← HR.out]; rfl

/-- the error of arguments that are fractions -/
def checkQ (qs : Nat → QV) (k : Nat) : Int := if (List.range k).any (fun i => (qs i).long) then 3 else if (List.range k).any (fun i => !(qs i).proper) then 2 else 0
def QV.cells (q : QV) : List Value := [.bool q.neg, .slice q.A q.n q.c, .slice q.B q.m q.d]
/-- fractions, and an error -/
def QsRes (qs : Nat → QV) (k : Nat) (e : Ending) (w : World) : Prop :=
  (checkQ qs k = 0 ∧ ∃ g c, e = .returned (.tuple #[.slice (some ⟨g, 0, none⟩) k c, .int .i64 0]) ∧ QCells w g k qs) ∨ (checkQ qs k ≠ 0 ∧ e = .returned (.tuple #[.slice none 0 0, .int .i64 (checkQ qs k)]))

/-- the same, with the place where they lie: a block of the function's own -/
def QsNew (b : Nat) (qs : Nat → QV) (k : Nat) (e : Ending) (w : World) : Prop :=
  (checkQ qs k = 0 ∧ ∃ g c, e = .returned (.tuple #[.slice (some ⟨g, 0, none⟩) k c, .int .i64 0]) ∧ QCells w g k qs ∧ b ≤ g) ∨ (checkQ qs k ≠ 0 ∧ e = .returned (.tuple #[.slice none 0 0, .int .i64 (checkQ qs k)]))
theorem reads_three (w : World) (q : QV) (t : TypeId) (cs : Array Value) (h : cs = q.cells.toArray) : Reads (w.alloc (.cells cs t)) (w.heap.size + 1) 3 (some ⟨w.heap.size, 0, none⟩) 1 q.cells := by
  subst h
  refine ⟨rfl, fun _ => ⟨_, rfl, Nat.lt_succ_self _, fun j x hx => ?_⟩⟩
  have hb := Blk.new w t q.cells.toArray
  have : w.heap.size < (w.alloc (.cells q.cells.toArray t)).heap.size := hb.lt
  rw [show ((⟨w.heap.size, 0, none⟩ : Addr).add j) = ⟨w.heap.size, j, none⟩ by unfold Addr.add; split <;> simp [*]]
  rw [hb.cell]
  simpa using hx
theorem flat_cells (qs : Nat → QV) : ∀ (k i : Nat), i < k → ∀ r, r < 3 → ((List.range k).flatMap fun j => (qs j).cells)[i * 3 + r]? = (qs i).cells[r]?
  | 0, i, h, _, _ => absurd h (Nat.not_lt_zero _)
  | k+1, i, h, r, hr => by
    have hl : ∀ n, ((List.range n).flatMap fun j => (qs j).cells).length = n * 3 := by
      intro n
      induction n with
      | zero => rfl
      | succ n ih => rw [List.range_succ, List.flatMap_append, List.length_append, ih]; simp [QV.cells]; omega
    rw [List.range_succ, List.flatMap_append]
    rcases Nat.lt_or_ge i k with h1 | h1
    · rw [List.getElem?_append_left (by rw [hl]; omega)]
      exact flat_cells qs k i h1 r hr
    · obtain rfl : i = k := by omega
      rw [List.getElem?_append_right (by rw [hl]; omega), hl, Nat.add_sub_cancel_left]
      simp
theorem qcells_of_own {w : World} {base gg cap k : Nat} {t : TypeId} {qs : Nat → QV} (h : w.ownsRow base t 3 (.slice (some ⟨gg, 0, none⟩) k cap) k ((List.range k).flatMap fun j => (qs j).cells)) (hk : 0 < k) : QCells w gg k qs := by
  rcases h.2 with ⟨h', _⟩ | ⟨g', cap', cur, h', _, hg, _, _, _, htake⟩
  · simp at h'
  · simp only [Value.slice.injEq, Option.some.injEq, Addr.mk.injEq, and_true, true_and] at h'
    obtain ⟨rfl, rfl⟩ := h'
    refine ⟨t, cur, hg, fun i hi => ?_⟩
    have hc : ∀ r, r < 3 → cur[i * 3 + r]? = (qs i).cells[r]? := fun r hr => by
      have h1 := flat_cells qs k i hi r hr
      rw [← htake, List.getElem?_take, if_pos (by omega)] at h1
      simpa using h1
    exact ⟨hc 0 (by decide), hc 1 (by decide), hc 2 (by decide)⟩
set_option maxHeartbeats 800000 in
set_option maxRecDepth 100000 in
theorem checked_new (g k c : Nat) (qs : Nat → QV) (w : World) (hk0 : 0 < k) (hk : k ≤ 1000) (hQ : QCells w g k qs) (hok : ∀ i, i < k → (qs i).ok w) :
    Calls Tryz.prog 35 #[.slice (some ⟨g, 0, none⟩) k c] w fun e w' => QsNew w.heap.size qs k e w' ∧ Below w.heap.size w w' := by
  obtain ⟨i0, hi0, hz0, hz1, hz2⟩ : ∃ i, Tryz.prog.info? 60 = some i ∧ i.zero = some (.agg #[.bool false, .slice none 0 0, .slice none 0 0]) ∧ i.size = 3 ∧ i.bytes = 56 := by
    have h : (Tryz.prog.info? 60).map (fun i => (i.zero, i.size, i.bytes)) = some (some (.agg #[.bool false, .slice none 0 0, .slice none 0 0]), 3, 56) := by kernel_rfl
    obtain ⟨i, hi, he⟩ := Option.map_eq_some_iff.1 h
    injection he with e1 e2
    injection e2 with e2 e3
    exact ⟨i, hi, e1, e2, e3⟩
  have HI : Sl _ := ⟨And.intro hi0 (And.intro hz0 (And.intro hz1 hz2))⟩
  have hcf := containsq_any g k c qs w hk hQ hok
  have hck : checkQ qs k = if (List.range k).any (fun i => (qs i).long) then 3 else if (List.range k).any (fun i => !(qs i).proper) then 2 else 0 := rfl
  have HQ : Sl _ := ⟨hQ⟩
  have HF : Sl _ := ⟨hok⟩
  clear hQ hok hi0 hz0 hz1 hz2
  rcases hlong : (List.range k).any (fun i => (qs i).long) with _ | _
  · rw [hlong] at hcf hck
    have HC : Sl _ := ⟨hcf⟩
    have HK : Sl _ := ⟨hck⟩
    clear hcf hck hlong
    go_enter Tryz.func35, Tryz.ntmps35
    go_wp2_with fail
    refine HC.out.mono ?_; rintro e w1 ⟨rfl, hb1⟩
    go_wp2_with fail
    go_loopw [4, 11] (fun s4 s11 wr => ∃ i : Nat, i ≤ k ∧ s11 = .int .i64 i ∧ (∀ j, j < i → (qs j).proper = true) ∧ wr.ownsRow w.heap.size 60 3 s4 i ((List.range i).flatMap fun j => (qs j).cells) ∧ Below w.heap.size w wr) (fun _ s11 _ => k - (intOf s11).toNat)
    case atStart => exact ⟨0, Nat.zero_le _, rfl, fun j hj => absurd hj (Nat.not_lt_zero _), World.ownsRow_nil _ _ _ _, hb1⟩
    case round =>
      obtain ⟨i, hi, rfl, hp, hown, hB⟩ := hrel
      have HP : Sl _ := ⟨hp⟩
      have HO : Sl _ := ⟨hown⟩
      clear hp hown
      by_cases hik : i < k
      · obtain ⟨x0, x1, x2⟩ := (HQ.out.below hB).cells hik
        have hal : Below wr.heap.size wr (wr.alloc (.cells #[.bool (qs i).neg, .slice (qs i).A (qs i).n (qs i).c, .slice (qs i).B (qs i).m (qs i).d] 25)) := (Below.refl _ _).alloc (Nat.le_refl _) _
        have hok := (((HF.out i hik).below hB).below hal)
        have hpr := Proper_any (qs i).neg (qs i).A (qs i).B _ _ _ _ _ _ _ hok.num hok.den
        unfold qv at hpr
        have hpd : (qs i).proper = properS (qs i).neg (qs i).la (qs i).lb := rfl
        generalize hpp : properS (qs i).neg (qs i).la (qs i).lb = p at *
        have HPR : Sl _ := ⟨hpr⟩
        have HPD : Sl _ := ⟨hpd⟩
        have hbl := Blk.new wr 25 #[.bool (qs i).neg, .slice (qs i).A (qs i).n (qs i).c, .slice (qs i).B (qs i).m (qs i).d]
        clear hpr hpp hpd hok
        go_wp2_with fail
        refine HPR.out.mono ?_; rintro e w2 ⟨rfl, hb2⟩
        have hb12 := hal.trans (hb2.mono hal.size)
        have hB2 := hB.trans (hb12.mono hB.size)
        have hbl2 := hbl.below hb2 hbl.lt
        have HO2 : Sl _ := ⟨own_below HO.out hb12⟩
        rcases p with _ | _
        · go_wp2_with fail
          go_ret2
          have hc2 : checkQ qs k = 2 := by
            rw [HK.out, if_neg (by simp), if_pos]
            simp only [List.any_eq_true, List.mem_range]
            exact ⟨i, hik, by rw [HPD.out]; rfl⟩
          exact ⟨.inr ⟨by rw [hc2]; decide, by rw [hc2]; rfl⟩, hB2⟩
        · have y0 := hbl2.cell 0
          have y1 := hbl2.cell 1
          have y2 := hbl2.cell 2
          simp at y0 y1 y2
          have HOA := HO2.out.alloc (.cells #[.bool (qs i).neg, .slice (qs i).A (qs i).n (qs i).c, .slice (qs i).B (qs i).m (qs i).d] 60)
          have hone : ∀ u ∈ (qs i).cells, u.oneCell' = true := by
            intro u hu
            simp [QV.cells] at hu
            rcases hu with rfl | rfl | rfl <;> rfl
          go_wp2_with (at_builtin; go_loud (refine wpList_append_any _ rfl (.tmp 18) (.tmp 26) _ rfl w.heap.size 60 i0 _ 3 56 Tryz.underlying55 HI.out.1 HI.out.2.1 HI.out.2.2.1 HI.out.2.2.2 rfl (by decide) _ i _ rfl HOA _ (some ⟨w2.heap.size, 0, none⟩) 1 1 (qs i).cells rfl (reads_three w2 (qs i) _ _ rfl) hone (by unfold maxLen; omega) (by omega) (Nat.le_trans hB2.size (by simp)) ?_; intro v1 w3 hown1 hg1 hat1))
          have hBa : Below w.heap.size w (w2.alloc (.cells #[.bool (qs i).neg, .slice (qs i).A (qs i).n (qs i).c, .slice (qs i).B (qs i).m (qs i).d] 60)) := hB2.alloc hB2.size _
          have hown := HO.out.lt
          have hB3 := hBa.grown hg1 (Nat.le_trans hB2.size (by simp)) (fun k hk => (hown k hk).1)
          refine ⟨⟨i + 1, hik, by go_num, fun j hj => ?_, ?_, hB3⟩, by simp [intOf]; omega⟩
          · rcases Nat.lt_or_ge j i with h1 | h1
            · exact HP.out j h1
            · obtain rfl : j = i := by omega
              exact HPD.out
          · rw [List.range_succ, List.flatMap_append]
            simpa using hown1
      · obtain rfl : i = k := by omega
        have hc0 : checkQ qs i = 0 := by
          rw [HK.out, if_neg (by simp), if_neg]
          simp only [List.any_eq_true, List.mem_range, not_exists, not_and]
          intro j hj
          rw [HP.out j hj]; simp
        obtain ⟨gg, cap, hv, _, _⟩ := HO.out.form hk0
        have hqc := qcells_of_own (hv ▸ HO.out) hk0
        have HQC : Sl _ := ⟨hqc⟩
        have HC0 : Sl _ := ⟨hc0⟩
        clear hqc hc0
        subst hv
        have hge := (HO.out.lt gg rfl).1
        go_wp2_with fail
        go_ret2
        exact ⟨.inl ⟨HC0.out, gg, cap, rfl, HQC.out, hge⟩, hB⟩
  · rw [hlong] at hcf hck
    have HC : Sl _ := ⟨hcf⟩
    have HK : Sl _ := ⟨hck⟩
    clear hcf hck hlong
    go_enter Tryz.func35, Tryz.ntmps35
    go_wp2_with fail
    refine HC.out.mono ?_; rintro e w1 ⟨rfl, hb1⟩
    go_wp2_with fail
    go_ret2
    have hc2 : checkQ qs k = 3 := by rw [HK.out]; rfl
    exact ⟨.inr ⟨by rw [hc2]; decide, by rw [hc2]; rfl⟩, hb1⟩
theorem checked_any (g k c : Nat) (qs : Nat → QV) (w : World) (hk0 : 0 < k) (hk : k ≤ 1000) (hQ : QCells w g k qs) (hok : ∀ i, i < k → (qs i).ok w) :
    Calls Tryz.prog 35 #[.slice (some ⟨g, 0, none⟩) k c] w fun e w' => QsRes qs k e w' ∧ Below w.heap.size w w' :=
  (checked_new g k c qs w hk0 hk hQ hok).mono fun e w' ⟨h, hb⟩ => ⟨h.imp (fun ⟨h0, g, c, h1, h2, _⟩ => ⟨h0, g, c, h1, h2⟩) id, hb⟩
end Go.Proofs.YtgjbaamhpapeeaaGreatDoor
