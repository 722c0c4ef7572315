/- Package wide, second part: cmp, plus. -/
import Derived.Test.YtcmofoggdchofaaDoorWideA
namespace Go.Proofs.YtcmofoggdchofaaDoor
set_option linter.unusedSimpArgs false
open Go.RowKit
set_option linter.unusedVariables false

set_option maxHeartbeats 400000 in
theorem cmp_any (A B : Option Addr) (n m c d a b : Nat) (w : World) (ha : U w A n (limbs a)) (hb : U w B m (limbs b)) (hn : n ≤ 4294967296) (hm : m ≤ 4294967296) :
    Calls Tryd.prog 81 #[.slice A n c, .slice B m d] w fun e w' => e = .returned (.int .i64 (cmpN a b)) ∧ ∃ q, w' = w.drewN q := by
  have hla := ha.len
  have hlb := hb.len
  rcases Nat.lt_trichotomy n m with hlt | heq | hgt
  · have e : cmpN a b = -1 := cmpN_lt (limbs_len_lt (by omega))
    have E := Lib.hid e
    clear hla hlb e
    go_enter Tryd.func81, Tryd.ntmps81
    go_wp2
    go_ret
    exact ⟨by rw [E.out]; rfl, 0, rfl⟩
  · subst heq
    have HA := Lib.hid hla
    have HB := Lib.hid hlb
    clear hla hlb
    go_enter Tryd.func81, Tryd.ntmps81
    go_wp2
    go_loopw [5] (fun i wr => ∃ k q : Nat, k ≤ n ∧ i = .int .i64 ((k : Int) - 1) ∧ (limbs a).drop k = (limbs b).drop k ∧ wr = w.drewN q) (fun i _ => (intOf i + 1).toNat)
    case atStart => exact ⟨n, 0, Nat.le_refl _, rfl, by rw [List.drop_of_length_le (by rw [HA.out]; omega), List.drop_of_length_le (by rw [HB.out]; omega)], rfl⟩
    case round =>
      obtain ⟨k, q, hk, rfl, hd, rfl⟩ := hrel
      have HD := Lib.hid hd; clear hd
      rcases k with _ | k
      · go_wp2
        go_ret
        have e : a = b := by have := HD.out; simp at this; exact limbs_inj this
        subst e
        exact ⟨by rw [cmpN_eq]; rfl, _, rfl⟩
      · obtain ⟨ad, rfl, hbd, hca⟩ := ha.cell (k := k) (by omega)
        obtain ⟨bd, rfl, hbd', hcb⟩ := hb.cell (k := k) (by omega)
        rcases Nat.lt_trichotomy ((limbs a)[k]?.getD 0) ((limbs b)[k]?.getD 0) with h1 | h1 | h1
        · have hv : a < b := by have := valOf_lt_of (HA.out.trans HB.out.symm) (by rw [HA.out]; omega) (limbs_lt a) HD.out h1; rwa [valOf_limbs, valOf_limbs] at this
          have E := Lib.hid (cmpN_lt hv)
          have g1 : ((((limbs a)[k]?.getD 0 : Nat) : Int) == ((limbs b)[k]?.getD 0 : Nat)) = false := by rw [beq_eq_false_iff_ne]; omega
          go_wp2
          go_quiet (fail)
          go_wp2
          go_quiet (fail)
          go_wp2
          go_ret
          exact ⟨by rw [E.out]; rfl, _, drew3 _ _ _ _⟩
        · have HE := Lib.hid h1
          rw [← h1] at hcb
          clear h1
          go_wp2
          go_quiet (fail)
          go_wp2
          exact ⟨⟨k, _, by omega, rfl, drop_step (HA.out.trans HB.out.symm) (by rw [HA.out]; omega) HD.out HE.out, rfl⟩, by simp [intOf]⟩
        · have hv : b < a := by have := valOf_lt_of (HB.out.trans HA.out.symm) (by rw [HB.out]; omega) (limbs_lt b) HD.out.symm h1; rwa [valOf_limbs, valOf_limbs] at this
          have E := Lib.hid (cmpN_gt hv)
          have g1 : ((((limbs a)[k]?.getD 0 : Nat) : Int) == ((limbs b)[k]?.getD 0 : Nat)) = false := by rw [beq_eq_false_iff_ne]; omega
          go_wp2
          go_quiet (fail)
          go_wp2
          go_quiet (fail)
          go_wp2
          go_ret
          exact ⟨by rw [E.out]; rfl, _, drew3 _ _ _ _⟩
  · have e : cmpN a b = 1 := cmpN_gt (limbs_len_lt (by omega))
    have E := Lib.hid e
    clear hla hlb e
    go_enter Tryd.func81, Tryd.ntmps81
    go_wp2
    go_ret
    exact ⟨by rw [E.out]; rfl, 0, rfl⟩

theorem plus_step {X A B x y c i : Nat} (h : X + c * LB ^ i = A + B) : (X + LB ^ i * ((x + y + c) % LB)) + ((x + y + c) / LB) * LB ^ (i+1) = (A + LB ^ i * x) + (B + LB ^ i * y) := by
  have e := Nat.mod_add_div (x + y + c) LB
  rw [Nat.pow_succ]
  generalize LB ^ i = P at *
  generalize (x + y + c) % LB = r at *
  generalize (x + y + c) / LB = q at *
  have : P * (r + LB * q) = P * (x + y + c) := by rw [e]
  simp only [Nat.mul_add] at this
  have e2 : q * (P * LB) = P * (LB * q) := by rw [Nat.mul_comm, Nat.mul_assoc]
  rw [e2]
  have e3 : c * P = P * c := Nat.mul_comm _ _
  omega

/-- a new row of limbs: block g, of n cells, the first ones written: o -/
def Out (w : World) (g n : Nat) (o : List Nat) : Prop := w.rowIs g 125 n (fun j => lv (o[j]?.getD 0)) ∧ ∀ x ∈ o, x < LB
theorem Out.set {w : World} {g n : Nat} {o : List Nat} (h : Out w g n o) {x : Nat} (hx : x < LB) : Out (w.setCell ⟨g, o.length, none⟩ (.int .u32 x)) g n (o ++ [x]) := by
  refine ⟨(h.1.set o.length _).congr fun j hj => ?_, fun y hy => ?_⟩
  · by_cases e : j = o.length
    · subst e; simp [lv]
    · rw [if_neg e]
      rcases Nat.lt_or_ge j o.length with h1 | h1
      · rw [List.getElem?_append_left h1]
      · rw [List.getElem?_eq_none h1, List.getElem?_eq_none (by simp; omega)]
  · rcases List.mem_append.1 hy with h1 | h1
    · exact h.2 y h1
    · simp at h1; omega
theorem Out.setI {w : World} {g n : Nat} {o : List Nat} (h : Out w g n o) {i : Nat} (hi : o.length = i) {x : Nat} {v : Int} (hv : v = x) (hx : x < LB) : Out (w.setCell ⟨g, i, none⟩ (.int .u32 v)) g n (o ++ [x]) := by
  subst hi hv; exact h.set hx
theorem int_eq {k : IntKind} {a b : Int} (h : a = b) : Value.int k a = .int k b := by rw [h]
theorem Out.U {w : World} {g n : Nat} {o : List Nat} (h : Out w g n o) (hn : o.length = n) : U w (some ⟨g, 0, none⟩) n o := by
  refine ⟨⟨by simp [hn], fun _ => ⟨_, rfl, h.1.lt, fun j u hu => ?_⟩⟩, h.2⟩
  have hj : j < o.length := by
    rcases Nat.lt_or_ge j o.length with h1 | h1
    · exact h1
    · rw [List.getElem?_eq_none (by simpa using h1)] at hu; cases hu
  have := h.1.cell (i := j) (by omega)
  rw [List.getElem?_map, List.getElem?_eq_getElem hj] at hu
  simp at hu; subst hu
  have e : (Addr.add ⟨g, 0, none⟩ j) = ⟨g, j, none⟩ := by unfold Addr.add; split <;> simp_all
  rw [e, this, List.getElem?_eq_getElem hj]; rfl
theorem Out.drewN {w : World} {g n : Nat} {o : List Nat} (h : Out w g n o) (k : Nat) : Out (w.drewN k) g n o := h
theorem Out.made (w : World) (n : Nat) : Out (w.alloc (.cells (madeCells #[.int .u32 0] n) 125)) w.heap.size n [] := ⟨(World.rowIs_made w _ n _).congr fun j _ => by simp [lv], by simp⟩

theorem info32 : (Tryd.prog.info? 125).map (fun i => (i.zero, i.size, i.bytes)) = some (some (.int .u32 0), 1, 4) := by kernel_rfl

set_option maxHeartbeats 400000 in
theorem plus_ge (A B : Option Addr) (n m c d a b : Nat) (w : World) (ha : U w A n (limbs a)) (hb : U w B m (limbs b)) (hn : n ≤ 4294967296) (hm : m ≤ n) :
    Calls Tryd.prog 87 #[.slice A n c, .slice B m d] w fun e w' => Limbs (limbs (a + b)) e w' ∧ Below w.heap.size w w' := by
  have hla := ha.len
  have hlb := hb.len
  have HA := Lib.hid hla
  have HB := Lib.hid hlb
  clear hla hlb
  have hmk := run_make_row' (P := Tryd.prog) 113 125 (.int .u32 0) 4 Tryd.underlying113 info32 rfl .i64 .i64 (n+1) (by omega) (by omega)
  simp only [Int.natCast_add, Int.natCast_one] at hmk
  go_enter Tryd.func87, Tryd.ntmps87
  go_wp2
  clear hmk
  go_loopw [6, 22] (fun s6 s22 wr => ∃ (i cy : Nat) (o : List Nat), i ≤ n ∧ s6 = .int .u64 cy ∧ s22 = .int .i64 i ∧ o.length = i ∧ cy ≤ 1 ∧ valOf o + cy * LB ^ i = valOf ((limbs a).take i) + valOf ((limbs b).take i) ∧ Out wr w.heap.size (n+1) o ∧ Below w.heap.size w wr) (fun _ s22 _ => n - (intOf s22).toNat)
  case atStart => exact ⟨0, 0, [], Nat.zero_le _, rfl, rfl, rfl, by omega, by simp [valOf], Out.made _ _, (Below.refl _ _).alloc (Nat.le_refl _) _⟩
  case round =>
    obtain ⟨i, cy, o, hi, rfl, rfl, hol, hcy, hval, hO, hB⟩ := hrel
    have HV := Lib.hid hval
    have HL := Lib.hid hol
    clear hval hol
    by_cases hin : i < n
    · obtain ⟨ad, rfl, hbd, hca⟩ := (ha.below hB).cell (k := i) hin
      have hx : (((limbs a)[i]?.getD 0 : Nat) : Int) < 4294967296 := by have := ha.lt i; unfold LB at this; omega
      have hc0 := hO.1.cell (i := i) (by omega)
      have hf0 := hO.1.frozen i
      by_cases him : i < m
      · obtain ⟨bd, rfl, hbd', hcb⟩ := (hb.below hB).cell (k := i) him
        have hy : (((limbs b)[i]?.getD 0 : Nat) : Int) < 4294967296 := by have := hb.lt i; unfold LB at this; omega
        go_wp2
        have hs := plus_step (x := (limbs a)[i]?.getD 0) (y := (limbs b)[i]?.getD 0) HV.out
        refine ⟨⟨i + 1, ((limbs a)[i]?.getD 0 + (limbs b)[i]?.getD 0 + cy) / LB, o ++ [((limbs a)[i]?.getD 0 + (limbs b)[i]?.getD 0 + cy) % LB], hin, int_eq (by unfold LB; omega), by go_num, by rw [List.length_append, HL.out]; rfl, by unfold LB; omega, ?_, hO.setI HL.out (by unfold LB; omega) (Nat.mod_lt _ LB_pos), hB.setCell (Nat.le_refl _) _⟩, by simp [intOf]; omega⟩
        rw [valOf_snoc, HL.out, valOf_take_succ _ _ (by rw [HA.out]; exact hin), valOf_take_succ _ _ (by rw [HB.out]; exact him)]
        exact hs
      · have him' : decide (i < m) = false := by simp; omega
        go_wp2
        have hs := plus_step (x := (limbs a)[i]?.getD 0) (y := 0) HV.out
        simp only [Nat.add_zero, Nat.mul_zero] at hs
        refine ⟨⟨i + 1, ((limbs a)[i]?.getD 0 + cy) / LB, o ++ [((limbs a)[i]?.getD 0 + cy) % LB], hin, int_eq (by unfold LB; omega), by go_num, by rw [List.length_append, HL.out]; rfl, by unfold LB; omega, ?_, hO.setI HL.out (by unfold LB; omega) (Nat.mod_lt _ LB_pos), hB.setCell (Nat.le_refl _) _⟩, by simp [intOf]; omega⟩
        have e1 : (limbs b).take (i+1) = limbs b := List.take_of_length_le (by rw [HB.out]; omega)
        have e2 : (limbs b).take i = limbs b := List.take_of_length_le (by rw [HB.out]; omega)
        rw [e2] at hs
        rw [valOf_snoc, HL.out, valOf_take_succ _ _ (by rw [HA.out]; exact hin), e1]
        exact hs
    · obtain rfl : i = n := by omega
      have hc0 := hO.1.cell (i := i) (by omega)
      have hf0 := hO.1.frozen i
      have hcy' : (cy : Int) ≤ 1 := by omega
      have hU : U (wr.setCell ⟨w.heap.size, i, none⟩ (.int .u32 cy)) (some ⟨w.heap.size, 0, none⟩) (i+1) (o ++ [cy]) :=
        (hO.setI HL.out rfl (by unfold LB; omega)).U (by rw [List.length_append, HL.out]; rfl)
      go_wp2_with (refine (trim_any _ _ _ _ _ hU (by omega) (by unfold maxLen; omega)).mono ?_; rintro e w' ⟨⟨A', c', rfl, h1, h2, h3⟩, rfl⟩)
      go_ret
      have e : trimN (o ++ [cy]) = limbs (a + b) := by
        rw [trimN_limbs hU.2, valOf_snoc, HL.out]
        have := HV.out
        rw [List.take_of_length_le (by rw [HA.out]; omega), List.take_of_length_le (by rw [HB.out]; omega), valOf_limbs, valOf_limbs, Nat.mul_comm] at this
        rw [this]
      rw [← e]
      exact ⟨⟨A', c', rfl, h1, h2, h3⟩, hB.setCell (Nat.le_refl _) _⟩
set_option maxHeartbeats 400000 in
theorem plus_lt (A B : Option Addr) (n m c d a b : Nat) (w : World) (ha : U w A n (limbs a)) (hb : U w B m (limbs b)) (hn : n ≤ 4294967296) (hm : m < n) :
    Calls Tryd.prog 87 #[.slice B m d, .slice A n c] w fun e w' => Limbs (limbs (a + b)) e w' ∧ Below w.heap.size w w' := by
  have hla := ha.len
  have hlb := hb.len
  have HA := Lib.hid hla
  have HB := Lib.hid hlb
  clear hla hlb
  have hmk := run_make_row' (P := Tryd.prog) 113 125 (.int .u32 0) 4 Tryd.underlying113 info32 rfl .i64 .i64 (n+1) (by omega) (by omega)
  simp only [Int.natCast_add, Int.natCast_one] at hmk
  go_enter Tryd.func87, Tryd.ntmps87
  go_wp2
  clear hmk
  go_loopw [6, 22] (fun s6 s22 wr => ∃ (i cy : Nat) (o : List Nat), i ≤ n ∧ s6 = .int .u64 cy ∧ s22 = .int .i64 i ∧ o.length = i ∧ cy ≤ 1 ∧ valOf o + cy * LB ^ i = valOf ((limbs a).take i) + valOf ((limbs b).take i) ∧ Out wr w.heap.size (n+1) o ∧ Below w.heap.size w wr) (fun _ s22 _ => n - (intOf s22).toNat)
  case atStart => exact ⟨0, 0, [], Nat.zero_le _, rfl, rfl, rfl, by omega, by simp [valOf], Out.made _ _, (Below.refl _ _).alloc (Nat.le_refl _) _⟩
  case round =>
    obtain ⟨i, cy, o, hi, rfl, rfl, hol, hcy, hval, hO, hB⟩ := hrel
    have HV := Lib.hid hval
    have HL := Lib.hid hol
    clear hval hol
    by_cases hin : i < n
    · obtain ⟨ad, rfl, hbd, hca⟩ := (ha.below hB).cell (k := i) hin
      have hx : (((limbs a)[i]?.getD 0 : Nat) : Int) < 4294967296 := by have := ha.lt i; unfold LB at this; omega
      have hc0 := hO.1.cell (i := i) (by omega)
      have hf0 := hO.1.frozen i
      by_cases him : i < m
      · obtain ⟨bd, rfl, hbd', hcb⟩ := (hb.below hB).cell (k := i) him
        have hy : (((limbs b)[i]?.getD 0 : Nat) : Int) < 4294967296 := by have := hb.lt i; unfold LB at this; omega
        go_wp2
        have hs := plus_step (x := (limbs a)[i]?.getD 0) (y := (limbs b)[i]?.getD 0) HV.out
        refine ⟨⟨i + 1, ((limbs a)[i]?.getD 0 + (limbs b)[i]?.getD 0 + cy) / LB, o ++ [((limbs a)[i]?.getD 0 + (limbs b)[i]?.getD 0 + cy) % LB], hin, int_eq (by unfold LB; omega), by go_num, by rw [List.length_append, HL.out]; rfl, by unfold LB; omega, ?_, hO.setI HL.out (by unfold LB; omega) (Nat.mod_lt _ LB_pos), hB.setCell (Nat.le_refl _) _⟩, by simp [intOf]; omega⟩
        rw [valOf_snoc, HL.out, valOf_take_succ _ _ (by rw [HA.out]; exact hin), valOf_take_succ _ _ (by rw [HB.out]; exact him)]
        exact hs
      · have him' : decide (i < m) = false := by simp; omega
        go_wp2
        have hs := plus_step (x := (limbs a)[i]?.getD 0) (y := 0) HV.out
        simp only [Nat.add_zero, Nat.mul_zero] at hs
        refine ⟨⟨i + 1, ((limbs a)[i]?.getD 0 + cy) / LB, o ++ [((limbs a)[i]?.getD 0 + cy) % LB], hin, int_eq (by unfold LB; omega), by go_num, by rw [List.length_append, HL.out]; rfl, by unfold LB; omega, ?_, hO.setI HL.out (by unfold LB; omega) (Nat.mod_lt _ LB_pos), hB.setCell (Nat.le_refl _) _⟩, by simp [intOf]; omega⟩
        have e1 : (limbs b).take (i+1) = limbs b := List.take_of_length_le (by rw [HB.out]; omega)
        have e2 : (limbs b).take i = limbs b := List.take_of_length_le (by rw [HB.out]; omega)
        rw [e2] at hs
        rw [valOf_snoc, HL.out, valOf_take_succ _ _ (by rw [HA.out]; exact hin), e1]
        exact hs
    · obtain rfl : i = n := by omega
      have hc0 := hO.1.cell (i := i) (by omega)
      have hf0 := hO.1.frozen i
      have hcy' : (cy : Int) ≤ 1 := by omega
      have hU : U (wr.setCell ⟨w.heap.size, i, none⟩ (.int .u32 cy)) (some ⟨w.heap.size, 0, none⟩) (i+1) (o ++ [cy]) :=
        (hO.setI HL.out rfl (by unfold LB; omega)).U (by rw [List.length_append, HL.out]; rfl)
      go_wp2_with (refine (trim_any _ _ _ _ _ hU (by omega) (by unfold maxLen; omega)).mono ?_; rintro e w' ⟨⟨A', c', rfl, h1, h2, h3⟩, rfl⟩)
      go_ret
      have e : trimN (o ++ [cy]) = limbs (a + b) := by
        rw [trimN_limbs hU.2, valOf_snoc, HL.out]
        have := HV.out
        rw [List.take_of_length_le (by rw [HA.out]; omega), List.take_of_length_le (by rw [HB.out]; omega), valOf_limbs, valOf_limbs, Nat.mul_comm] at this
        rw [this]
      rw [← e]
      exact ⟨⟨A', c', rfl, h1, h2, h3⟩, hB.setCell (Nat.le_refl _) _⟩
theorem plus_any (A B : Option Addr) (n m c d a b : Nat) (w : World) (ha : U w A n (limbs a)) (hb : U w B m (limbs b)) (hn : n ≤ 4294967296) (hm : m ≤ 4294967296) :
    Calls Tryd.prog 87 #[.slice A n c, .slice B m d] w fun e w' => Limbs (limbs (a + b)) e w' ∧ Below w.heap.size w w' := by
  rcases Nat.lt_or_ge n m with h | h
  · have := plus_lt B A m n d c b a w hb ha hm h
    rwa [Nat.add_comm] at this
  · exact plus_ge A B n m c d a b w ha hb hn h
end Go.Proofs.YtcmofoggdchofaaDoor
