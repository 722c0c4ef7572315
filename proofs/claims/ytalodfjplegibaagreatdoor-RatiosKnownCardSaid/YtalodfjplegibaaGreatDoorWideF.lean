/- Package wide, first part: slices of limbs, and the functions that only read: trim, valid. Package wide, second part: cmp, plus. Package wide, third part: times. Package wide, fourth part: the exported functions Of, Cmp, Add, Mul. Package wide, fifth part: shifts. Package wide, sixth part: Shift. -/
import Derived.Test.YtalodfjplegibaaGreatDoorBase
import Derived.Test.YtalodfjplegibaaGreatDoorNatL
namespace Go.Proofs.YtalodfjplegibaaGreatDoor
set_option linter.unusedSimpArgs false
set_option linter.unusedVariables false
open Go.RowKit

/-- a limb as a value -/
def lv (x : Nat) : Value := .int .u32 x
/-- the slice with address A and length n reads as the limbs l -/
def U (w : World) (A : Option Addr) (n : Nat) (l : List Nat) : Prop := Reads w w.heap.size 1 A n (l.map lv) ∧ ∀ x ∈ l, x < LB

theorem U.len {w : World} {A : Option Addr} {n : Nat} {l : List Nat} (h : U w A n l) : l.length = n := by simpa using h.1.1
theorem U.cell {w : World} {A : Option Addr} {n : Nat} {l : List Nat} (h : U w A n l) {k : Nat} (hk : k < n) : ∃ ad, A = some ad ∧ ad.block < w.heap.size ∧ w.cell? (ad.add k) = some (.int .u32 (l[k]?.getD 0 : Nat)) := by
  obtain ⟨ad, u, rfl, hb, hx, hc⟩ := h.1.at_ hk
  refine ⟨ad, rfl, hb, hc.trans ?_⟩
  rw [← hx]
  have : k < l.length := by have := h.len; omega
  simp [lv, this]
theorem U.lt {w : World} {A : Option Addr} {n : Nat} {l : List Nat} (h : U w A n l) (k : Nat) : l[k]?.getD 0 < LB := by
  by_cases hk : k < l.length
  · rw [List.getElem?_eq_getElem hk]; exact h.2 _ (List.getElem_mem _)
  · rw [List.getElem?_eq_none (by omega)]; decide
theorem U.below {w w' : World} {A : Option Addr} {n : Nat} {l : List Nat} (h : U w A n l) (hb : Below w.heap.size w w') : U w' A n l := ⟨(h.1.below hb).more hb.size, h.2⟩
theorem U.drewN {w : World} {A : Option Addr} {n : Nat} {l : List Nat} (h : U w A n l) (k : Nat) : U (w.drewN k) A n l := ⟨h.1.drewN k, h.2⟩
theorem U.take {w : World} {A : Option Addr} {n : Nat} {l : List Nat} (h : U w A n l) {k : Nat} (hk : k ≤ n) : U w A k (l.take k) := by
  have hl := h.len
  refine ⟨⟨by simp; omega, fun h0 => ?_⟩, fun x hx => h.2 x (List.mem_of_mem_take hx)⟩
  obtain ⟨ad, e, hb, hc⟩ := h.1.2 (by omega)
  refine ⟨ad, e, hb, fun j u hu => hc j u ?_⟩
  rw [List.map_take] at hu
  rw [List.getElem?_take] at hu
  split at hu
  · exact hu
  · cases hu

/-- a result: a slice of limbs -/
def Limbs (l : List Nat) (e : Ending) (w : World) : Prop := ∃ A c, e = .returned (.slice A l.length c) ∧ l.length ≤ c ∧ c ≤ maxLen ∧ U w A l.length l

set_option maxHeartbeats 400000 in
theorem trim_at (A : Option Addr) (n c : Nat) (l : List Nat) (w : World) (h : U w A n l) (hc : n ≤ c) (hm : c ≤ maxLen) :
    Calls Tryz.prog 132 #[.slice A n c] w fun e w' => (e = .returned (.slice A (trimN l).length c) ∧ (trimN l).length ≤ c ∧ U w A (trimN l).length (trimN l)) ∧ w = w' := by
  have hl := h.len
  unfold maxLen at hm
  go_enter Tryz.func132, Tryz.ntmps132
  go_wp2
  go_loop [0] (fun v => ∃ k : Nat, k ≤ n ∧ v = .slice A k c ∧ trimN (l.take k) = trimN l) (fun v => match v with | .slice _ k _ => k | _ => 0)
  case atStart => exact ⟨n, Nat.le_refl _, rfl, by rw [List.take_of_length_le (by omega)]⟩
  case round =>
    obtain ⟨k, hk, rfl, ht⟩ := hrel
    have HT := Lib.hid ht; clear ht
    have HL := Lib.hid hl; clear hl
    rcases k with _ | k
    · go_wp2
      go_ret
      refine ⟨⟨?_, ?_, ?_⟩, rfl⟩
      all_goals (rw [← HT.out]; simp [trimN_nil])
      exact ⟨⟨by simp, fun h => absurd h (by omega)⟩, by simp⟩
    · obtain ⟨ad, rfl, hb, hcell⟩ := h.cell (k := k) (by omega)
      have hlt := h.lt k
      by_cases hz : l[k]?.getD 0 = 0
      · rw [hz] at hcell
        clear hlt
        have HZ := Lib.hid hz; clear hz
        go_wp2
        exact ⟨⟨k, by omega, rfl, by rw [← HT.out, take_trim0 l k (by rw [HL.out]; omega) HZ.out]⟩, by simp⟩
      · have hzb : (((l[k]?.getD 0 : Nat) : Int) == 0) = false := by simp; omega
        go_wp2
        go_ret
        have e1 : (l.take (k+1)) = trimN l := by rw [← HT.out, take_trim1 l k (by rw [HL.out]; omega) hz]
        have e2 : (trimN l).length = k + 1 := by rw [← e1, List.length_take, HL.out]; omega
        refine ⟨⟨by rw [e2]; rfl, by omega, ?_⟩, rfl⟩
        rw [e2, ← e1]
        exact h.take hk

theorem trim_any (A : Option Addr) (n c : Nat) (l : List Nat) (w : World) (h : U w A n l) (hc : n ≤ c) (hm : c ≤ maxLen) :
    Calls Tryz.prog 132 #[.slice A n c] w fun e w' => Limbs (trimN l) e w ∧ w = w' :=
  (trim_at A n c l w h hc hm).mono fun e w' ⟨⟨h1, h2, h3⟩, h4⟩ => ⟨⟨A, c, h1, h2, hm, h3⟩, h4⟩

set_option maxHeartbeats 400000 in
theorem valid_any (A : Option Addr) (n c : Nat) (l : List Nat) (w : World) (h : U w A n l) (hc : n ≤ c) (hm : c ≤ maxLen) :
    Calls Tryz.prog 128 #[.slice A n c] w fun e w' => e = .returned (.bool (validL l)) ∧ w = w' := by
  have hl := h.len
  unfold maxLen at hm
  by_cases h5 : n ≤ 512
  · rcases n with _ | n
    · go_enter Tryz.func128, Tryz.ntmps128
      go_wp2
      go_ret
      have e : l = [] := List.eq_nil_of_length_eq_zero hl
      subst e
      exact ⟨rfl, rfl⟩
    · obtain ⟨ad, rfl, hb, hcell⟩ := h.cell (k := n) (by omega)
      have HL := Lib.hid hl; clear hl
      have g0 : (((n : Int) + 1) == 0) = false := by rw [beq_eq_false_iff_ne]; omega
      have g1 : (n : Int) + 1 ≤ 512 := by omega
      set_option maxRecDepth 10000 in
      go_enter Tryz.func128, Tryz.ntmps128
      go_wp2
      go_ret
      refine ⟨?_, rfl⟩
      show Ending.returned (.bool ((↑(l[n]?.getD 0) : Int) != 0)) = _
      have hl := HL.out
      rw [validL_succ hl h5]
      congr 2
      generalize l[n]?.getD 0 = x
      cases x <;> simp <;> omega
  · have h5' : decide (n ≤ 512) = false := by simp; omega
    go_enter Tryz.func128, Tryz.ntmps128
    go_wp2
    go_ret
    refine ⟨?_, rfl⟩
    show Ending.returned (.bool false) = _
    simp [validL, hl, h5]

theorem of_limbs (x : Nat) (h : x < LB * LB) : trimN [x % LB, x / LB] = limbs x := by
  have h2 : x / LB < LB := Nat.div_lt_of_lt_mul h
  rw [trimN_limbs (by simp [h2, Nat.mod_lt _ LB_pos])]
  congr 1
  simp [valOf]; exact Nat.mod_add_div x LB
theorem U_two (w : World) (x y : Nat) (a b : Int) (ha : a = x) (hb : b = y) (hx : x < LB) (hy : y < LB) (t : TypeId) : U (w.alloc (.cells #[.int .u32 a, .int .u32 b] t)) (some ⟨w.heap.size, 0, none⟩) 2 [x, y] := by
  subst ha hb
  refine ⟨⟨rfl, fun _ => ⟨_, rfl, by simp, fun j u hu => ?_⟩⟩, by simp [hx, hy]⟩
  match j, hu with
  | 0, hu => simp [lv] at hu; subst hu; simp [Addr.add]
  | 1, hu => simp [lv] at hu; subst hu; simp [Addr.add]
set_option maxHeartbeats 400000 in
theorem of_any (x : Nat) (w : World) (hx : x < LB * LB) :
    Calls Tryz.prog 124 #[.int .u64 x] w fun e w' => Limbs (limbs x) e w' ∧ Below w.heap.size w w' := by
  have hx' : (x:Int) < 18446744073709551616 := by unfold LB at hx; omega
  have ht := Lib.hid (of_limbs x hx)
  have hm : x % LB < LB := Nat.mod_lt _ LB_pos
  have hd : x / LB < LB := Nat.div_lt_of_lt_mul hx
  have e1 : ∀ y : Nat, ((y : Int) % 4294967296) = ((y % LB : Nat) : Int) := fun y => by simp [LB]
  have e2 : ∀ y : Nat, ((y : Int) / 4294967296) = ((y / LB : Nat) : Int) := fun y => by simp [LB]
  have E1 := Lib.hid e1
  have E2 := Lib.hid e2
  clear hx e1 e2
  go_enter Tryz.func124, Tryz.ntmps124
  go_wp2_with (refine (trim_any _ _ _ [x % LB, x / LB] _ (U_two _ _ _ _ _ (E1.out x) (E2.out x) hm hd _) (by omega) (by decide)).mono ?_; rintro e w' ⟨⟨A, c, rfl, h1, h2, h3⟩, rfl⟩)
  go_ret
  rw [← ht.out]
  exact ⟨⟨A, c, rfl, h1, h2, h3⟩, (Below.refl _ _).alloc (Nat.le_refl _) _⟩
end Go.Proofs.YtalodfjplegibaaGreatDoor
namespace Go.Proofs.YtalodfjplegibaaGreatDoor
set_option linter.unusedSimpArgs false
open Go.RowKit
set_option linter.unusedVariables false

set_option maxHeartbeats 400000 in
theorem cmp_any (A B : Option Addr) (n m c d a b : Nat) (w : World) (ha : U w A n (limbs a)) (hb : U w B m (limbs b)) (hn : n ≤ 4294967296) (hm : m ≤ 4294967296) :
    Calls Tryz.prog 109 #[.slice A n c, .slice B m d] w fun e w' => e = .returned (.int .i64 (cmpN a b)) ∧ ∃ q, w' = w.drewN q := by
  have hla := ha.len
  have hlb := hb.len
  rcases Nat.lt_trichotomy n m with hlt | heq | hgt
  · have e : cmpN a b = -1 := cmpN_lt (limbs_len_lt (by omega))
    have E := Lib.hid e
    clear hla hlb e
    go_enter Tryz.func109, Tryz.ntmps109
    go_wp2
    go_ret
    exact ⟨by rw [E.out]; rfl, 0, rfl⟩
  · subst heq
    have HA := Lib.hid hla
    have HB := Lib.hid hlb
    clear hla hlb
    go_enter Tryz.func109, Tryz.ntmps109
    go_wp2
    go_loopw [5] (fun i wr => ∃ k q : Nat, k ≤ n ∧ i = .int .i64 ((k : Int) - 1) ∧ (limbs a).drop k = (limbs b).drop k ∧ wr = w.drewN q) (fun i _ => (intOf i + 1).toNat)
    case atStart => exact ⟨n, 0, Nat.le_refl _, rfl, by rw [List.drop_of_length_le (by rw [HA.out]; omega), List.drop_of_length_le (by rw [HB.out]; omega)], rfl⟩
    case round =>
      obtain ⟨k, q, hk, rfl, hd, rfl⟩ := hrel
      have HD := Lib.hid hd; clear hd
      rcases k with _ | k
      · go_wp2
        go_ret
        have e : a = b := by have := HD.out; simp at this; exact limbs_inj this
        subst e
        exact ⟨by rw [cmpN_eq]; rfl, _, rfl⟩
      · obtain ⟨ad, rfl, hbd, hca⟩ := ha.cell (k := k) (by omega)
        obtain ⟨bd, rfl, hbd', hcb⟩ := hb.cell (k := k) (by omega)
        rcases Nat.lt_trichotomy ((limbs a)[k]?.getD 0) ((limbs b)[k]?.getD 0) with h1 | h1 | h1
        · have hv : a < b := by have := valOf_lt_of (HA.out.trans HB.out.symm) (by rw [HA.out]; omega) (limbs_lt a) HD.out h1; rwa [valOf_limbs, valOf_limbs] at this
          have E := Lib.hid (cmpN_lt hv)
          have g1 : ((((limbs a)[k]?.getD 0 : Nat) : Int) == ((limbs b)[k]?.getD 0 : Nat)) = false := by rw [beq_eq_false_iff_ne]; omega
          go_wp2
          go_quiet (fail)
          go_wp2
          go_quiet (fail)
          go_wp2
          go_ret
          exact ⟨by rw [E.out]; rfl, _, drew3 _ _ _ _⟩
        · have HE := Lib.hid h1
          rw [← h1] at hcb
          clear h1
          go_wp2
          go_quiet (fail)
          go_wp2
          exact ⟨⟨k, _, by omega, rfl, drop_step (HA.out.trans HB.out.symm) (by rw [HA.out]; omega) HD.out HE.out, rfl⟩, by simp [intOf]⟩
        · have hv : b < a := by have := valOf_lt_of (HB.out.trans HA.out.symm) (by rw [HB.out]; omega) (limbs_lt b) HD.out.symm h1; rwa [valOf_limbs, valOf_limbs] at this
          have E := Lib.hid (cmpN_gt hv)
          have g1 : ((((limbs a)[k]?.getD 0 : Nat) : Int) == ((limbs b)[k]?.getD 0 : Nat)) = false := by rw [beq_eq_false_iff_ne]; omega
          go_wp2
          go_quiet (fail)
          go_wp2
          go_quiet (fail)
          go_wp2
          go_ret
          exact ⟨by rw [E.out]; rfl, _, drew3 _ _ _ _⟩
  · have e : cmpN a b = 1 := cmpN_gt (limbs_len_lt (by omega))
    have E := Lib.hid e
    clear hla hlb e
    go_enter Tryz.func109, Tryz.ntmps109
    go_wp2
    go_ret
    exact ⟨by rw [E.out]; rfl, 0, rfl⟩

theorem plus_step {X A B x y c i : Nat} (h : X + c * LB ^ i = A + B) : (X + LB ^ i * ((x + y + c) % LB)) + ((x + y + c) / LB) * LB ^ (i+1) = (A + LB ^ i * x) + (B + LB ^ i * y) := by
  have e := Nat.mod_add_div (x + y + c) LB
  rw [Nat.pow_succ]
  generalize LB ^ i = P at *
  generalize (x + y + c) % LB = r at *
  generalize (x + y + c) / LB = q at *
  have : P * (r + LB * q) = P * (x + y + c) := by rw [e]
  simp only [Nat.mul_add] at this
  have e2 : q * (P * LB) = P * (LB * q) := by rw [Nat.mul_comm, Nat.mul_assoc]
  rw [e2]
  have e3 : c * P = P * c := Nat.mul_comm _ _
  omega

/-- a new row of limbs: block g, of n cells, the first ones written: o -/
def Out (w : World) (g n : Nat) (o : List Nat) : Prop := w.rowIs g 128 n (fun j => lv (o[j]?.getD 0)) ∧ ∀ x ∈ o, x < LB
theorem Out.set {w : World} {g n : Nat} {o : List Nat} (h : Out w g n o) {x : Nat} (hx : x < LB) : Out (w.setCell ⟨g, o.length, none⟩ (.int .u32 x)) g n (o ++ [x]) := by
  refine ⟨(h.1.set o.length _).congr fun j hj => ?_, fun y hy => ?_⟩
  · by_cases e : j = o.length
    · subst e; simp [lv]
    · rw [if_neg e]
      rcases Nat.lt_or_ge j o.length with h1 | h1
      · rw [List.getElem?_append_left h1]
      · rw [List.getElem?_eq_none h1, List.getElem?_eq_none (by simp; omega)]
  · rcases List.mem_append.1 hy with h1 | h1
    · exact h.2 y h1
    · simp at h1; omega
theorem Out.setI {w : World} {g n : Nat} {o : List Nat} (h : Out w g n o) {i : Nat} (hi : o.length = i) {x : Nat} {v : Int} (hv : v = x) (hx : x < LB) : Out (w.setCell ⟨g, i, none⟩ (.int .u32 v)) g n (o ++ [x]) := by
  subst hi hv; exact h.set hx
theorem int_eq {k : IntKind} {a b : Int} (h : a = b) : Value.int k a = .int k b := by rw [h]
theorem Out.U {w : World} {g n : Nat} {o : List Nat} (h : Out w g n o) (hn : o.length = n) : U w (some ⟨g, 0, none⟩) n o := by
  refine ⟨⟨by simp [hn], fun _ => ⟨_, rfl, h.1.lt, fun j u hu => ?_⟩⟩, h.2⟩
  have hj : j < o.length := by
    rcases Nat.lt_or_ge j o.length with h1 | h1
    · exact h1
    · rw [List.getElem?_eq_none (by simpa using h1)] at hu; cases hu
  have := h.1.cell (i := j) (by omega)
  rw [List.getElem?_map, List.getElem?_eq_getElem hj] at hu
  simp at hu; subst hu
  have e : (Addr.add ⟨g, 0, none⟩ j) = ⟨g, j, none⟩ := by unfold Addr.add; split <;> simp_all
  rw [e, this, List.getElem?_eq_getElem hj]; rfl
theorem Out.drewN {w : World} {g n : Nat} {o : List Nat} (h : Out w g n o) (k : Nat) : Out (w.drewN k) g n o := h
theorem Out.made (w : World) (n : Nat) : Out (w.alloc (.cells (madeCells #[.int .u32 0] n) 128)) w.heap.size n [] := ⟨(World.rowIs_made w _ n _).congr fun j _ => by simp [lv], by simp⟩

theorem info32 : (Tryz.prog.info? 128).map (fun i => (i.zero, i.size, i.bytes)) = some (some (.int .u32 0), 1, 4) := by kernel_rfl

set_option maxHeartbeats 400000 in
theorem plus_ge (A B : Option Addr) (n m c d a b : Nat) (w : World) (ha : U w A n (limbs a)) (hb : U w B m (limbs b)) (hn : n ≤ 4294967296) (hm : m ≤ n) :
    Calls Tryz.prog 121 #[.slice A n c, .slice B m d] w fun e w' => Limbs (limbs (a + b)) e w' ∧ Below w.heap.size w w' := by
  have hla := ha.len
  have hlb := hb.len
  have HA := Lib.hid hla
  have HB := Lib.hid hlb
  clear hla hlb
  have hmk := run_make_row' (P := Tryz.prog) 154 128 (.int .u32 0) 4 Tryz.underlying154 info32 rfl .i64 .i64 (n+1) (by omega) (by omega)
  simp only [Int.natCast_add, Int.natCast_one] at hmk
  go_enter Tryz.func121, Tryz.ntmps121
  go_wp2
  clear hmk
  go_loopw [6, 22] (fun s6 s22 wr => ∃ (i cy : Nat) (o : List Nat), i ≤ n ∧ s6 = .int .u64 cy ∧ s22 = .int .i64 i ∧ o.length = i ∧ cy ≤ 1 ∧ valOf o + cy * LB ^ i = valOf ((limbs a).take i) + valOf ((limbs b).take i) ∧ Out wr w.heap.size (n+1) o ∧ Below w.heap.size w wr) (fun _ s22 _ => n - (intOf s22).toNat)
  case atStart => exact ⟨0, 0, [], Nat.zero_le _, rfl, rfl, rfl, by omega, by simp [valOf], Out.made _ _, (Below.refl _ _).alloc (Nat.le_refl _) _⟩
  case round =>
    obtain ⟨i, cy, o, hi, rfl, rfl, hol, hcy, hval, hO, hB⟩ := hrel
    have HV := Lib.hid hval
    have HL := Lib.hid hol
    clear hval hol
    by_cases hin : i < n
    · obtain ⟨ad, rfl, hbd, hca⟩ := (ha.below hB).cell (k := i) hin
      have hx : (((limbs a)[i]?.getD 0 : Nat) : Int) < 4294967296 := by have := ha.lt i; unfold LB at this; omega
      have hc0 := hO.1.cell (i := i) (by omega)
      have hf0 := hO.1.frozen i
      by_cases him : i < m
      · obtain ⟨bd, rfl, hbd', hcb⟩ := (hb.below hB).cell (k := i) him
        have hy : (((limbs b)[i]?.getD 0 : Nat) : Int) < 4294967296 := by have := hb.lt i; unfold LB at this; omega
        go_wp2
        have hs := plus_step (x := (limbs a)[i]?.getD 0) (y := (limbs b)[i]?.getD 0) HV.out
        refine ⟨⟨i + 1, ((limbs a)[i]?.getD 0 + (limbs b)[i]?.getD 0 + cy) / LB, o ++ [((limbs a)[i]?.getD 0 + (limbs b)[i]?.getD 0 + cy) % LB], hin, int_eq (by unfold LB; omega), by go_num, by rw [List.length_append, HL.out]; rfl, by unfold LB; omega, ?_, hO.setI HL.out (by unfold LB; omega) (Nat.mod_lt _ LB_pos), hB.setCell (Nat.le_refl _) _⟩, by simp [intOf]; omega⟩
        rw [valOf_snoc, HL.out, valOf_take_succ _ _ (by rw [HA.out]; exact hin), valOf_take_succ _ _ (by rw [HB.out]; exact him)]
        exact hs
      · have him' : decide (i < m) = false := by simp; omega
        go_wp2
        have hs := plus_step (x := (limbs a)[i]?.getD 0) (y := 0) HV.out
        simp only [Nat.add_zero, Nat.mul_zero] at hs
        refine ⟨⟨i + 1, ((limbs a)[i]?.getD 0 + cy) / LB, o ++ [((limbs a)[i]?.getD 0 + cy) % LB], hin, int_eq (by unfold LB; omega), by go_num, by rw [List.length_append, HL.out]; rfl, by unfold LB; omega, ?_, hO.setI HL.out (by unfold LB; omega) (Nat.mod_lt _ LB_pos), hB.setCell (Nat.le_refl _) _⟩, by simp [intOf]; omega⟩
        have e1 : (limbs b).take (i+1) = limbs b := List.take_of_length_le (by rw [HB.out]; omega)
        have e2 : (limbs b).take i = limbs b := List.take_of_length_le (by rw [HB.out]; omega)
        rw [e2] at hs
        rw [valOf_snoc, HL.out, valOf_take_succ _ _ (by rw [HA.out]; exact hin), e1]
        exact hs
    · obtain rfl : i = n := by omega
      have hc0 := hO.1.cell (i := i) (by omega)
      have hf0 := hO.1.frozen i
      have hcy' : (cy : Int) ≤ 1 := by omega
      have hU : U (wr.setCell ⟨w.heap.size, i, none⟩ (.int .u32 cy)) (some ⟨w.heap.size, 0, none⟩) (i+1) (o ++ [cy]) :=
        (hO.setI HL.out rfl (by unfold LB; omega)).U (by rw [List.length_append, HL.out]; rfl)
      go_wp2_with (refine (trim_any _ _ _ _ _ hU (by omega) (by unfold maxLen; omega)).mono ?_; rintro e w' ⟨⟨A', c', rfl, h1, h2, h3⟩, rfl⟩)
      go_ret
      have e : trimN (o ++ [cy]) = limbs (a + b) := by
        rw [trimN_limbs hU.2, valOf_snoc, HL.out]
        have := HV.out
        rw [List.take_of_length_le (by rw [HA.out]; omega), List.take_of_length_le (by rw [HB.out]; omega), valOf_limbs, valOf_limbs, Nat.mul_comm] at this
        rw [this]
      rw [← e]
      exact ⟨⟨A', c', rfl, h1, h2, h3⟩, hB.setCell (Nat.le_refl _) _⟩
set_option maxHeartbeats 400000 in
theorem plus_lt (A B : Option Addr) (n m c d a b : Nat) (w : World) (ha : U w A n (limbs a)) (hb : U w B m (limbs b)) (hn : n ≤ 4294967296) (hm : m < n) :
    Calls Tryz.prog 121 #[.slice B m d, .slice A n c] w fun e w' => Limbs (limbs (a + b)) e w' ∧ Below w.heap.size w w' := by
  have hla := ha.len
  have hlb := hb.len
  have HA := Lib.hid hla
  have HB := Lib.hid hlb
  clear hla hlb
  have hmk := run_make_row' (P := Tryz.prog) 154 128 (.int .u32 0) 4 Tryz.underlying154 info32 rfl .i64 .i64 (n+1) (by omega) (by omega)
  simp only [Int.natCast_add, Int.natCast_one] at hmk
  go_enter Tryz.func121, Tryz.ntmps121
  go_wp2
  clear hmk
  go_loopw [6, 22] (fun s6 s22 wr => ∃ (i cy : Nat) (o : List Nat), i ≤ n ∧ s6 = .int .u64 cy ∧ s22 = .int .i64 i ∧ o.length = i ∧ cy ≤ 1 ∧ valOf o + cy * LB ^ i = valOf ((limbs a).take i) + valOf ((limbs b).take i) ∧ Out wr w.heap.size (n+1) o ∧ Below w.heap.size w wr) (fun _ s22 _ => n - (intOf s22).toNat)
  case atStart => exact ⟨0, 0, [], Nat.zero_le _, rfl, rfl, rfl, by omega, by simp [valOf], Out.made _ _, (Below.refl _ _).alloc (Nat.le_refl _) _⟩
  case round =>
    obtain ⟨i, cy, o, hi, rfl, rfl, hol, hcy, hval, hO, hB⟩ := hrel
    have HV := Lib.hid hval
    have HL := Lib.hid hol
    clear hval hol
    by_cases hin : i < n
    · obtain ⟨ad, rfl, hbd, hca⟩ := (ha.below hB).cell (k := i) hin
      have hx : (((limbs a)[i]?.getD 0 : Nat) : Int) < 4294967296 := by have := ha.lt i; unfold LB at this; omega
      have hc0 := hO.1.cell (i := i) (by omega)
      have hf0 := hO.1.frozen i
      by_cases him : i < m
      · obtain ⟨bd, rfl, hbd', hcb⟩ := (hb.below hB).cell (k := i) him
        have hy : (((limbs b)[i]?.getD 0 : Nat) : Int) < 4294967296 := by have := hb.lt i; unfold LB at this; omega
        go_wp2
        have hs := plus_step (x := (limbs a)[i]?.getD 0) (y := (limbs b)[i]?.getD 0) HV.out
        refine ⟨⟨i + 1, ((limbs a)[i]?.getD 0 + (limbs b)[i]?.getD 0 + cy) / LB, o ++ [((limbs a)[i]?.getD 0 + (limbs b)[i]?.getD 0 + cy) % LB], hin, int_eq (by unfold LB; omega), by go_num, by rw [List.length_append, HL.out]; rfl, by unfold LB; omega, ?_, hO.setI HL.out (by unfold LB; omega) (Nat.mod_lt _ LB_pos), hB.setCell (Nat.le_refl _) _⟩, by simp [intOf]; omega⟩
        rw [valOf_snoc, HL.out, valOf_take_succ _ _ (by rw [HA.out]; exact hin), valOf_take_succ _ _ (by rw [HB.out]; exact him)]
        exact hs
      · have him' : decide (i < m) = false := by simp; omega
        go_wp2
        have hs := plus_step (x := (limbs a)[i]?.getD 0) (y := 0) HV.out
        simp only [Nat.add_zero, Nat.mul_zero] at hs
        refine ⟨⟨i + 1, ((limbs a)[i]?.getD 0 + cy) / LB, o ++ [((limbs a)[i]?.getD 0 + cy) % LB], hin, int_eq (by unfold LB; omega), by go_num, by rw [List.length_append, HL.out]; rfl, by unfold LB; omega, ?_, hO.setI HL.out (by unfold LB; omega) (Nat.mod_lt _ LB_pos), hB.setCell (Nat.le_refl _) _⟩, by simp [intOf]; omega⟩
        have e1 : (limbs b).take (i+1) = limbs b := List.take_of_length_le (by rw [HB.out]; omega)
        have e2 : (limbs b).take i = limbs b := List.take_of_length_le (by rw [HB.out]; omega)
        rw [e2] at hs
        rw [valOf_snoc, HL.out, valOf_take_succ _ _ (by rw [HA.out]; exact hin), e1]
        exact hs
    · obtain rfl : i = n := by omega
      have hc0 := hO.1.cell (i := i) (by omega)
      have hf0 := hO.1.frozen i
      have hcy' : (cy : Int) ≤ 1 := by omega
      have hU : U (wr.setCell ⟨w.heap.size, i, none⟩ (.int .u32 cy)) (some ⟨w.heap.size, 0, none⟩) (i+1) (o ++ [cy]) :=
        (hO.setI HL.out rfl (by unfold LB; omega)).U (by rw [List.length_append, HL.out]; rfl)
      go_wp2_with (refine (trim_any _ _ _ _ _ hU (by omega) (by unfold maxLen; omega)).mono ?_; rintro e w' ⟨⟨A', c', rfl, h1, h2, h3⟩, rfl⟩)
      go_ret
      have e : trimN (o ++ [cy]) = limbs (a + b) := by
        rw [trimN_limbs hU.2, valOf_snoc, HL.out]
        have := HV.out
        rw [List.take_of_length_le (by rw [HA.out]; omega), List.take_of_length_le (by rw [HB.out]; omega), valOf_limbs, valOf_limbs, Nat.mul_comm] at this
        rw [this]
      rw [← e]
      exact ⟨⟨A', c', rfl, h1, h2, h3⟩, hB.setCell (Nat.le_refl _) _⟩
theorem plus_any (A B : Option Addr) (n m c d a b : Nat) (w : World) (ha : U w A n (limbs a)) (hb : U w B m (limbs b)) (hn : n ≤ 4294967296) (hm : m ≤ 4294967296) :
    Calls Tryz.prog 121 #[.slice A n c, .slice B m d] w fun e w' => Limbs (limbs (a + b)) e w' ∧ Below w.heap.size w w' := by
  rcases Nat.lt_or_ge n m with h | h
  · have := plus_lt B A m n d c b a w hb ha hm h
    rwa [Nat.add_comm] at this
  · exact plus_ge A B n m c d a b w ha hb hn h
end Go.Proofs.YtalodfjplegibaaGreatDoor
namespace Go.Proofs.YtalodfjplegibaaGreatDoor
set_option linter.unusedSimpArgs false
open Go.RowKit
set_option linter.unusedVariables false

/-- a row of limbs that is all written: block g, n cells -/
theorem Out.put {w : World} {g n : Nat} {o : List Nat} (h : Out w g n o) (hl : o.length = n) {i : Nat} (hi : i < n) {x : Nat} {v : Int} (hv : v = x) (hx : x < LB) : Out (w.setCell ⟨g, i, none⟩ (.int .u32 v)) g n (o.set i x) := by
  subst hv
  refine ⟨(h.1.set i _).congr fun j hj => ?_, fun y hy => ?_⟩
  · by_cases e : j = i
    · subst e
      have : j < o.length := by omega
      simp [lv, this]
    · rw [if_neg e, List.getElem?_set_ne (fun h => e h.symm)]
  · rcases List.mem_or_eq_of_mem_set hy with h1 | h1
    · exact h.2 y h1
    · omega
theorem Out.zeros (w : World) (n : Nat) : Out (w.alloc (.cells (madeCells #[.int .u32 0] n) 128)) w.heap.size n (List.replicate n 0) :=
  ⟨(World.rowIs_made w _ n _).congr fun j hj => by simp [lv, hj], fun x hx => by have := List.eq_of_mem_replicate hx; subst this; decide⟩
theorem Out.cellAt {w : World} {g n : Nat} {o : List Nat} (h : Out w g n o) {i : Nat} (hi : i < n) : w.cell? ⟨g, i, none⟩ = some (.int .u32 (o[i]?.getD 0 : Nat)) := h.1.cell hi
theorem Out.limb {w : World} {g n : Nat} {o : List Nat} (h : Out w g n o) (i : Nat) : o[i]?.getD 0 < LB := by
  rcases Nat.lt_or_ge i o.length with h1 | h1
  · rw [List.getElem?_eq_getElem h1]; exact h.2 _ (List.getElem_mem _)
  · rw [List.getElem?_eq_none h1]; exact LB_pos

theorem wrap_u64 (x : Int) (h0 : 0 ≤ x) (h1 : x < 18446744073709551616) : IntKind.u64.wrap x = x := by
  rw [IntKind.wrap_u64]; exact Int.emod_eq_of_lt h0 h1
theorem mul_lt_LB (x y : Nat) (hx : x < LB) (hy : y < LB) : x * y ≤ 18446744065119617025 := by
  have h1 : x * y ≤ (LB - 1) * (LB - 1) := Nat.mul_le_mul (by omega) (by omega)
  exact h1
theorem wrap_three (o x y q : Nat) (ho : o < LB) (hx : x < LB) (hy : y < LB) (hq : q < LB) :
    IntKind.u64.wrap (IntKind.u64.wrap ((o : Int) + IntKind.u64.wrap ((x : Int) * (y : Int))) + (q : Int)) = ((o + x * y + q : Nat) : Int) := by
  have h := mul_lt_LB x y hx hy
  unfold LB at ho hq
  rw [← Int.natCast_mul, wrap_u64 ((x * y : Nat) : Int) (by omega) (by omega), wrap_u64 ((o : Int) + ((x * y : Nat) : Int)) (by omega) (by omega), wrap_u64 _ (by omega) (by omega)]
  omega

set_option maxHeartbeats 800000 in
theorem times_any (A B : Option Addr) (n m c d a b : Nat) (w : World) (ha : U w A n (limbs a)) (hb : U w B m (limbs b)) (hn : n ≤ 4294967296) (hm : m ≤ 4294967296) :
    Calls Tryz.prog 123 #[.slice A n c, .slice B m d] w fun e w' => Limbs (limbs (a * b)) e w' ∧ Below w.heap.size w w' := by
  have hla := ha.len
  have hlb := hb.len
  have HA := Lib.hid hla
  have HB := Lib.hid hlb
  clear hla hlb
  have hmk := run_make_row' (P := Tryz.prog) 154 128 (.int .u32 0) 4 Tryz.underlying154 info32 rfl .i64 .i64 (n+m) (by omega) (by omega)
  simp only [Int.natCast_add] at hmk
  go_enter Tryz.func123, Tryz.ntmps123
  go_wp2
  clear hmk
  go_loopw [20] (fun s20 wr => ∃ (i : Nat) (O : List Nat), i ≤ n ∧ s20 = .int .i64 i ∧ TOut (limbs a) (limbs b) n m i O ∧ Out wr w.heap.size (n+m) O ∧ Below w.heap.size w wr) (fun s20 _ => n - (intOf s20).toNat)
  case atStart => exact ⟨0, _, Nat.zero_le _, rfl, TOut.start _ _ _ _, Out.zeros _ _, (Below.refl _ _).alloc (Nat.le_refl _) _⟩
  case round =>
    obtain ⟨i, O, hi, rfl, hT, hO, hB⟩ := hrel
    obtain ⟨wo, rfl⟩ : ∃ wo : World, wo = wr := ⟨_, rfl⟩
    by_cases hin : i < n
    · obtain ⟨ad, rfl, hbd, hca⟩ := (ha.below hB).cell (k := i) hin
      have hx : (((limbs a)[i]?.getD 0 : Nat) : Int) < 4294967296 := by have := ha.lt i; unfold LB at this; omega
      go_wp2
      go_loopw [8, 27] (fun s8 s27 wr => ∃ (k q : Nat) (O : List Nat), k ≤ m ∧ s8 = .int .u64 q ∧ s27 = .int .i64 k ∧ TIn (limbs a) (limbs b) n m i k O q ∧ Out wr w.heap.size (n+m) O ∧ Below w.heap.size w wr) (fun _ s27 _ => m - (intOf s27).toNat)
      case atStart => exact ⟨0, 0, O, Nat.zero_le _, rfl, rfl, hT.enter, hO, hB⟩
      case round =>
        clear hca hO hB hT
        obtain ⟨k, q, O, hk, rfl, rfl, hT, hO, hB⟩ := hrel
        have hq : (q : Int) < 4294967296 := by have := hT.cq; unfold LB at this; omega
        by_cases hkm : k < m
        · obtain ⟨bd, rfl, hbd', hcb⟩ := (hb.below hB).cell (k := k) hkm
          have hy : (((limbs b)[k]?.getD 0 : Nat) : Int) < 4294967296 := by have := hb.lt k; unfold LB at this; omega
          have hc0 := hO.cellAt (i := i + k) (by omega)
          have hf0 := hO.1.frozen (i + k)
          have ho : ((O[i+k]?.getD 0 : Nat) : Int) < 4294967296 := by have := hO.limb (i+k); unfold LB at this; omega
          go_wp2
          have hlx : (limbs a)[i]?.getD 0 < LB := by unfold LB; omega
          have hly : (limbs b)[k]?.getD 0 < LB := by unfold LB; omega
          have hlo : O[i+k]?.getD 0 < LB := by unfold LB; omega
          have hst := hT.step hin hkm HB.out hlx hly hlo
          have hwr := wrap_three (O[i+k]?.getD 0) ((limbs a)[i]?.getD 0) ((limbs b)[k]?.getD 0) q hlo hlx hly hT.cq
          refine ⟨⟨k + 1, _, _, hkm, int_eq ?_, by go_num, hst, hO.put hT.len (by omega) ?_ (Nat.mod_lt _ LB_pos), hB.setCell (Nat.le_refl _) _⟩, by simp [intOf]; omega⟩
          · rw [hwr]; unfold LB; omega
          · rw [hwr]; unfold LB; omega
        · obtain rfl : k = m := by omega
          have hc0 := hO.cellAt (i := i + k) (by omega)
          have hf0 := hO.1.frozen (i + k)
          go_wp2
          refine ⟨⟨i + 1, _, hin, by go_num, hT.done hin HA.out HB.out, hO.put hT.len (by omega) rfl hT.cq, hB.setCell (Nat.le_refl _) _⟩, by simp [intOf]; omega⟩
    · obtain rfl : i = n := by omega
      have hU := hO.U hT.len
      go_wp2_with (refine (trim_any _ _ _ _ _ hU (Nat.le_refl _) (by unfold maxLen; omega)).mono ?_; rintro e w' ⟨⟨A', c', rfl, h1, h2, h3⟩, rfl⟩)
      go_ret
      have e : trimN O = limbs (a * b) := by
        rw [trimN_limbs hU.2, hT.val]
        rw [List.take_of_length_le (by rw [HA.out]; omega), valOf_limbs, valOf_limbs]
      rw [← e]
      exact ⟨⟨A', c', rfl, h1, h2, h3⟩, hB⟩

theorem Limbs.of_own {w : World} {base : Nat} {e : TypeId} {v : Value} {n : Nat} {l : List Nat} (h : w.ownsRow base e 1 v n (l.map lv)) (hn : l.length = n) (hl : ∀ x ∈ l, x < LB) : Limbs l (.returned v) w := by
  subst hn
  have hr := h
  rcases h.2 with ⟨rfl, h0⟩ | ⟨g, cap, cur, rfl, hb, hh, hc, hm, _⟩
  · have e : l = [] := List.eq_nil_of_length_eq_zero h0
    subst e
    exact ⟨none, 0, rfl, by simp, by decide, ⟨⟨by simp, fun h => absurd h (by simp)⟩, by simp⟩⟩
  · exact ⟨_, cap, rfl, hc, hm, ⟨Reads.of_own hr, hl⟩⟩
set_option maxHeartbeats 400000 in
/-- slices.Clone of limbs -/
theorem clone_any (A : Option Addr) (n c : Nat) (l : List Nat) (w : World) (h : U w A n l) (hn : n ≤ 4294967296) :
    Calls Tryz.prog 133 #[.slice A n c] w fun e w' => Limbs l e w' ∧ Below w.heap.size w w' := by
  obtain ⟨i0, hi0, hz0, hz1, hz2⟩ := info_parts info32
  have hl := h.len
  have hone : ∀ u ∈ l.map lv, u.oneCell' = true := by intro u hu; obtain ⟨x, _, rfl⟩ := List.mem_map.1 hu; rfl
  have HL := Lib.hid hl
  clear hl
  have hq := fun (w : World) (a : Option Addr) (n c : Nat) => Lib.run_eql_slice_nil (P := Tryz.prog) w 154 128 a n c 0 0 Tryz.underlying154
  rcases A with _ | ad
  · have hn0 : n = 0 := by
      rcases Nat.eq_zero_or_pos n with h0 | h0
      · exact h0
      · obtain ⟨ad, h1, _⟩ := h.1.2 h0; cases h1
    go_enter Tryz.func133, Tryz.ntmps133
    go_wp2_with fail
    go_ret
    subst hn0
    have e : l = [] := List.eq_nil_of_length_eq_zero HL.out
    subst e
    exact ⟨⟨none, 0, rfl, by simp, by decide, ⟨⟨by simp, fun h => absurd h (by decide)⟩, by simp⟩⟩, Below.refl _ _⟩
  · go_enter Tryz.func133, Tryz.ntmps133
    go_wp2_with (at_builtin; refine wpList_append_any _ rfl (.tmp 5) (.tmp 6) _ rfl w.heap.size 128 i0 _ 1 4 Tryz.underlying154 hi0 hz0 hz1 hz2 rfl (by omega) (.slice (some ⟨w.heap.size, 0, none⟩) 0 0) 0 [] rfl (World.ownsRow_made w #[] 0 (Nat.le_refl _) (by decide) rfl) w.heap.size (some ad) n c (l.map lv) rfl (h.1.alloc (Nat.le_refl _) _) hone (by simp only [maxLen]; omega) (by omega) (by simp) ?_; intro v1 w1 hown1 hg1 hat1)
    go_ret
    have hg : Below w.heap.size w w1 := ((Below.refl _ _).alloc (Nat.le_refl _) _).grown hg1 (by simp) (fun k hk => by simp [Value.ownBlock] at hk; omega)
    exact ⟨Limbs.of_own (by simpa using hown1) HL.out h.2, hg⟩

/-- two results: limbs, and an error -/
def NatRes (l : List Nat) (er : Int) (e : Ending) (w : World) : Prop := ∃ A c, e = .returned (.tuple #[.slice A l.length c, .int .i64 er]) ∧ l.length ≤ c ∧ c ≤ maxLen ∧ U w A l.length l
theorem U_nil (w : World) (A : Option Addr) : U w A 0 [] := ⟨⟨rfl, fun h => absurd h (by decide)⟩, by simp⟩

set_option maxHeartbeats 400000 in
theorem result_ok (A : Option Addr) (n c : Nat) (l : List Nat) (w : World) (h : U w A n l) (hn : n ≤ 512) :
    Calls Tryz.prog 122 #[.slice A n c] w fun e w' => NatRes l 0 e w' ∧ Below w.heap.size w w' := by
  go_enter Tryz.func122, Tryz.ntmps122
  go_wp2_with (refine (clone_any A n c l _ h (by omega)).mono ?_; rintro e w' ⟨⟨A', c', rfl, h1, h2, h3⟩, hb⟩)
  go_ret2
  exact ⟨⟨A', c', rfl, h1, h2, h3⟩, hb⟩
set_option maxHeartbeats 400000 in
theorem result_long (A : Option Addr) (n c : Nat) (w : World) (hn : 512 < n) :
    Calls Tryz.prog 122 #[.slice A n c] w fun e w' => NatRes [] 3 e w' ∧ Below w.heap.size w w' := by
  go_enter Tryz.func122, Tryz.ntmps122
  go_wp2
  go_ret2
  exact ⟨⟨none, 0, rfl, by simp, by decide, U_nil _ _⟩, Below.refl _ _⟩

set_option maxHeartbeats 400000 in
theorem over_any (A : Option Addr) (n c : Nat) (w : World) (hn : (n : Int) ≤ 9223372036854775807) :
    Calls Tryz.prog 126 #[.slice A n c] w fun e w' => e = .returned (.bool (decide (512 < n))) ∧ w = w' := by
  go_enter Tryz.func126, Tryz.ntmps126
  go_wp2
  go_ret
  refine ⟨?_, rfl⟩
  show Ending.returned (.bool (decide ((512 : Int) < (n : Int)))) = _
  congr 3
  simp; omega
set_option maxHeartbeats 400000 in
theorem wrong_any (A : Option Addr) (n c : Nat) (l : List Nat) (w : World) (h : U w A n l) (hc : n ≤ c) (hm : c ≤ maxLen) :
    Calls Tryz.prog 127 #[.slice A n c] w fun e w' => e = .returned (.bool (!validL l)) ∧ w = w' := by
  go_enter Tryz.func127, Tryz.ntmps127
  go_wp2_with (refine (valid_any A n c l _ h hc hm).mono ?_; rintro e w' ⟨rfl, rfl⟩)
  go_ret
  exact ⟨rfl, rfl⟩

/-- what slices.IndexFunc returns: the index of a hit, or -1 -/
def IdxR (p : Nat → Bool) (k : Nat) (e : Ending) : Prop := ∃ r : Int, e = .returned (.int .i64 r) ∧ decide (0 ≤ r) = (List.range k).any p ∧ -1 ≤ r ∧ r ≤ k
theorem IdxR.hit {p : Nat → Bool} {k i : Nat} (hi : i < k) (hp : p i = true) : IdxR p k (.returned (.int .i64 i)) :=
  ⟨i, rfl, by simp; exact ⟨i, hi, hp⟩, by omega, by omega⟩
theorem IdxR.miss {p : Nat → Bool} {k : Nat} (hp : ∀ j, j < k → p j = false) : IdxR p k (.returned (.int .i64 (-1))) :=
  ⟨-1, rfl, by simp; exact hp, by omega, by omega⟩

set_option maxHeartbeats 400000 in
theorem index_any (ad : Addr) (k c : Nat) (vs : Nat → Value) (p : Nat → Bool) (fid : FuncId) (w : World) (hk : k ≤ 4294967296) (hcell : ∀ i, i < k → w.cell? (ad.add i) = some (vs i))
    (hrun : ∀ (args : Array Value) (w : World), (callFunc fid args).run Tryz.prog w = .ok (.enter fid args) w)
    (hcall : ∀ i, i < k → Calls Tryz.prog fid #[vs i] w fun e w' => e = .returned (.bool (p i)) ∧ w = w') :
    Calls Tryz.prog 134 #[.slice (some ad) k c, .func (.func fid) #[] #[]] w fun e w' => IdxR p k e ∧ w = w' := by
  have HC := Lib.hid hcell
  have HF := Lib.hid hcall
  clear hcell hcall
  go_enter Tryz.func134, Tryz.ntmps134
  go_wp2
  go_loop [8] (fun s8 => ∃ i : Nat, i ≤ k ∧ s8 = .int .i64 i ∧ ∀ j, j < i → p j = false) (fun s8 => k - (intOf s8).toNat)
  case atStart => exact ⟨0, Nat.zero_le _, rfl, fun j hj => absurd hj (Nat.not_lt_zero _)⟩
  case round =>
    obtain ⟨i, hi, rfl, hp⟩ := hrel
    have HP := Lib.hid hp
    clear hp
    by_cases hik : i < k
    · have hc := HC.out i hik
      cases hpi : p i
      · have hcl := HF.out i hik
        rw [hpi] at hcl
        have HH := Lib.hid hpi
        clear hpi
        go_wp2_with (refine hcl.mono ?_; rintro e w' ⟨rfl, rfl⟩)
        refine ⟨⟨i + 1, hik, by go_num, fun j hj => ?_⟩, by simp [intOf]; omega⟩
        rcases Nat.lt_or_ge j i with h1 | h1
        · exact HP.out j h1
        · obtain rfl : j = i := by omega
          exact HH.out
      · have hcl := HF.out i hik
        rw [hpi] at hcl
        have HH := Lib.hid hpi
        clear hpi
        go_wp2_with (refine hcl.mono ?_; rintro e w' ⟨rfl, rfl⟩)
        go_ret
        exact ⟨IdxR.hit hik HH.out, rfl⟩
    · go_wp2
      go_ret
      exact ⟨IdxR.miss (fun j hj => HP.out j (by omega)), rfl⟩

set_option maxHeartbeats 400000 in
theorem contains_any (ad : Addr) (k c : Nat) (vs : Nat → Value) (p : Nat → Bool) (fid : FuncId) (w : World) (hk : k ≤ 4294967296) (hcell : ∀ i, i < k → w.cell? (ad.add i) = some (vs i))
    (hrun : ∀ (args : Array Value) (w : World), (callFunc fid args).run Tryz.prog w = .ok (.enter fid args) w)
    (hcall : ∀ i, i < k → Calls Tryz.prog fid #[vs i] w fun e w' => e = .returned (.bool (p i)) ∧ w = w') :
    Calls Tryz.prog 125 #[.slice (some ad) k c, .func (.func fid) #[] #[]] w fun e w' => e = .returned (.bool ((List.range k).any p)) ∧ w = w' := by
  have H := Lib.hid (index_any ad k c vs p fid w hk hcell hrun hcall)
  clear hcell hcall hrun
  go_enter Tryz.func125, Tryz.ntmps125
  go_wp2_with (refine H.out.mono ?_; rintro e w' ⟨⟨r, rfl, hr, h0, h1⟩, rfl⟩; have HR := Lib.hid hr; clear hr)
  go_ret
  refine ⟨?_, rfl⟩
  rw [← HR.out]; rfl

theorem any_idx {α : Type} {ls : List (List α)} {k : Nat} (hk : ls.length = k) (p : List α → Bool) : (List.range k).any (fun i => p (ls[i]?.getD [])) = ls.any p := by
  subst hk
  rw [Bool.eq_iff_iff]
  simp only [List.any_eq_true, List.mem_range]
  constructor
  · rintro ⟨i, hi, hp⟩
    rw [List.getElem?_eq_getElem hi] at hp
    exact ⟨_, List.getElem_mem hi, hp⟩
  · rintro ⟨x, hx, hp⟩
    obtain ⟨i, hi, rfl⟩ := List.mem_iff_getElem.1 hx
    exact ⟨i, hi, by rw [List.getElem?_eq_getElem hi]; exact hp⟩
/-- the error of arguments: some are too long; some are not right -/
def badE (ls : List (List Nat)) : Int := if ls.any (fun l => decide (512 < l.length)) then 3 else if ls.any (fun l => !validL l) then 2 else 0

set_option maxHeartbeats 400000 in
theorem check_any (ad : Addr) (k c : Nat) (vs : Nat → Value) (ls : List (List Nat)) (w : World) (hk : ls.length = k) (hk2 : k ≤ 4294967296) (hcell : ∀ i, i < k → w.cell? (ad.add i) = some (vs i))
    (hv : ∀ i, i < k → ∃ A n c, vs i = .slice A n c ∧ U w A n (ls[i]?.getD []) ∧ n ≤ c ∧ c ≤ maxLen) :
    Calls Tryz.prog 108 #[.slice (some ad) k c] w fun e w' => e = .returned (.int .i64 (badE ls)) ∧ w = w' := by
  have e1 := any_idx hk (fun l => decide (512 < l.length))
  have e2 := any_idx hk (fun l => !validL l)
  have h1 := contains_any ad k c vs (fun i => decide (512 < (ls[i]?.getD []).length)) 126 w hk2 hcell (fun a w => by go_simp) (fun i hi => by
    obtain ⟨A, n, c, e, hu, hn, hc⟩ := hv i hi
    rw [e, hu.len]
    exact over_any A n c w (by unfold maxLen at hc; omega))
  have h2 := contains_any ad k c vs (fun i => !validL (ls[i]?.getD [])) 127 w hk2 hcell (fun a w => by go_simp) (fun i hi => by
    obtain ⟨A, n, c, e, hu, hn, hc⟩ := hv i hi
    rw [e]
    exact wrong_any A n c _ w hu hn hc)
  rw [e1] at h1
  rw [e2] at h2
  clear e1 e2 hcell hv
  have hbad : badE ls = if ls.any (fun l => decide (512 < l.length)) then 3 else if ls.any (fun l => !validL l) then 2 else 0 := rfl
  generalize ls.any (fun l => decide (512 < l.length)) = p at *
  generalize ls.any (fun l => !validL l) = q at *
  have HB := Lib.hid hbad
  have H1 := Lib.hid h1
  have H2 := Lib.hid h2
  clear hbad h1 h2
  cases p
  · cases q
    · go_enter Tryz.func108, Tryz.ntmps108
      go_wp2_with fail; refine H1.out.mono ?_; rintro e w' ⟨rfl, rfl⟩; go_wp2_with fail; refine H2.out.mono ?_; rintro e w' ⟨rfl, rfl⟩; go_wp2
      go_ret
      exact ⟨by rw [HB.out]; rfl, rfl⟩
    · go_enter Tryz.func108, Tryz.ntmps108
      go_wp2_with fail; refine H1.out.mono ?_; rintro e w' ⟨rfl, rfl⟩; go_wp2_with fail; refine H2.out.mono ?_; rintro e w' ⟨rfl, rfl⟩; go_wp2
      go_ret
      exact ⟨by rw [HB.out]; rfl, rfl⟩
  · go_enter Tryz.func108, Tryz.ntmps108
    go_wp2_with (refine H1.out.mono ?_; rintro e w' ⟨rfl, rfl⟩)
    go_ret
    exact ⟨by rw [HB.out]; rfl, rfl⟩
end Go.Proofs.YtalodfjplegibaaGreatDoor
namespace Go.Proofs.YtalodfjplegibaaGreatDoor
set_option linter.unusedSimpArgs false
open Go.RowKit
set_option linter.unusedVariables false

/-- a slice of limbs as it comes in: n limbs of the capacity c -/
def Arg (w : World) (A : Option Addr) (n c : Nat) (l : List Nat) : Prop := U w A n l ∧ n ≤ c ∧ c ≤ maxLen
theorem Arg.below {w w' : World} {A : Option Addr} {n c : Nat} {l : List Nat} (h : Arg w A n c l) (hb : Below w.heap.size w w') : Arg w' A n c l := ⟨h.1.below hb, h.2⟩
theorem Arg.alloc {w : World} {A : Option Addr} {n c : Nat} {l : List Nat} (h : Arg w A n c l) (o : Obj) : Arg (w.alloc o) A n c l := h.below ((Below.refl _ _).alloc (Nat.le_refl _) _)
theorem Arg.drewN {w : World} {A : Option Addr} {n c : Nat} {l : List Nat} (h : Arg w A n c l) (k : Nat) : Arg (w.drewN k) A n c l := ⟨h.1.drewN k, h.2⟩

theorem check1 (A : Option Addr) (n c : Nat) (l : List Nat) (w : World) (T : TypeId) (h : Arg w A n c l) :
    Calls Tryz.prog 108 #[.slice (some ⟨w.heap.size, 0, none⟩) 1 1] (w.alloc (.cells #[.slice A n c] T)) fun e w' => e = .returned (.int .i64 (badE [l])) ∧ w.alloc (.cells #[.slice A n c] T) = w' := by
  have ha := h.alloc (.cells #[.slice A n c] T)
  refine check_any _ 1 1 (fun i => .slice A n c) [l] _ rfl (by decide) (fun i hi => ?_) (fun i hi => ?_)
  · obtain rfl : i = 0 := by omega
    simp [Addr.add]
  · obtain rfl : i = 0 := by omega
    exact ⟨A, n, c, rfl, ha.1, ha.2⟩
theorem check2 (A B : Option Addr) (n m c d : Nat) (la lb : List Nat) (w : World) (T : TypeId) (ha : Arg w A n c la) (hb : Arg w B m d lb) :
    Calls Tryz.prog 108 #[.slice (some ⟨w.heap.size, 0, none⟩) 2 2] (w.alloc (.cells #[.slice A n c, .slice B m d] T)) fun e w' => e = .returned (.int .i64 (badE [la, lb])) ∧ w.alloc (.cells #[.slice A n c, .slice B m d] T) = w' := by
  have ha := ha.alloc (.cells #[.slice A n c, .slice B m d] T)
  have hb := hb.alloc (.cells #[.slice A n c, .slice B m d] T)
  refine check_any _ 2 2 (fun i => if i = 0 then .slice A n c else .slice B m d) [la, lb] _ rfl (by decide) (fun i hi => ?_) (fun i hi => ?_)
  · match i, hi with
    | 0, _ => simp [Addr.add]
    | 1, _ => simp [Addr.add]
  · match i, hi with
    | 0, _ => exact ⟨A, n, c, rfl, ha.1, ha.2⟩
    | 1, _ => exact ⟨B, m, d, rfl, hb.1, hb.2⟩

theorem badE_cases (ls : List (List Nat)) : badE ls = 0 ∨ badE ls = 2 ∨ badE ls = 3 := by
  unfold badE; split
  · exact .inr (.inr rfl)
  · split
    · exact .inr (.inl rfl)
    · exact .inl rfl
theorem badE_zero {ls : List (List Nat)} : badE ls = 0 ↔ ∀ l ∈ ls, validL l = true := by
  unfold badE
  constructor
  · intro h
    split at h
    · cases h
    · split at h
      · cases h
      · rename_i h1
        simpa using h1
  · intro h
    have h1 : ls.any (fun l => decide (512 < l.length)) = false := by
      simp; intro l hl
      have := h l hl
      simp [validL] at this; omega
    have h2 : ls.any (fun l => !validL l) = false := by simpa using h
    simp [h1, h2]
/-- a number as a result, if it is not too long -/
def fitS (n : Nat) : List Nat × Int := if (limbs n).length ≤ 512 then (limbs n, 0) else ([], 3)
theorem result_any (A : Option Addr) (n c x : Nat) (w : World) (h : U w A n (limbs x)) :
    Calls Tryz.prog 122 #[.slice A n c] w fun e w' => NatRes (fitS x).1 (fitS x).2 e w' ∧ Below w.heap.size w w' := by
  have hl := h.len
  by_cases h5 : n ≤ 512
  · have e : fitS x = (limbs x, 0) := by simp [fitS, hl, h5]
    rw [e]; exact result_ok A n c _ w h h5
  · have e : fitS x = ([], 3) := by simp [fitS, hl, h5]
    rw [e]; exact result_long A n c w (by omega)

theorem Of_any (x : Nat) (w : World) (hx : x < LB * LB) :
    Calls Tryz.prog 107 #[.int .u64 x] w fun e w' => Limbs (limbs x) e w' ∧ Below w.heap.size w w' := by
  have H := Lib.hid (of_any x w hx)
  clear hx
  go_enter Tryz.func107, Tryz.ntmps107
  go_wp2_with (refine H.out.mono ?_; rintro e w' ⟨⟨A, c, rfl, h1, h2, h3⟩, hb⟩)
  go_ret
  exact ⟨⟨A, c, rfl, h1, h2, h3⟩, hb⟩

/-- Add -/
def plusS (la lb : List Nat) : List Nat × Int := if badE [la, lb] = 0 then fitS (valOf la + valOf lb) else ([], badE [la, lb])
set_option maxHeartbeats 400000 in
theorem Add_any (A B : Option Addr) (n m c d : Nat) (la lb : List Nat) (w : World) (ha : Arg w A n c la) (hb : Arg w B m d lb) :
    Calls Tryz.prog 105 #[.slice A n c, .slice B m d] w fun e w' => NatRes (plusS la lb).1 (plusS la lb).2 e w' ∧ Below w.heap.size w w' := by
  have hck := check2 A B n m c d la lb w 93 ha hb
  have hu : Below w.heap.size w (w.alloc (.cells #[.slice A n c, .slice B m d] 93)) := (Below.refl _ _).alloc (Nat.le_refl _) _
  rcases badE_cases [la, lb] with e | e | e
  · have es : plusS la lb = fitS (valOf la + valOf lb) := by simp [plusS, e]
    have hz := badE_zero.1 e
    have ea := (validL_iff ha.1.2).1 (hz la (by simp))
    have eb := (validL_iff hb.1.2).1 (hz lb (by simp))
    have ha2 := (ha.below hu).1
    have hb2 := (hb.below hu).1
    have hna := ha2.len
    have hnb := hb2.len
    rw [ea.1] at ha2
    rw [eb.1] at hb2
    have hp := plus_any A B n m c d (valOf la) (valOf lb) _ ha2 hb2 (by omega) (by omega)
    rw [es]
    rw [e] at hck
    generalize valOf la + valOf lb = x at *
    have H := Lib.hid hck
    have HP := Lib.hid hp
    clear hck hp es e hz ea eb ha2 hb2 hna hnb ha hb
    go_enter Tryz.func105, Tryz.ntmps105
    go_wp2_with fail
    refine H.out.mono ?_; rintro e w' ⟨rfl, rfl⟩
    go_wp2_with fail
    refine HP.out.mono ?_; rintro e w' ⟨⟨A', c', rfl, h1, h2, h3⟩, hb⟩
    go_wp2_with fail
    refine (result_any _ _ _ x _ h3).mono ?_; rintro e w2 ⟨⟨A2, c2, rfl, k1, k2, k3⟩, hb2⟩
    go_wp2
    go_ret2
    exact ⟨⟨A2, c2, rfl, k1, k2, k3⟩, (hu.trans (hb.mono (by simp))).trans (hb2.mono (by have := hb.size; simp at this; omega))⟩
  all_goals
    have es : plusS la lb = ([], badE [la, lb]) := by simp [plusS, e]
    rw [es, e]
    rw [e] at hck
    have H := Lib.hid hck
    clear hck es e ha hb
    go_enter Tryz.func105, Tryz.ntmps105
    go_wp2_with fail
    refine H.out.mono ?_; rintro e w' ⟨rfl, rfl⟩
    go_wp2
    go_ret2
    exact ⟨⟨none, 0, rfl, by simp, by decide, U_nil _ _⟩, hu⟩

/-- Mul -/
def timesS (la lb : List Nat) : List Nat × Int := if badE [la, lb] = 0 then fitS (valOf la * valOf lb) else ([], badE [la, lb])
set_option maxHeartbeats 400000 in
theorem Mul_any (A B : Option Addr) (n m c d : Nat) (la lb : List Nat) (w : World) (ha : Arg w A n c la) (hb : Arg w B m d lb) :
    Calls Tryz.prog 106 #[.slice A n c, .slice B m d] w fun e w' => NatRes (timesS la lb).1 (timesS la lb).2 e w' ∧ Below w.heap.size w w' := by
  have hck := check2 A B n m c d la lb w 93 ha hb
  have hu : Below w.heap.size w (w.alloc (.cells #[.slice A n c, .slice B m d] 93)) := (Below.refl _ _).alloc (Nat.le_refl _) _
  rcases badE_cases [la, lb] with e | e | e
  · have es : timesS la lb = fitS (valOf la * valOf lb) := by simp [timesS, e]
    have hz := badE_zero.1 e
    have ea := (validL_iff ha.1.2).1 (hz la (by simp))
    have eb := (validL_iff hb.1.2).1 (hz lb (by simp))
    have ha2 := (ha.below hu).1
    have hb2 := (hb.below hu).1
    have hna := ha2.len
    have hnb := hb2.len
    rw [ea.1] at ha2
    rw [eb.1] at hb2
    have hp := times_any A B n m c d (valOf la) (valOf lb) _ ha2 hb2 (by omega) (by omega)
    rw [es]
    rw [e] at hck
    generalize valOf la * valOf lb = x at *
    have H := Lib.hid hck
    have HP := Lib.hid hp
    clear hck hp es e hz ea eb ha2 hb2 hna hnb ha hb
    go_enter Tryz.func106, Tryz.ntmps106
    go_wp2_with fail
    refine H.out.mono ?_; rintro e w' ⟨rfl, rfl⟩
    go_wp2_with fail
    refine HP.out.mono ?_; rintro e w' ⟨⟨A', c', rfl, h1, h2, h3⟩, hb⟩
    go_wp2_with fail
    refine (result_any _ _ _ x _ h3).mono ?_; rintro e w2 ⟨⟨A2, c2, rfl, k1, k2, k3⟩, hb2⟩
    go_wp2
    go_ret2
    exact ⟨⟨A2, c2, rfl, k1, k2, k3⟩, (hu.trans (hb.mono (by simp))).trans (hb2.mono (by have := hb.size; simp at this; omega))⟩
  all_goals
    have es : timesS la lb = ([], badE [la, lb]) := by simp [timesS, e]
    rw [es, e]
    rw [e] at hck
    have H := Lib.hid hck
    clear hck es e ha hb
    go_enter Tryz.func106, Tryz.ntmps106
    go_wp2_with fail
    refine H.out.mono ?_; rintro e w' ⟨rfl, rfl⟩
    go_wp2
    go_ret2
    exact ⟨⟨none, 0, rfl, by simp, by decide, U_nil _ _⟩, hu⟩

def cmpS (la lb : List Nat) : Int × Int := if badE [la, lb] = 0 then (cmpN (valOf la) (valOf lb), 0) else (0, badE [la, lb])
set_option maxHeartbeats 400000 in
theorem Cmp_any (A B : Option Addr) (n m c d : Nat) (la lb : List Nat) (w : World) (ha : Arg w A n c la) (hb : Arg w B m d lb) :
    Calls Tryz.prog 81 #[.slice A n c, .slice B m d] w fun e w' => e = .returned (.tuple #[.int .i64 (cmpS la lb).1, .int .i64 (cmpS la lb).2]) ∧ Below w.heap.size w w' := by
  have hck := check2 A B n m c d la lb w 93 ha hb
  have hu : Below w.heap.size w (w.alloc (.cells #[.slice A n c, .slice B m d] 93)) := (Below.refl _ _).alloc (Nat.le_refl _) _
  rcases badE_cases [la, lb] with e | e | e
  · have es : cmpS la lb = (cmpN (valOf la) (valOf lb), 0) := by simp [cmpS, e]
    have hz := badE_zero.1 e
    have ea := (validL_iff ha.1.2).1 (hz la (by simp))
    have eb := (validL_iff hb.1.2).1 (hz lb (by simp))
    have ha2 := (ha.below hu).1
    have hb2 := (hb.below hu).1
    have hna := ha2.len
    have hnb := hb2.len
    rw [ea.1] at ha2
    rw [eb.1] at hb2
    have hp := cmp_any A B n m c d (valOf la) (valOf lb) _ ha2 hb2 (by omega) (by omega)
    rw [es]
    rw [e] at hck
    generalize cmpN (valOf la) (valOf lb) = x at *
    have H := Lib.hid hck
    have HP := Lib.hid hp
    clear hck hp es e hz ea eb ha2 hb2 hna hnb ha hb
    go_enter Tryz.func81, Tryz.ntmps81
    go_wp2_with fail
    refine H.out.mono ?_; rintro e w' ⟨rfl, rfl⟩
    go_wp2_with fail
    refine HP.out.mono ?_; rintro e w' ⟨rfl, q, rfl⟩
    go_wp2
    go_ret2
    exact ⟨rfl, below_drewN hu _⟩
  all_goals
    have es : cmpS la lb = (0, badE [la, lb]) := by simp [cmpS, e]
    rw [es, e]
    rw [e] at hck
    have H := Lib.hid hck
    clear hck es e ha hb
    go_enter Tryz.func81, Tryz.ntmps81
    go_wp2_with fail
    refine H.out.mono ?_; rintro e w' ⟨rfl, rfl⟩
    go_wp2
    go_ret2
    exact ⟨rfl, hu⟩
end Go.Proofs.YtalodfjplegibaaGreatDoor
namespace Go.Proofs.YtalodfjplegibaaGreatDoor
set_option linter.unusedSimpArgs false
open Go.RowKit
set_option linter.unusedVariables false

theorem pow_cast (r : Nat) : ((2 ^ r : Nat) : Int) = (2 : Int) ^ r := by simp
theorem ofInt_u32 (a : Nat) (ha : a < LB) : (BitVec.ofInt 32 (a : Int)).toNat = a := by
  rw [BitVec.ofInt_natCast, BitVec.toNat_ofNat]; exact Nat.mod_eq_of_lt ha
theorem or_u32 (a b : Nat) (ha : a < LB) (hb : b < LB) : bits .or .u32 (a : Int) (b : Int) = ((a ||| b : Nat) : Int) := by
  have hx : a ||| b < LB := or_lt_LB ha hb
  show IntKind.u32.wrap ((BitVec.ofInt 32 (a : Int) ||| BitVec.ofInt 32 (b : Int)).toNat : Int) = _
  rw [BitVec.toNat_or, ofInt_u32 a ha, ofInt_u32 b hb, IntKind.wrap_u32]
  unfold LB at hx; omega

set_option maxHeartbeats 800000 in
set_option maxRecDepth 100000 in
theorem up_any (A : Option Addr) (n c a : Nat) (k q r : Nat) (w : World) (ha : U w A n (limbs a)) (hn : n ≤ 4294967296) (hk : k ≤ 20000) (h0 : 0 < n) (hq : k / 32 = q) (hr : k % 32 = r) :
    Calls Tryz.prog 131 #[.slice A n c, .int .i64 k] w fun e w' => Limbs (limbs (a * 2 ^ k)) e w' ∧ Below w.heap.size w w' := by
  have hla := ha.len
  have HA := Lib.hid hla
  clear hla
  have g0 : ((n : Int) == 0) = false := by rw [beq_eq_false_iff_ne]; omega
  have hmk := run_make_row' (P := Tryz.prog) 154 128 (.int .u32 0) 4 Tryz.underlying154 info32 rfl .i64 .i64 (n+q+1) (by omega) (by omega)
  simp only [Int.natCast_add, Int.natCast_one] at hmk
  have HK := Lib.hid (show k = 32 * q + r by omega)
  have hq' : (k : Int) / 32 = q := by omega
  have hr' : (k : Int) % 32 = r := by omega
  have hq2 : q ≤ 625 := by omega
  have hr2 : r < 32 := by omega
  clear hq hr
  go_enter Tryz.func131, Tryz.ntmps131
  go_wp2
  clear hmk hq' hr'
  go_loopw [27] (fun s27 wr => ∃ (i : Nat) (O : List Nat), i ≤ n ∧ s27 = .int .i64 i ∧ UpI (limbs a) n q r i O ∧ Out wr w.heap.size (n+q+1) O ∧ Below w.heap.size w wr) (fun s27 _ => n - (intOf s27).toNat)
  case atStart => exact ⟨0, _, Nat.zero_le _, rfl, UpI.start _ _ _ _, Out.zeros _ _, (Below.refl _ _).alloc (Nat.le_refl _) _⟩
  case round =>
    obtain ⟨i, O, hi, rfl, hI, hO, hB⟩ := hrel
    by_cases hin : i < n
    · obtain ⟨ad, rfl, hbd, hca⟩ := (ha.below hB).cell (k := i) hin
      have hx : (((limbs a)[i]?.getD 0 : Nat) : Int) < 4294967296 := by have := ha.lt i; unfold LB at this; omega
      have hc0 := hO.cellAt (i := i + q) (by omega)
      have hf0 := hO.1.frozen (i + q)
      have ho : ((O[i+q]?.getD 0 : Nat) : Int) < 4294967296 := by have := hO.limb (i+q); unfold LB at this; omega
      have hc1 : ∀ v, (wr.setCell ⟨w.heap.size, i + q, none⟩ v).cell? ⟨w.heap.size, i + q + 1, none⟩ = some (.int .u32 (O[i+q+1]?.getD 0 : Nat)) := fun v => by
        have := (hO.1.set (i+q) v).cell (i := i + q + 1) (by omega)
        rw [this, if_neg (by omega)]; rfl
      have hf1 : ∀ v, (wr.setCell ⟨w.heap.size, i + q, none⟩ v).frozen? ⟨w.heap.size, i + q + 1, none⟩ = false := fun v => (hO.1.set (i+q) v).frozen _
      go_wp2
      have hlx : (limbs a)[i]?.getD 0 < LB := by unfold LB; omega
      have hst := hI.step hin HA.out hr2 hlx
      have hs := sh_lt hlx hr2
      have hw : IntKind.u64.wrap (((limbs a)[i]?.getD 0 : Nat) * 2 ^ r : Int) = (((limbs a)[i]?.getD 0 * 2 ^ r : Nat) : Int) := by
        rw [← pow_cast, ← Int.natCast_mul, wrap_u64 _ (by omega) (by omega)]
      have hor := or_u32 (O[i+q]?.getD 0) (((limbs a)[i]?.getD 0 * 2 ^ r) % LB) (hO.limb _) (Nat.mod_lt _ LB_pos)
      rw [hw]
      refine ⟨⟨i + 1, _, hin, by go_num, hst, (hO.put hI.len (i := i + q) (by omega) ?_ (or_lt_LB (hO.limb _) (Nat.mod_lt _ LB_pos))).put (by simpa using hI.len) (by omega) ?_ ?_, (hB.setCell (Nat.le_refl _) _).setCell (Nat.le_refl _) _⟩, by simp [intOf]; omega⟩
      · rw [← hor]; rfl
      · unfold LB; omega
      · unfold LB; omega
    · obtain rfl : i = n := by omega
      have hU := hO.U hI.len
      go_wp2_with (refine (trim_any _ _ _ _ _ hU (Nat.le_refl _) (by unfold maxLen; omega)).mono ?_; rintro e w' ⟨⟨A', c', rfl, h1, h2, h3⟩, rfl⟩)
      go_ret
      have e : trimN O = limbs (a * 2 ^ k) := by
        rw [trimN_limbs hU.2, hI.val, List.take_of_length_le (by rw [HA.out]; omega), valOf_limbs, HK.out]
      rw [← e]
      exact ⟨⟨A', c', rfl, h1, h2, h3⟩, hB⟩

theorem or_u64 (a b : Nat) (ha : a < 18446744073709551616) (hb : b < 18446744073709551616) : bits .or .u64 (a : Int) (b : Int) = ((a ||| b : Nat) : Int) := by
  have hx : a ||| b < 2 ^ 64 := Nat.or_lt_two_pow (by omega) (by omega)
  have e : ∀ x : Nat, x < 18446744073709551616 → (BitVec.ofInt 64 (x : Int)).toNat = x := fun x h => by
    rw [BitVec.ofInt_natCast, BitVec.toNat_ofNat]; exact Nat.mod_eq_of_lt h
  show IntKind.u64.wrap ((BitVec.ofInt 64 (a : Int) ||| BitVec.ofInt 64 (b : Int)).toNat : Int) = _
  rw [BitVec.toNat_or, e a ha, e b hb, IntKind.wrap_u64]
  omega
theorem down_v0 (x r : Nat) (hx : x < LB) : (IntKind.u64.wrap (x : Int) / 2 ^ r % 4294967296 : Int) = (((x + LB * 0) / 2 ^ r % LB : Nat) : Int) := by
  unfold LB at *
  rw [wrap_u64 _ (by omega) (by omega), Nat.mul_zero, Nat.add_zero]
  simp
theorem down_v1 (x y r : Nat) (hx : x < LB) (hy : y < LB) :
    (bits .or .u64 (IntKind.u64.wrap (x : Int)) (IntKind.u64.wrap (IntKind.u64.wrap (y : Int) * 4294967296)) / 2 ^ r % 4294967296 : Int) = (((x + LB * y) / 2 ^ r % LB : Nat) : Int) := by
  have h1 : y * 4294967296 < 18446744073709551616 := by unfold LB at hy; omega
  have e0 : (y : Int) * 4294967296 = ((y * 4294967296 : Nat) : Int) := by omega
  have hx' := hx
  unfold LB at hx hy
  rw [wrap_u64 (x : Int) (by omega) (by omega), wrap_u64 (y : Int) (by omega) (by omega), e0, wrap_u64 _ (by omega) (by omega), or_u64 _ _ (by omega) h1,
    or_add 32 x _ (by rw [← LB_two]; exact hx') (by rw [← LB_two]; exact Nat.dvd_mul_left _ _), Nat.mul_comm y]
  unfold LB
  simp

set_option maxHeartbeats 800000 in
set_option maxRecDepth 100000 in
theorem down_some (A : Option Addr) (n c a : Nat) (k q r : Nat) (w : World) (ha : U w A n (limbs a)) (hn : n ≤ 4294967296) (hk : k ≤ 20000) (hq : k / 32 = q) (hr : k % 32 = r) (hqn : q < n) :
    Calls Tryz.prog 130 #[.slice A n c, .int .i64 k] w fun e w' => Limbs (limbs (a / 2 ^ k)) e w' ∧ Below w.heap.size w w' := by
  have hla := ha.len
  have HA := Lib.hid hla
  clear hla
  have g0 : ¬ (q : Int) ≥ (n : Int) := by omega
  obtain ⟨N, hN⟩ : ∃ N, N = n - q := ⟨_, rfl⟩
  have hmk := run_make_row' (P := Tryz.prog) 154 128 (.int .u32 0) 4 Tryz.underlying154 info32 rfl .i64 .i64 N (by omega) (by omega)
  have hNi : (n : Int) - (q : Int) = N := by omega
  have HN := Lib.hid (show n = q + N by omega)
  have HK := Lib.hid (show k = 32 * q + r by omega)
  have hq' : (k : Int) / 32 = q := by omega
  have hr' : (k : Int) % 32 = r := by omega
  have hq2 : q ≤ 625 := by omega
  have hr2 : r < 32 := by omega
  have hN1 : N ≤ n := by omega
  clear hq hr hN
  go_enter Tryz.func130, Tryz.ntmps130
  go_wp2
  clear hmk hq' hr' hNi
  go_loopw [26] (fun s26 wr => ∃ (i : Nat) (O : List Nat), i ≤ N ∧ s26 = .int .i64 i ∧ O = (shr r ((limbs a).drop q)).take i ∧ O.length = i ∧ Out wr w.heap.size N O ∧ Below w.heap.size w wr) (fun s26 _ => N - (intOf s26).toNat)
  case atStart => exact ⟨0, _, Nat.zero_le _, rfl, by simp, rfl, Out.made _ _, (Below.refl _ _).alloc (Nat.le_refl _) _⟩
  case round =>
    obtain ⟨i, O, hi, rfl, hsh, hol, hO, hB⟩ := hrel
    have HS := Lib.hid hsh
    have HL := Lib.hid hol
    clear hsh hol
    by_cases hin : i < N
    · have hn3 : (i : Int) + q < n := by have := HN.out; omega
      obtain ⟨ad, rfl, hbd, hca⟩ := (ha.below hB).cell (k := i + q) (by omega)
      have hx : (((limbs a)[i+q]?.getD 0 : Nat) : Int) < 4294967296 := by have := ha.lt (i+q); unfold LB at this; omega
      have hc0 := hO.1.cell (i := i) (by omega)
      have hf0 := hO.1.frozen i
      have hidx : 0 ≤ (i : Int) + q := by omega
      by_cases him : i + q + 1 < n
      · obtain ⟨bd, hbe, hbd', hcb⟩ := (ha.below hB).cell (k := i + q + 1) him
        have hbe' : ad = bd := by injection hbe
        subst hbe'
        have hy : (((limbs a)[i+q+1]?.getD 0 : Nat) : Int) < 4294967296 := by have := ha.lt (i+q+1); unfold LB at this; omega
        clear hbe
        have HX : Sl _ := ⟨hx⟩
        have HY : Sl _ := ⟨hy⟩
        clear hx hy
        rw [add_succ] at hcb
        go_wp2
        have hx := HX.out
        have hy := HY.out
        have hlx : (limbs a)[i+q]?.getD 0 < LB := by unfold LB; omega
        have hly : (limbs a)[i+q+1]?.getD 0 < LB := by unfold LB; omega
        have hget := shr_get r ((limbs a).drop q) i (by rw [List.length_drop, HA.out]; omega)
        simp only [List.getElem?_drop] at hget
        rw [Nat.add_comm q i, show q + (i + 1) = i + q + 1 by omega] at hget
        refine ⟨⟨i + 1, _, hin, by go_num, ?_, ?_, hO.setI HL.out (down_v1 _ _ r hlx hly) (Nat.mod_lt _ LB_pos), hB.setCell (Nat.le_refl _) _⟩, by simp [intOf]; omega⟩
        · rw [HS.out, take_snoc_get hget]
        · rw [List.length_append, HL.out]; rfl
      · have him' : decide (i + q + 1 < n) = false := by simp; omega
        have HX : Sl _ := ⟨hx⟩
        clear hx
        go_wp2
        have hx := HX.out
        have hlx : (limbs a)[i+q]?.getD 0 < LB := by unfold LB; omega
        have hget := shr_get r ((limbs a).drop q) i (by rw [List.length_drop, HA.out]; omega)
        simp only [List.getElem?_drop] at hget
        rw [Nat.add_comm q i, show q + (i + 1) = i + q + 1 by omega, List.getElem?_eq_none (i := i + q + 1) (by rw [HA.out]; omega)] at hget
        refine ⟨⟨i + 1, _, hin, by go_num, ?_, ?_, hO.setI HL.out (down_v0 _ r hlx) (Nat.mod_lt _ LB_pos), hB.setCell (Nat.le_refl _) _⟩, by simp [intOf]; omega⟩
        · rw [HS.out, take_snoc_get hget]; simp
        · rw [List.length_append, HL.out]; rfl
    · obtain rfl : i = N := by omega
      have hU := hO.U HL.out
      go_wp2_with (refine (trim_any _ _ _ _ _ hU (Nat.le_refl _) (by unfold maxLen; omega)).mono ?_; rintro e w' ⟨⟨A', c', rfl, h1, h2, h3⟩, rfl⟩)
      go_ret
      have e : trimN O = limbs (a / 2 ^ k) := by
        rw [trimN_limbs hU.2, HS.out, List.take_of_length_le (by rw [shr_len, List.length_drop, HA.out]; have := HN.out; omega), down_val _ _ _ (by omega), ← HK.out]
      rw [← e]
      exact ⟨⟨A', c', rfl, h1, h2, h3⟩, hB⟩

set_option maxHeartbeats 400000 in
set_option maxRecDepth 100000 in
theorem down_none (A : Option Addr) (n c a : Nat) (k q : Nat) (w : World) (ha : U w A n (limbs a)) (hn : n ≤ 4294967296) (hk : k ≤ 20000) (hq : k / 32 = q) (hqn : n ≤ q) :
    Calls Tryz.prog 130 #[.slice A n c, .int .i64 k] w fun e w' => Limbs (limbs (a / 2 ^ k)) e w' ∧ Below w.heap.size w w' := by
  have hla := ha.len
  have e : a / 2 ^ k = 0 := by
    refine Nat.div_eq_of_lt (Nat.lt_of_lt_of_le (lt_limbs_len a) ?_)
    rw [hla, LB_pow]
    exact Nat.pow_le_pow_right (by decide) (by omega)
  rw [e, limbs_zero]
  have hq' : (k : Int) / 32 = q := by omega
  have g1 : (n : Int) ≤ q := by omega
  clear hla e hq
  go_enter Tryz.func130, Tryz.ntmps130
  go_wp2
  go_ret
  exact ⟨⟨none, 0, rfl, by simp, by decide, U_nil _ _⟩, Below.refl _ _⟩
theorem down_any (A : Option Addr) (n c a : Nat) (k : Nat) (w : World) (ha : U w A n (limbs a)) (hn : n ≤ 4294967296) (hk : k ≤ 20000) :
    Calls Tryz.prog 130 #[.slice A n c, .int .i64 k] w fun e w' => Limbs (limbs (a / 2 ^ k)) e w' ∧ Below w.heap.size w w' := by
  rcases Nat.lt_or_ge (k / 32) n with h | h
  · exact down_some A n c a k _ _ w ha hn hk rfl rfl h
  · exact down_none A n c a k _ w ha hn hk rfl h
set_option maxHeartbeats 400000 in
theorem up_zero (A : Option Addr) (c a : Nat) (k : Nat) (w : World) (ha : U w A 0 (limbs a)) :
    Calls Tryz.prog 131 #[.slice A 0 c, .int .i64 k] w fun e w' => Limbs (limbs (a * 2 ^ k)) e w' ∧ Below w.heap.size w w' := by
  have e : a = 0 := limbs_nil_iff.1 (List.eq_nil_of_length_eq_zero ha.len)
  subst e
  rw [Nat.zero_mul, limbs_zero]
  go_enter Tryz.func131, Tryz.ntmps131
  go_wp2
  go_ret
  exact ⟨⟨none, 0, rfl, by simp, by decide, U_nil _ _⟩, Below.refl _ _⟩
theorem up_all (A : Option Addr) (n c a : Nat) (k : Nat) (w : World) (ha : U w A n (limbs a)) (hn : n ≤ 4294967296) (hk : k ≤ 20000) :
    Calls Tryz.prog 131 #[.slice A n c, .int .i64 k] w fun e w' => Limbs (limbs (a * 2 ^ k)) e w' ∧ Below w.heap.size w w' := by
  rcases Nat.eq_zero_or_pos n with h | h
  · subst h; exact up_zero A c a k w ha
  · exact up_any A n c a k _ _ w ha hn hk h rfl rfl
end Go.Proofs.YtalodfjplegibaaGreatDoor
namespace Go.Proofs.YtalodfjplegibaaGreatDoor
set_option linter.unusedSimpArgs false
open Go.RowKit
set_option linter.unusedVariables false

def shiftS (la : List Nat) (n : Int) : List Nat × Int :=
  if badE [la] = 0 then (if n < -20000 ∨ 20000 < n then ([], 2) else if n < 0 then fitS (valOf la / 2 ^ (-n).toNat) else fitS (valOf la * 2 ^ n.toNat)) else ([], badE [la])

set_option maxHeartbeats 400000 in
theorem Shift_bad (A : Option Addr) (n c : Nat) (la : List Nat) (k : Int) (w : World) (ha : Arg w A n c la) (hb : badE [la] ≠ 0) :
    Calls Tryz.prog 120 #[.slice A n c, .int .i64 k] w fun e w' => NatRes [] (badE [la]) e w' ∧ Below w.heap.size w w' := by
  have hck := check1 A n c la w 93 ha
  have hu : Below w.heap.size w (w.alloc (.cells #[.slice A n c] 93)) := (Below.refl _ _).alloc (Nat.le_refl _) _
  rcases badE_cases [la] with e | e | e
  · exact absurd e hb
  all_goals
    rw [e] at hck ⊢
    have H : Sl _ := ⟨hck⟩
    clear hck e ha hb
    go_enter Tryz.func120, Tryz.ntmps120
    go_wp2_with fail
    refine H.out.mono ?_; rintro e w' ⟨rfl, rfl⟩
    go_wp2
    go_ret2
    exact ⟨⟨none, 0, rfl, by simp, by decide, U_nil _ _⟩, hu⟩
set_option maxHeartbeats 400000 in
theorem Shift_arg (A : Option Addr) (n c : Nat) (la : List Nat) (k : Int) (w : World) (ha : Arg w A n c la) (hb : badE [la] = 0) (hk : k < -20000 ∨ 20000 < k) :
    Calls Tryz.prog 120 #[.slice A n c, .int .i64 k] w fun e w' => NatRes [] 2 e w' ∧ Below w.heap.size w w' := by
  have hck := check1 A n c la w 93 ha
  have hu : Below w.heap.size w (w.alloc (.cells #[.slice A n c] 93)) := (Below.refl _ _).alloc (Nat.le_refl _) _
  rw [hb] at hck
  have H : Sl _ := ⟨hck⟩
  clear hck ha hb
  rcases hk with hk | hk
  · go_enter Tryz.func120, Tryz.ntmps120
    go_wp2_with fail
    refine H.out.mono ?_; rintro e w' ⟨rfl, rfl⟩
    go_wp2
    go_ret2
    exact ⟨⟨none, 0, rfl, by simp, by decide, U_nil _ _⟩, hu⟩
  · have hk2 : decide (k < -20000) = false := by simp; omega
    go_enter Tryz.func120, Tryz.ntmps120
    go_wp2_with fail
    refine H.out.mono ?_; rintro e w' ⟨rfl, rfl⟩
    go_wp2
    go_ret2
    exact ⟨⟨none, 0, rfl, by simp, by decide, U_nil _ _⟩, hu⟩
set_option maxHeartbeats 400000 in
theorem Shift_down (A : Option Addr) (n c : Nat) (la : List Nat) (k : Nat) (w : World) (ha : Arg w A n c la) (hb : badE [la] = 0) (hk : k ≤ 20000) (hk0 : 0 < k) :
    Calls Tryz.prog 120 #[.slice A n c, .int .i64 (-(k : Int))] w fun e w' => NatRes (fitS (valOf la / 2 ^ k)).1 (fitS (valOf la / 2 ^ k)).2 e w' ∧ Below w.heap.size w w' := by
  have hck := check1 A n c la w 93 ha
  have hu : Below w.heap.size w (w.alloc (.cells #[.slice A n c] 93)) := (Below.refl _ _).alloc (Nat.le_refl _) _
  rw [hb] at hck
  have hz := badE_zero.1 hb
  have ea := (validL_iff ha.1.2).1 (hz la (by simp))
  have ha2 := (ha.below hu).1
  have hna := ha2.len
  rw [ea.1] at ha2
  have hp := down_any A n c (valOf la) k _ ha2 (by omega) hk
  generalize valOf la / 2 ^ k = x at *
  have H : Sl _ := ⟨hck⟩
  have HP : Sl _ := ⟨hp⟩
  clear hck hp hb hz ea ha2 hna ha
  have h1 : decide (-(k : Int) < -20000) = false := by simp; omega
  have h2 : decide (20000 < -(k : Int)) = false := by rw [decide_eq_false_iff_not]; omega
  have h3 : -(k : Int) < 0 := by omega
  go_enter Tryz.func120, Tryz.ntmps120
  go_wp2_with fail
  refine H.out.mono ?_; rintro e w' ⟨rfl, rfl⟩
  go_wp2_with fail
  refine HP.out.mono ?_; rintro e w' ⟨⟨A', c', rfl, h1, h2, h3⟩, hb⟩
  go_wp2_with fail
  refine (result_any _ _ _ x _ h3).mono ?_; rintro e w2 ⟨⟨A2, c2, rfl, k1, k2, k3⟩, hb2⟩
  go_wp2
  go_ret2
  exact ⟨⟨A2, c2, rfl, k1, k2, k3⟩, (hu.trans (hb.mono (by simp))).trans (hb2.mono (by have := hb.size; simp at this; omega))⟩
set_option maxHeartbeats 400000 in
theorem Shift_up (A : Option Addr) (n c : Nat) (la : List Nat) (k : Nat) (w : World) (ha : Arg w A n c la) (hb : badE [la] = 0) (hk : k ≤ 20000) :
    Calls Tryz.prog 120 #[.slice A n c, .int .i64 k] w fun e w' => NatRes (fitS (valOf la * 2 ^ k)).1 (fitS (valOf la * 2 ^ k)).2 e w' ∧ Below w.heap.size w w' := by
  have hck := check1 A n c la w 93 ha
  have hu : Below w.heap.size w (w.alloc (.cells #[.slice A n c] 93)) := (Below.refl _ _).alloc (Nat.le_refl _) _
  rw [hb] at hck
  have hz := badE_zero.1 hb
  have ea := (validL_iff ha.1.2).1 (hz la (by simp))
  have ha2 := (ha.below hu).1
  have hna := ha2.len
  rw [ea.1] at ha2
  have hp := up_all A n c (valOf la) k _ ha2 (by omega) hk
  generalize valOf la * 2 ^ k = x at *
  have H : Sl _ := ⟨hck⟩
  have HP : Sl _ := ⟨hp⟩
  clear hck hp hb hz ea ha2 hna ha
  have h1 : decide ((k : Int) < -20000) = false := by rw [decide_eq_false_iff_not]; omega
  have h2 : decide (20000 < (k : Int)) = false := by rw [decide_eq_false_iff_not]; omega
  have h3 : decide ((k : Int) < 0) = false := by simp
  go_enter Tryz.func120, Tryz.ntmps120
  go_wp2_with fail
  refine H.out.mono ?_; rintro e w' ⟨rfl, rfl⟩
  go_wp2_with fail
  refine HP.out.mono ?_; rintro e w' ⟨⟨A', c', rfl, h1, h2, h3⟩, hb⟩
  go_wp2_with fail
  refine (result_any _ _ _ x _ h3).mono ?_; rintro e w2 ⟨⟨A2, c2, rfl, k1, k2, k3⟩, hb2⟩
  go_wp2
  go_ret2
  exact ⟨⟨A2, c2, rfl, k1, k2, k3⟩, (hu.trans (hb.mono (by simp))).trans (hb2.mono (by have := hb.size; simp at this; omega))⟩
theorem Shift_any (A : Option Addr) (n c : Nat) (la : List Nat) (k : Int) (w : World) (ha : Arg w A n c la) :
    Calls Tryz.prog 120 #[.slice A n c, .int .i64 k] w fun e w' => NatRes (shiftS la k).1 (shiftS la k).2 e w' ∧ Below w.heap.size w w' := by
  by_cases hb : badE [la] = 0
  · by_cases hk : k < -20000 ∨ 20000 < k
    · have e : shiftS la k = ([], 2) := by simp [shiftS, hb, hk]
      rw [e]; exact Shift_arg A n c la k w ha hb hk
    · by_cases h0 : k < 0
      · obtain ⟨j, hj⟩ : ∃ j : Nat, k = -(j : Int) := ⟨(-k).toNat, by omega⟩
        subst hj
        have e : shiftS la (-(j : Int)) = fitS (valOf la / 2 ^ j) := by
          simp only [shiftS, hb, if_true, if_neg hk, if_pos h0]
          rw [Int.neg_neg, Int.toNat_natCast]
        rw [e]; exact Shift_down A n c la j w ha hb (by omega) (by omega)
      · obtain ⟨j, rfl⟩ := Int.eq_ofNat_of_zero_le (show 0 ≤ k by omega)
        have e : shiftS la (j : Int) = fitS (valOf la * 2 ^ j) := by
          simp only [shiftS, hb, if_true, if_neg hk, if_neg h0, Int.toNat_natCast]
        rw [e]; exact Shift_up A n c la j w ha hb (by omega)
  · have e : shiftS la k = ([], badE [la]) := by simp [shiftS, hb]
    rw [e]; exact Shift_bad A n c la k w ha hb
end Go.Proofs.YtalodfjplegibaaGreatDoor
