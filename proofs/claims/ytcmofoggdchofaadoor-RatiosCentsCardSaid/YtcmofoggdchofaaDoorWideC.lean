/- Package wide, third part: times. -/
import Derived.Test.YtcmofoggdchofaaDoorWideB
namespace Go.Proofs.YtcmofoggdchofaaDoor
set_option linter.unusedSimpArgs false
open Go.RowKit
set_option linter.unusedVariables false

/-- a row of limbs that is all written: block g, n cells -/
theorem Out.put {w : World} {g n : Nat} {o : List Nat} (h : Out w g n o) (hl : o.length = n) {i : Nat} (hi : i < n) {x : Nat} {v : Int} (hv : v = x) (hx : x < LB) : Out (w.setCell ⟨g, i, none⟩ (.int .u32 v)) g n (o.set i x) := by
  subst hv
  refine ⟨(h.1.set i _).congr fun j hj => ?_, fun y hy => ?_⟩
  · by_cases e : j = i
    · subst e
      have : j < o.length := by omega
      simp [lv, this]
    · rw [if_neg e, List.getElem?_set_ne (fun h => e h.symm)]
  · rcases List.mem_or_eq_of_mem_set hy with h1 | h1
    · exact h.2 y h1
    · omega
theorem Out.zeros (w : World) (n : Nat) : Out (w.alloc (.cells (madeCells #[.int .u32 0] n) 125)) w.heap.size n (List.replicate n 0) :=
  ⟨(World.rowIs_made w _ n _).congr fun j hj => by simp [lv, hj], fun x hx => by have := List.eq_of_mem_replicate hx; subst this; decide⟩
theorem Out.cellAt {w : World} {g n : Nat} {o : List Nat} (h : Out w g n o) {i : Nat} (hi : i < n) : w.cell? ⟨g, i, none⟩ = some (.int .u32 (o[i]?.getD 0 : Nat)) := h.1.cell hi
theorem Out.limb {w : World} {g n : Nat} {o : List Nat} (h : Out w g n o) (i : Nat) : o[i]?.getD 0 < LB := by
  rcases Nat.lt_or_ge i o.length with h1 | h1
  · rw [List.getElem?_eq_getElem h1]; exact h.2 _ (List.getElem_mem _)
  · rw [List.getElem?_eq_none h1]; exact LB_pos

theorem wrap_u64 (x : Int) (h0 : 0 ≤ x) (h1 : x < 18446744073709551616) : IntKind.u64.wrap x = x := by
  rw [IntKind.wrap_u64]; exact Int.emod_eq_of_lt h0 h1
theorem mul_lt_LB (x y : Nat) (hx : x < LB) (hy : y < LB) : x * y ≤ 18446744065119617025 := by
  have h1 : x * y ≤ (LB - 1) * (LB - 1) := Nat.mul_le_mul (by omega) (by omega)
  exact h1
theorem wrap_three (o x y q : Nat) (ho : o < LB) (hx : x < LB) (hy : y < LB) (hq : q < LB) :
    IntKind.u64.wrap (IntKind.u64.wrap ((o : Int) + IntKind.u64.wrap ((x : Int) * (y : Int))) + (q : Int)) = ((o + x * y + q : Nat) : Int) := by
  have h := mul_lt_LB x y hx hy
  unfold LB at ho hq
  rw [← Int.natCast_mul, wrap_u64 ((x * y : Nat) : Int) (by omega) (by omega), wrap_u64 ((o : Int) + ((x * y : Nat) : Int)) (by omega) (by omega), wrap_u64 _ (by omega) (by omega)]
  omega

set_option maxHeartbeats 800000 in
theorem times_any (A B : Option Addr) (n m c d a b : Nat) (w : World) (ha : U w A n (limbs a)) (hb : U w B m (limbs b)) (hn : n ≤ 4294967296) (hm : m ≤ 4294967296) :
    Calls Tryd.prog 89 #[.slice A n c, .slice B m d] w fun e w' => Limbs (limbs (a * b)) e w' ∧ Below w.heap.size w w' := by
  have hla := ha.len
  have hlb := hb.len
  have HA := Lib.hid hla
  have HB := Lib.hid hlb
  clear hla hlb
  have hmk := run_make_row' (P := Tryd.prog) 113 125 (.int .u32 0) 4 Tryd.underlying113 info32 rfl .i64 .i64 (n+m) (by omega) (by omega)
  simp only [Int.natCast_add] at hmk
  go_enter Tryd.func89, Tryd.ntmps89
  go_wp2
  clear hmk
  go_loopw [20] (fun s20 wr => ∃ (i : Nat) (O : List Nat), i ≤ n ∧ s20 = .int .i64 i ∧ TOut (limbs a) (limbs b) n m i O ∧ Out wr w.heap.size (n+m) O ∧ Below w.heap.size w wr) (fun s20 _ => n - (intOf s20).toNat)
  case atStart => exact ⟨0, _, Nat.zero_le _, rfl, TOut.start _ _ _ _, Out.zeros _ _, (Below.refl _ _).alloc (Nat.le_refl _) _⟩
  case round =>
    obtain ⟨i, O, hi, rfl, hT, hO, hB⟩ := hrel
    obtain ⟨wo, rfl⟩ : ∃ wo : World, wo = wr := ⟨_, rfl⟩
    by_cases hin : i < n
    · obtain ⟨ad, rfl, hbd, hca⟩ := (ha.below hB).cell (k := i) hin
      have hx : (((limbs a)[i]?.getD 0 : Nat) : Int) < 4294967296 := by have := ha.lt i; unfold LB at this; omega
      go_wp2
      go_loopw [8, 27] (fun s8 s27 wr => ∃ (k q : Nat) (O : List Nat), k ≤ m ∧ s8 = .int .u64 q ∧ s27 = .int .i64 k ∧ TIn (limbs a) (limbs b) n m i k O q ∧ Out wr w.heap.size (n+m) O ∧ Below w.heap.size w wr) (fun _ s27 _ => m - (intOf s27).toNat)
      case atStart => exact ⟨0, 0, O, Nat.zero_le _, rfl, rfl, hT.enter, hO, hB⟩
      case round =>
        clear hca hO hB hT
        obtain ⟨k, q, O, hk, rfl, rfl, hT, hO, hB⟩ := hrel
        have hq : (q : Int) < 4294967296 := by have := hT.cq; unfold LB at this; omega
        by_cases hkm : k < m
        · obtain ⟨bd, rfl, hbd', hcb⟩ := (hb.below hB).cell (k := k) hkm
          have hy : (((limbs b)[k]?.getD 0 : Nat) : Int) < 4294967296 := by have := hb.lt k; unfold LB at this; omega
          have hc0 := hO.cellAt (i := i + k) (by omega)
          have hf0 := hO.1.frozen (i + k)
          have ho : ((O[i+k]?.getD 0 : Nat) : Int) < 4294967296 := by have := hO.limb (i+k); unfold LB at this; omega
          go_wp2
          have hlx : (limbs a)[i]?.getD 0 < LB := by unfold LB; omega
          have hly : (limbs b)[k]?.getD 0 < LB := by unfold LB; omega
          have hlo : O[i+k]?.getD 0 < LB := by unfold LB; omega
          have hst := hT.step hin hkm HB.out hlx hly hlo
          have hwr := wrap_three (O[i+k]?.getD 0) ((limbs a)[i]?.getD 0) ((limbs b)[k]?.getD 0) q hlo hlx hly hT.cq
          refine ⟨⟨k + 1, _, _, hkm, int_eq ?_, by go_num, hst, hO.put hT.len (by omega) ?_ (Nat.mod_lt _ LB_pos), hB.setCell (Nat.le_refl _) _⟩, by simp [intOf]; omega⟩
          · rw [hwr]; unfold LB; omega
          · rw [hwr]; unfold LB; omega
        · obtain rfl : k = m := by omega
          have hc0 := hO.cellAt (i := i + k) (by omega)
          have hf0 := hO.1.frozen (i + k)
          go_wp2
          refine ⟨⟨i + 1, _, hin, by go_num, hT.done hin HA.out HB.out, hO.put hT.len (by omega) rfl hT.cq, hB.setCell (Nat.le_refl _) _⟩, by simp [intOf]; omega⟩
    · obtain rfl : i = n := by omega
      have hU := hO.U hT.len
      go_wp2_with (refine (trim_any _ _ _ _ _ hU (Nat.le_refl _) (by unfold maxLen; omega)).mono ?_; rintro e w' ⟨⟨A', c', rfl, h1, h2, h3⟩, rfl⟩)
      go_ret
      have e : trimN O = limbs (a * b) := by
        rw [trimN_limbs hU.2, hT.val]
        rw [List.take_of_length_le (by rw [HA.out]; omega), valOf_limbs, valOf_limbs]
      rw [← e]
      exact ⟨⟨A', c', rfl, h1, h2, h3⟩, hB⟩

theorem Limbs.of_own {w : World} {base : Nat} {e : TypeId} {v : Value} {n : Nat} {l : List Nat} (h : w.ownsRow base e 1 v n (l.map lv)) (hn : l.length = n) (hl : ∀ x ∈ l, x < LB) : Limbs l (.returned v) w := by
  subst hn
  have hr := h
  rcases h.2 with ⟨rfl, h0⟩ | ⟨g, cap, cur, rfl, hb, hh, hc, hm, _⟩
  · have e : l = [] := List.eq_nil_of_length_eq_zero h0
    subst e
    exact ⟨none, 0, rfl, by simp, by decide, ⟨⟨by simp, fun h => absurd h (by simp)⟩, by simp⟩⟩
  · exact ⟨_, cap, rfl, hc, hm, ⟨Reads.of_own hr, hl⟩⟩
set_option maxHeartbeats 400000 in
/-- slices.Clone of limbs -/
theorem clone_any (A : Option Addr) (n c : Nat) (l : List Nat) (w : World) (h : U w A n l) (hn : n ≤ 4294967296) :
    Calls Tryd.prog 98 #[.slice A n c] w fun e w' => Limbs l e w' ∧ Below w.heap.size w w' := by
  obtain ⟨i0, hi0, hz0, hz1, hz2⟩ := info_parts info32
  have hl := h.len
  have hone : ∀ u ∈ l.map lv, u.oneCell' = true := by intro u hu; obtain ⟨x, _, rfl⟩ := List.mem_map.1 hu; rfl
  have HL := Lib.hid hl
  clear hl
  have hq := fun (w : World) (a : Option Addr) (n c : Nat) => Lib.run_eql_slice_nil (P := Tryd.prog) w 113 125 a n c 0 0 Tryd.underlying113
  rcases A with _ | ad
  · have hn0 : n = 0 := by
      rcases Nat.eq_zero_or_pos n with h0 | h0
      · exact h0
      · obtain ⟨ad, h1, _⟩ := h.1.2 h0; cases h1
    go_enter Tryd.func98, Tryd.ntmps98
    go_wp2_with fail
    go_ret
    subst hn0
    have e : l = [] := List.eq_nil_of_length_eq_zero HL.out
    subst e
    exact ⟨⟨none, 0, rfl, by simp, by decide, ⟨⟨by simp, fun h => absurd h (by decide)⟩, by simp⟩⟩, Below.refl _ _⟩
  · go_enter Tryd.func98, Tryd.ntmps98
    go_wp2_with (at_builtin; refine wpList_append_any _ rfl (.tmp 5) (.tmp 6) _ rfl w.heap.size 125 i0 _ 1 4 Tryd.underlying113 hi0 hz0 hz1 hz2 rfl (by omega) (.slice (some ⟨w.heap.size, 0, none⟩) 0 0) 0 [] rfl (World.ownsRow_made w #[] 0 (Nat.le_refl _) (by decide) rfl) w.heap.size (some ad) n c (l.map lv) rfl (h.1.alloc (Nat.le_refl _) _) hone (by simp only [maxLen]; omega) (by omega) (by simp) ?_; intro v1 w1 hown1 hg1 hat1)
    go_ret
    have hg : Below w.heap.size w w1 := ((Below.refl _ _).alloc (Nat.le_refl _) _).grown hg1 (by simp) (fun k hk => by simp [Value.ownBlock] at hk; omega)
    exact ⟨Limbs.of_own (by simpa using hown1) HL.out h.2, hg⟩

/-- two results: limbs, and an error -/
def NatRes (l : List Nat) (er : Int) (e : Ending) (w : World) : Prop := ∃ A c, e = .returned (.tuple #[.slice A l.length c, .int .i64 er]) ∧ l.length ≤ c ∧ c ≤ maxLen ∧ U w A l.length l
theorem U_nil (w : World) (A : Option Addr) : U w A 0 [] := ⟨⟨rfl, fun h => absurd h (by decide)⟩, by simp⟩

set_option maxHeartbeats 400000 in
theorem result_ok (A : Option Addr) (n c : Nat) (l : List Nat) (w : World) (h : U w A n l) (hn : n ≤ 512) :
    Calls Tryd.prog 88 #[.slice A n c] w fun e w' => NatRes l 0 e w' ∧ Below w.heap.size w w' := by
  go_enter Tryd.func88, Tryd.ntmps88
  go_wp2_with (refine (clone_any A n c l _ h (by omega)).mono ?_; rintro e w' ⟨⟨A', c', rfl, h1, h2, h3⟩, hb⟩)
  go_ret2
  exact ⟨⟨A', c', rfl, h1, h2, h3⟩, hb⟩
set_option maxHeartbeats 400000 in
theorem result_long (A : Option Addr) (n c : Nat) (w : World) (hn : 512 < n) :
    Calls Tryd.prog 88 #[.slice A n c] w fun e w' => NatRes [] 3 e w' ∧ Below w.heap.size w w' := by
  go_enter Tryd.func88, Tryd.ntmps88
  go_wp2
  go_ret2
  exact ⟨⟨none, 0, rfl, by simp, by decide, U_nil _ _⟩, Below.refl _ _⟩

set_option maxHeartbeats 400000 in
theorem over_any (A : Option Addr) (n c : Nat) (w : World) (hn : (n : Int) ≤ 9223372036854775807) :
    Calls Tryd.prog 92 #[.slice A n c] w fun e w' => e = .returned (.bool (decide (512 < n))) ∧ w = w' := by
  go_enter Tryd.func92, Tryd.ntmps92
  go_wp2
  go_ret
  refine ⟨?_, rfl⟩
  show Ending.returned (.bool (decide ((512 : Int) < (n : Int)))) = _
  congr 3
  simp; omega
set_option maxHeartbeats 400000 in
theorem wrong_any (A : Option Addr) (n c : Nat) (l : List Nat) (w : World) (h : U w A n l) (hc : n ≤ c) (hm : c ≤ maxLen) :
    Calls Tryd.prog 93 #[.slice A n c] w fun e w' => e = .returned (.bool (!validL l)) ∧ w = w' := by
  go_enter Tryd.func93, Tryd.ntmps93
  go_wp2_with (refine (valid_any A n c l _ h hc hm).mono ?_; rintro e w' ⟨rfl, rfl⟩)
  go_ret
  exact ⟨rfl, rfl⟩

/-- what slices.IndexFunc returns: the index of a hit, or -1 -/
def IdxR (p : Nat → Bool) (k : Nat) (e : Ending) : Prop := ∃ r : Int, e = .returned (.int .i64 r) ∧ decide (0 ≤ r) = (List.range k).any p ∧ -1 ≤ r ∧ r ≤ k
theorem IdxR.hit {p : Nat → Bool} {k i : Nat} (hi : i < k) (hp : p i = true) : IdxR p k (.returned (.int .i64 i)) :=
  ⟨i, rfl, by simp; exact ⟨i, hi, hp⟩, by omega, by omega⟩
theorem IdxR.miss {p : Nat → Bool} {k : Nat} (hp : ∀ j, j < k → p j = false) : IdxR p k (.returned (.int .i64 (-1))) :=
  ⟨-1, rfl, by simp; exact hp, by omega, by omega⟩

set_option maxHeartbeats 400000 in
theorem index_any (ad : Addr) (k c : Nat) (vs : Nat → Value) (p : Nat → Bool) (fid : FuncId) (w : World) (hk : k ≤ 4294967296) (hcell : ∀ i, i < k → w.cell? (ad.add i) = some (vs i))
    (hrun : ∀ (args : Array Value) (w : World), (callFunc fid args).run Tryd.prog w = .ok (.enter fid args) w)
    (hcall : ∀ i, i < k → Calls Tryd.prog fid #[vs i] w fun e w' => e = .returned (.bool (p i)) ∧ w = w') :
    Calls Tryd.prog 99 #[.slice (some ad) k c, .func (.func fid) #[] #[]] w fun e w' => IdxR p k e ∧ w = w' := by
  have HC := Lib.hid hcell
  have HF := Lib.hid hcall
  clear hcell hcall
  go_enter Tryd.func99, Tryd.ntmps99
  go_wp2
  go_loop [8] (fun s8 => ∃ i : Nat, i ≤ k ∧ s8 = .int .i64 i ∧ ∀ j, j < i → p j = false) (fun s8 => k - (intOf s8).toNat)
  case atStart => exact ⟨0, Nat.zero_le _, rfl, fun j hj => absurd hj (Nat.not_lt_zero _)⟩
  case round =>
    obtain ⟨i, hi, rfl, hp⟩ := hrel
    have HP := Lib.hid hp
    clear hp
    by_cases hik : i < k
    · have hc := HC.out i hik
      cases hpi : p i
      · have hcl := HF.out i hik
        rw [hpi] at hcl
        have HH := Lib.hid hpi
        clear hpi
        go_wp2_with (refine hcl.mono ?_; rintro e w' ⟨rfl, rfl⟩)
        refine ⟨⟨i + 1, hik, by go_num, fun j hj => ?_⟩, by simp [intOf]; omega⟩
        rcases Nat.lt_or_ge j i with h1 | h1
        · exact HP.out j h1
        · obtain rfl : j = i := by omega
          exact HH.out
      · have hcl := HF.out i hik
        rw [hpi] at hcl
        have HH := Lib.hid hpi
        clear hpi
        go_wp2_with (refine hcl.mono ?_; rintro e w' ⟨rfl, rfl⟩)
        go_ret
        exact ⟨IdxR.hit hik HH.out, rfl⟩
    · go_wp2
      go_ret
      exact ⟨IdxR.miss (fun j hj => HP.out j (by omega)), rfl⟩

set_option maxHeartbeats 400000 in
theorem contains_any (ad : Addr) (k c : Nat) (vs : Nat → Value) (p : Nat → Bool) (fid : FuncId) (w : World) (hk : k ≤ 4294967296) (hcell : ∀ i, i < k → w.cell? (ad.add i) = some (vs i))
    (hrun : ∀ (args : Array Value) (w : World), (callFunc fid args).run Tryd.prog w = .ok (.enter fid args) w)
    (hcall : ∀ i, i < k → Calls Tryd.prog fid #[vs i] w fun e w' => e = .returned (.bool (p i)) ∧ w = w') :
    Calls Tryd.prog 91 #[.slice (some ad) k c, .func (.func fid) #[] #[]] w fun e w' => e = .returned (.bool ((List.range k).any p)) ∧ w = w' := by
  have H := Lib.hid (index_any ad k c vs p fid w hk hcell hrun hcall)
  clear hcell hcall hrun
  go_enter Tryd.func91, Tryd.ntmps91
  go_wp2_with (refine H.out.mono ?_; rintro e w' ⟨⟨r, rfl, hr, h0, h1⟩, rfl⟩; have HR := Lib.hid hr; clear hr)
  go_ret
  refine ⟨?_, rfl⟩
  rw [← HR.out]; rfl

theorem any_idx {α : Type} {ls : List (List α)} {k : Nat} (hk : ls.length = k) (p : List α → Bool) : (List.range k).any (fun i => p (ls[i]?.getD [])) = ls.any p := by
  subst hk
  rw [Bool.eq_iff_iff]
  simp only [List.any_eq_true, List.mem_range]
  constructor
  · rintro ⟨i, hi, hp⟩
    rw [List.getElem?_eq_getElem hi] at hp
    exact ⟨_, List.getElem_mem hi, hp⟩
  · rintro ⟨x, hx, hp⟩
    obtain ⟨i, hi, rfl⟩ := List.mem_iff_getElem.1 hx
    exact ⟨i, hi, by rw [List.getElem?_eq_getElem hi]; exact hp⟩
/-- the error of arguments: some are too long; some are not right -/
def badE (ls : List (List Nat)) : Int := if ls.any (fun l => decide (512 < l.length)) then 3 else if ls.any (fun l => !validL l) then 2 else 0

set_option maxHeartbeats 400000 in
theorem check_any (ad : Addr) (k c : Nat) (vs : Nat → Value) (ls : List (List Nat)) (w : World) (hk : ls.length = k) (hk2 : k ≤ 4294967296) (hcell : ∀ i, i < k → w.cell? (ad.add i) = some (vs i))
    (hv : ∀ i, i < k → ∃ A n c, vs i = .slice A n c ∧ U w A n (ls[i]?.getD []) ∧ n ≤ c ∧ c ≤ maxLen) :
    Calls Tryd.prog 80 #[.slice (some ad) k c] w fun e w' => e = .returned (.int .i64 (badE ls)) ∧ w = w' := by
  have e1 := any_idx hk (fun l => decide (512 < l.length))
  have e2 := any_idx hk (fun l => !validL l)
  have h1 := contains_any ad k c vs (fun i => decide (512 < (ls[i]?.getD []).length)) 92 w hk2 hcell (fun a w => by go_simp) (fun i hi => by
    obtain ⟨A, n, c, e, hu, hn, hc⟩ := hv i hi
    rw [e, hu.len]
    exact over_any A n c w (by unfold maxLen at hc; omega))
  have h2 := contains_any ad k c vs (fun i => !validL (ls[i]?.getD [])) 93 w hk2 hcell (fun a w => by go_simp) (fun i hi => by
    obtain ⟨A, n, c, e, hu, hn, hc⟩ := hv i hi
    rw [e]
    exact wrong_any A n c _ w hu hn hc)
  rw [e1] at h1
  rw [e2] at h2
  clear e1 e2 hcell hv
  have hbad : badE ls = if ls.any (fun l => decide (512 < l.length)) then 3 else if ls.any (fun l => !validL l) then 2 else 0 := rfl
  generalize ls.any (fun l => decide (512 < l.length)) = p at *
  generalize ls.any (fun l => !validL l) = q at *
  have HB := Lib.hid hbad
  have H1 := Lib.hid h1
  have H2 := Lib.hid h2
  clear hbad h1 h2
  cases p
  · cases q
    · go_enter Tryd.func80, Tryd.ntmps80
      go_wp2_with fail; refine H1.out.mono ?_; rintro e w' ⟨rfl, rfl⟩; go_wp2_with fail; refine H2.out.mono ?_; rintro e w' ⟨rfl, rfl⟩; go_wp2
      go_ret
      exact ⟨by rw [HB.out]; rfl, rfl⟩
    · go_enter Tryd.func80, Tryd.ntmps80
      go_wp2_with fail; refine H1.out.mono ?_; rintro e w' ⟨rfl, rfl⟩; go_wp2_with fail; refine H2.out.mono ?_; rintro e w' ⟨rfl, rfl⟩; go_wp2
      go_ret
      exact ⟨by rw [HB.out]; rfl, rfl⟩
  · go_enter Tryd.func80, Tryd.ntmps80
    go_wp2_with (refine H1.out.mono ?_; rintro e w' ⟨rfl, rfl⟩)
    go_ret
    exact ⟨by rw [HB.out]; rfl, rfl⟩
end Go.Proofs.YtcmofoggdchofaaDoor
