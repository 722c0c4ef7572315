/- Package wide, ninth part: div. -/
import Derived.Test.YtgjbaamhpapeeaaGreatDoorWideH
import Derived.Laws.CopyOwn
import Derived.Deep.DeepCutAuto
import Derived.Deep.RegionWith
import Derived.Deep.RegionHeld3
namespace Go.Proofs.YtgjbaamhpapeeaaGreatDoor
set_option linter.unusedSimpArgs false
open Go.RowKit
set_option linter.unusedVariables false

/-- quotient and remainder -/
def DivRes (q r : Nat) (e : Ending) (w : World) : Prop := ∃ A c B d, e = .returned (.tuple #[.slice A (limbs q).length c, .slice B (limbs r).length d]) ∧ Arg w A (limbs q).length c (limbs q) ∧ Arg w B (limbs r).length d (limbs r)

set_option maxHeartbeats 800000 in
set_option maxRecDepth 100000 in
theorem div_less (A B : Option Addr) (n m c d a b : Nat) (w : World) (ha : U w A n (limbs a)) (hb : U w B m (limbs b)) (hn : n ≤ 4294967296) (hm : m ≤ 4294967296) (hab : a < b) :
    Calls Tryz.prog 47 #[.slice A n c, .slice B m d] w fun e w' => DivRes (a / b) (a % b) e w' ∧ Below w.heap.size w w' := by
  have hcmp := cmp_any A B n m c d a b w ha hb hn hm
  rw [cmpN_lt hab] at hcmp
  have HC : Sl _ := ⟨hcmp⟩
  have HA : Sl _ := ⟨ha⟩
  rw [Nat.div_eq_of_lt hab, Nat.mod_eq_of_lt hab]
  clear hcmp ha hb hm hab
  go_enter Tryz.func47, Tryz.ntmps47
  go_wp2_with fail
  refine HC.out.mono ?_; rintro e w' ⟨rfl, k, rfl⟩
  go_wp2_with fail
  refine (clone_any A n c _ _ (HA.out.drewN k) hn).mono ?_; rintro e w' ⟨⟨A', c', rfl, h1, h2, h3⟩, hb⟩
  go_wp2
  go_ret2
  refine ⟨⟨none, 0, A', c', ?_, ⟨?_, ?_, by decide⟩, h3, h1, h2⟩, (below_drewN (Below.refl _ _) k).trans hb⟩
  · rw [limbs_zero]; rfl
  · rw [limbs_zero]; exact U_nil _ _
  · rw [limbs_zero]; exact Nat.le_refl _

theorem U.drew {w : World} {A : Option Addr} {n : Nat} {l : List Nat} (h : U w A n l) : U w.drew A n l := h.drewN 1
theorem limb_one (r : Nat) (h : r < LB) : trimN [r] = limbs r := by
  rw [trimN_limbs (by simpa using h)]; simp [valOf]
theorem U_one (w : World) (x : Nat) (hx : x < LB) (t : TypeId) : U (w.alloc (.cells #[.int .u32 x] t)) (some ⟨w.heap.size, 0, none⟩) 1 [x] := by
  refine ⟨⟨rfl, fun _ => ⟨_, rfl, by simp, fun j u hu => ?_⟩⟩, by simp [hx]⟩
  match j, hu with
  | 0, hu => simp [lv] at hu; subst hu; simp [Addr.add]
set_option maxHeartbeats 800000 in
set_option maxRecDepth 100000 in
theorem div_one (A B : Option Addr) (n c d a b : Nat) (w : World) (ha : U w A n (limbs a)) (hb : U w B 1 (limbs b)) (hn : n ≤ 4294967296) (hab : b ≤ a) :
    Calls Tryz.prog 47 #[.slice A n c, .slice B 1 d] w fun e w' => DivRes (a / b) (a % b) e w' ∧ Below w.heap.size w w' := by
  have hcmp := cmp_any A B n 1 c d a b w ha hb hn (by decide)
  have hge : 0 ≤ cmpN a b := by unfold cmpN; split <;> (try split) <;> omega
  have hb0 : (limbs b)[0]?.getD 0 = b := by
    have h1 := valOf_split (limbs b) 0 (by rw [hb.len]; decide)
    rw [valOf_limbs, List.drop_of_length_le (by rw [hb.len]; decide)] at h1
    simp [valOf] at h1; exact h1.symm
  have hbl := hb.lt 0
  rw [hb0] at hbl
  have hbp : 0 < b := by
    rcases Nat.eq_zero_or_pos b with h | h
    · subst h; have := hb.len; simp [limbs_zero] at this
    · exact h
  obtain ⟨bd, rfl, hbd, hcb⟩ := hb.cell (k := 0) (by decide)
  rw [hb0] at hcb
  have hcb' : w.cell? bd = some (.int .u32 b) := by simpa [Addr.add] using hcb
  have hd2 : (b : Int) < 4294967296 := by unfold LB at hbl; omega
  have hmod : a % b < LB := Nat.lt_trans (Nat.mod_lt _ hbp) hbl
  generalize cmpN a b = z at *
  have HC : Sl _ := ⟨hcmp⟩
  have HA : Sl _ := ⟨ha⟩
  have HL : Sl _ := ⟨hmod⟩
  have HLT : Sl _ := ⟨limb_one _ hmod⟩
  have HD2 : Sl _ := ⟨hd2⟩
  have HN : Sl _ := ⟨hn⟩
  clear hcmp ha hb hab hb0 hbl hcb hmod hd2 hn
  go_enter Tryz.func47, Tryz.ntmps47
  go_wp2_with fail
  refine HC.out.mono ?_; rintro e w' ⟨rfl, k, rfl⟩
  go_wp2_with fail
  refine (short_any A n c a b _ (HA.out.drewN k) HN.out hbp HD2.out).mono ?_; rintro e w1 ⟨⟨A', c', rfl, h1, h2, h3⟩, hb1⟩
  generalize hq : a / b = q at *
  generalize hr : a % b = r at *
  have HQ : Sl _ := ⟨hq⟩
  have HR : Sl _ := ⟨hr⟩
  clear hq hr
  go_wp2_with fail
  refine (trim_any _ _ _ _ _ (U_one w1 r HL.out _) (by decide) (by decide)).mono ?_; rintro e w' ⟨⟨A2, c2, rfl, k1, k2, k3⟩, rfl⟩
  go_wp2
  go_ret2
  have hb2 : Below w1.heap.size w1 (w1.alloc (.cells #[.int .u32 r] 49)) := (Below.refl _ _).alloc (Nat.le_refl _) _
  rw [HQ.out, HR.out]
  rw [HLT.out] at k1 k3 ⊢
  exact ⟨⟨A', c', A2, c2, rfl, ⟨h3.below hb2, h1, h2⟩, k3, k1, k2⟩, ((below_drewN (Below.refl _ _) k).trans hb1).trans (hb2.mono hb1.size)⟩

theorem Out.blk {w : World} {g n : Nat} {o : List Nat} (h : Out w g n o) (hl : o.length = n) : w.heap[g]? = some (.cells (o.map lv).toArray 49 (0, 0)) := by
  obtain ⟨c, hc, hs, hf⟩ := h.1
  rw [hc]
  congr 2
  apply Array.ext_getElem?
  intro i
  rcases Nat.lt_or_ge i n with h1 | h1
  · rw [hf i h1]
    simp [List.getElem?_eq_getElem (show i < o.length by omega)]
  · rw [Array.getElem?_eq_none (by omega), Array.getElem?_eq_none (by simp; omega)]
theorem Out.of_blk {w : World} {g : Nat} {o : List Nat} (h : w.heap[g]? = some (.cells (o.map lv).toArray 49 (0, 0))) (hl : ∀ x ∈ o, x < LB) : Out w g o.length o :=
  ⟨⟨_, h, by simp, fun i hi => by simp [hi]⟩, hl⟩
theorem Out.below {w w' : World} {g n : Nat} {o : List Nat} (h : Out w g n o) (hb : Below w.heap.size w w') : Out w' g n o := ⟨h.1.of_block (hb.block g h.1.lt), h.2⟩
theorem splice_start (l : List Nat) (n n3 : Nat) (x : Nat) (h : l.length = n3) : splice ((List.replicate n x).map lv) 0 (l.map lv) = (l ++ List.replicate (n - n3) x).map lv := by
  simp [splice, h]
/-- a number and its divisor, moved until the divisor's highest bit is set -/
structure DivN (a b m n sh : Nat) : Prop where
  le : sh ≤ 31
  lenb : (limbs (b * 2 ^ sh)).length = m
  lena : (limbs (a * 2 ^ sh)).length ≤ n + 1
theorem div_norm (a b m n sh : Nat) (ha : (limbs a).length = n) (hb : (limbs b).length = m + 1) (hsh : sh = 32 - bitsN ((limbs b)[m]?.getD 0)) : DivN a b (m+1) n sh := by
  have hx : (limbs b)[m]?.getD 0 < LB := by
    rw [List.getElem?_eq_getElem (by omega)]; exact limbs_lt b _ (List.getElem_mem _)
  have hbit := limbs_bits b m hb
  have hx64 : (limbs b)[m]?.getD 0 < 18446744073709551616 := by unfold LB at hx; omega
  rw [bitLen_eq _ hx64] at hbit
  have hne : (limbs b)[m]?.getD 0 ≠ 0 := by
    have := (limbs_norm b).2
    rw [List.getLast?_eq_getElem?, hb, Nat.add_sub_cancel, List.getElem?_eq_getElem (by omega)] at this
    rw [List.getElem?_eq_getElem (by omega)]
    simpa using this
  generalize (limbs b)[m]?.getD 0 = x at *
  have h32 : bitsN x ≤ 32 := bitsN_le_iff.2 (by rw [← LB_two]; exact hx)
  have hpos : 0 < bitsN x := by
    have := bitsN_lt x
    rcases Nat.eq_zero_or_pos (bitsN x) with h0 | h0
    · rw [h0] at this; omega
    · exact h0
  have hb0 : b ≠ 0 := by rintro rfl; simp [limbs_zero] at hb
  have hbits : bitsN b + sh = 32 * (m + 1) := by omega
  have h1 := bitsN_le hb0
  have h2 := bitsN_lt b
  refine ⟨by omega, ?_, ?_⟩
  · refine Nat.le_antisymm (limbs_len_le ?_) ?_
    · rw [LB_pow, ← hbits, Nat.pow_add]
      exact Nat.mul_lt_mul_of_pos_right h2 (Nat.two_pow_pos sh)
    · rcases Nat.lt_or_ge (limbs (b * 2 ^ sh)).length (m+1) with h3 | h3
      · exfalso
        have h4 := lt_limbs_len (b * 2 ^ sh)
        have h5 : LB ^ (limbs (b * 2 ^ sh)).length ≤ LB ^ m := Nat.pow_le_pow_right LB_pos (by omega)
        have h6 : 2 ^ (bitsN b - 1) * 2 ^ sh ≤ b * 2 ^ sh := Nat.mul_le_mul_right _ h1
        rw [← Nat.pow_add] at h6
        have h7 : 2 ^ (32 * m) ≤ 2 ^ (bitsN b - 1 + sh) := Nat.pow_le_pow_right (by decide) (by omega)
        rw [LB_pow m] at h5
        omega
      · exact h3
  · refine limbs_len_le ?_
    have h3 := lt_limbs_len a
    rw [ha] at h3
    rw [Nat.pow_succ]
    refine Nat.mul_lt_mul_of_lt_of_le h3 ?_ LB_pos
    rw [LB_two]; exact Nat.pow_le_pow_right (by decide) (by omega)

structure DivF (A0 T M K k n m1 m2 top u0 u1 u2 v1 v2 : Nat) (L s R q : List Nat) : Prop where
  i : DivI A0 T M K (k + 1) (L ++ s ++ R) q
  lo : (L ++ s ++ R).length = n + 1
  ll : L.length = k
  ls : s.length = M + 1
  ln : k + (M + 1) + R.length = n + 1
  vo : valOf (L ++ s ++ R) = valOf L + LB ^ k * valOf s
  lt : valOf s < T * LB
  vr : valOf R = 0
  ts : Tops (valOf s) (LB ^ m2) (top * LB + u2)
  tt : Tops T (LB ^ m2) (v1 * LB + v2)
  b1 : u1 < LB
  b2 : u2 < LB
  c1 : v1 < LB
  c2 : v2 < LB
  et : u0 * LB + u1 = top
  tm : T < LB ^ M
  tg : LB * LB ^ m2 ≤ T
  tp : 0 < T
  e1 : m2 + 1 = m1
  e2 : m2 + 2 = M
  b0 : u0 < LB
  cp : 0 < v1
theorem DivF.next {A0 T M K k n m1 m2 top u0 u1 u2 v1 v2 gg r : Nat} {L s R q : List Nat} (F : DivF A0 T M K k n m1 m2 top u0 u1 u2 v1 v2 L s R q) (hgr : gg * v1 + r = top)
    (hc : LB ≤ gg ∨ r * LB + u2 < gg * v2) : valOf s / T ≤ gg - 1 ∧ 0 < gg ∧ (gg - 1) * v1 + (r + v1) = top := by
  obtain ⟨h1, h2⟩ := guess_big F.tp F.ts F.tt F.lt hgr hc
  refine ⟨h1, h2, ?_⟩
  have : gg * v1 = (gg - 1) * v1 + v1 := by rw [← Nat.succ_mul]; congr 1; omega
  omega
theorem DivF.leave {A0 T M K k n m1 m2 top u0 u1 u2 v1 v2 gg r : Nat} {L s R q : List Nat} (F : DivF A0 T M K k n m1 m2 top u0 u1 u2 v1 v2 L s R q) (hgr : gg * v1 + r = top) (hr : LB ≤ r) : gg < LB ∧ gg ≤ valOf s / T + 1 := by
  have h1 := guess_break F.ts F.tt F.c2 F.lt hgr hr
  refine ⟨h1, guess_ok F.tp F.ts F.tt hgr h1 F.tg ?_⟩
  have h2 : gg * v2 ≤ LB * LB := Nat.mul_le_mul (Nat.le_of_lt h1) (Nat.le_of_lt F.c2)
  have h3 : LB * LB ≤ r * LB := Nat.mul_le_mul_right _ hr
  omega
theorem DivF.start {A0 T M K k n m1 m2 top u0 u1 u2 v1 v2 : Nat} {L s R q : List Nat} (F : DivF A0 T M K k n m1 m2 top u0 u1 u2 v1 v2 L s R q) : valOf s / T ≤ top / v1 := by
  rw [Nat.le_div_iff_mul_le F.cp]
  have h1 : valOf s / T * T ≤ valOf s := Nat.div_mul_le_self _ _
  have h2 : valOf s / T * ((v1 * LB + v2) * LB ^ m2) ≤ valOf s / T * T := Nat.mul_le_mul_left _ F.tt.lo
  have h3 := F.ts.hi
  have h4 : valOf s / T * v1 * (LB * LB ^ m2) ≤ valOf s / T * ((v1 * LB + v2) * LB ^ m2) := by
    rw [Nat.mul_assoc]
    refine Nat.mul_le_mul_left _ ?_
    rw [← Nat.mul_assoc]
    exact Nat.mul_le_mul_right _ (Nat.le_add_right _ _)
  have h5 : (top * LB + u2 + 1) * LB ^ m2 ≤ (top + 1) * (LB * LB ^ m2) := by
    rw [← Nat.mul_assoc]
    refine Nat.mul_le_mul_right _ ?_
    have := F.b2
    rw [Nat.add_mul]; omega
  have h6 : valOf s / T * v1 * (LB * LB ^ m2) < (top + 1) * (LB * LB ^ m2) := by omega
  have := Nat.lt_of_mul_lt_mul_right h6
  omega
theorem short_orw (r x : Nat) (hr : r < LB) (hx : x < LB) : bits .or .u64 (IntKind.u64.wrap ((r : Int) * 4294967296)) (IntKind.u64.wrap (x : Int)) = ((r * LB + x : Nat) : Int) := by
  rw [wrap_u64 ((r : Int) * 4294967296) (by omega) (by unfold LB at hr; omega)]
  exact short_or r x hr hx
theorem wrap_mulw {g y : Nat} (hg : g < LB) (hy : y < LB) : IntKind.u64.wrap ((g : Int) * IntKind.u64.wrap (y : Int)) = ((g * y : Nat) : Int) := by
  have h := mul_lt_LB g y hg hy
  unfold LB at hy
  rw [wrap_u64 (y : Int) (by omega) (by omega), ← Int.natCast_mul, wrap_u64 ((g * y : Nat) : Int) (by omega) (by omega)]
theorem give_done {s o P r : Nat} (h : s + o * P = P + r) (hs : s < P) (hr : r < P) : s = r := by
  rcases o with _ | _ | o
  · omega
  · omega
  · have : (o + 2) * P = o * P + 2 * P := Nat.add_mul _ _ _
    have h2 : (o + 1 + 1) * P = (o + 2) * P := rfl
    omega
theorem div_end {a b sh T Q r : Nat} (h : a * 2 ^ sh = Q * T + r) (hr : r < T) (hT : b * 2 ^ sh = T) : Q = a / b ∧ r / 2 ^ sh = a % b := by
  have hp := Nat.two_pow_pos sh
  have hTp : 0 < T := by omega
  have h1 : a * 2 ^ sh / T = Q := by rw [h, Nat.mul_comm, Nat.mul_add_div hTp, Nat.div_eq_of_lt hr]; rfl
  have h2 : a * 2 ^ sh % T = r := by rw [h, Nat.mul_comm, Nat.mul_add_mod, Nat.mod_eq_of_lt hr]
  rw [← hT, Nat.mul_div_mul_right _ _ hp] at h1
  rw [← hT, Nat.mul_mod_mul_right] at h2
  exact ⟨h1.symm, by rw [← h2, Nat.mul_div_cancel _ hp]⟩
theorem trim_take (O : List Nat) (n T M : Nat) (hO : O.length = n + 1) (hl : ∀ x ∈ O, x < LB) (h : valOf O < T) (hT : T < LB ^ M) (hM : M ≤ n) : trimN (O.take M) = limbs (valOf O) := by
  have h1 := valOf_split O M (by omega)
  have h0 := congrArg valOf (List.take_append_drop M O)
  rw [valOf_append, List.length_take, Nat.min_eq_left (by omega)] at h0
  have h3 : valOf (O.drop M) = 0 := by
    rcases Nat.eq_zero_or_pos (valOf (O.drop M)) with h2 | h2
    · exact h2
    · have h4 : LB ^ M ≤ LB ^ M * valOf (O.drop M) := Nat.le_mul_of_pos_right _ h2
      omega
  rw [h3, Nat.mul_zero, Nat.add_zero] at h0
  rw [trimN_limbs (fun x hx => hl x (List.mem_of_mem_take hx)), h0]
theorem div_start {a b n M K T sh : Nat} (hb : (limbs b).length = M) (ha : (limbs a).length = n) (hK : n + 1 = M + K) (hM : 2 ≤ M) (hT : b * 2 ^ sh = T) (hlT : (limbs T).length = M) (hN : (limbs (a * 2 ^ sh)).length ≤ n + 1) : a * 2 ^ sh < T * LB ^ K := by
  have h1 := lt_limbs_len a
  have h2 := limbs_ge (n := b) (k := M - 1) (by omega)
  rw [ha] at h1
  rw [← hT, Nat.mul_assoc, Nat.mul_comm (2 ^ sh), ← Nat.mul_assoc]
  refine Nat.mul_lt_mul_of_pos_right ?_ (Nat.two_pow_pos sh)
  have h3 : LB ^ (M - 1) * LB ^ K ≤ b * LB ^ K := Nat.mul_le_mul_right _ h2
  rw [← Nat.pow_add, show M - 1 + K = n by omega] at h3
  omega

set_option maxHeartbeats 1000000 in
set_option maxRecDepth 100000 in
theorem div_main (A B : Option Addr) (n M m1 m2 c d a b : Nat) (w : World) (ha : U w A n (limbs a)) (hb : U w B M (limbs b)) (hn : n ≤ 16384) (hM : M = m1 + 1) (hm12 : m1 = m2 + 1) (hm : M ≤ 16384) (hab : b ≤ a) :
    Calls Tryz.prog 47 #[.slice A n c, .slice B M d] w fun e w' => DivRes (a / b) (a % b) e w' ∧ Below w.heap.size w w' := by
  have hcmp := cmp_any A B n M c d a b w ha hb (by omega) (by omega)
  have hge : 0 ≤ cmpN a b := by unfold cmpN; split <;> (try split) <;> omega
  obtain ⟨bd, rfl, hbd, hcb⟩ := hb.cell (k := m1) (by omega)
  have hx : (limbs b)[m1]?.getD 0 < LB := hb.lt m1
  obtain ⟨sh, hsh⟩ : ∃ sh, sh = 32 - bitsN ((limbs b)[m1]?.getD 0) := ⟨_, rfl⟩
  have hN := div_norm a b m1 n sh ha.len (by rw [hb.len]; omega) hsh
  have hlz : ((32 : Int) - (Lib.bitLen ((limbs b)[m1]?.getD 0) : Int)) = (sh : Int) := by
    rw [bitLen_eq _ (by unfold LB at hx; omega)]
    have h32 : bitsN ((limbs b)[m1]?.getD 0) ≤ 32 := bitsN_le_iff.2 (by rw [← LB_two]; exact hx)
    omega
  have hlen2 : (limbs b).length ≤ (limbs a).length := by
    rcases Nat.lt_or_ge (limbs a).length (limbs b).length with h | h
    · have := limbs_len_lt h; omega
    · exact h
  have hmn : M ≤ n := by have h1 := ha.len; have h2 := hb.len; omega
  have hmk1 := run_make_row' (P := Tryz.prog) 58 49 (.int .u32 0) 4 Tryz.underlying58 info32 rfl .i64 .i64 (n+1) (by omega) (by omega)
  simp only [Int.natCast_add, Int.natCast_one] at hmk1
  obtain ⟨K, hK⟩ : ∃ K, n + 1 = M + K := ⟨n + 1 - M, by omega⟩
  have hmk2 := run_make_row' (P := Tryz.prog) 58 49 (.int .u32 0) 4 Tryz.underlying58 info32 rfl .i64 .i64 K (by omega) (by omega)
  have hKi : (n : Int) + 1 - (M : Int) = K := by omega
  have hMi : (M : Int) - 1 = (m1 : Int) := by omega
  have hMi2 : (M : Int) - 2 = (m2 : Int) := by omega
  generalize cmpN a b = z at *
  have HC : Sl _ := ⟨hcmp⟩
  have HA : Sl _ := ⟨ha⟩
  have HB : Sl _ := ⟨hb⟩
  have HX : Sl _ := ⟨show 0 ≤ (((limbs b)[m1]?.getD 0 : Nat) : Int) ∧ (((limbs b)[m1]?.getD 0 : Nat) : Int) ≤ 4294967295 by unfold LB at hx; omega⟩
  have HN : Sl _ := ⟨hN⟩
  have HLZ : Sl _ := ⟨hlz⟩
  have HK : Sl _ := ⟨hK⟩
  have HM : Sl _ := ⟨hM⟩
  have HM1 : Sl _ := ⟨hm12⟩
  have hsh31 := hN.le
  have g1 : ((M : Int) == 1) = false := by rw [beq_eq_false_iff_ne]; omega
  have hM2 : 2 ≤ M := by omega
  have hM1b : m1 < M := by omega
  clear hcmp ha hb hab hx hsh hN hlz hlen2 hK hM hm12
  go_enter Tryz.func47, Tryz.ntmps47
  go_wp2_with fail
  refine HC.out.mono ?_; rintro e w' ⟨rfl, q0, rfl⟩
  go_wp2_with fail
  refine (Tryz.bits_LeadingZeros32 _ _ HX.out.1 HX.out.2).mono ?_; rintro e w' ⟨rfl, rfl⟩
  rw [Int.toNat_natCast, HLZ.out]
  go_wp2_with fail
  refine (up_all (some bd) M d b sh _ (HB.out.drewN q0) (by omega) (by omega)).mono ?_; rintro e w1 ⟨⟨Av, cv, rfl, hv1, hv2, hv3⟩, hb1⟩
  have hlv : (limbs (b * 2 ^ sh)).length = M := by rw [HN.out.lenb]; have := HM.out; omega
  rw [hlv] at hv1 hv3 ⊢
  have HV : Sl _ := ⟨hv3⟩
  clear hv3 hlv
  go_wp2_with fail
  have hw1 : Below w.heap.size w w1 := (below_drewN (Below.refl _ _) q0).trans hb1
  have hau : Below w1.heap.size w1 (w1.alloc (.cells (madeCells #[.int .u32 0] (n+1)) 49)) := (Below.refl _ _).alloc (Nat.le_refl _) _
  refine (up_all A n c a sh _ (((HA.out.below hw1)).below hau) (by omega) (by omega)).mono ?_; rintro e w2 ⟨⟨A3, c3, rfl, ha1, ha2, ha3⟩, hb2⟩
  have hO2 := (Out.zeros w1 (n+1)).below hb2
  have hw2 : Below w1.heap.size w1 w2 := hau.trans (hb2.mono hau.size)
  obtain ⟨n3, hn3⟩ : ∃ n3, (limbs (a * 2 ^ sh)).length = n3 := ⟨_, rfl⟩
  have hn3le : n3 ≤ n + 1 := by rw [← hn3]; exact HN.out.lena
  rw [hn3] at ha1 ha3 ⊢
  have HA3 : Sl _ := ⟨ha3⟩
  have HN3 : Sl _ := ⟨hn3⟩
  clear ha3 hn3
  have hblk := hO2.blk (by simp)
  have HO2 : Sl _ := ⟨hO2⟩
  clear hO2
  go_wp2_with (with_reducible refine wpList_copy_splice rfl (.tmp 53) (.tmp 56) _ _ rfl 49 Tryz.underlying58 (by kernel_rfl) _ _ (n+1) (n+1) n3 c3 rfl rfl w1.heap.size 0 ((List.replicate (n+1) 0).map lv) 49 hblk ((limbs (a * 2 ^ sh)).map lv) ?c1 ?c2 ?c3 ?c4 w1.heap.size w1 hw2 (Nat.le_refl _) ?_)
  case c1 => rw [List.length_map, HN3.out]; exact (Nat.min_eq_left hn3le).symm
  case c2 =>
    intro hp
    have hp3 : 0 < n3 := by simpa [HN3.out] using hp
    obtain ⟨ad4, h1, _, h2⟩ := HA3.out.1.2 hp3
    exact ⟨ad4, h1, fun j v hj => h2 j (lv v) (by rw [List.getElem?_map, hj]; rfl)⟩
  case c3 => rw [List.length_map, List.length_map, HN3.out]; simp; omega
  case c4 => intro v hv; obtain ⟨x, _, rfl⟩ := List.mem_map.1 hv; rfl
  intro w3 hblk3 hw3
  obtain ⟨O0, hO0⟩ : ∃ O0, O0 = limbs (a * 2 ^ sh) ++ List.replicate (n + 1 - n3) 0 := ⟨_, rfl⟩
  have hO3 : Out w3 w1.heap.size (n+1) O0 := by
    have h1 := hblk3.out
    have h0 := splice_start (limbs (a * 2 ^ sh)) (n+1) n3 0 HN3.out
    rw [List.map_replicate] at h0
    rw [h0, ← hO0] at h1
    have h2 := Out.of_blk h1 (fun x hx => by
      rw [hO0] at hx
      rcases List.mem_append.1 hx with h | h
      · exact limbs_lt _ x h
      · rw [List.eq_of_mem_replicate h]; exact LB_pos)
    rwa [hO0, List.length_append, HN3.out, List.length_replicate, show n3 + (n + 1 - n3) = n + 1 by omega, ← hO0] at h2
  have hl0 : O0.length = n + 1 := by rw [hO0, List.length_append, HN3.out, List.length_replicate]; omega
  have hv0 : valOf O0 = a * 2 ^ sh := by rw [hO0, valOf_append, valOf_zeros, valOf_limbs]; simp
  have hgg : w1.heap.size < w3.heap.size := hO3.1.lt
  have HO3 : Sl _ := ⟨hO3⟩
  have HL0 : Sl _ := ⟨hl0⟩
  have HV0 : Sl _ := ⟨hv0⟩
  have HW3 : Sl _ := ⟨hw3⟩
  have HN3L : Sl _ := ⟨HN3.out⟩
  clear hO0 hO3 hl0 hv0 hblk3 hblk hw3 HA3 HN3 HO2
  obtain ⟨av, rfl, hav, _⟩ := HV.out.cell (k := 0) (by omega)
  obtain ⟨T, hT⟩ : ∃ T, b * 2 ^ sh = T := ⟨_, rfl⟩
  rw [hT] at HV
  have HT : Sl _ := ⟨hT⟩
  clear hT
  go_wp2
  clear hmk1 hmk2 hKi
  have hA0T : valOf O0 < T * LB ^ K := by
    rw [HV0.out]
    exact div_start HB.out.len HA.out.len HK.out hM2 HT.out HV.out.len (by rw [HN3L.out]; exact hn3le)
  go_loopw [12] (fun s12 wr => ∃ (k : Nat) (O q : List Nat), k ≤ K ∧ s12 = .int .i64 ((k : Int) - 1) ∧ DivI (a * 2 ^ sh) T M K k O q ∧ O.length = n + 1 ∧ Out wr w1.heap.size (n+1) O ∧ Out wr w3.heap.size K (List.replicate k 0 ++ q) ∧ Below w1.heap.size w1 wr) (fun s12 _ => (intOf s12 + 1).toNat)
  case atStart =>
    have hal : ∀ o, Below w3.heap.size w3 (w3.alloc o) := fun o => (Below.refl _ _).alloc (Nat.le_refl _) _
    exact ⟨K, O0, [], Nat.le_refl _, rfl, ⟨by simp, by rw [HV0.out]; simp [valOf], hA0T⟩, HL0.out, HO3.out.below (hal _), by rw [List.append_nil]; exact Out.zeros _ _, HW3.out.trans ((hal _).mono (by omega))⟩
  case round =>
    obtain ⟨k, O, q, hk, rfl, hI, hol, hO, hQ, hB⟩ := hrel
    rcases k with _ | k
    · obtain ⟨hl, hv, hlt⟩ := hI
      simp only [Nat.pow_zero, Nat.one_mul, Nat.mul_one] at hv hlt
      have hUQ : U wr (some ⟨w3.heap.size, 0, none⟩) K q := hQ.U (by simpa using hl)
      have hUO : U wr (some ⟨w1.heap.size, 0, none⟩) M (O.take M) := (hO.U hol).take (Nat.le_succ_of_le hmn)
      obtain ⟨e1, e2⟩ := div_end hv hlt HT.out
      have hTm : T < LB ^ M := by have := lt_limbs_len T; rwa [HV.out.len] at this
      have t2 := trim_take O n T M hol hO.2 hlt hTm hmn
      have t1 := trimN_limbs (l := q) (fun x hx => hUQ.2 x hx)
      rw [e1] at t1
      have HUQ : Sl _ := ⟨hUQ⟩
      have HUO : Sl _ := ⟨hUO⟩
      have HVV : Sl _ := ⟨And.intro t1 t2⟩
      have HE : Sl _ := ⟨e2⟩
      have hsh20 : sh ≤ 20000 := by omega
      have hnm : n + 1 ≤ maxLen := by unfold maxLen; omega
      have hKm : K ≤ maxLen := by have := HK.out; omega
      have hrl : (limbs (valOf O)).length ≤ M := limbs_len_le (Nat.lt_trans hlt hTm)
      have hrl2 : (limbs (valOf O)).length ≤ 4294967296 := by omega
      generalize valOf O = rr at *
      clear hol hO hQ hUQ hUO hl hv hlt hA0T e1 e2 t1 t2 hTm
      go_wp2_with fail
      have C1 := fun (w : World) (h : U w (some ⟨w3.heap.size, 0, none⟩) K q) => trim_any (some ⟨w3.heap.size, 0, none⟩) K K q w h (Nat.le_refl _) hKm
      have C2 := fun (w : World) (h : U w (some ⟨w1.heap.size, 0, none⟩) M (O.take M)) => trim_any (some ⟨w1.heap.size, 0, none⟩) M (n+1) (O.take M) w h (Nat.le_succ_of_le hmn) hnm
      rw [HVV.out.1] at C1
      rw [HVV.out.2] at C2
      have CC1 : Sl _ := ⟨C1⟩
      have CC2 : Sl _ := ⟨C2⟩
      clear C1 C2
      go_region_with (first
        | (go_at_call 68; (with_reducible refine (CC1.out _ (HUQ.out.drew)).mono ?_); rintro e w' ⟨⟨Aq, cq, rfl, hq1, hq2, hq3⟩, rfl⟩; have HQ3 : Sl _ := ⟨hq3⟩; clear hq3)
        | (go_at_call 68; (with_reducible refine (CC2.out _ (HUO.out.drew)).mono ?_); rintro e w' ⟨⟨Ao, co, rfl, ho1, ho2, ho3⟩, rfl⟩; have HO3 : Sl _ := ⟨ho3⟩; clear ho3)
        | (go_at_call 75; go_loud ((refine (down_any _ _ _ rr sh _ HO3.out hrl2 hsh20).mono ?_); rintro e w' ⟨⟨Ad, cd, rfl, hd1, hd2, hd3⟩, hbd⟩)))
      all_goals (
        rw [HE.out] at hd1 hd3 ⊢
        go_wp2_with fail
        go_ret2
        exact ⟨⟨Aq, cq, Ad, cd, rfl, ⟨HQ3.out.below hbd, hq1, hq2⟩, hd3, hd1, hd2⟩, (hw1.trans (hB.mono hw1.size)).trans ((below_drewN (Below.refl _ _) 1).trans (hbd.mono (Nat.le_trans hw1.size hB.size)))⟩)
    · have hTm : T < LB ^ M := by have := lt_limbs_len T; rwa [HV.out.len] at this
      have hTge : LB * LB ^ m2 ≤ T := by
        have := limbs_ge (n := T) (k := m1) (by rw [HV.out.len]; exact hM1b)
        rw [HM1.out, Nat.pow_succ, Nat.mul_comm] at this; exact this
      have hTpos : 0 < T := Nat.lt_of_lt_of_le (Nat.mul_pos LB_pos (Nat.pow_pos LB_pos)) hTge
      obtain ⟨L, s, R, rfl, hLl, hsl, hNl, hvO, hslt, hvR⟩ := hI.cut hTm hol (by have := HK.out; omega)
      have hsx : ∀ x ∈ s, x < LB := fun x hx => hO.2 x (by simp [hx])
      have ht3 := tops3 s m2 (by rw [hsl]; have := HM1.out; have := HM.out; omega) hsx
      have ht2 := tops2 (limbs T) m2 (by rw [HV.out.len]; have := HM1.out; have := HM.out; omega) (limbs_lt T)
      rw [valOf_limbs] at ht2
      have em1 : m2 + 1 = m1 := HM1.out.symm
      have em2 : m2 + 2 = M := by have := HM1.out; have := HM.out; omega
      rw [em1] at ht3 ht2
      rw [em2] at ht3
      obtain ⟨av', hav', _, hcv1⟩ := (HV.out.below hB).cell (k := m1) hM1b
      cases hav'
      obtain ⟨av', hav', _, hcv2⟩ := (HV.out.below hB).cell (k := m2) (by omega)
      cases hav'
      have hcu0 := hO.cellAt (i := k + M) (by have := HK.out; omega)
      have hcu1 := hO.cellAt (i := k + m1) (by have := HK.out; omega)
      have hcu2 := hO.cellAt (i := k + m2) (by have := HK.out; omega)
      rw [seg_get L s R k M hLl (by omega)] at hcu0
      rw [seg_get L s R k m1 hLl (by omega)] at hcu1
      rw [seg_get L s R k m2 hLl (by omega)] at hcu2
      have b0 : s[M]?.getD 0 < LB := by have := hO.limb (k + M); rwa [seg_get L s R k M hLl (by omega)] at this
      have b1 : s[m1]?.getD 0 < LB := by have := hO.limb (k + m1); rwa [seg_get L s R k m1 hLl (by omega)] at this
      have b2 : s[m2]?.getD 0 < LB := by have := hO.limb (k + m2); rwa [seg_get L s R k m2 hLl (by omega)] at this
      have c1 : (limbs T)[m1]?.getD 0 < LB := HV.out.lt m1
      have c2 : (limbs T)[m2]?.getD 0 < LB := HV.out.lt m2
      have c1p : 0 < (limbs T)[m1]?.getD 0 := by
        have h1 := (limbs_norm T).2
        rw [List.getLast?_eq_getElem?, HV.out.len, show M - 1 = m1 by have := HM.out; omega, List.getElem?_eq_getElem (by rw [HV.out.len]; exact hM1b)] at h1
        rw [List.getElem?_eq_getElem (by rw [HV.out.len]; exact hM1b)]
        simp at h1 ⊢; omega
      generalize s[M]?.getD 0 = u0 at *
      generalize s[m1]?.getD 0 = u1 at *
      generalize s[m2]?.getD 0 = u2 at *
      generalize (limbs T)[m1]?.getD 0 = v1 at *
      generalize (limbs T)[m2]?.getD 0 = v2 at *
      have ek : (((k + 1 : Nat) : Int) - 1) = (k : Int) := by omega
      rw [ek]
      have e1 : (k : Int) + (M : Int) - 1 = (k : Int) + (m1 : Int) := by omega
      have e2 : (k : Int) + (M : Int) - 2 = (k : Int) + (m2 : Int) := by omega
      have hor := short_or u0 u1 b0 b1
      have hb0 : (k : Int) + (M : Int) < (n : Int) + 1 := by have := HK.out; omega
      have hb1 : (k : Int) + (m1 : Int) < (n : Int) + 1 := by omega
      have hb2 : (k : Int) + (m2 : Int) < (n : Int) + 1 := by omega
      obtain ⟨top, htop⟩ : ∃ top, u0 * LB + u1 = top := ⟨_, rfl⟩
      rw [htop] at hor ht3
      have htop2 : (top : Int) < 18446744073709551616 := by unfold LB at *; omega
      have hu0 : (u0 : Int) < 4294967296 := by unfold LB at b0; omega
      have hv1 : (v1 : Int) < 4294967296 := by unfold LB at c1; omega
      have hv1p : 0 < (v1 : Int) := by omega
      have hv1z : ((v1 : Int) == 0) = false := by rw [beq_eq_false_iff_ne]; omega
      have F : Sl (DivF (a * 2 ^ sh) T M K k n m1 m2 top u0 u1 u2 v1 v2 L s R q) :=
        ⟨⟨hI, hol, hLl, hsl, hNl, hvO, hslt, hvR, ht3, ht2, b1, b2, c1, c2, htop, hTm, hTge, hTpos, em1, em2, b0, c1p⟩⟩
      have FO : Sl _ := ⟨hO⟩
      have FQ : Sl _ := ⟨hQ⟩
      clear hI hol hLl hsl hNl hvO hslt hvR ht3 ht2 b0 b1 b2 c1 c2 htop hTm hTge hTpos em1 em2 hO hQ ek hsx c1p hA0T
      go_wp2_with fail
      go_quiet (fail)
      clear hor
      go_wp2_with fail
      go_quiet (fail)
      have hdz : IntKind.u64.wrap ((top : Int) / (v1 : Int)) = ((top / v1 : Nat) : Int) := by
        rw [← Int.natCast_ediv]
        have h1 : top / v1 ≤ top := Nat.div_le_self _ _
        have h2 := htop2
        exact wrap_u64 _ (by exact Int.natCast_nonneg _) (by exact Int.lt_of_le_of_lt (Int.ofNat_le.2 h1) h2)
      have hmz : (top : Int) % (v1 : Int) = ((top % v1 : Nat) : Int) := by simp
      rw [hdz, hmz]
      clear hdz hmz
      have FB : Sl ((u0 : Int) < 4294967296 ∧ (v1 : Int) < 4294967296 ∧ (top : Int) < 18446744073709551616) := ⟨hu0, hv1, htop2⟩
      clear hu0 hv1 htop2 hv1z
      go_upto_block 3 with (fail)
      go_cut [14, 15] from 105 to 140 (fun s14 s15 wx => ∃ gg r nq : Nat, s14 = .int .u64 gg ∧ s15 = .int .u64 r ∧ gg < LB ∧ valOf s / T ≤ gg ∧ gg ≤ valOf s / T + 1 ∧ wx = wr.drewN nq)
      case first =>
        have FI := F.out.start
        have hatS : top / v1 * v1 + top % v1 = top := by rw [Nat.mul_comm]; exact Nat.div_add_mod _ _
        have hmlt : top % v1 < LB := Nat.lt_trans (Nat.mod_lt _ F.out.cp) F.out.c1
        have FS : Sl _ := ⟨And.intro hatS hmlt⟩
        have FI2 : Sl _ := ⟨FI⟩
        clear hatS hmlt FI
        go_wp2_with fail
        go_loopw [14, 15] (fun s14 s15 wx => ∃ gg r nq : Nat, s14 = .int .u64 gg ∧ s15 = .int .u64 r ∧ gg * v1 + r = top ∧ valOf s / T ≤ gg ∧ r < LB ∧ wx = wr.drewN nq) (fun s14 _ _ => (intOf s14).toNat)
        case atStart => exact ⟨_, _, _, rfl, rfl, FS.out.1, FI2.out, FS.out.2, drew2 _ _ _⟩
        case round =>
          obtain ⟨gg, r, nq2, rfl, rfl, hgr, hge, hrl, rfl⟩ := hrel
          have FG : Sl _ := ⟨hgr⟩
          have FE : Sl _ := ⟨hge⟩
          have FR : Sl _ := ⟨hrl⟩
          have hgs : (gg : Int) < 18446744073709551616 := by
            have h1 : gg ≤ gg * v1 := Nat.le_mul_of_pos_right _ (by omega)
            have h2 := FB.out.2.2
            omega
          have hrs : (r : Int) < 4294967296 := by unfold LB at hrl; omega
          have hv1s := FB.out.2.1
          by_cases hA : LB ≤ gg
          · have hA2 : decide ((4294967296 : Int) ≤ (gg : Int)) = true := by rw [decide_eq_true_iff]; unfold LB at hA; omega
            obtain ⟨hn1, hn2, hn3⟩ := F.out.next hgr (.inl hA)
            clear hA
            have hg1 : 1 ≤ (gg : Int) := by omega
            have FN : Sl _ := ⟨And.intro hn1 hn3⟩
            clear hgr hge hrl hn1 hn2 hn3
            by_cases hbr : LB ≤ r + v1
            · have hb : decide ((4294967296 : Int) ≤ (r : Int) + (v1 : Int)) = true := by rw [decide_eq_true_iff]; unfold LB at hbr; omega
              have FBR : Sl _ := ⟨hbr⟩
              clear hbr
              go_wp2_with fail
              go_quiet (fail)
              go_wp2_with fail
              go_meet
              obtain ⟨l1, l2⟩ := F.out.leave FN.out.2 FBR.out
              exact ⟨gg - 1, r + v1, _, int_eq (by omega), int_eq (by omega), l1, FN.out.1, l2, rfl⟩
            · have hb : decide ((4294967296 : Int) ≤ (r : Int) + (v1 : Int)) = false := by rw [decide_eq_false_iff_not]; unfold LB at hbr; omega
              have FBR : Sl _ := ⟨hbr⟩
              clear hbr
              go_wp2_with fail
              go_quiet (fail)
              go_wp2_with fail
              exact ⟨⟨gg - 1, r + v1, _, int_eq (by omega), int_eq (by omega), FN.out.2, FN.out.1, Nat.lt_of_not_le FBR.out, rfl⟩, by simp [intOf]; omega⟩
          · have hA2 : decide ((4294967296 : Int) ≤ (gg : Int)) = false := by rw [decide_eq_false_iff_not]; unfold LB at hA; omega
            have hpr := wrap_mulw (g := gg) (y := v2) (by omega) F.out.c2
            have hor2 := short_orw r u2 hrl F.out.b2
            have FBB : Sl ((gg : Int) < 18446744073709551616 ∧ (r : Int) < 4294967296 ∧ (v1 : Int) < 4294967296) := ⟨hgs, hrs, hv1s⟩
            clear hgs hrs hv1s
            by_cases hC : r * LB + u2 < gg * v2
            · obtain ⟨hn1, hn2, hn3⟩ := F.out.next hgr (.inr hC)
              generalize r * LB + u2 = Y at *
              generalize gg * v2 = Z at *
              have HP : Sl _ := ⟨hpr⟩
              have HO : Sl _ := ⟨hor2⟩
              clear hpr hor2
              have hC2 : decide ((Y : Int) < (Z : Int)) = true := by rw [decide_eq_true_iff]; omega
              clear hA hC
              have hg1 : 1 ≤ (gg : Int) := by omega
              have FN : Sl _ := ⟨And.intro hn1 hn3⟩
              clear hgr hge hrl hn1 hn2 hn3
              by_cases hbr : LB ≤ r + v1
              · have hb : decide ((4294967296 : Int) ≤ (r : Int) + (v1 : Int)) = true := by rw [decide_eq_true_iff]; unfold LB at hbr; omega
                have FBR : Sl _ := ⟨hbr⟩
                clear hbr
                go_wp2_with fail
                go_quiet (fail)
                rw [HP.out, HO.out, hC2]
                have hgs := FBB.out.1
                have hrs := FBB.out.2.1
                have hv1s := FBB.out.2.2
                go_wp2_with fail
                go_meet
                obtain ⟨l1, l2⟩ := F.out.leave FN.out.2 FBR.out
                exact ⟨gg - 1, r + v1, _, int_eq (by omega), int_eq (by omega), l1, FN.out.1, l2, rfl⟩
              · have hb : decide ((4294967296 : Int) ≤ (r : Int) + (v1 : Int)) = false := by rw [decide_eq_false_iff_not]; unfold LB at hbr; omega
                have FBR : Sl _ := ⟨hbr⟩
                clear hbr
                go_wp2_with fail
                go_quiet (fail)
                rw [HP.out, HO.out, hC2]
                have hgs := FBB.out.1
                have hrs := FBB.out.2.1
                have hv1s := FBB.out.2.2
                go_wp2_with fail
                exact ⟨⟨gg - 1, r + v1, _, int_eq (by omega), int_eq (by omega), FN.out.2, FN.out.1, Nat.lt_of_not_le FBR.out, rfl⟩, by simp [intOf]; omega⟩
            · have hok := guess_ok F.out.tp F.out.ts F.out.tt hgr (by omega) F.out.tg (by omega)
              generalize r * LB + u2 = Y at *
              generalize gg * v2 = Z at *
              have HP : Sl _ := ⟨hpr⟩
              have HO : Sl _ := ⟨hor2⟩
              clear hpr hor2
              have hC2 : decide ((Y : Int) < (Z : Int)) = false := by rw [decide_eq_false_iff_not]; omega
              have FA : Sl (gg < LB) := ⟨by omega⟩
              have FK : Sl _ := ⟨hok⟩
              clear hA hC hok hgr hge hrl
              go_wp2_with fail
              go_quiet (fail)
              rw [HP.out, HO.out, hC2]
              go_wp2_with fail
              go_meet
              exact ⟨gg, r, _, rfl, rfl, FA.out, FE.out, FK.out, drew2 _ _ _⟩
      case rest =>
        obtain ⟨gg, r, nq2, rfl, rfl, hgl, hg1, hg2, rfl⟩ := hcut
        have FG : Sl _ := ⟨hgl⟩
        have F1 : Sl _ := ⟨hg1⟩
        have F2 : Sl _ := ⟨hg2⟩
        clear hgl hg1 hg2
        have hq0 := FQ.out.1.cell (i := k) (by omega)
        have hqf := FQ.out.1.frozen k
        go_wp2_with fail
        rw [show k + M + 1 - k = M + 1 by omega]
        have hgs : ((gg : Int) % 4294967296) = (gg : Int) := by have := FG.out; unfold LB at this; omega
        rw [hgs]
        clear hgs
        have hON : Only w3.heap.size wr ((wr.drewN nq2).setCell ⟨w3.heap.size, k, none⟩ (.int .u32 gg)) := Only.setCell (p := ⟨w3.heap.size, k, none⟩) ((Only.refl _ _).drewN _) rfl _
        have hQ2 : Out ((wr.drewN nq2).setCell ⟨w3.heap.size, k, none⟩ (.int .u32 gg)) w3.heap.size K (List.replicate k 0 ++ (gg :: q)) := by
          have h1 := (FQ.out.drewN nq2).put (by have := F.out.i.len; simp; omega) (i := k) (by omega) (x := gg) (v := gg) rfl FG.out
          rwa [List.replicate_succ', List.append_assoc, List.singleton_append, set_mid _ _ _ _ _ (by simp)] at h1
        have hO2 := FO.out.only hON (by omega)
        have hV2 := HV.out.below (hB.trans (hON.below (Nat.le_of_lt hgg)))
        generalize (wr.drewN nq2).setCell ⟨w3.heap.size, k, none⟩ (.int .u32 gg) = wx at *
        refine (take_any w1.heap.size (n+1) k M _ cv L s R (limbs T) av gg wx hO2 F.out.ll F.out.ls F.out.ln (by omega) HV.out.len (limbs_lt T) (by omega) (fun i hi => by
          obtain ⟨av', hav', _, hc⟩ := hV2.cell (k := i) hi
          cases hav'; exact hc) FG.out).mono ?_; rintro e w' ⟨s', neg, rfl, hO', hs', hval, honly⟩
        rw [valOf_limbs] at hval
        obtain ⟨hf, ht⟩ := guess_done F.out.tp hval (by have := valOf_lt s' (fun x hx => hO'.2 x (by simp [hx])); rwa [hs'] at this) F1.out F2.out
        have hQ' := hQ2.only honly (by omega)
        have hB' : Below w1.heap.size w1 w' := (hB.trans (hON.below (Nat.le_of_lt hgg))).trans (honly.below (Nat.le_refl _))
        have HO' : Sl _ := ⟨hO'⟩
        have HQ' : Sl _ := ⟨hQ'⟩
        have HS' : Sl _ := ⟨hs'⟩
        have HVAL : Sl _ := ⟨hval⟩
        clear hQ2 hO2 hV2 hO' hQ' hs' hval
        cases neg with
        | false =>
          obtain ⟨e1, e2⟩ := hf rfl
          have HE : Sl _ := ⟨And.intro e1 e2⟩
          clear e1 e2 hf ht
          go_wp2_with fail
          refine ⟨⟨k, L ++ s' ++ R, gg :: q, by omega, int_eq (by omega), ?_, ?_, HO'.out, HQ'.out, hB'⟩, by simp [intOf]⟩
          · rw [HE.out.1]
            exact F.out.i.step F.out.tp F.out.ll (fun x hx => FO.out.2 x (by simp [hx])) F.out.ls HS'.out F.out.vo F.out.vr HE.out.2
          · have h1 := F.out.lo; have h2 := F.out.ls; have h3 := HS'.out
            simp only [List.length_append] at h1 ⊢; omega
        | true =>
          obtain ⟨e1, e2⟩ := ht rfl
          have HE : Sl _ := ⟨And.intro e1 e2⟩
          have hg1 : 1 ≤ (gg : Int) := by rw [e1]; have := Nat.zero_le (valOf s / T); omega
          clear e1 e2 hf ht
          have hqc := HQ'.out.cellAt (i := k) (by omega)
          have hqf := HQ'.out.1.frozen k
          rw [List.getElem?_append_right (by simp), List.length_replicate, Nat.sub_self] at hqc
          simp only [List.getElem?_cons_zero, Option.getD_some] at hqc
          go_wp2_with fail
          rw [show k + M + 1 - k = M + 1 by omega]
          have hgs : (((gg : Int) - 1) % 4294967296) = ((gg - 1 : Nat) : Int) := by have := FG.out; unfold LB at this; omega
          rw [hgs]
          clear hgs
          have hON2 : Only w3.heap.size w' (w'.setCell ⟨w3.heap.size, k, none⟩ (.int .u32 (gg - 1 : Nat))) := Only.setCell (p := ⟨w3.heap.size, k, none⟩) (Only.refl _ _) rfl _
          have hQ2 : Out (w'.setCell ⟨w3.heap.size, k, none⟩ (.int .u32 (gg - 1 : Nat))) w3.heap.size K (List.replicate k 0 ++ ((gg - 1) :: q)) := by
            have h1 := HQ'.out.put (by have := F.out.i.len; simp; omega) (i := k) (by omega) (x := gg - 1) (v := (gg - 1 : Nat)) rfl (by have := FG.out; omega)
            rwa [set_mid _ _ _ _ _ (by simp)] at h1
          have hO2 := HO'.out.only hON2 (by omega)
          have hV2 := HV.out.below (hB'.trans (hON2.below (Nat.le_of_lt hgg)))
          generalize w'.setCell ⟨w3.heap.size, k, none⟩ (.int .u32 (gg - 1 : Nat)) = wy at *
          refine (give_any w1.heap.size (n+1) k M _ cv L s' R (limbs T) av wy hO2 F.out.ll HS'.out F.out.ln (by omega) HV.out.len (limbs_lt T) (by omega) (fun i hi => by
            obtain ⟨av', hav', _, hc⟩ := hV2.cell (k := i) hi
            cases hav'; exact hc)).mono ?_; rintro e w'' ⟨s2, o, rfl, hO2', hs2, hval2, honly2⟩
          rw [valOf_limbs, HE.out.2] at hval2
          have hq2 := hQ2.only honly2 (by omega)
          have hB2 : Below w1.heap.size w1 w'' := (hB'.trans (hON2.below (Nat.le_of_lt hgg))).trans (honly2.below (Nat.le_refl _))
          have hlt2 := valOf_lt s2 (fun x hx => hO2'.2 x (by simp [hx]))
          rw [hs2] at hlt2
          have hv2 : valOf s2 = valOf s % T := by
            have h1 := Nat.mod_lt (valOf s) F.out.tp
            have h2 := F.out.tm
            have h3 : LB ^ M ≤ LB ^ (M + 1) := Nat.pow_le_pow_right LB_pos (Nat.le_succ _)
            exact give_done hval2 hlt2 (by omega)
          have HO2 : Sl _ := ⟨hO2'⟩
          have HQ2 : Sl _ := ⟨hq2⟩
          have HS2 : Sl _ := ⟨hs2⟩
          have HV2 : Sl _ := ⟨hv2⟩
          have HE2 : gg - 1 = valOf s / T := by rw [HE.out.1]; rfl
          clear hQ2 hO2 hV2 hO2' hq2 hs2 hv2 hval2 hlt2 hqc hqf
          go_wp2_with fail
          refine ⟨⟨k, L ++ s2 ++ R, (gg - 1) :: q, by omega, int_eq (by omega), ?_, ?_, HO2.out, HQ2.out, hB2⟩, by simp [intOf]⟩
          · rw [HE2]
            exact F.out.i.step F.out.tp F.out.ll (fun x hx => FO.out.2 x (by simp [hx])) F.out.ls HS2.out F.out.vo F.out.vr HV2.out
          · have h1 := F.out.lo; have h2 := F.out.ls; have h3 := HS2.out
            simp only [List.length_append] at h1 ⊢; omega
end Go.Proofs.YtgjbaamhpapeeaaGreatDoor
