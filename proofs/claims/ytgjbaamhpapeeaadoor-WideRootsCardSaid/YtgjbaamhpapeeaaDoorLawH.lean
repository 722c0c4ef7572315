/- Small and Valid, of the reference and of package wide. -/
import Derived.Test.YtgjbaamhpapeeaaDoorLawG
namespace Go.Proofs.YtgjbaamhpapeeaaDoor
set_option linter.unusedSimpArgs false
open Go.RowKit
set_option linter.unusedVariables false

def smallS (la : List Nat) : Nat × Int := if badE [la] = 0 then (if 2 < la.length then (0, 7) else (valOf la, 0)) else (0, badE [la])
theorem small_or0 {T x : Nat} (hT : T < LB ^ 0) (hx : x < LB) : bits .or .u64 (T : Int) (IntKind.u64.wrap (IntKind.u64.wrap (x : Int))) = ((T + LB ^ 0 * x : Nat) : Int) := by
  have hT0 : T = 0 := by simpa using hT
  subst hT0
  have hx' : x < 4294967296 := hx
  rw [wrap_u64 (x : Int) (by omega) (by omega), wrap_u64 (x : Int) (by omega) (by omega), or_u64 _ _ (by omega) (by omega)]
  simp
theorem small_or1 {T x : Nat} (hT : T < LB ^ 1) (hx : x < LB) : bits .or .u64 (T : Int) (IntKind.u64.wrap (IntKind.u64.wrap (x : Int) * 4294967296)) = ((T + LB ^ 1 * x : Nat) : Int) := by
  rw [Nat.pow_one] at hT ⊢
  have hx' : x < 4294967296 := hx
  have hT' : T < 4294967296 := hT
  have e0 : (x : Int) * 4294967296 = ((x * 4294967296 : Nat) : Int) := by omega
  rw [wrap_u64 (x : Int) (by omega) (by omega), e0, wrap_u64 _ (by omega) (by omega), or_u64 _ _ (by omega) (by omega), or_add 32 T _ (by rw [← LB_two]; exact hT) (by rw [← LB_two]; exact Nat.dvd_mul_left _ _), Nat.mul_comm LB]
  rfl
theorem small_val {l : List Nat} (h : l.length ≤ 2) : valOf l = lim l 1 * 4294967296 + lim l 0 := by
  match l, h with
  | [], _ => simp [valOf, lim]
  | [x], _ => simp [valOf, lim]
  | [x, y], _ => simp [valOf, lim, LB]; omega

set_option maxHeartbeats 400000 in
theorem Valid_any (A : Option Addr) (n c : Nat) (la : List Nat) (w : World) (h : Arg w A n c la) :
    Calls Tryd.prog 26 #[.slice A n c] w fun e w' => e = .returned (.bool (validL la)) ∧ w = w' := by
  have H : Sl _ := ⟨valid_any A n c la w h.1 h.2.1 h.2.2⟩
  clear h
  go_enter Tryd.func26, Tryd.ntmps26
  go_wp2_with fail
  refine H.out.mono ?_; rintro e w' ⟨rfl, rfl⟩
  go_wp2_with fail
  go_ret
  exact ⟨rfl, rfl⟩

set_option maxHeartbeats 800000 in
theorem rSmall_any (A : Option Addr) (n c : Nat) (la : List Nat) (w : World) (ha : Arg w A n c la) :
    Calls Tryd.prog 25 #[.slice A n c] w fun e w' => e = .returned (.tuple #[.int .u64 (smallS la).1, .int .i64 (smallS la).2]) ∧ Below w.heap.size w w' := by
  have hck := rbad1 A n c la w 23 ha
  have hu : Below w.heap.size w (w.alloc (.cells #[.slice A n c] 23)) := (Below.refl _ _).alloc (Nat.le_refl _) _
  rcases badE_cases [la] with e | e | e
  · have h1 := (ok_one (ha.below hu) (badE_zero.1 e la (by simp))).2
    have hl := ha.1.len
    rw [e] at hck
    have H : Sl _ := ⟨hck⟩
    by_cases h2 : 2 < n
    · have es : smallS la = (0, 7) := by simp [smallS, e, hl, h2]
      rw [es]
      clear hck es e ha hl
      go_enter Tryd.func25, Tryd.ntmps25
      go_wp2_with fail
      refine H.out.mono ?_; rintro e w' ⟨rfl, rfl⟩
      go_wp2_with fail
      go_ret2
      exact ⟨rfl, hu⟩
    · have es : smallS la = (lim la 1 * 4294967296 + lim la 0, 0) := by rw [← small_val (by omega)]; simp [smallS, e, hl, h2]
      rw [es]
      have c1 := limb_any A n c la 1 _ (ha.below hu).1 (by omega) (by decide)
      have c0 := limb_any A n c la 0 _ (ha.below hu).1 (by omega) (by decide)
      have x1 := lim_small ha.1.2 1
      have x0 := lim_small ha.1.2 0
      generalize lim la 1 = y at *
      generalize lim la 0 = x at *
      have C1 : Sl _ := ⟨c1⟩
      have C0 : Sl _ := ⟨c0⟩
      have X1 : Sl _ := ⟨x1⟩
      have X0 : Sl _ := ⟨x0⟩
      have h2' : (n : Int) ≤ 2 := by omega
      clear hck es e ha hl c1 c0 x1 x0
      go_enter Tryd.func25, Tryd.ntmps25
      go_wp2_with fail
      refine H.out.mono ?_; rintro e w' ⟨rfl, rfl⟩
      go_wp2_with fail
      refine C1.out.mono ?_; rintro e w' ⟨rfl, rfl⟩
      go_wp2_with fail
      refine C0.out.mono ?_; rintro e w' ⟨rfl, rfl⟩
      go_wp2_with fail
      go_ret2
      refine ⟨?_, hu⟩
      have x1 := X1.out
      have x0 := X0.out
      have e1 : IntKind.u64.wrap ((y : Int) * 4294967296) = ((y * 4294967296 : Nat) : Int) := by rw [wrap_u64 _ (by omega) (by omega)]; omega
      have e2 : IntKind.u64.wrap (((y * 4294967296 : Nat) : Int) + (x : Int)) = ((y * 4294967296 + x : Nat) : Int) := by rw [wrap_u64 _ (by omega) (by omega)]; omega
      rw [e1, e2]
      rfl
  all_goals
    have es : smallS la = (0, badE [la]) := by simp [smallS, e]
    rw [es, e]
    rw [e] at hck
    have H : Sl _ := ⟨hck⟩
    clear hck es e ha
    go_enter Tryd.func25, Tryd.ntmps25
    go_wp2_with fail
    refine H.out.mono ?_; rintro e w' ⟨rfl, rfl⟩
    go_wp2
    go_ret2
    exact ⟨rfl, hu⟩

set_option maxHeartbeats 800000 in
theorem wSmall_any (A : Option Addr) (n c : Nat) (la : List Nat) (w : World) (ha : Arg w A n c la) :
    Calls Tryd.prog 24 #[.slice A n c] w fun e w' => e = .returned (.tuple #[.int .u64 (smallS la).1, .int .i64 (smallS la).2]) ∧ Below w.heap.size w w' := by
  have hck := check1 A n c la w 23 ha
  have hu : Below w.heap.size w (w.alloc (.cells #[.slice A n c] 23)) := (Below.refl _ _).alloc (Nat.le_refl _) _
  rcases badE_cases [la] with e | e | e
  · have h1 := (ok_one (ha.below hu) (badE_zero.1 e la (by simp))).2
    have hl := ha.1.len
    rw [e] at hck
    have H : Sl _ := ⟨hck⟩
    by_cases h2 : 2 < n
    · have es : smallS la = (0, 7) := by simp [smallS, e, hl, h2]
      rw [es]
      clear hck es e ha hl
      go_enter Tryd.func24, Tryd.ntmps24
      go_wp2_with fail
      refine H.out.mono ?_; rintro e w' ⟨rfl, rfl⟩
      go_wp2_with fail
      go_ret2
      exact ⟨rfl, hu⟩
    · have es : smallS la = (valOf la, 0) := by simp [smallS, e, hl, h2]
      rw [es]
      have hA := (ha.below hu).1
      have HA : Sl _ := ⟨hA⟩
      have HL : Sl _ := ⟨hl⟩
      have h2' : (n : Int) ≤ 2 := by omega
      have h2'' : n ≤ 2 := by omega
      clear hck es e hA ha hl
      go_enter Tryd.func24, Tryd.ntmps24
      go_wp2_with fail
      refine H.out.mono ?_; rintro e w' ⟨rfl, rfl⟩
      go_wp2_with fail
      generalize hw1 : w.alloc (.cells #[.slice A n c] 23) = w1 at *
      have hu1 : Sl _ := ⟨hu⟩
      clear hw1 hu
      go_loop [5, 19] (fun s5 s19 => ∃ i : Nat, i ≤ n ∧ s5 = .int .u64 (valOf (la.take i)) ∧ s19 = .int .i64 i) (fun _ s19 => n - (intOf s19).toNat)
      case atStart => exact ⟨0, Nat.zero_le _, by simp [valOf], rfl⟩
      case round =>
        obtain ⟨i, hi, rfl, rfl⟩ := hrel
        by_cases hin : i < n
        · obtain ⟨ad, rfl, hb, hcell⟩ := HA.out.cell (k := i) hin
          have hlt := HA.out.lt i
          have hst := valOf_take_lim la i
          have e0 : lim la i = la[i]?.getD 0 := rfl
          rw [e0] at hst
          have hT : valOf (la.take i) < LB ^ i := by
            have := valOf_lt (la.take i) (fun x hx => HA.out.2 x (List.mem_of_mem_take hx))
            rwa [List.length_take, Nat.min_eq_left (by rw [HL.out]; exact hi)] at this
          generalize la[i]?.getD 0 = x at *
          generalize valOf (la.take i) = T at *
          have HST : Sl _ := ⟨hst⟩
          have HX : Sl _ := ⟨hlt⟩
          have HTT : Sl _ := ⟨hT⟩
          clear hst hlt hT e0
          have hi2 : i = 0 ∨ i = 1 := by omega
          rcases hi2 with rfl | rfl
          · have hcell : w1.cell? ad = some (.int .u32 x) := by simpa [Addr.add] using hcell
            go_wp2_with fail
            refine ⟨⟨1, by omega, int_eq ?_, rfl⟩, by simp [intOf]; omega⟩
            rw [HST.out]
            exact small_or0 HTT.out HX.out
          · rw [show ad.add 1 = ⟨ad.block, ad.off + 1, none⟩ from add_succ ad 0] at hcell
            go_wp2_with fail
            refine ⟨⟨2, by omega, int_eq ?_, rfl⟩, by simp [intOf]; omega⟩
            rw [HST.out]
            exact small_or1 HTT.out HX.out
        · obtain rfl : i = n := by omega
          go_wp2_with fail
          go_ret2
          rw [List.take_of_length_le (by rw [HL.out]; exact Nat.le_refl _)]
          exact ⟨rfl, hu1.out⟩
  all_goals
    have es : smallS la = (0, badE [la]) := by simp [smallS, e]
    rw [es, e]
    rw [e] at hck
    have H : Sl _ := ⟨hck⟩
    clear hck es e ha
    go_enter Tryd.func24, Tryd.ntmps24
    go_wp2_with fail
    refine H.out.mono ?_; rintro e w' ⟨rfl, rfl⟩
    go_wp2
    go_ret2
    exact ⟨rfl, hu⟩
end Go.Proofs.YtgjbaamhpapeeaaDoor
