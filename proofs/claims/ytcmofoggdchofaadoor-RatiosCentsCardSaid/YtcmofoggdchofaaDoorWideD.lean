/- Package wide, fourth part: the exported functions Of, Cmp, Add, Mul. -/
import Derived.Test.YtcmofoggdchofaaDoorWideC
namespace Go.Proofs.YtcmofoggdchofaaDoor
set_option linter.unusedSimpArgs false
open Go.RowKit
set_option linter.unusedVariables false

/-- a slice of limbs as it comes in: n limbs of the capacity c -/
def Arg (w : World) (A : Option Addr) (n c : Nat) (l : List Nat) : Prop := U w A n l ∧ n ≤ c ∧ c ≤ maxLen
theorem Arg.below {w w' : World} {A : Option Addr} {n c : Nat} {l : List Nat} (h : Arg w A n c l) (hb : Below w.heap.size w w') : Arg w' A n c l := ⟨h.1.below hb, h.2⟩
theorem Arg.alloc {w : World} {A : Option Addr} {n c : Nat} {l : List Nat} (h : Arg w A n c l) (o : Obj) : Arg (w.alloc o) A n c l := h.below ((Below.refl _ _).alloc (Nat.le_refl _) _)
theorem Arg.drewN {w : World} {A : Option Addr} {n c : Nat} {l : List Nat} (h : Arg w A n c l) (k : Nat) : Arg (w.drewN k) A n c l := ⟨h.1.drewN k, h.2⟩

theorem check1 (A : Option Addr) (n c : Nat) (l : List Nat) (w : World) (T : TypeId) (h : Arg w A n c l) :
    Calls Tryd.prog 80 #[.slice (some ⟨w.heap.size, 0, none⟩) 1 1] (w.alloc (.cells #[.slice A n c] T)) fun e w' => e = .returned (.int .i64 (badE [l])) ∧ w.alloc (.cells #[.slice A n c] T) = w' := by
  have ha := h.alloc (.cells #[.slice A n c] T)
  refine check_any _ 1 1 (fun i => .slice A n c) [l] _ rfl (by decide) (fun i hi => ?_) (fun i hi => ?_)
  · obtain rfl : i = 0 := by omega
    simp [Addr.add]
  · obtain rfl : i = 0 := by omega
    exact ⟨A, n, c, rfl, ha.1, ha.2⟩
theorem check2 (A B : Option Addr) (n m c d : Nat) (la lb : List Nat) (w : World) (T : TypeId) (ha : Arg w A n c la) (hb : Arg w B m d lb) :
    Calls Tryd.prog 80 #[.slice (some ⟨w.heap.size, 0, none⟩) 2 2] (w.alloc (.cells #[.slice A n c, .slice B m d] T)) fun e w' => e = .returned (.int .i64 (badE [la, lb])) ∧ w.alloc (.cells #[.slice A n c, .slice B m d] T) = w' := by
  have ha := ha.alloc (.cells #[.slice A n c, .slice B m d] T)
  have hb := hb.alloc (.cells #[.slice A n c, .slice B m d] T)
  refine check_any _ 2 2 (fun i => if i = 0 then .slice A n c else .slice B m d) [la, lb] _ rfl (by decide) (fun i hi => ?_) (fun i hi => ?_)
  · match i, hi with
    | 0, _ => simp [Addr.add]
    | 1, _ => simp [Addr.add]
  · match i, hi with
    | 0, _ => exact ⟨A, n, c, rfl, ha.1, ha.2⟩
    | 1, _ => exact ⟨B, m, d, rfl, hb.1, hb.2⟩

theorem badE_cases (ls : List (List Nat)) : badE ls = 0 ∨ badE ls = 2 ∨ badE ls = 3 := by
  unfold badE; split
  · exact .inr (.inr rfl)
  · split
    · exact .inr (.inl rfl)
    · exact .inl rfl
theorem badE_zero {ls : List (List Nat)} : badE ls = 0 ↔ ∀ l ∈ ls, validL l = true := by
  unfold badE
  constructor
  · intro h
    split at h
    · cases h
    · split at h
      · cases h
      · rename_i h1
        simpa using h1
  · intro h
    have h1 : ls.any (fun l => decide (512 < l.length)) = false := by
      simp; intro l hl
      have := h l hl
      simp [validL] at this; omega
    have h2 : ls.any (fun l => !validL l) = false := by simpa using h
    simp [h1, h2]
/-- a number as a result, if it is not too long -/
def fitS (n : Nat) : List Nat × Int := if (limbs n).length ≤ 512 then (limbs n, 0) else ([], 3)
theorem result_any (A : Option Addr) (n c x : Nat) (w : World) (h : U w A n (limbs x)) :
    Calls Tryd.prog 88 #[.slice A n c] w fun e w' => NatRes (fitS x).1 (fitS x).2 e w' ∧ Below w.heap.size w w' := by
  have hl := h.len
  by_cases h5 : n ≤ 512
  · have e : fitS x = (limbs x, 0) := by simp [fitS, hl, h5]
    rw [e]; exact result_ok A n c _ w h h5
  · have e : fitS x = ([], 3) := by simp [fitS, hl, h5]
    rw [e]; exact result_long A n c w (by omega)

theorem Of_any (x : Nat) (w : World) (hx : x < LB * LB) :
    Calls Tryd.prog 79 #[.int .u64 x] w fun e w' => Limbs (limbs x) e w' ∧ Below w.heap.size w w' := by
  have H := Lib.hid (of_any x w hx)
  clear hx
  go_enter Tryd.func79, Tryd.ntmps79
  go_wp2_with (refine H.out.mono ?_; rintro e w' ⟨⟨A, c, rfl, h1, h2, h3⟩, hb⟩)
  go_ret
  exact ⟨⟨A, c, rfl, h1, h2, h3⟩, hb⟩

/-- Add -/
def plusS (la lb : List Nat) : List Nat × Int := if badE [la, lb] = 0 then fitS (valOf la + valOf lb) else ([], badE [la, lb])
set_option maxHeartbeats 400000 in
theorem Add_any (A B : Option Addr) (n m c d : Nat) (la lb : List Nat) (w : World) (ha : Arg w A n c la) (hb : Arg w B m d lb) :
    Calls Tryd.prog 77 #[.slice A n c, .slice B m d] w fun e w' => NatRes (plusS la lb).1 (plusS la lb).2 e w' ∧ Below w.heap.size w w' := by
  have hck := check2 A B n m c d la lb w 68 ha hb
  have hu : Below w.heap.size w (w.alloc (.cells #[.slice A n c, .slice B m d] 68)) := (Below.refl _ _).alloc (Nat.le_refl _) _
  rcases badE_cases [la, lb] with e | e | e
  · have es : plusS la lb = fitS (valOf la + valOf lb) := by simp [plusS, e]
    have hz := badE_zero.1 e
    have ea := (validL_iff ha.1.2).1 (hz la (by simp))
    have eb := (validL_iff hb.1.2).1 (hz lb (by simp))
    have ha2 := (ha.below hu).1
    have hb2 := (hb.below hu).1
    have hna := ha2.len
    have hnb := hb2.len
    rw [ea.1] at ha2
    rw [eb.1] at hb2
    have hp := plus_any A B n m c d (valOf la) (valOf lb) _ ha2 hb2 (by omega) (by omega)
    rw [es]
    rw [e] at hck
    generalize valOf la + valOf lb = x at *
    have H := Lib.hid hck
    have HP := Lib.hid hp
    clear hck hp es e hz ea eb ha2 hb2 hna hnb ha hb
    go_enter Tryd.func77, Tryd.ntmps77
    go_wp2_with fail
    refine H.out.mono ?_; rintro e w' ⟨rfl, rfl⟩
    go_wp2_with fail
    refine HP.out.mono ?_; rintro e w' ⟨⟨A', c', rfl, h1, h2, h3⟩, hb⟩
    go_wp2_with fail
    refine (result_any _ _ _ x _ h3).mono ?_; rintro e w2 ⟨⟨A2, c2, rfl, k1, k2, k3⟩, hb2⟩
    go_wp2
    go_ret2
    exact ⟨⟨A2, c2, rfl, k1, k2, k3⟩, (hu.trans (hb.mono (by simp))).trans (hb2.mono (by have := hb.size; simp at this; omega))⟩
  all_goals
    have es : plusS la lb = ([], badE [la, lb]) := by simp [plusS, e]
    rw [es, e]
    rw [e] at hck
    have H := Lib.hid hck
    clear hck es e ha hb
    go_enter Tryd.func77, Tryd.ntmps77
    go_wp2_with fail
    refine H.out.mono ?_; rintro e w' ⟨rfl, rfl⟩
    go_wp2
    go_ret2
    exact ⟨⟨none, 0, rfl, by simp, by decide, U_nil _ _⟩, hu⟩

/-- Mul -/
def timesS (la lb : List Nat) : List Nat × Int := if badE [la, lb] = 0 then fitS (valOf la * valOf lb) else ([], badE [la, lb])
set_option maxHeartbeats 400000 in
theorem Mul_any (A B : Option Addr) (n m c d : Nat) (la lb : List Nat) (w : World) (ha : Arg w A n c la) (hb : Arg w B m d lb) :
    Calls Tryd.prog 78 #[.slice A n c, .slice B m d] w fun e w' => NatRes (timesS la lb).1 (timesS la lb).2 e w' ∧ Below w.heap.size w w' := by
  have hck := check2 A B n m c d la lb w 68 ha hb
  have hu : Below w.heap.size w (w.alloc (.cells #[.slice A n c, .slice B m d] 68)) := (Below.refl _ _).alloc (Nat.le_refl _) _
  rcases badE_cases [la, lb] with e | e | e
  · have es : timesS la lb = fitS (valOf la * valOf lb) := by simp [timesS, e]
    have hz := badE_zero.1 e
    have ea := (validL_iff ha.1.2).1 (hz la (by simp))
    have eb := (validL_iff hb.1.2).1 (hz lb (by simp))
    have ha2 := (ha.below hu).1
    have hb2 := (hb.below hu).1
    have hna := ha2.len
    have hnb := hb2.len
    rw [ea.1] at ha2
    rw [eb.1] at hb2
    have hp := times_any A B n m c d (valOf la) (valOf lb) _ ha2 hb2 (by omega) (by omega)
    rw [es]
    rw [e] at hck
    generalize valOf la * valOf lb = x at *
    have H := Lib.hid hck
    have HP := Lib.hid hp
    clear hck hp es e hz ea eb ha2 hb2 hna hnb ha hb
    go_enter Tryd.func78, Tryd.ntmps78
    go_wp2_with fail
    refine H.out.mono ?_; rintro e w' ⟨rfl, rfl⟩
    go_wp2_with fail
    refine HP.out.mono ?_; rintro e w' ⟨⟨A', c', rfl, h1, h2, h3⟩, hb⟩
    go_wp2_with fail
    refine (result_any _ _ _ x _ h3).mono ?_; rintro e w2 ⟨⟨A2, c2, rfl, k1, k2, k3⟩, hb2⟩
    go_wp2
    go_ret2
    exact ⟨⟨A2, c2, rfl, k1, k2, k3⟩, (hu.trans (hb.mono (by simp))).trans (hb2.mono (by have := hb.size; simp at this; omega))⟩
  all_goals
    have es : timesS la lb = ([], badE [la, lb]) := by simp [timesS, e]
    rw [es, e]
    rw [e] at hck
    have H := Lib.hid hck
    clear hck es e ha hb
    go_enter Tryd.func78, Tryd.ntmps78
    go_wp2_with fail
    refine H.out.mono ?_; rintro e w' ⟨rfl, rfl⟩
    go_wp2
    go_ret2
    exact ⟨⟨none, 0, rfl, by simp, by decide, U_nil _ _⟩, hu⟩

def cmpS (la lb : List Nat) : Int × Int := if badE [la, lb] = 0 then (cmpN (valOf la) (valOf lb), 0) else (0, badE [la, lb])
set_option maxHeartbeats 400000 in
theorem Cmp_any (A B : Option Addr) (n m c d : Nat) (la lb : List Nat) (w : World) (ha : Arg w A n c la) (hb : Arg w B m d lb) :
    Calls Tryd.prog 65 #[.slice A n c, .slice B m d] w fun e w' => e = .returned (.tuple #[.int .i64 (cmpS la lb).1, .int .i64 (cmpS la lb).2]) ∧ Below w.heap.size w w' := by
  have hck := check2 A B n m c d la lb w 68 ha hb
  have hu : Below w.heap.size w (w.alloc (.cells #[.slice A n c, .slice B m d] 68)) := (Below.refl _ _).alloc (Nat.le_refl _) _
  rcases badE_cases [la, lb] with e | e | e
  · have es : cmpS la lb = (cmpN (valOf la) (valOf lb), 0) := by simp [cmpS, e]
    have hz := badE_zero.1 e
    have ea := (validL_iff ha.1.2).1 (hz la (by simp))
    have eb := (validL_iff hb.1.2).1 (hz lb (by simp))
    have ha2 := (ha.below hu).1
    have hb2 := (hb.below hu).1
    have hna := ha2.len
    have hnb := hb2.len
    rw [ea.1] at ha2
    rw [eb.1] at hb2
    have hp := cmp_any A B n m c d (valOf la) (valOf lb) _ ha2 hb2 (by omega) (by omega)
    rw [es]
    rw [e] at hck
    generalize cmpN (valOf la) (valOf lb) = x at *
    have H := Lib.hid hck
    have HP := Lib.hid hp
    clear hck hp es e hz ea eb ha2 hb2 hna hnb ha hb
    go_enter Tryd.func65, Tryd.ntmps65
    go_wp2_with fail
    refine H.out.mono ?_; rintro e w' ⟨rfl, rfl⟩
    go_wp2_with fail
    refine HP.out.mono ?_; rintro e w' ⟨rfl, q, rfl⟩
    go_wp2
    go_ret2
    exact ⟨rfl, below_drewN hu _⟩
  all_goals
    have es : cmpS la lb = (0, badE [la, lb]) := by simp [cmpS, e]
    rw [es, e]
    rw [e] at hck
    have H := Lib.hid hck
    clear hck es e ha hb
    go_enter Tryd.func65, Tryd.ntmps65
    go_wp2_with fail
    refine H.out.mono ?_; rintro e w' ⟨rfl, rfl⟩
    go_wp2
    go_ret2
    exact ⟨rfl, hu⟩
end Go.Proofs.YtcmofoggdchofaaDoor
