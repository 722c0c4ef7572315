/- Package wide: Parse. -/
import Derived.Test.YtgjbaamhpapeeaaGreatDoorTxtB
import Derived.Shelf.Strings.SlTrimAscii
namespace Go.Proofs.YtgjbaamhpapeeaaGreatDoor
open Go.RowKit Go.Shelf
open Go.Lib (decDigits trimS)
set_option linter.unusedVariables false
set_option linter.unusedSimpArgs false

theorem trim_dec (s : ByteArray) (w : World) (hs : s.size ≤ 9223372036854775807) :
    Calls Tryz.prog 59 #[.string s, .string ⟨#[48, 49, 50, 51, 52, 53, 54, 55, 56, 57]⟩] w fun e w' => e = .returned (.string ⟨(trimS s.data.toList digits).toArray⟩) ∧ Below w.heap.size w w' :=
  Any.strings_Trim_laid Tryz.lays160 (by kernel_rfl) s ⟨#[48, 49, 50, 51, 52, 53, 54, 55, 56, 57]⟩ w hs (by decide) (ascii_of_all (by decide))
/-- up to nine digits -/
theorem pu_dec (t : ByteArray) (w : World) (h : t.data.toList.all isDig = true) (h0 : t.data.toList ≠ []) (h9 : t.data.toList.length ≤ 9) :
    Calls Tryz.prog 60 #[.string t, .int .i64 10, .int .i64 64] w fun e w' => e = .returned (.tuple #[.int .u64 (numV 0 t.data.toList : Nat), .nilIface]) ∧ Below w.heap.size w w' :=
  (Tryz.strconv_ParseUint_10_at64_ok t (by have := size_len t; omega) _ (parse_ok h h0 h9) w).mono fun e w' ⟨h1, h2⟩ => ⟨h1, by
    rcases h2 with rfl | rfl
    · exact Below.refl _ _
    · exact Lib.bytesWorld_below _ _ _⟩
def strSize : Value → Nat
  | .string b => b.size
  | _ => 0
/-- what is left to read -/
def PInv (l pre r : List UInt8) : Prop := l = pre ++ r ∧ (pre = [] ∨ r.length % 9 = 0)
theorem PInv.step {l pre r : List UInt8} {n : Nat} (h : PInv l pre r) (hr : 0 < r.length) (hn : n = (r.length - 1) % 9 + 1) :
    PInv l (pre ++ r.take n) (r.drop n) ∧ numV 0 (pre ++ r.take n) = numV 0 pre * 1000000000 + numV 0 (r.take n) ∧ (r.take n).length = n := by
  have hnl : n ≤ r.length := by omega
  have hl : (r.take n).length = n := by rw [List.length_take]; omega
  refine ⟨⟨by rw [List.append_assoc, List.take_append_drop]; exact h.1, .inr (by rw [List.length_drop]; omega)⟩, ?_, hl⟩
  rw [numV_append, numV_eq (r.take n) (numV 0 pre), hl]
  congr 1
  rcases h.2 with h1 | h1
  · subst h1; simp [numV_nil]
  · have h9 : n = 9 := by omega
    rw [h9]
theorem empty_of {s : ByteArray} (h : s.size = 0) : s = ⟨#[]⟩ := by
  apply ByteArray.ext
  have := size_len s
  rw [h] at this
  have h2 := List.eq_nil_of_length_eq_zero this
  rw [← Array.toList_inj, h2]
theorem trim_not {l : List UInt8} (h : l.all isDig = false) : 0 < (⟨(trimS l digits).toArray⟩ : ByteArray).size := by
  rcases Nat.eq_zero_or_pos (⟨(trimS l digits).toArray⟩ : ByteArray).size with h1 | h1
  · have h2 : (trimS l digits).length = 0 := by simpa [ByteArray.size] using h1
    have h3 := (trim_digits l).1 (List.eq_nil_of_length_eq_zero h2)
    rw [h3] at h; cases h
  · exact h1

set_option maxHeartbeats 1600000 in
set_option maxRecDepth 100000 in
theorem wParse_any (s : ByteArray) (w : World) (hs : s.size ≤ maxLen) :
    Calls Tryz.prog 26 #[.string s] w fun e w' => ParseRes s.data.toList e w' ∧ Below w.heap.size w w' := by
  unfold maxLen at hs
  have hlen := size_len s
  by_cases h1 : 4900 < s.size
  · have hp := parseS_long (l := s.data.toList) (by omega)
    have HP : Sl _ := ⟨hp⟩
    clear hp hlen
    go_enter Tryz.func26, Tryz.ntmps26
    go_wp2_with fail
    go_ret2
    exact ⟨parse_none _ HP.out, Below.refl _ _⟩
  · by_cases h2 : s.size = 0
    · have hp := parseS_form (l := s.data.toList) (by omega) (.inl (List.eq_nil_of_length_eq_zero (by omega)))
      have HP : Sl _ := ⟨hp⟩
      obtain rfl := empty_of h2
      clear hp hlen
      go_enter Tryz.func26, Tryz.ntmps26
      go_wp2_with fail
      go_ret2
      exact ⟨parse_none _ HP.out, Below.refl _ _⟩
    · have h0 : 0 < s.size := by omega
      have hd0 := head_of s h0
      have hem := not_empty (s := s) (by omega)
      by_cases h3 : 1 < s.size ∧ (s[0]'h0).toNat = 48
      · have hp := parseS_form (l := s.data.toList) (by omega) (.inr (.inl ⟨by omega, by rw [hd0]; congr 1; exact UInt8.toNat_inj.1 h3.2⟩))
        have HP : Sl _ := ⟨hp⟩
        obtain ⟨h4, h5⟩ := h3
        clear hp hlen hd0
        go_enter Tryz.func26, Tryz.ntmps26
        go_wp2_with fail
        go_ret2
        exact ⟨parse_none _ HP.out, Below.refl _ _⟩
      · have hq : s.size = 1 ∨ 1 < s.size ∧ (((s[0]'h0).toNat : Int) == 48) = false := by
          by_cases h4 : s.size = 1
          · exact .inl h4
          · exact .inr ⟨by omega, by rw [beq_eq_false_iff_ne]; intro h; exact h3 ⟨by omega, by omega⟩⟩
        have hn2 : ¬ (1 < s.data.toList.length ∧ s.data.toList.head? = some 48) := by
          rintro ⟨h5, h6⟩
          rw [hd0] at h6
          injection h6 with h6
          exact h3 ⟨by omega, by rw [h6]; rfl⟩
        have HN2 : Sl _ := ⟨hn2⟩
        have HL : Sl _ := ⟨hlen⟩
        have ht := fun W : World => trim_dec s W (by omega)
        have hz0 : ((s.size : Int) == 0) = false := by rw [beq_eq_false_iff_ne]; omega
        have hz1 : decide ((4900 : Int) < (s.size : Int)) = false := by rw [decide_eq_false_iff_not]; omega
        by_cases hdg : s.data.toList.all isDig = true
        · have hz : (⟨(trimS s.data.toList digits).toArray⟩ : ByteArray) = ⟨#[]⟩ := by rw [(trim_digits _).2 hdg]
          rw [hz] at ht
          have HT : Sl _ := ⟨ht⟩
          have HD : Sl _ := ⟨hdg⟩
          clear hn2 hlen hd0 h3 hz ht hdg
          rcases hq with hq | ⟨hq, hq0⟩
          all_goals (
            go_enter Tryz.func26, Tryz.ntmps26
            go_wp2_with fail
            refine (HT.out _).mono ?_; rintro e w1 ⟨rfl, hb1⟩
            go_wp2_with fail
            go_loopw [0, 4] (fun s0 s4 wr => ∃ (r : ByteArray) (pre : List UInt8), s0 = .string r ∧ NV wr s4 (numV 0 pre) ∧ Sl (PInv s.data.toList pre r.data.toList) ∧ r.size ≤ 4900 ∧ Below w.heap.size w wr) (fun s0 _ _ => strSize s0)
            case atStart => exact ⟨s, [], rfl, nv_nil w1, ⟨rfl, .inl rfl⟩, by omega, hb1⟩
            case round =>
              obtain ⟨r, pre, rfl, ⟨A, c, rfl, ha⟩, HI, hr, hB⟩ := hrel
              have hA : Sl _ := ⟨ha⟩
              clear ha
              rcases Nat.eq_zero_or_pos r.size with hz | hz
              · have hrl : r.data.toList = [] := List.eq_nil_of_length_eq_zero (by rw [size_len]; exact hz)
                have hl : s.data.toList = pre := by have := HI.out.1; rwa [hrl, List.append_nil] at this
                have hok := parseS_ok (l := s.data.toList) (by have := HL.out; omega) (fun h0 => by have h5 := HL.out; rw [h0] at h5; simp at h5; omega) HN2.out HD.out
                have HP : Sl (parseS s.data.toList = (numV 0 pre, 0)) := ⟨by rw [hok, hl]⟩
                have HNV : Sl (NV wr (.slice A (limbs (numV 0 pre)).length c) (numV 0 pre)) := ⟨⟨A, c, rfl, hA.out⟩⟩
                clear hrl hl hok
                go_wp2_with fail
                go_ret2
                exact ⟨parse_some HP.out HNV.out, hB⟩
              · obtain ⟨n0, hn0⟩ : ∃ n0 : Nat, (r.size - 1) % 9 = n0 := ⟨_, rfl⟩
                have hn9 : n0 ≤ 8 := by omega
                have hnr : n0 + 1 ≤ r.size := by omega
                have hm : ((r.size : Int) - 1) % 9 = (n0 : Int) := by omega
                have hst := HI.out.step (n := n0 + 1) (by rw [size_len]; exact hz) (by rw [size_len]; omega)
                have hpl : pre.all isDig = true ∧ r.data.toList.all isDig = true ∧ pre.length + r.data.toList.length = s.data.toList.length := by
                  have k1 := HD.out
                  rw [HI.out.1, List.all_append, Bool.and_eq_true] at k1
                  have k2 := congrArg List.length HI.out.1
                  rw [List.length_append] at k2
                  exact ⟨k1.1, k1.2, k2.symm⟩
                have hx1 : (r.extract 0 (n0 + 1)).data.toList = r.data.toList.take (n0 + 1) := by simp
                have hx2 : (r.extract (n0 + 1) r.size).data.toList = r.data.toList.drop (n0 + 1) := by
                  have e : (r.extract (n0 + 1) r.size).data.toList = (r.data.toList.drop (n0 + 1)).take (r.size - (n0 + 1)) := by simp
                  rw [e, List.take_of_length_le (by rw [List.length_drop, size_len]; exact Nat.le_refl _)]
                have htd : (r.data.toList.take (n0 + 1)).all isDig = true := List.all_eq_true.2 (fun b hb => List.all_eq_true.1 hpl.2.1 b (List.mem_of_mem_take hb))
                have hpu := fun W : World => pu_dec (r.extract 0 (n0 + 1)) W (by rw [hx1]; exact htd) (by rw [hx1]; intro h; have := hst.2.2; rw [h] at this; simp at this) (by rw [hx1, hst.2.2]; omega)
                rw [hx1] at hpu
                have hub := numV_lt _ htd
                rw [hst.2.2] at hub
                have hub9 : numV 0 (r.data.toList.take (n0 + 1)) < 1000000000 := Nat.lt_of_lt_of_le hub (Nat.pow_le_pow_right (by decide) (show n0 + 1 ≤ 9 by omega))
                have hpv := numV_limbs hpl.1 (by have := HL.out; omega)
                have HI2 : Sl (PInv s.data.toList (pre ++ r.data.toList.take (n0 + 1)) (r.extract (n0 + 1) r.size).data.toList) := ⟨by rw [hx2]; exact hst.1⟩
                have HSZ : Sl ((r.extract (n0 + 1) r.size).size < r.size) := ⟨by rw [← size_len, hx2, List.length_drop, size_len]; omega⟩
                have HEQ : Sl _ := ⟨hst.2.1⟩
                have HL9 : (limbs 1000000000).length ≤ 1 := limbs_len_le (by decide)
                have hul : (limbs (numV 0 (r.data.toList.take (n0 + 1)))).length ≤ 1 := limbs_len_le (by unfold LB; omega)
                have hml := limbs_len_mul (numV 0 pre) 1000000000
                have HOU : Sl _ := ⟨fun W : World => of_any (numV 0 (r.data.toList.take (n0 + 1))) W (by unfold LB; omega)⟩
                have HO9 : Sl (∀ W : World, Calls Tryz.prog 49 #[.int .u64 1000000000] W fun e w' => Limbs (limbs 1000000000) e w' ∧ Below W.heap.size W w') := ⟨fun W => of_any 1000000000 W (by decide)⟩
                have HPU : Sl _ := ⟨hpu⟩
                clear hn0 hst hpl hx1 hx2 htd hpu hub
                generalize numV 0 (r.data.toList.take (n0 + 1)) = u at *
                generalize numV 0 pre = pv at *
                have B1 : (limbs pv).length ≤ 4294967296 := by omega
                have B2 : (limbs 1000000000).length ≤ 4294967296 := by omega
                have B3 : (limbs (pv * 1000000000)).length ≤ 4294967296 := by omega
                have B4 : (limbs u).length ≤ 4294967296 := by omega
                go_wp2_with fail
                refine (HPU.out _).mono ?_; rintro e w2 ⟨rfl, hb2⟩
                have hA2 : Sl _ := ⟨hA.out.below hb2⟩
                have hB2 := hB.trans (hb2.mono hB.size)
                clear hm HPU hA
                go_wp2_with fail
                have hdr : RowKit.Below w2.heap.size w2 w2.drew := below_drewN (Below.refl _ _) 1
                go_region_with (first
                  | (go_at_call 49; (with_reducible refine (HO9.out _).mono ?_); rintro e w3 ⟨⟨A3, c3, rfl, a1, a2, a3⟩, hb3⟩; have hs3 := hdr.trans (hb3.mono hdr.size))
                  | (go_at_call 45; have hh := times_any A A3 _ _ c c3 pv 1000000000 _ (hA2.out.below hs3).1 a3 B1 B2; (with_reducible refine hh.mono ?_); clear hh; rintro e w4 ⟨⟨A4, c4, rfl, b1, b2, b3⟩, hb4⟩; have hs4 := hs3.trans (hb4.mono hs3.size))
                  | (go_at_call 49; (with_reducible refine (HOU.out _).mono ?_); rintro e w5 ⟨⟨A5, c5, rfl, d1, d2, d3⟩, hb5⟩; have hs5 := hs4.trans (hb5.mono hs4.size))
                  | (go_at_call 48; have hh := plus_any A4 A5 _ _ c4 c5 (pv * 1000000000) u _ (b3.below hb5) d3 B3 B4; (with_reducible refine hh.mono ?_); clear hh; rintro e w6 ⟨⟨A6, c6, rfl, e1, e2, e3⟩, hb6⟩; have hs6 := hs5.trans (hb6.mono hs5.size))
                  | fail)
                all_goals (
                  have hsz := HSZ.out
                  have hnv : NV w6 (.slice A6 (limbs (pv * 1000000000 + u)).length c6) (numV 0 (pre ++ r.data.toList.take (n0 + 1))) := by
                    rw [HEQ.out]
                    exact ⟨A6, c6, rfl, e3, e1, e2⟩
                  have HNV : Sl _ := ⟨hnv⟩
                  clear hnv
                  have hr2 : (r.extract (n0 + 1) r.size).size ≤ 4900 := by omega
                  have hB6 := hB2.trans (hs6.mono hB2.size)
                  go_wp2_with fail
                  refine ⟨?_, hsz⟩
                  repeat apply Exists.intro
                  exact ⟨⟨r.extract (n0 + 1) r.size, pre ++ r.data.toList.take (n0 + 1), rfl, HNV.out, HI2, hr2, hB6⟩, rfl⟩))
        · have hp := parseS_form (l := s.data.toList) (by omega) (.inr (.inr (by simpa using hdg)))
          have HP : Sl _ := ⟨hp⟩
          have hne := not_empty (trim_not (l := s.data.toList) (by simpa using hdg))
          generalize (⟨(trimS s.data.toList digits).toArray⟩ : ByteArray) = r at *
          have HT : Sl _ := ⟨ht⟩
          clear hn2 hlen hd0 h3 ht hdg hp
          rcases hq with hq | ⟨hq, hq0⟩
          all_goals (
            go_enter Tryz.func26, Tryz.ntmps26
            go_wp2_with fail
            refine (HT.out _).mono ?_; rintro e w1 ⟨rfl, hb⟩
            go_wp2_with fail
            go_ret2
            exact ⟨parse_none _ HP.out, hb⟩)
end Go.Proofs.YtgjbaamhpapeeaaGreatDoor
