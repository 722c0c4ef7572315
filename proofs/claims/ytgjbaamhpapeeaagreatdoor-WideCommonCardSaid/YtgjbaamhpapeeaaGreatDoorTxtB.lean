/- The reference: Parse. -/
import Derived.Test.YtgjbaamhpapeeaaGreatDoorTxtA
namespace Go.Proofs.YtgjbaamhpapeeaaGreatDoor
open Go.RowKit
set_option linter.unusedVariables false
set_option linter.unusedSimpArgs false

/-- what Parse returns -/
def ParseRes (l : List UInt8) (e : Ending) (w : World) : Prop := ∃ A c, e = .returned (.tuple #[.slice A (limbs (parseS l).1).length c, .int .i64 (parseS l).2]) ∧ Arg w A (limbs (parseS l).1).length c (limbs (parseS l).1)
theorem parse_none {l : List UInt8} {er : Int} (w : World) (h : parseS l = (0, er)) : ParseRes l (.returned (.tuple #[.slice none 0 0, .int .i64 er])) w := by
  unfold ParseRes
  rw [h]
  refine ⟨none, 0, ?_, ?_⟩ <;> rw [limbs_zero]
  · rfl
  · exact ⟨U_nil _ _, by simp, by decide⟩
theorem parse_some {l : List UInt8} {v : Nat} {x : Value} {w : World} (h : parseS l = (v, 0)) (hv : NV w x v) : ParseRes l (.returned (.tuple #[x, .int .i64 0])) w := by
  obtain ⟨A, c, rfl, ha⟩ := hv
  unfold ParseRes
  rw [h]
  exact ⟨A, c, rfl, ha⟩
theorem take_snoc (s : ByteArray) (k : Nat) (h : k < s.size) : s.data.toList.take (k + 1) = s.data.toList.take k ++ [s[k]] := by
  rw [List.take_succ_eq_append_getElem (by simpa using h)]; rfl
theorem head_of (s : ByteArray) (h : 0 < s.size) : s.data.toList.head? = some s[0] := by
  rw [List.head?_eq_getElem?, List.getElem?_eq_getElem (by simpa using h)]; rfl
theorem not_dig {b : UInt8} (h : b.toNat < 48 ∨ 57 < b.toNat) : isDig b = false := by
  unfold isDig
  rcases h with h | h
  · rw [decide_eq_false (by omega), Bool.false_and]
  · rw [decide_eq_false (p := b.toNat ≤ 57) (by omega), Bool.and_false]
theorem all_false {s : ByteArray} {k : Nat} (h : k < s.size) (hd : isDig s[k] = false) : s.data.toList.all isDig = false := by
  rw [List.all_eq_false]
  refine ⟨s[k], ?_, by rw [hd]; simp⟩
  have : s[k] = s.data.toList[k]'(by simpa using h) := rfl
  rw [this]
  exact List.getElem_mem _

theorem rtimes_l (A B : Option Addr) (n m c d a b : Nat) (w : World) (ha : U w A n (limbs a)) (hb : U w B m (limbs b)) (hn : n ≤ 1000000) (hm : m ≤ 1000000) :
    Calls Tryz.prog 39 #[.slice A n c, .slice B m d] w fun e w' => Limbs (limbs (a * b)) e w' ∧ Below w.heap.size w w' :=
  (rtimes_any A B n m c d (limbs a) (limbs b) w ha hb hn hm).mono fun e w' ⟨h1, h2⟩ => ⟨by rw [valOf_limbs, valOf_limbs] at h1; exact h1, h2⟩
theorem rplus_l (A B : Option Addr) (n m c d a b : Nat) (w : World) (ha : U w A n (limbs a)) (hb : U w B m (limbs b)) (hn : n ≤ 1000000) (hm : m ≤ 1000000) :
    Calls Tryz.prog 41 #[.slice A n c, .slice B m d] w fun e w' => Limbs (limbs (a + b)) e w' ∧ Below w.heap.size w w' :=
  (rplus_any A B n m c d (limbs a) (limbs b) w ha hb hn hm).mono fun e w' ⟨h1, h2⟩ => ⟨by rw [valOf_limbs, valOf_limbs] at h1; exact h1, h2⟩
set_option maxHeartbeats 1600000 in
set_option maxRecDepth 100000 in
theorem rParse_any (s : ByteArray) (w : World) (hs : s.size ≤ maxLen) :
    Calls Tryz.prog 27 #[.string s] w fun e w' => ParseRes s.data.toList e w' ∧ Below w.heap.size w w' := by
  unfold maxLen at hs
  have hlen := size_len s
  by_cases h1 : 4900 < s.size
  · have hp := parseS_long (l := s.data.toList) (by omega)
    have HP : Sl _ := ⟨hp⟩
    clear hp hlen
    go_enter Tryz.func27, Tryz.ntmps27
    go_wp2_with fail
    go_ret2
    exact ⟨parse_none _ HP.out, Below.refl _ _⟩
  · by_cases h2 : s.size = 0
    · have hp := parseS_form (l := s.data.toList) (by omega) (.inl (List.eq_nil_of_length_eq_zero (by omega)))
      have HP : Sl _ := ⟨hp⟩
      clear hp hlen
      go_enter Tryz.func27, Tryz.ntmps27
      go_wp2_with fail
      go_ret2
      exact ⟨parse_none _ HP.out, Below.refl _ _⟩
    · have h0 : 0 < s.size := by omega
      have hd0 := head_of s h0
      by_cases h3 : 1 < s.size ∧ (s[0]'h0).toNat = 48
      · have hp := parseS_form (l := s.data.toList) (by omega) (.inr (.inl ⟨by omega, by rw [hd0]; congr 1; exact UInt8.toNat_inj.1 h3.2⟩))
        have HP : Sl _ := ⟨hp⟩
        obtain ⟨h4, h5⟩ := h3
        clear hp hlen hd0
        go_enter Tryz.func27, Tryz.ntmps27
        go_wp2_with fail
        go_ret2
        exact ⟨parse_none _ HP.out, Below.refl _ _⟩
      · have hq : s.size = 1 ∨ 1 < s.size ∧ (((s[0]'h0).toNat : Int) == 48) = false := by
          by_cases h4 : s.size = 1
          · exact .inl h4
          · exact .inr ⟨by omega, by rw [beq_eq_false_iff_ne]; intro h; exact h3 ⟨by omega, by omega⟩⟩
        have hn2 : ¬ (1 < s.data.toList.length ∧ s.data.toList.head? = some 48) := by
          rintro ⟨h5, h6⟩
          rw [hd0] at h6
          injection h6 with h6
          exact h3 ⟨by omega, by rw [h6]; rfl⟩
        have HN2 : Sl _ := ⟨hn2⟩
        have HL : Sl _ := ⟨hlen⟩
        clear hn2 hlen hd0 h3
        have HO : Sl (∀ W : World, Calls Tryz.prog 51 #[.int .u64 10] W fun e w' => Limbs (limbs 10) e w' ∧ Below W.heap.size W w') := ⟨fun W => rOf_any 10 W (by decide)⟩
        have hz0 : ((s.size : Int) == 0) = false := by rw [beq_eq_false_iff_ne]; omega
        have hz1 : decide ((4900 : Int) < (s.size : Int)) = false := by rw [decide_eq_false_iff_not]; omega
        rcases hq with hq | ⟨hq, hq0⟩
        all_goals (
          go_enter Tryz.func27, Tryz.ntmps27
          go_wp2_with fail
          go_loopw [4, 5] (fun s4 s5 wr => ∃ (k v : Nat), k ≤ s.size ∧ s5 = .int .i64 k ∧ NV wr s4 v ∧ Sl (v = numV 0 (s.data.toList.take k) ∧ (s.data.toList.take k).all isDig = true ∧ (limbs v).length ≤ 512) ∧ Below w.heap.size w wr) (fun _ s5 _ => s.size - (RowKit.intOf s5).toNat)
          case atStart => exact ⟨0, 0, Nat.zero_le _, rfl, nv_nil w, ⟨by rw [List.take_zero]; rfl, rfl, by simp [limbs_zero]⟩, Below.refl _ _⟩
          case round =>
            obtain ⟨k, v, hk, rfl, ⟨A, c, rfl, ha⟩, HV, hB⟩ := hrel
            by_cases hlt : k < s.size
            · have hts := take_snoc s k hlt
              have HTS : Sl _ := ⟨hts⟩
              have hb8 : (s[k].toNat : Int) < 256 := by have := s[k].toNat_lt; omega
              by_cases hd : 48 ≤ s[k].toNat ∧ s[k].toNat ≤ 57
              · obtain ⟨hd1, hd2⟩ := hd
                have hbd : isDig s[k] = true := isDig_iff.2 ⟨hd1, hd2⟩
                have HBD : Sl _ := ⟨hbd⟩
                have hA : Sl _ := ⟨ha⟩
                obtain ⟨d, hdd⟩ : ∃ d : Nat, s[k].toNat - 48 = d := ⟨_, rfl⟩
                have HOD : Sl (∀ W : World, Calls Tryz.prog 51 #[.int .u64 (d : Int)] W fun e w' => Limbs (limbs d) e w' ∧ Below W.heap.size W w') := ⟨fun W => rOf_any d W (by have := s[k].toNat_lt; unfold LB; omega)⟩
                have HV2 : Sl (v * 10 + d = numV 0 (s.data.toList.take (k + 1)) ∧ (s.data.toList.take (k + 1)).all isDig = true ∧ (limbs (v * 10 + d)).length ≤ 512) := ⟨by
                  have k1 : v * 10 + d = numV 0 (s.data.toList.take (k + 1)) := by rw [HTS.out, numV_append, ← HV.out.1, numV_cons, numV_nil, hdd]
                  have k2 : (s.data.toList.take (k + 1)).all isDig = true := by rw [HTS.out, List.all_append, HV.out.2.1]; simp [hbd]
                  refine ⟨k1, k2, ?_⟩
                  rw [k1]
                  exact numV_limbs k2 (by rw [List.length_take]; omega)⟩
                have hvl := HV.out.2.2
                have hl10 : (limbs 10).length ≤ 1 := limbs_len_le (by decide)
                have hld : (limbs d).length ≤ 1 := limbs_len_le (by have := s[k].toNat_lt; unfold LB; omega)
                have hlm : (limbs (v * 10)).length ≤ 1000 := by have := limbs_len_mul v 10; omega
                have B1 : (limbs v).length ≤ 1000000 := by omega
                have B2 : (limbs 10).length ≤ 1000000 := by omega
                have B3 : (limbs (v * 10)).length ≤ 1000000 := by omega
                have B4 : (limbs d).length ≤ 1000000 := by omega
                have hw1 : IntKind.u8.wrap ((s[k].toNat : Int) - 48) = (d : Int) := by rw [IntKind.wrap_u8]; omega
                have hw2 : IntKind.u64.wrap (d : Int) = (d : Int) := wrap_u64 _ (by omega) (by omega)
                have HDD : Sl _ := ⟨hdd⟩
                clear hts hbd ha hdd
                go_wp2_with fail
                have hdr : RowKit.Below wr.heap.size wr wr.drew := below_drewN (Below.refl _ _) 1
                go_region_with (first
                  | (go_at_call 51; (with_reducible refine (HO.out _).mono ?_); rintro e w2 ⟨⟨A2, c2, rfl, a1, a2, a3⟩, hb2⟩; have hs2 := hdr.trans (hb2.mono hdr.size))
                  | (go_at_call 39; have hh := rtimes_l A A2 _ _ c c2 v 10 _ (hA.out.below hs2).1 a3 B1 B2; (with_reducible refine hh.mono ?_); clear hh; rintro e w3 ⟨⟨A3, c3, rfl, b1, b2, b3⟩, hb3⟩; have hs3 := hs2.trans (hb3.mono hs2.size))
                  | (go_at_call 51; (with_reducible refine (HOD.out _).mono ?_); rintro e w4 ⟨⟨A4, c4, rfl, d1, d2, d3⟩, hb4⟩; have hs4 := hs3.trans (hb4.mono hs3.size))
                  | (go_at_call 41; have hh := rplus_l A3 A4 _ _ c3 c4 (v * 10) d _ (b3.below hb4) d3 B3 B4; (with_reducible refine hh.mono ?_); clear hh; rintro e w5 ⟨⟨A5, c5, rfl, e1, e2, e3⟩, hb5⟩; have hs5 := hs4.trans (hb5.mono hs4.size))
                  | fail)
                all_goals (
                  clear hw1 hw2
                  go_wp2_with fail
                  exact ⟨⟨k + 1, v * 10 + d, hlt, by go_num, ⟨A5, c5, rfl, e3, e1, e2⟩, HV2, hB.trans (hs5.mono hB.size)⟩, by simp [RowKit.intOf]; try omega⟩)
              · have hfa := parseS_form (l := s.data.toList) (by have := HL.out; omega) (.inr (.inr (all_false hlt (not_dig (by omega)))))
                have HP : Sl _ := ⟨hfa⟩
                clear hts hfa ha
                rcases Nat.lt_or_ge s[k].toNat 48 with hd1 | hd1
                · clear hd
                  go_wp2_with fail
                  go_ret2
                  exact ⟨parse_none _ HP.out, hB⟩
                · have hd2 : 57 < s[k].toNat := by omega
                  clear hd
                  go_wp2_with fail
                  go_ret2
                  exact ⟨parse_none _ HP.out, hB⟩
            · obtain rfl : k = s.size := by omega
              have hv := HV.out
              rw [List.take_of_length_le (by rw [HL.out]; exact Nat.le_refl _)] at hv
              have hok := parseS_ok (l := s.data.toList) (by have := HL.out; omega) (fun h0 => by have h5 := HL.out; rw [h0] at h5; simp at h5; omega) HN2.out hv.2.1
              rw [← hv.1] at hok
              have HP : Sl _ := ⟨hok⟩
              have HNV : Sl (NV wr (.slice A (limbs v).length c) v) := ⟨⟨A, c, rfl, ha⟩⟩
              clear hv hok ha
              go_wp2_with fail
              go_ret2
              exact ⟨parse_some HP.out HNV.out, hB⟩)
end Go.Proofs.YtgjbaamhpapeeaaGreatDoor
