/- The reference: Text. -/
import Derived.Test.YtgjbaamhpapeeaaGreatDoorNatP
import Derived.Test.YtgjbaamhpapeeaaGreatDoorLawK
import Derived.Test.YtgjbaamhpapeeaaGreatDoorWideN
namespace Go.Proofs.YtgjbaamhpapeeaaGreatDoor
open Go.RowKit
open Go.Lib (decDigits)
set_option linter.unusedVariables false
set_option linter.unusedSimpArgs false

theorem size_len (s : ByteArray) : s.data.toList.length = s.size := Array.length_toList ..
theorem not_empty {s : ByteArray} (h : 0 < s.size) : s.toList.isEmpty = false := by
  rw [Lib.toList_data]
  cases h1 : s.data.toList with
  | nil => have := size_len s; rw [h1, List.length_nil] at this; omega
  | cons _ _ => rfl
theorem txN_cons {v : Nat} (h : 0 < v) : txN v = txN (v / 10) ++ [UInt8.ofNat (48 + v % 10)] := by
  unfold txN
  rw [if_neg (by omega)]
  by_cases h1 : v < 10
  · rw [decDigits_lt h1, if_pos (by omega), Nat.mod_eq_of_lt h1]; rfl
  · rw [decDigits_ge h1, if_neg (by omega)]

set_option maxHeartbeats 400000 in
/-- the reference's trim: what it gives is its own -/
theorem rtrim_own (A : Option Addr) (n c : Nat) (l : List Nat) (w : World) (h : U w A n l) (hn : n ≤ 4294967296) (hc : n ≤ c) (hm : c ≤ maxLen) :
    Calls Tryz.prog 58 #[.slice A n c] w fun e w' => (∃ v, e = .returned v ∧ w'.ownsRow w.heap.size 49 1 v (trimN l).length ((trimN l).map lv)) ∧ Below w.heap.size w w' := by
  obtain ⟨i0, hi0, hz0, hz1, hz2⟩ := info_parts info32
  have hl := h.len
  unfold maxLen at hm
  have HL : Sl _ := ⟨hl⟩
  clear hl
  have HI : Sl _ := ⟨And.intro hi0 (And.intro hz0 (And.intro hz1 hz2))⟩
  clear hi0 hz0 hz1 hz2
  go_enter Tryz.func58, Tryz.ntmps58
  go_wp2
  go_loop [3] (fun v => ∃ k : Nat, k ≤ n ∧ v = .int .i64 k ∧ trimN (l.take k) = trimN l) (fun v => (intOf v).toNat)
  case atStart => exact ⟨n, Nat.le_refl _, rfl, by rw [List.take_of_length_le (by rw [HL.out]; exact Nat.le_refl _)]⟩
  case round =>
    obtain ⟨k, hk, rfl, ht⟩ := hrel
    have HT : Sl _ := ⟨ht⟩
    clear ht
    by_cases hgo : ∃ j, k = j + 1 ∧ l[j]?.getD 0 = 0
    · obtain ⟨j, rfl, hz⟩ := hgo
      obtain ⟨ad, rfl, hb, hcell⟩ := h.cell (k := j) (by omega)
      rw [hz] at hcell
      have HZ : Sl _ := ⟨hz⟩
      clear hz
      have ej : (((j + 1 : Nat) : Int) - 1) = (j : Int) := by omega
      go_wp2
      exact ⟨⟨j, by omega, by first | rfl | exact int_eq (by omega), by rw [← HT.out, take_trim0 l j (by rw [HL.out]; omega) HZ.out]⟩, by simp [intOf]; try omega⟩
    · have hend : trimN l = l.take k := by
        rcases k with _ | j
        · rw [← HT.out]; simp [trimN_nil]
        · rw [← HT.out, take_trim1 l j (by rw [HL.out]; omega) (fun h0 => hgo ⟨j, rfl, h0⟩)]
      have hU := h.take hk
      have HU : Sl _ := ⟨hU⟩
      have HE : Sl _ := ⟨hend⟩
      have hone : ∀ u ∈ (l.take k).map lv, u.oneCell' = true := by intro u hu; obtain ⟨x, _, rfl⟩ := List.mem_map.1 hu; rfl
      have hcon : k = 0 ∨ ∃ j ad, k = j + 1 ∧ A = some ad ∧ w.cell? (ad.add j) = some (.int .u32 (l[j]?.getD 0 : Nat)) ∧ (((l[j]?.getD 0 : Nat) : Int) == 0) = false := by
        rcases k with _ | j
        · exact .inl rfl
        · obtain ⟨ad, rfl, hb, hcell⟩ := h.cell (k := j) (by omega)
          exact .inr ⟨j, ad, rfl, rfl, hcell, by rw [beq_eq_false_iff_ne]; intro h0; exact hgo ⟨j, rfl, by omega⟩⟩
      clear hend hU hgo
      rcases hcon with rfl | ⟨j, ad, rfl, rfl, hcell, hz⟩
      all_goals (
        go_wp2_with (at_builtin; go_loud (refine wpList_append_any _ rfl (.tmp 18) (.tmp 21) _ rfl w.heap.size 49 i0 _ 1 4 Tryz.underlying23 HI.out.1 HI.out.2.1 HI.out.2.2.1 HI.out.2.2.2 rfl (by decide) (.slice (some ⟨w.heap.size, 0, none⟩) 0 0) 0 [] rfl (World.ownsRow_made w #[] 0 (Nat.le_refl _) (by decide) rfl) w.heap.size _ _ c _ rfl (HU.out.1.alloc (Nat.le_refl _) _) hone (by simp only [maxLen]; omega) (by omega) (by simp) ?_; intro v1 w1 hown1 hg1 hat1))
        go_ret
        have hg : Below w.heap.size w w1 := ((Below.refl _ _).alloc (Nat.le_refl _) _).grown hg1 (by simp) (fun k hk => by simp [Value.ownBlock] at hk; omega)
        rw [HE.out]
        exact ⟨⟨_, rfl, by have h5 := HU.out.len; rw [h5]; simpa using hown1⟩, hg⟩)

theorem take_set_lv {l q : List Nat} {j y : Nat} (h : j < l.length) : ((l.take (j + 1) ++ q).map lv).set j (lv y) = (l.take j ++ y :: q).map lv := by
  have h1 : l.take (j + 1) = l.take j ++ [l[j]] := by rw [List.take_succ_eq_append_getElem h]
  rw [h1, List.append_assoc, List.map_append, List.set_append_right _ _ (by simp; omega), List.map_append]
  congr 1
  simp [Nat.min_eq_left (Nat.le_of_lt h)]
theorem div10_step {x r Q D : Nat} (h : D = 10 * Q + r) : x + LB * D = 10 * ((r * LB + x) / 10 + LB * Q) + (r * LB + x) % 10 := by
  have e := Nat.div_add_mod (r * LB + x) 10
  subst h
  rw [Nat.mul_add, Nat.mul_add, Nat.mul_left_comm LB 10 Q, Nat.mul_comm LB r]
  omega
theorem div10_lt {x r : Nat} (hr : r < 10) (hx : x < LB) : (r * LB + x) / 10 < LB := by unfold LB at *; omega

theorem limb_pow : LB ^ 512 ≤ 10 ^ 5000 := of_decide_eq_true (by kernel_rfl)
theorem txN_short {a : Nat} (h : (limbs a).length ≤ 512) : (txN a).length ≤ 5000 :=
  txN_length 5000 a (Nat.lt_of_lt_of_le (lt_limbs_len a) (Nat.le_trans (Nat.pow_le_pow_right LB_pos h) limb_pow))
theorem own_mono {w : World} {base base' : Nat} {e : TypeId} {size : Nat} {v : Value} {n : Nat} {xs : List Value} (h : w.ownsRow base e size v n xs) (hb : base' ≤ base) : w.ownsRow base' e size v n xs := by
  rcases h with ⟨h1, h2 | ⟨g, cap, cur, a, b, c⟩⟩
  · exact ⟨h1, .inl h2⟩
  · exact ⟨h1, .inr ⟨g, cap, cur, a, Nat.le_trans hb b, c⟩⟩
theorem own_nv {w : World} {base : Nat} {e : TypeId} {x : Value} {v : Nat} (h : w.ownsRow base e 1 x (limbs v).length ((limbs v).map lv)) (hl : (limbs v).length ≤ 512) : NV w x v := by
  obtain ⟨A, c, rfl, h1, h2, h3⟩ := Limbs.trim_own h rfl (limbs_lt v) (by omega)
  exact ⟨A, c, rfl, h3, h1, h2⟩
set_option maxHeartbeats 3200000 in
set_option maxRecDepth 100000 in
theorem rText_any (A : Option Addr) (n c : Nat) (la : List Nat) (w : World) (ha : Arg w A n c la) :
    Calls Tryz.prog 25 #[.slice A n c] w fun e w' => e = .returned (.tuple #[sv (textS la).1, .int .i64 (textS la).2]) ∧ Below w.heap.size w w' := by
  obtain ⟨i0, hi0, hz0, hz1, hz2⟩ := info_parts info32
  have HI : Sl _ := ⟨And.intro hi0 (And.intro hz0 (And.intro hz1 hz2))⟩
  clear hi0 hz0 hz1 hz2
  have hck := rbad1 A n c la w 23 ha
  have hu : Below w.heap.size w (w.alloc (.cells #[.slice A n c] 23)) := (Below.refl _ _).alloc (Nat.le_refl _) _
  rcases badE_cases [la] with e | e | e
  · obtain ⟨h0, h1⟩ := ok_one (ha.below hu) (badE_zero.1 e la (by simp))
    have es : textS la = (decDigits (valOf la), 0) := by simp [textS, e]
    rw [es]
    rw [e] at hck
    have H : Sl _ := ⟨hck⟩
    generalize valOf la = a at *
    have hlen := h0.1.len
    subst hlen
    have HA : Sl _ := ⟨h0⟩
    have hone : ∀ u ∈ (limbs a).map lv, u.oneCell' = true := by intro u hu; obtain ⟨x, _, rfl⟩ := List.mem_map.1 hu; rfl
    have HMD : Sl (((w.alloc (.cells #[.slice A (limbs a).length c] 23)).alloc (.cells #[] 49)).ownsRow w.heap.size 49 1 (.slice (some ⟨w.heap.size + 1, 0, none⟩) 0 0) 0 []) := ⟨by
      have := World.ownsRow_made (base := w.heap.size) (e := 49) (size := 1) (w.alloc (.cells #[.slice A (limbs a).length c] 23)) #[] 0 hu.size (by decide) rfl
      simpa using this⟩
    clear hck es e ha h0
    go_enter Tryz.func25, Tryz.ntmps25
    go_wp2_with fail
    refine H.out.mono ?_; rintro e w' ⟨rfl, rfl⟩
    go_wp2_with (at_builtin; go_loud (refine wpList_append_any _ rfl (.tmp 16) (.tmp 17) _ rfl w.heap.size 49 i0 _ 1 4 Tryz.underlying23 HI.out.1 HI.out.2.1 HI.out.2.2.1 HI.out.2.2.2 rfl (by decide) (.slice (some ⟨w.heap.size + 1, 0, none⟩) 0 0) 0 [] rfl HMD.out _ _ _ c _ rfl (HA.out.1.1.alloc (Nat.le_refl _) _) hone (by simp only [maxLen]; omega) (by omega) (by simp; omega) ?_; intro v1 w1 hown1 hg1 hat1))
    have hz : (w.alloc (.cells #[.slice A (limbs a).length c] 23)).heap.size = w.heap.size + 1 := by simp
    have hB1 : Below w.heap.size w w1 := (hu.alloc hu.size _).grown hg1 (by simp; omega) (fun k hk => by simp [Value.ownBlock] at hk; omega)
    have HA1 : Sl (w1.ownsRow w.heap.size 49 1 v1 (limbs a).length ((limbs a).map lv)) := ⟨by simpa using hown1⟩
    clear hown1 hg1 hat1 hone HA H hz hu
    go_loopw [5, 6] (fun s5 s6 wr => ∃ (v : Nat) (t : List UInt8), NV wr s5 v ∧ s6 = .string ⟨t.toArray⟩ ∧ Sl (txN v ++ t = txN a ∧ (limbs v).length ≤ 512 ∧ wr.ownsRow w.heap.size 49 1 s5 (limbs v).length ((limbs v).map lv)) ∧ Below w.heap.size w wr) (fun s5 _ wr => Classical.epsilon (fun z => NV wr s5 z))
    case atStart => exact ⟨a, [], own_nv HA1.out h1, rfl, ⟨by simp, h1, HA1.out⟩, hB1⟩
    case round =>
      clear HA1 hB1
      obtain ⟨v, t, ⟨A, c, rfl, ha⟩, rfl, HO, hB⟩ := hrel
      obtain ⟨wo, rfl⟩ : ∃ wo : World, wo = wr := ⟨_, rfl⟩
      rcases Nat.eq_zero_or_pos v with hv | hv
      · subst hv
        have hl : (limbs 0).length = 0 := by rw [limbs_zero]; rfl
        have ht : t = txN a := HO.out.1
        subst ht
        clear HO ha
        rcases Nat.eq_zero_or_pos a with h0 | h0
        · subst h0
          have e0 : txN 0 = [] := rfl
          rw [e0]
          clear e0
          go_wp2_with fail
          go_ret2
          exact ⟨by rw [decDigits_lt (show 0 < 10 by decide)]; rfl, hB⟩
        · have e0 : txN a = decDigits a := by unfold txN; rw [if_neg (by omega)]
          obtain ⟨bs, hbs⟩ : ∃ bs : ByteArray, bs = ⟨(decDigits a).toArray⟩ := ⟨_, rfl⟩
          have hne := not_empty (s := bs) (by
            have := decDigits_ne a
            rw [hbs]
            show 0 < (decDigits a).toArray.size
            rw [List.size_toArray]
            exact List.length_pos_iff.2 this)
          rw [e0, ← hbs]
          have HBS : Sl _ := ⟨hbs⟩
          clear e0 hbs
          go_wp2_with fail
          go_ret2
          have hs : sv (decDigits a) = .string bs := by unfold sv; rw [HBS.out]
          rw [hs]
          exact ⟨rfl, hB⟩
      · have hlp : 0 < (limbs v).length := by
          rcases Nat.eq_zero_or_pos (limbs v).length with h | h
          · exact absurd (limbs_nil_iff.1 (List.eq_nil_of_length_eq_zero h)) (by omega)
          · exact h
        obtain ⟨g, cap, he, hg, hgl⟩ : ∃ g cap, A = some ⟨g, 0, none⟩ ∧ w.heap.size ≤ g ∧ c = cap := by
          rcases HO.out.2.2.2 with ⟨h, _⟩ | ⟨g, cap, cur, h, hb, _⟩
          · simp at h; omega
          · simp at h; exact ⟨g, cap, h.1, hb, h.2⟩
        subst he hgl
        have hvl := HO.out.2.1
        have HTX : Sl _ := ⟨HO.out.1⟩
        go_wp2_with fail
        go_loopw [7, 8] (fun s7 s8 wr => ∃ (k r : Nat) (q : List Nat), k ≤ (limbs v).length ∧ s7 = .int .u64 r ∧ s8 = .int .i64 ((k : Int) - 1) ∧ r < 10 ∧ Sl (q.length + k = (limbs v).length ∧ (∀ x ∈ q, x < LB) ∧ valOf ((limbs v).drop k) = 10 * valOf q + r ∧ wr.ownsRow w.heap.size 49 1 (.slice (some ⟨g, 0, none⟩) (limbs v).length c) (limbs v).length (((limbs v).take k ++ q).map lv)) ∧ Below w.heap.size w wr) (fun _ s8 _ => (RowKit.intOf s8 + 1).toNat)
        case atStart => exact ⟨(limbs v).length, 0, [], Nat.le_refl _, rfl, rfl, by decide, ⟨by simp, by simp, by rw [List.drop_of_length_le (Nat.le_refl _)]; rfl, by rw [List.take_of_length_le (Nat.le_refl _), List.append_nil]; exact HO.out.2.2⟩, hB⟩
        case round =>
          have hcc := ha.2
          clear HO hB
          have hep := NV.eps (w := wo) (v := .slice (some ⟨g, 0, none⟩) (limbs v).length c) (a := v) ⟨_, c, rfl, ha⟩
          clear ha
          obtain ⟨k, r, q, hk, rfl, rfl, hr, HQ, hB⟩ := hrel
          rcases k with _ | j
          · have hql : q.length = (limbs v).length := HQ.out.1
            have hvr : v = 10 * valOf q + r := by
              have := HQ.out.2.2.1
              rwa [List.drop_zero, valOf_limbs] at this
            have hq10 : valOf q = v / 10 := by omega
            have hr10 : r = v % 10 := by omega
            have hU : U wr (some ⟨g, 0, none⟩) (limbs v).length q := ⟨by
              have := Reads.of_own HQ.out.2.2.2
              rw [List.take_zero, List.nil_append] at this
              exact this, HQ.out.2.1⟩
            have ht := rtrim_own (some ⟨g, 0, none⟩) (limbs v).length c q wr hU (by omega) hcc.1 hcc.2
            rw [trimN_limbs HQ.out.2.1, hq10] at ht
            have HT : Sl _ := ⟨ht⟩
            have HEP : Sl _ := ⟨hep⟩
            have HTN : Sl (txN (v / 10) ++ (UInt8.ofNat (48 + r) :: t) = txN a) := ⟨by rw [← HTX.out, txN_cons hv, List.append_assoc, ← hr10]; rfl⟩
            have hl10 := limbs_len_mono (Nat.div_le_self v 10)
            have hvlt : v / 10 < v := by omega
            have HLT : Sl _ := ⟨hvlt⟩
            have HL10 : Sl _ := ⟨hl10⟩
            have hrr : (r : Int) ≤ 9 := by omega
            have htl : t.length ≤ 5000 := by
              have k1 := congrArg List.length HTX.out
              have k2 := txN_short h1
              rw [List.length_append] at k1
              omega
            clear hql hvr hq10 hr10 hU ht HQ hep hl10 hvlt
            go_wp2_with fail
            refine HT.out.mono ?_; rintro e w2 ⟨⟨x5, rfl, hown⟩, hb2⟩
            have HOWN : Sl _ := ⟨hown⟩
            have hcv := run_convert_bytes_back (P := Tryz.prog) (w2.alloc (.cells #[.int .u8 (48 + (r : Int))] 5)) 81 9 5 ⟨w2.heap.size, 0, none⟩ 1 [UInt8.ofNat (48 + r)] Tryz.underlying81 Tryz.underlying5 Tryz.underlying9 (fun j hj => by
              have hj0 : j = 0 := by simpa using hj
              subst hj0
              have hc := (Blk.new w2 5 #[.int .u8 (48 + (r : Int))]).cell 0
              have e : (⟨w2.heap.size, 0, none⟩ : Addr).add 0 = ⟨w2.heap.size, 0, none⟩ := by simp [Addr.add]
              rw [e, hc]
              have h8 := dig_byte hr
              show some (Value.int .u8 (48 + (r : Int))) = some (.int .u8 ((UInt8.ofNat (48 + r)).toNat : Int))
              rw [h8]
              congr 2)
            simp only [List.length_singleton] at hcv
            clear hown
            go_wp2_with fail
            clear hcv
            have hal : Below w2.heap.size w2 (w2.alloc (.cells #[.int .u8 (48 + (r : Int))] 5)) := (Below.refl _ _).alloc (Nat.le_refl _) _
            have ho2 := own_mono (own_below HOWN.out hal) hB.size
            have hl2 : (limbs (v / 10)).length ≤ 512 := by have := HL10.out; omega
            have hnv := own_nv ho2 hl2
            rw [HEP.out, hnv.eps]
            have e1 : (⟨#[48 + UInt8.ofNat r]⟩ : ByteArray) ++ (⟨t.toArray⟩ : ByteArray) = ⟨(UInt8.ofNat (48 + r) :: t).toArray⟩ := by
              apply ByteArray.ext
              simp
            rw [e1]
            exact ⟨⟨v / 10, UInt8.ofNat (48 + r) :: t, hnv, rfl, ⟨HTN.out, hl2, ho2⟩, (hB.trans (hb2.mono hB.size)).trans (hal.mono (Nat.le_trans hB.size hb2.size))⟩, HLT.out⟩
          · have hc0 := HQ.out.2.2.2.cellAt j (by omega)
            have hc1 : wr.cell? ⟨g, j, none⟩ = some (.int .u32 (lim (limbs v) j : Nat)) := by
              rw [hc0, List.getElem?_map, List.getElem?_append_left (by simp; omega), List.getElem?_take_of_lt (by omega)]
              unfold lim
              rw [List.getElem?_eq_getElem (by omega)]; rfl
            have hf := HQ.out.2.2.2.frozenAt j
            have hxl := lim_lt (limbs_lt v) j
            have HST : Sl _ := ⟨(HQ.out.2.2.2.stored j (lv ((r * LB + lim (limbs v) j) / 10))).1⟩
            have HD : Sl (valOf ((limbs v).drop j) = 10 * valOf (((r * LB + lim (limbs v) j) / 10) :: q) + (r * LB + lim (limbs v) j) % 10) := ⟨by
              have h1 : (limbs v).drop j = lim (limbs v) j :: (limbs v).drop (j + 1) := by
                rw [List.drop_eq_getElem_cons (by omega)]
                unfold lim
                rw [List.getElem?_eq_getElem (by omega)]; rfl
              rw [h1, valOf, valOf]
              exact div10_step HQ.out.2.2.1⟩
            have HY : Sl _ := ⟨div10_lt hr hxl⟩
            generalize lim (limbs v) j = x at *
            have hx : (x : Int) < 4294967296 := by unfold LB at hxl; omega
            have hr9 : (r : Int) ≤ 9 := by omega
            have ej : (((j + 1 : Nat) : Int) - 1) = (j : Int) := by omega
            clear hc0 hxl
            go_wp2_with fail
            have e1 : Value.int .u32 (((r : Int) * 4294967296 + (x : Int)) / 10) = lv ((r * LB + x) / 10) := int_eq (by unfold LB; omega)
            rw [e1]
            refine ⟨⟨j, (r * LB + x) % 10, ((r * LB + x) / 10) :: q, by omega, int_eq (by unfold LB; omega), rfl, Nat.mod_lt _ (by decide), ⟨by have := HQ.out.1; rw [List.length_cons]; omega, ?_, HD.out, ?_⟩, hB.setCell hg _⟩, by simp [RowKit.intOf]; try omega⟩
            · intro z hz
              rcases List.mem_cons.1 hz with rfl | hz
              · exact HY.out
              · exact HQ.out.2.1 z hz
            · rw [← take_set_lv (by omega)]
              exact HST.out
  all_goals
    have es : textS la = ([], badE [la]) := by simp [textS, e]
    rw [es, e]
    rw [e] at hck
    have H : Sl _ := ⟨hck⟩
    clear hck es e ha
    go_enter Tryz.func25, Tryz.ntmps25
    go_wp2_with fail
    refine H.out.mono ?_; rintro e w' ⟨rfl, rfl⟩
    go_wp2
    go_ret2
    exact ⟨rfl, hu⟩
end Go.Proofs.YtgjbaamhpapeeaaGreatDoor
