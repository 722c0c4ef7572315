/- Package wide: text. -/
import Derived.Test.YtgjbaamhpapeeaaGreatDoorWideL
import Derived.Test.YtgjbaamhpapeeaaGreatDoorNatT
import Derived.Test.YtgjbaamhpapeeaaGreatDoorShelf
import Derived.Lib.AppendIntMem
import Derived.Laws.IdiomCopy
namespace Go.Proofs.YtgjbaamhpapeeaaGreatDoor
set_option linter.unusedSimpArgs false
open Go.RowKit Go.Lib Go.Sort
set_option linter.unusedVariables false

/-- the table of the powers of ten lies as the program's text lays it -/
def Tab10 (w : World) : Prop := Lib.TabIs Tryz.prog w "internal/strconv.uint64pow10" .u64 Lib.pow10Tab
theorem Tab10.below {w w' : World} (h : Tab10 w) (hb : Below w.heap.size w w') : Tab10 w' := by
  unfold Tab10 Lib.TabIs World.var? at h ⊢
  rcases hg : Tryz.prog.globalNamed "internal/strconv.uint64pow10" with _ | g
  · rw [hg] at h; cases h
  · rw [hg] at h
    simp only [Option.bind_some] at h ⊢
    have hlt : g < w.heap.size := by
      rcases Nat.lt_or_ge g w.heap.size with h' | h'
      · exact h'
      · rw [Array.getElem?_eq_none h'] at h; cases h
    rw [hb.block g hlt]; exact h
theorem own_below {w w' : World} {base size n : Nat} {e : TypeId} {v : Value} {xs : List Value} (h : w.ownsRow base e size v n xs) (hb : Below w.heap.size w w') : w'.ownsRow base e size v n xs := by
  refine h.kept (row := none) ⟨hb.os, hb.tape, hb.output, hb.size, fun k hk _ => hb.block k hk⟩ ?_
  rcases hv : v.ownBlock with _ | g
  · exact .inl rfl
  · exact .inr (by simp)
theorem below_growN (w : World) (k : Nat) (os : Array Obj) : Below w.heap.size w (grow (w.drewN k) os) := Lib.below_grow _ w (Nat.le_refl _) k os
theorem decDigits_ne (x : Nat) : decDigits x ≠ [] := by
  by_cases h : x < 10
  · rw [decDigits_lt h]; simp
  · rw [decDigits_ge h]; simp
theorem below_putRow {w wr : World} {B nd g : Nat} {d : Array (List UInt8)} (h : RowKit.Below B w wr) (hg : B ≤ g) : RowKit.Below B w (putRow encStr (Go.Sort.ahead wr nd) g 0 d) := by
  refine ⟨h.os, h.tape, h.output, by simpa using h.size, fun k hk => ?_⟩
  rw [← h.block k hk]
  simp only [putRow, mapBlock, Go.Sort.heap_ahead, Array.getElem?_modify]
  rw [if_neg (by omega)]
theorem join_flat : ∀ xs : List (List UInt8), join xs [] = xs.flatten
  | [] => rfl
  | [x] => by simp [join, List.intercalate]
  | x :: y :: r => by
    have := join_flat (y :: r)
    simp only [join, List.intercalate, List.intersperse, List.flatten_cons, List.nil_append] at this ⊢
    rw [this]
theorem join_bytes (P : List (List UInt8)) : join ((P.reverse.map fun l => (⟨l.toArray⟩ : ByteArray)).map (·.data.toList)) (ByteArray.mk #[]).data.toList = P.reverse.flatten := by
  rw [List.map_map]
  have e : ((fun x : ByteArray => x.data.toList) ∘ fun l : List UInt8 => (⟨l.toArray⟩ : ByteArray)) = id := rfl
  rw [e, List.map_id]
  exact join_flat _
theorem reads_lit (w : World) (u : Value) (t : TypeId) : Reads (w.alloc (.cells #[u] t)) (w.heap.size + 1) 1 (some ⟨w.heap.size, 0, none⟩) 1 [u] := by
  refine ⟨rfl, fun _ => ⟨_, rfl, Nat.lt_succ_self _, fun j x hx => ?_⟩⟩
  match j, hx with
  | 0, hx => simp at hx; subst hx; simp [Addr.add]
theorem U.grown {w w' : World} {ad : Addr} {n : Nat} {l : List Nat} {row : Option Nat} (h : U w (some ad) n l) (hg : w.grownBy w' row) (hr : row ≠ some ad.block) : U w' (some ad) n l := by
  refine ⟨⟨h.1.1, fun hn => ?_⟩, h.2⟩
  obtain ⟨ad', e, hb, hc⟩ := h.1.2 hn
  cases e
  refine ⟨ad, rfl, Nat.lt_of_lt_of_le hb hg.size, fun j u hu => ?_⟩
  have hbk : w'.heap[(ad.add j).block]? = w.heap[(ad.add j).block]? := by rw [block_of_add]; exact hg.block ad.block hb (fun e => hr e.symm)
  exact (World.cell?_of_block hbk).trans (hc j u hu)
theorem string_app (a b : List UInt8) : (⟨a.toArray⟩ : ByteArray) ++ (⟨b.toArray⟩ : ByteArray) = ⟨(a ++ b).toArray⟩ := by
  apply ByteArray.ext
  simp
/-- a string of bytes -/
def sv (l : List UInt8) : Value := .string ⟨l.toArray⟩

set_option maxHeartbeats 800000 in
set_option maxRecDepth 100000 in
theorem text_any (A : Option Addr) (n c a : Nat) (w : World) (ha : Arg w A n c (limbs a)) (hn : n ≤ 16384) (ht : Tab10 w) :
    Calls Tryz.prog 56 #[.slice A n c] w fun e w' => e = .returned (sv (decDigits a)) ∧ Below w.heap.size w w' := by
  obtain ⟨i0, hi0, hz0, hz1, hz2⟩ : ∃ i, Tryz.prog.info? 9 = some i ∧ i.zero = some (.string ⟨#[]⟩) ∧ i.size = 1 ∧ i.bytes = 16 := by
    have h : (Tryz.prog.info? 9).map (fun i => (i.zero, i.size, i.bytes)) = some (some (.string ⟨#[]⟩), 1, 16) := by kernel_rfl
    obtain ⟨i, hi, he⟩ := Option.map_eq_some_iff.1 h
    injection he with e1 e2
    injection e2 with e2 e3
    exact ⟨i, hi, e1, e2, e3⟩
  have h0 : NV w (.slice A n c) a := ha.nv
  have hla : a < 2 ^ (32 * n) := by have := lt_limbs_len a; rwa [ha.1.len, LB_pow] at this
  have HA : Sl _ := ⟨ha⟩
  have HT : Sl _ := ⟨ht⟩
  have HLA : Sl _ := ⟨hla⟩
  have HI : Sl _ := ⟨And.intro hi0 (And.intro hz0 (And.intro hz1 hz2))⟩
  clear ha ht hla hi0 hz0 hz1 hz2
  go_enter Tryz.func56, Tryz.ntmps56
  go_wp2
  go_loopw [0, 3] (fun s0 s3 wr => ∃ (x : Nat) (P : List (List UInt8)), NV wr s0 x ∧ (limbs x).length ≤ 16384 ∧ wr.ownsRow w.heap.size 9 1 s3 P.length (P.map sv) ∧ P.length ≤ 32 * n ∧ x * 2 ^ P.length ≤ a ∧ txN x ++ P.reverse.flatten = txN a ∧ (0 < P.length → 0 < a) ∧ Below w.heap.size w wr) (fun s0 _ wr => Classical.epsilon (fun z => NV wr s0 z))
  case atStart => exact ⟨a, [], h0, by rw [HA.out.1.len]; exact hn, World.ownsRow_nil _ _ _ _, Nat.zero_le _, by simp, by simp, fun h => absurd h (by decide), Below.refl _ _⟩
  case round =>
    obtain ⟨x, P, hx, hlx, hown, hP, hPa, htx, hPa0, hB⟩ := hrel
    have hep := hx.eps
    obtain ⟨A1, c1, rfl, h1⟩ := hx
    have HE : Sl _ := ⟨hep⟩
    have H1 : Sl _ := ⟨h1⟩
    have HP : Sl _ := ⟨hPa⟩
    have HTX : Sl _ := ⟨htx⟩
    have HO : Sl _ := ⟨hown⟩
    clear h1 hPa htx hep hown
    rcases Nat.eq_zero_or_pos x with hx0 | hx0
    · subst hx0
      have hl0 : (limbs 0).length = 0 := by rw [limbs_zero]; rfl
      have htx := HTX.out
      simp only [txN, if_true, List.nil_append] at htx
      rcases Nat.eq_zero_or_pos P.length with hP0 | hP0
      · have hPn : P = [] := List.eq_nil_of_length_eq_zero hP0
        subst hPn
        have ha0 : a = 0 := by
          rcases Nat.eq_zero_or_pos a with h | h
          · exact h
          · rw [if_neg (by omega)] at htx
            have := (decDigits_ne a)
            simp at htx
            exact absurd htx.symm (fun e => this e.symm)
        have HA0 : Sl _ := ⟨ha0⟩
        clear ha0 htx
        have hform : ∃ A3 c3, u3 = .slice A3 0 c3 := by
          rcases HO.out.2 with ⟨rfl, _⟩ | ⟨g, cap, cur, rfl, _⟩
          · exact ⟨_, _, rfl⟩
          · exact ⟨_, _, rfl⟩
        obtain ⟨A3, c3, rfl⟩ := hform
        go_wp2_with fail
        go_ret
        refine ⟨?_, hB⟩
        rw [HA0.out, decDigits_lt (by decide)]; rfl
      · obtain ⟨g, cap, rfl, hgb, hglt⟩ := HO.out.form hP0
        have hcapP : P.length ≤ cap := by
          rcases HO.out.2 with ⟨h, _⟩ | ⟨g', cap', cur, h, _, _, hc, _⟩
          · cases h
          · injection h with _ _ h3; omega
        have hHold : Holds encStr wr g 0 P.toArray := by
          intro j hj
          have hj' : j < P.length := by simpa using hj
          have h1 := HO.out.cellAt j (by omega)
          have h2 := HO.out.frozenAt j
          rw [Nat.zero_add]
          refine ⟨?_, h2⟩
          rw [h1, List.getElem?_map, List.getElem?_eq_getElem hj']
          simp [hj', sv, encStr]
        have htx2 : P.reverse.flatten = decDigits a := by rw [htx, if_neg (by have := hPa0 hP0; omega)]
        have hlen : (decDigits a).length ≤ 32 * n := by
          have h1 : 2 ^ (32 * n) ≤ 10 ^ (32 * n) := Nat.pow_le_pow_left (by decide) _
          have h2 := txN_length (32 * n) a (Nat.lt_of_lt_of_le HLA.out h1)
          rwa [txN, if_neg (by have := hPa0 hP0; omega)] at h2
        have HH : Sl _ := ⟨hHold⟩
        have HF : Sl _ := ⟨htx2⟩
        clear hHold htx htx2 hPa0
        go_wp2_with fail
        refine (Tryz.slices_Reverse_string g 0 cap P wr HH.out (by omega)).mono ?_; rintro e w1 ⟨rfl, nd, rfl⟩
        have hH1 := holds_putRow encStr (Go.Sort.ahead wr nd) g 0 P.toArray P.reverse.toArray (holds_ahead _ _ _ _ _ _ HH.out) (by simp)
        have hB1 : RowKit.Below w.heap.size w (putRow encStr (Go.Sort.ahead wr nd) g 0 P.reverse.toArray) := below_putRow hB hgb
        have hg1 : g < (putRow encStr (Go.Sort.ahead wr nd) g 0 P.reverse.toArray).heap.size := by simpa using hglt
        generalize putRow encStr (Go.Sort.ahead wr nd) g 0 P.reverse.toArray = w1 at *
        have hJ := Tryz.strings_Join g 0 cap (P.reverse.map fun l => (⟨l.toArray⟩ : ByteArray)) ⟨#[]⟩ w1 (fun j x hj => by
          have hjl : j < P.length := by
            have := (List.getElem?_eq_some_iff.1 hj).1
            simpa using this
          have h1 := (hH1 j (by simpa using hjl)).1
          rw [h1]
          rw [List.getElem?_map, List.getElem?_eq_getElem (by simpa using hjl)] at hj
          simp at hj
          subst hj
          simp [encStr, hjl]) hg1 (by simp; omega) (by simpa using hcapP) (by
            rw [join_bytes, HF.out]; omega)
        rw [join_bytes, HF.out, List.length_map, List.length_reverse] at hJ
        have HJ : Sl _ := ⟨hJ⟩
        clear hJ hH1
        go_wp2_with fail
        refine HJ.out.mono ?_; rintro e w2 ⟨rfl, hb2⟩
        go_wp2_with fail
        go_ret
        exact ⟨rfl, hB1.trans (hb2.mono hB1.size)⟩
    · have hxl : 0 < (limbs x).length := by
        rcases Nat.eq_zero_or_pos (limbs x).length with h | h
        · exact absurd (limbs_nil_iff.1 (List.eq_nil_of_length_eq_zero h)) (by omega)
        · exact h
      have hstep := txN_step hx0
      have hle9 := txN_len_le hx0
      have hq : x / 1000000000 < x := Nat.div_lt_self hx0 (by decide)
      have hr := Nat.mod_lt x (show 0 < 1000000000 by decide)
      have hmul : x / 1000000000 * 2 ≤ x := by omega
      have hlq := limbs_len_mono (Nat.le_of_lt hq)
      go_wp2_with fail
      refine (short_at A1 _ c1 x 1000000000 _ H1.out.1 (by omega) (by decide) (by decide)).mono ?_; rintro e w1 ⟨⟨c2, rfl, k1, k2, k3⟩, hb1⟩
      generalize hqq : x / 1000000000 = q at *
      generalize hrr : x % 1000000000 = r at *
      have H2 : Sl (Arg w1 (some ⟨wr.heap.size, 0, none⟩) (limbs q).length c2 (limbs q)) := ⟨⟨k3, k1, k2⟩⟩
      have HS : Sl _ := ⟨hstep⟩
      have HQ : Sl _ := ⟨And.intro hmul hq⟩
      clear k1 k2 k3 hqq hrr hstep hmul hq
      have hBw1 := hB.trans (hb1.mono hB.size)
      go_wp2_with fail
      refine (Tryz.strconv_Itoa (r : Int) (by omega) (by omega) _ (HT.out.below hBw1)).mono ?_; rintro e w2 ⟨rfl, kk, os, rfl⟩
      have hb2 := below_growN w1 kk os
      generalize grow (w1.drewN kk) os = w2 at *
      have hit : itoa (r : Int) = decDigits r := by unfold itoa; rw [if_neg (by omega), Int.toNat_natCast]
      rw [hit]
      clear hit
      have hBw2 := hBw1.trans (hb2.mono hBw1.size)
      have HO2 : Sl _ := ⟨own_below HO.out (hb1.trans (hb2.mono hb1.size))⟩
      have HA2 : Sl _ := ⟨H2.out.below hb2⟩
      have ha0 : 0 < a := Nat.lt_of_lt_of_le (Nat.mul_pos hx0 (Nat.two_pow_pos _)) HP.out
      have hP1 : P.length + 1 ≤ 32 * n := by
        have h1 : 1 * 2 ^ P.length ≤ x * 2 ^ P.length := Nat.mul_le_mul_right _ hx0
        have h2 : 2 ^ P.length < 2 ^ (32 * n) := by have := HP.out; have := HLA.out; omega
        exact (Nat.pow_lt_pow_iff_right (by decide)).1 h2
      have HPN : Sl (q * 2 ^ (P.length + 1) ≤ a) := ⟨by
        have h1 : q * 2 * 2 ^ P.length ≤ x * 2 ^ P.length := Nat.mul_le_mul_right _ HQ.out.1
        rw [Nat.pow_succ, Nat.mul_comm (2 ^ P.length), ← Nat.mul_assoc]
        exact Nat.le_trans h1 HP.out⟩
      have hn63 : P.length + 1 ≤ maxLen := by unfold maxLen; omega
      have hby : (P.length + 1) * 16 ≤ 140737488355328 := by omega
      by_cases hq0 : q = 0
      · subst hq0
        have hs := HS.out
        rw [if_pos rfl] at hs
        have HS2 : Sl _ := ⟨hs⟩
        clear hs
        have hl0 : (limbs 0).length = 0 := by rw [limbs_zero]; rfl
        have hone : ∀ u ∈ [sv (decDigits r)], u.oneCell' = true := by intro u hu; simp at hu; subst hu; rfl
        have HOA := HO2.out.alloc (.cells #[sv (decDigits r)] 9)
        go_wp2_with (at_builtin; go_loud (refine wpList_append_any _ rfl (.tmp 27) (.tmp 29) _ rfl w.heap.size 9 i0 _ 1 16 Tryz.underlying104 HI.out.1 HI.out.2.1 HI.out.2.2.1 HI.out.2.2.2 rfl (by decide) _ P.length (P.map sv) rfl HOA _ (some ⟨w2.heap.size, 0, none⟩) 1 1 [sv (decDigits r)] rfl (reads_lit w2 _ _) hone hn63 hby (Nat.le_trans hBw2.size (by simp)) ?_; intro v1 w3 hown1 hg1 hat1))
        have hBa : Below w.heap.size w (w2.alloc (.cells #[sv (decDigits r)] 9)) := hBw2.alloc hBw2.size _
        have hown := HO.out.lt
        have hB3 := hBa.grown hg1 (Nat.le_trans hBw2.size (by simp)) (fun k hk => (hown k hk).1)
        have hU3 := (HA2.out.alloc (.cells #[sv (decDigits r)] 9)).1.grown hg1 (fun e => by have := (hown _ e).2; exact absurd this (Nat.lt_irrefl _))
        have hN3 : NV w3 (.slice (some ⟨wr.heap.size, 0, none⟩) (limbs 0).length c2) 0 := ⟨_, c2, rfl, hU3, HA2.out.2⟩
        rw [hl0] at hN3
        have hN3e := hN3.eps
        rw [HE.out, hN3e]
        refine ⟨⟨0, P ++ [decDigits r], hN3, by omega, ?_, by simpa using hP1, by simp, ?_, fun _ => ha0, hB3⟩, hx0⟩
        · simpa using hown1
        · rw [← HTX.out, HS2.out, List.reverse_append]; simp
      · have hql : 0 < (limbs q).length := by
          rcases Nat.eq_zero_or_pos (limbs q).length with h | h
          · exact absurd (limbs_nil_iff.1 (List.eq_nil_of_length_eq_zero h)) hq0
          · exact h
        have hs := HS.out
        rw [if_neg hq0] at hs
        have HS2 : Sl _ := ⟨hs⟩
        clear hs
        go_wp2_with fail
        rw [show (9 - ((decDigits r).length : Int)) = ((9 - (decDigits r).length : Nat) : Int) by omega]
        refine (Tryz.strings_Repeat ⟨#[48]⟩ (9 - (decDigits r).length) w2 (by omega) (by show 1 * _ ≤ _; omega)).mono ?_; rintro e w2' ⟨rfl, hb2'⟩
        have hrep : repeatL [48] (9 - (decDigits r).length) = List.replicate (9 - (decDigits r).length) 48 := by
          have := repeatL_replicate 48 1 (9 - (decDigits r).length)
          simpa using this
        rw [show (ByteArray.mk #[48]).data.toList = [48] from rfl, hrep]
        obtain ⟨z, hz⟩ : ∃ z : ByteArray, (⟨(List.replicate (9 - (decDigits r).length) (48 : UInt8)).toArray⟩ : ByteArray) = z := ⟨_, rfl⟩
        have hcat : Value.string (z ++ ⟨(decDigits r).toArray⟩) = sv (List.replicate (9 - (decDigits r).length) 48 ++ decDigits r) := by
          rw [← hz, string_app]; rfl
        rw [hz]
        have HCAT : Sl _ := ⟨hcat⟩
        have hz9 : z.size ≤ 9 := by rw [← hz]; simp [ByteArray.size]
        clear hz hcat hrep
        have hd9 : (ByteArray.mk (decDigits r).toArray).size ≤ 9 := by simpa [ByteArray.size] using hle9
        generalize hd : ByteArray.mk (decDigits r).toArray = dd at *
        clear hd
        have hBw3 := hBw2.trans (hb2'.mono hBw2.size)
        have HO3 := own_below HO2.out hb2'
        have HA3 := HA2.out.below hb2'
        have hone : ∀ u ∈ [Value.string (z ++ dd)], u.oneCell' = true := by intro u hu; simp at hu; subst hu; rfl
        have HOA := HO3.alloc (.cells #[Value.string (z ++ dd)] 9)
        go_wp2_with (at_builtin; go_loud (refine wpList_append_any _ rfl (.tmp 27) (.tmp 29) _ rfl w.heap.size 9 i0 _ 1 16 Tryz.underlying104 HI.out.1 HI.out.2.1 HI.out.2.2.1 HI.out.2.2.2 rfl (by decide) _ P.length (P.map sv) rfl HOA _ (some ⟨w2'.heap.size, 0, none⟩) 1 1 [Value.string (z ++ dd)] rfl (reads_lit w2' _ _) hone hn63 hby (Nat.le_trans hBw3.size (by simp)) ?_; intro v1 w3 hown1 hg1 hat1))
        have hBa : Below w.heap.size w (w2'.alloc (.cells #[Value.string (z ++ dd)] 9)) := hBw3.alloc hBw3.size _
        have hown := HO.out.lt
        have hB3 := hBa.grown hg1 (Nat.le_trans hBw3.size (by simp)) (fun k hk => (hown k hk).1)
        have hU3 := (HA3.alloc (.cells #[Value.string (z ++ dd)] 9)).1.grown hg1 (fun e => by have := (hown _ e).2; exact absurd this (Nat.lt_irrefl _))
        have hN3 : NV w3 (.slice (some ⟨wr.heap.size, 0, none⟩) (limbs q).length c2) q := ⟨_, c2, rfl, hU3, HA2.out.2⟩
        have hN3e := hN3.eps
        rw [HE.out, hN3e]
        rw [HCAT.out] at hown1
        refine ⟨⟨q, P ++ [List.replicate (9 - (decDigits r).length) 48 ++ decDigits r], hN3, by omega, ?_, by simpa using hP1, by simpa using HPN.out, ?_, fun _ => ha0, hB3⟩, HQ.out.2⟩
        · simpa using hown1
        · rw [← HTX.out, HS2.out, List.reverse_append]; simp
end Go.Proofs.YtgjbaamhpapeeaaGreatDoor
