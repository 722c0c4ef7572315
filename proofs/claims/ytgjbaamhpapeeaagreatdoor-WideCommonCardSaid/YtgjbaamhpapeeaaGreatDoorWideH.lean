/- Package wide, eighth part: take, give: the steps of a long division. -/
import Derived.Test.YtgjbaamhpapeeaaGreatDoorWideG
import Derived.Test.YtgjbaamhpapeeaaGreatDoorNatN
namespace Go.Proofs.YtgjbaamhpapeeaaGreatDoor
set_option linter.unusedSimpArgs false
open Go.RowKit
set_option linter.unusedVariables false

/-- only block g has turned -/
structure Only (g : Nat) (w w' : World) : Prop where
  os : w'.os = w.os
  tape : w'.tape = w.tape
  output : w'.output = w.output
  size : w'.heap.size = w.heap.size
  block : ∀ k, k ≠ g → w'.heap[k]? = w.heap[k]?
theorem Only.refl (g : Nat) (w : World) : Only g w w := ⟨rfl, rfl, rfl, rfl, fun _ _ => rfl⟩
theorem Only.trans {g : Nat} {a b c : World} (h : Only g a b) (k : Only g b c) : Only g a c :=
  ⟨k.os.trans h.os, k.tape.trans h.tape, k.output.trans h.output, k.size.trans h.size, fun i hi => (k.block i hi).trans (h.block i hi)⟩
theorem Only.drew {g : Nat} {a w : World} (h : Only g a w) : Only g a w.drew := ⟨h.os, h.tape, h.output, h.size, h.block⟩
theorem Only.drewN {g : Nat} {a w : World} (h : Only g a w) (n : Nat) : Only g a (w.drewN n) := ⟨h.os, h.tape, h.output, h.size, h.block⟩
theorem Only.setCell {g : Nat} {a w : World} (h : Only g a w) {p : Addr} (hp : p.block = g) (u : Value) : Only g a (w.setCell p u) :=
  h.trans ⟨rfl, rfl, rfl, by simp [World.setCell], fun k hk => Below.heap_setCell _ _ _ _ (by omega)⟩
theorem Only.below {g B : Nat} {a w : World} (h : Only g a w) (hB : B ≤ g) : Below B a w := ⟨h.os, h.tape, h.output, by rw [h.size]; exact Nat.le_refl _, fun k hk => h.block k (by omega)⟩
theorem Only.cell {g : Nat} {a w : World} (h : Only g a w) {p : Addr} (hp : p.block ≠ g) : w.cell? p = a.cell? p := World.cell?_of_block (h.block p.block hp)
theorem Out.only {w w' : World} {g g' n : Nat} {o : List Nat} (h : Out w g n o) (hw : Only g' w w') (hne : g ≠ g') : Out w' g n o := ⟨h.1.of_block (hw.block g hne), h.2⟩

theorem wrap_mul {g y c : Nat} (hg : g < LB) (hy : y < LB) (hc : c < LB) : IntKind.u64.wrap (IntKind.u64.wrap ((g : Int) * (y : Int)) + (c : Int)) = ((g * y + c : Nat) : Int) := by
  have h := mul_lt_LB g y hg hy
  unfold LB at hc
  rw [← Int.natCast_mul, wrap_u64 ((g * y : Nat) : Int) (by omega) (by omega), wrap_u64 _ (by omega) (by omega)]
  omega

set_option maxHeartbeats 800000 in
set_option maxRecDepth 100000 in
theorem take_any (g N j n cap c : Nat) (L s R V : List Nat) (ad : Addr) (gs : Nat) (w : World) (hO : Out w g N (L ++ s ++ R)) (hL : L.length = j) (hs : s.length = n + 1) (hN : j + (n + 1) + R.length = N)
    (hN2 : N ≤ 4294967296) (hV : V.length = n) (hVl : ∀ x ∈ V, x < LB) (had : ad.block ≠ g) (hcell : ∀ i, i < n → w.cell? (ad.add i) = some (.int .u32 (V[i]?.getD 0 : Nat))) (hg : gs < LB) :
    Calls Tryz.prog 73 #[.slice (some ⟨g, j, none⟩) (n+1) cap, .slice (some ad) n c, .int .u64 gs] w fun e w' =>
      ∃ (s' : List Nat) (neg : Bool), e = .returned (.bool neg) ∧ Out w' g N (L ++ s' ++ R) ∧ s'.length = n + 1 ∧ valOf s' + gs * valOf V = valOf s + (if neg then LB ^ (n+1) else 0) ∧ Only g w w' := by
  have HO : Sl _ := ⟨hO⟩
  have HL : Sl _ := ⟨hL⟩
  have HS : Sl _ := ⟨hs⟩
  have HN : Sl _ := ⟨hN⟩
  have HV : Sl _ := ⟨hV⟩
  have HC : Sl _ := ⟨hcell⟩
  have hlim : ∀ i, V[i]?.getD 0 < LB := fun i => by
    rcases Nat.lt_or_ge i V.length with h1 | h1
    · rw [List.getElem?_eq_getElem h1]; exact hVl _ (List.getElem_mem _)
    · rw [List.getElem?_eq_none h1]; exact LB_pos
  have HVL : Sl _ := ⟨hlim⟩
  have hgs : (gs : Int) < 4294967296 := by unfold LB at hg; omega
  have hnN : n < 4294967296 := by omega
  clear hO hL hs hN hV hVl hcell hlim
  go_enter Tryz.func73, Tryz.ntmps73
  go_wp2
  go_loopw [7, 8, 15] (fun s7 s8 s15 wr => ∃ (i cy o : Nat) (s' : List Nat), i ≤ n ∧ s7 = .int .u64 cy ∧ s8 = .int .i64 o ∧ s15 = .int .i64 i ∧ s'.length = i ∧ cy < LB ∧ o ≤ 1 ∧
      valOf s' + gs * valOf (V.take i) = valOf (s.take i) + (cy + o) * LB ^ i ∧ Out wr g N (L ++ (s' ++ s.drop i) ++ R) ∧ Only g w wr) (fun _ _ s15 _ => n - (intOf s15).toNat)
  case atStart => exact ⟨0, 0, 0, [], Nat.zero_le _, rfl, rfl, rfl, rfl, by decide, by decide, by simp [valOf], by simpa using HO.out, Only.refl _ _⟩
  case round =>
    obtain ⟨i, cy, o, s', hi, rfl, rfl, rfl, hsl, hcy, ho, hval, hO, hB⟩ := hrel
    have HVal : Sl _ := ⟨hval⟩
    have HSl : Sl _ := ⟨hsl⟩
    clear hval hsl
    have hcy2 : (cy : Int) < 4294967296 := by unfold LB at hcy; omega
    have ho2 : (o : Int) ≤ 1 := by omega
    have hdr : s.drop i = s[i]?.getD 0 :: s.drop (i+1) := by
      have : i < s.length := by rw [HS.out]; omega
      rw [List.drop_eq_getElem_cons this, List.getElem?_eq_getElem this]; rfl
    have hlen : (s' ++ s.drop i).length = n + 1 := by rw [List.length_append, HSl.out, List.length_drop, HS.out]; omega
    have hx0 : (L ++ (s' ++ s.drop i) ++ R)[j + i]?.getD 0 = s[i]?.getD 0 := by
      rw [seg_get _ _ _ _ _ HL.out (by rw [hlen]; omega), List.getElem?_append_right (by rw [HSl.out]; exact Nat.le_refl _), HSl.out, Nat.sub_self, hdr]; rfl
    have hlx : s[i]?.getD 0 < LB := by rw [← hx0]; exact hO.limb _
    have hx : ((s[i]?.getD 0 : Nat) : Int) < 4294967296 := by unfold LB at hlx; omega
    have hc0 := hO.cellAt (i := j + i) (by have := HN.out; omega)
    rw [hx0] at hc0
    have hf0 := hO.1.frozen (j + i)
    have HDr : Sl _ := ⟨hdr⟩
    have HLen : Sl _ := ⟨hlen⟩
    clear hdr hlen hx0
    by_cases hin : i < n
    · have hcb := (hB.cell (p := ad.add i) (by rw [block_of_add]; exact had)).trans (HC.out i hin)
      have hly := HVL.out i
      have hy : ((V[i]?.getD 0 : Nat) : Int) < 4294967296 := by unfold LB at hly; omega
      have hfit := take_fits hg hly hcy
      have HF : Sl _ := ⟨hfit⟩
      have HLy : Sl _ := ⟨hly⟩
      clear hfit hly
      go_wp2
      have hly := HLy.out
      have hfit := HF.out
      have hp := wrap_mul (g := gs) (y := V[i]?.getD 0) (c := cy) hg hly hcy
      rw [hp]
      have hlo : (gs * V[i]?.getD 0 + cy) % LB < LB := Nat.mod_lt _ LB_pos
      obtain ⟨cc, o', k1, k2, k3, k4, k5⟩ := minus_limb _ _ o hlx hlo ho
      have hs := take_step (x := s[i]?.getD 0) (y := V[i]?.getD 0) (cc := cc) (o' := o') HVal.out k3
      have hlo2 : (((gs * V[i]?.getD 0 + cy) % LB : Nat) : Int) = ((gs * V[i]?.getD 0 + cy : Nat) : Int) % 4294967296 := by unfold LB; omega
      rw [hlo2] at k4 k5
      have hlenO : (L ++ (s' ++ s.drop i) ++ R).length = N := by have h1 := HN.out; have h2 := HL.out; have h3 := HLen.out; rw [List.length_append, List.length_append, h3, h2]; omega
      refine ⟨⟨i + 1, (gs * V[i]?.getD 0 + cy) / LB, o', s' ++ [cc], hin, int_eq (by unfold LB; omega), int_eq ?_, by go_num, by rw [List.length_append, HSl.out]; rfl, take_hi hg hly hcy, k2, ?_, ?_, hB.setCell rfl _⟩, by simp [intOf]; omega⟩
      · refine owe_eq _ _ ?_ k2
        rw [k5]; congr 2; omega
      · rw [valOf_snoc, HSl.out, valOf_take_succ V i (by rw [HV.out]; exact hin), valOf_take_succ s i (by rw [HS.out]; omega)]
        exact hs
      · have hput := hO.put hlenO (i := j + i) (by have := HN.out; omega) (x := cc) (v := (((s[i]?.getD 0 : Nat) : Int) - ((gs * V[i]?.getD 0 + cy : Nat) : Int) % 4294967296 - (o : Int)) % 4294967296) (by rw [k4]; congr 1; omega) k1
        rw [seg_set _ _ _ _ _ _ HL.out (by rw [HLen.out]; omega), HDr.out, set_mid _ _ _ _ _ HSl.out] at hput
        rw [List.append_assoc s']
        exact hput
    · obtain rfl : i = n := by omega
      have HF : Sl _ := ⟨hcy⟩
      go_wp2
      go_ret
      obtain ⟨cc, o', k1, k2, k3, k4, k5⟩ := minus_limb _ _ o hlx hcy ho
      have hval := HVal.out
      rw [List.take_of_length_le (l := V) (by rw [HV.out]; omega)] at hval
      have hs := take_last (x := s[i]?.getD 0) (cc := cc) (o' := o') hval k3
      have hlenO : (L ++ (s' ++ s.drop i) ++ R).length = N := by have h1 := HN.out; have h2 := HL.out; have h3 := HLen.out; rw [List.length_append, List.length_append, h3, h2]; omega
      have hput := hO.put hlenO (i := j + i) (by have := HN.out; omega) (x := cc) (v := (((s[i]?.getD 0 : Nat) : Int) - (cy : Int) - (o : Int)) % 4294967296) (by rw [k4]; congr 1; omega) k1
      rw [seg_set _ _ _ _ _ _ HL.out (by rw [HLen.out]; omega), HDr.out, set_mid _ _ _ _ _ HSl.out, List.drop_of_length_le (by rw [HS.out]; omega)] at hput
      have hneg : decide (((s[i]?.getD 0 : Nat) : Int) - (cy : Int) - (o : Int) < 0) = decide (o' = 1) := by
        rw [Bool.eq_iff_iff, decide_eq_true_iff, decide_eq_true_iff]; unfold LB at k1 k3; omega
      refine ⟨s' ++ [cc], decide (((s[i]?.getD 0 : Nat) : Int) - (cy : Int) - (o : Int) < 0), ?_, hput, by rw [List.length_append, HSl.out]; rfl, ?_, hB.setCell rfl _⟩
      · rfl
      · have e1 : valOf s = valOf (s.take i) + LB ^ i * s[i]?.getD 0 := by
          have := valOf_take_succ s i (by rw [HS.out]; omega)
          rwa [List.take_of_length_le (by rw [HS.out]; omega)] at this
        rw [valOf_snoc, HSl.out, hs, e1, hneg]
        have h2 : o' = 0 ∨ o' = 1 := by omega
        rcases h2 with rfl | rfl <;> simp

theorem give_last {S' A T c n x cc o' : Nat} (hv : S' + c * LB ^ n = A + T) (hd : cc + o' * LB = x + c) :
    (S' + LB ^ n * cc) + o' * LB ^ (n+1) = (A + LB ^ n * x) + T := by
  have e1 : o' * LB ^ (n+1) = LB ^ n * (o' * LB) := by rw [Nat.pow_succ, Nat.mul_comm, Nat.mul_assoc, Nat.mul_comm LB]
  have e4 : LB ^ n * (cc + o' * LB) = LB ^ n * (x + c) := by rw [hd]
  have e3 : c * LB ^ n = LB ^ n * c := Nat.mul_comm _ _
  rw [e1]; rw [e3] at hv
  simp only [Nat.mul_add] at e4
  omega
set_option maxHeartbeats 800000 in
set_option maxRecDepth 100000 in
theorem give_any (g N j n cap c : Nat) (L s R V : List Nat) (ad : Addr) (w : World) (hO : Out w g N (L ++ s ++ R)) (hL : L.length = j) (hs : s.length = n + 1) (hN : j + (n + 1) + R.length = N)
    (hN2 : N ≤ 4294967296) (hV : V.length = n) (hVl : ∀ x ∈ V, x < LB) (had : ad.block ≠ g) (hcell : ∀ i, i < n → w.cell? (ad.add i) = some (.int .u32 (V[i]?.getD 0 : Nat))) :
    Calls Tryz.prog 74 #[.slice (some ⟨g, j, none⟩) (n+1) cap, .slice (some ad) n c] w fun e w' =>
      ∃ (s' : List Nat) (o : Nat), e = .returned (.tuple #[]) ∧ Out w' g N (L ++ s' ++ R) ∧ s'.length = n + 1 ∧ valOf s' + o * LB ^ (n+1) = valOf s + valOf V ∧ Only g w w' := by
  have HO : Sl _ := ⟨hO⟩
  have HL : Sl _ := ⟨hL⟩
  have HS : Sl _ := ⟨hs⟩
  have HN : Sl _ := ⟨hN⟩
  have HV : Sl _ := ⟨hV⟩
  have HC : Sl _ := ⟨hcell⟩
  have hlim : ∀ i, V[i]?.getD 0 < LB := fun i => by
    rcases Nat.lt_or_ge i V.length with h1 | h1
    · rw [List.getElem?_eq_getElem h1]; exact hVl _ (List.getElem_mem _)
    · rw [List.getElem?_eq_none h1]; exact LB_pos
  have HVL : Sl _ := ⟨hlim⟩
  have hnN : n < 4294967296 := by omega
  clear hO hL hs hN hV hVl hcell hlim
  go_enter Tryz.func74, Tryz.ntmps74
  go_wp2
  go_loopw [4, 9] (fun s4 s9 wr => ∃ (i cy : Nat) (s' : List Nat), i ≤ n ∧ s4 = .int .u64 cy ∧ s9 = .int .i64 i ∧ s'.length = i ∧ cy ≤ 1 ∧
      valOf s' + cy * LB ^ i = valOf (s.take i) + valOf (V.take i) ∧ Out wr g N (L ++ (s' ++ s.drop i) ++ R) ∧ Only g w wr) (fun _ s9 _ => n - (intOf s9).toNat)
  case atStart => exact ⟨0, 0, [], Nat.zero_le _, rfl, rfl, rfl, by decide, by simp [valOf], by simpa using HO.out, Only.refl _ _⟩
  case round =>
    obtain ⟨i, cy, s', hi, rfl, rfl, hsl, hcy, hval, hO, hB⟩ := hrel
    have HVal : Sl _ := ⟨hval⟩
    have HSl : Sl _ := ⟨hsl⟩
    clear hval hsl
    have hcy2 : (cy : Int) ≤ 1 := by omega
    have hdr : s.drop i = s[i]?.getD 0 :: s.drop (i+1) := by
      have : i < s.length := by rw [HS.out]; omega
      rw [List.drop_eq_getElem_cons this, List.getElem?_eq_getElem this]; rfl
    have hlen : (s' ++ s.drop i).length = n + 1 := by rw [List.length_append, HSl.out, List.length_drop, HS.out]; omega
    have hx0 : (L ++ (s' ++ s.drop i) ++ R)[j + i]?.getD 0 = s[i]?.getD 0 := by
      rw [seg_get _ _ _ _ _ HL.out (by rw [hlen]; omega), List.getElem?_append_right (by rw [HSl.out]; exact Nat.le_refl _), HSl.out, Nat.sub_self, hdr]; rfl
    have hlx : s[i]?.getD 0 < LB := by rw [← hx0]; exact hO.limb _
    have hx : ((s[i]?.getD 0 : Nat) : Int) < 4294967296 := by unfold LB at hlx; omega
    have hc0 := hO.cellAt (i := j + i) (by have := HN.out; omega)
    rw [hx0] at hc0
    have hf0 := hO.1.frozen (j + i)
    have HDr : Sl _ := ⟨hdr⟩
    have HLen : Sl _ := ⟨hlen⟩
    have hlenO : Sl ((L ++ (s' ++ s.drop i) ++ R).length = N) := ⟨by have h1 := HN.out; have h2 := HL.out; have h3 := HLen.out; rw [List.length_append, List.length_append, h3, h2]; omega⟩
    clear hdr hlen hx0
    by_cases hin : i < n
    · have hcb := (hB.cell (p := ad.add i) (by rw [block_of_add]; exact had)).trans (HC.out i hin)
      have hly := HVL.out i
      have hy : ((V[i]?.getD 0 : Nat) : Int) < 4294967296 := by unfold LB at hly; omega
      have hi0 : 0 ≤ (i : Int) := by omega
      go_wp2
      go_quiet (fail)
      go_wp2
      have hs := plus_step (x := s[i]?.getD 0) (y := V[i]?.getD 0) HVal.out
      have hput := (hO.drewN nq).put hlenO.out (i := j + i) (by have := HN.out; omega) (x := (s[i]?.getD 0 + V[i]?.getD 0 + cy) % LB) (v := (((s[i]?.getD 0 : Nat) : Int) + ((V[i]?.getD 0 : Nat) : Int) + (cy : Int)) % 4294967296) (by unfold LB; omega) (Nat.mod_lt _ LB_pos)
      rw [seg_set _ _ _ _ _ _ HL.out (by rw [HLen.out]; omega), HDr.out, set_mid _ _ _ _ _ HSl.out] at hput
      refine ⟨⟨i + 1, (s[i]?.getD 0 + V[i]?.getD 0 + cy) / LB, s' ++ [(s[i]?.getD 0 + V[i]?.getD 0 + cy) % LB], hin, int_eq (by unfold LB; omega), by go_num, by rw [List.length_append, HSl.out]; rfl, by unfold LB at *; omega, ?_, ?_, (hB.drewN _).setCell rfl _⟩, by simp [intOf]; omega⟩
      · rw [valOf_snoc, HSl.out, valOf_take_succ V i (by rw [HV.out]; exact hin), valOf_take_succ s i (by rw [HS.out]; omega)]
        exact hs
      · rw [List.append_assoc s']
        exact hput
    · obtain rfl : i = n := by omega
      go_wp2
      go_end0
      have hval := HVal.out
      rw [List.take_of_length_le (l := V) (by rw [HV.out]; omega)] at hval
      have hs := give_last (x := s[i]?.getD 0) (cc := (s[i]?.getD 0 + cy) % LB) (o' := (s[i]?.getD 0 + cy) / LB) hval (by have := Nat.mod_add_div (s[i]?.getD 0 + cy) LB; rw [Nat.mul_comm] at this; exact this)
      have hput := hO.put hlenO.out (i := j + i) (by have := HN.out; omega) (x := (s[i]?.getD 0 + cy) % LB) (v := (((s[i]?.getD 0 : Nat) : Int) + (cy : Int)) % 4294967296) (by unfold LB; omega) (Nat.mod_lt _ LB_pos)
      rw [seg_set _ _ _ _ _ _ HL.out (by rw [HLen.out]; omega), HDr.out, set_mid _ _ _ _ _ HSl.out, List.drop_of_length_le (by rw [HS.out]; omega)] at hput
      refine ⟨s' ++ [(s[i]?.getD 0 + cy) % LB], (s[i]?.getD 0 + cy) / LB, rfl, hput, by rw [List.length_append, HSl.out]; rfl, ?_, hB.setCell rfl _⟩
      have e1 : valOf s = valOf (s.take i) + LB ^ i * s[i]?.getD 0 := by
        have := valOf_take_succ s i (by rw [HS.out]; omega)
        rwa [List.take_of_length_le (by rw [HS.out]; omega)] at this
      rw [valOf_snoc, HSl.out, hs, e1]
end Go.Proofs.YtgjbaamhpapeeaaGreatDoor
