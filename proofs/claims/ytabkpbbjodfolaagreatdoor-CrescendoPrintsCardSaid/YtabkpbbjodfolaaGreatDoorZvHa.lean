/- words.Lines. -/
import Derived.Test.YtabkpbbjodfolaaGreatDoorZvN
import Derived.Test.YtabkpbbjodfolaaGreatDoorZvGa
import Derived.Test.YtabkpbbjodfolaaGreatDoorZvM
import Derived.Test.YtabkpbbjodfolaaGreatDoorZvS
import Derived.Test.YtabkpbbjodfolaaGreatDoorZvR
import Derived.Lib.AppendZerosOnto
import Derived.Lib.Overlaps
namespace Go.Proofs.YtabkpbbjodfolaaGreatDoor
set_option linter.unusedSimpArgs false
open Go.RowKit
set_option linter.unusedVariables false
def SfxC : Prop := ∀ (s : ByteArray) (W : World), s.size ≤ 2000000 → Calls Tryz.prog 124 #[.string s, .string ⟨#[10]⟩] W fun e w' => e = .returned (.bool (decide (s.data.toList.getLast? = some 10))) ∧ w' = W
def CntC : Prop := ∀ (s : ByteArray) (W : World), Calls Tryz.prog 125 #[.string s, .string ⟨#[10]⟩] W fun e w' => e = .returned (.int .i64 ((s.data.toList.count 10 : Nat) : Int)) ∧ w' = W
def SplC (b : Nat) : Prop := ∀ (s : ByteArray) (W : World), MXp W b → s.size ≤ 2000000 → Calls Tryz.prog 126 #[.string s, .string ⟨#[10]⟩] W fun e w' => ∃ L : List ByteArray, L.map (·.data.toList) = Lib.split s.data.toList [10] ∧ e = .returned (.slice (some ⟨W.heap.size, 0, none⟩) L.length L.length) ∧ w' = W.alloc (.cells (L.map Value.string).toArray 9)
def StR (w : World) (A : Option Addr) (n : Nat) (l : List ByteArray) : Prop := l.length = n ∧ Reads w w.heap.size 1 A n (l.map Value.string)
theorem StR_made (w : World) (t : TypeId) (L : List ByteArray) : StR (w.alloc (.cells (L.map Value.string).toArray t)) (some ⟨w.heap.size, 0, none⟩) L.length L := by
  refine ⟨rfl, by simp, fun hn => ⟨_, rfl, by simp, fun j u hu => ?_⟩⟩; have hB := Blk.new w t (L.map Value.string).toArray
  have e : (⟨w.heap.size, 0, none⟩ : Addr).add j = ⟨w.heap.size, j, none⟩ := by
    unfold Addr.add
    split
    · rename_i h; subst h; rfl
    · simp_all
  rw [e, hB.cell j]; simpa using hu
def LinR (s : ByteArray) (e : Ending) (w' : World) : Prop := ∃ A n c L, e = .returned (.tuple #[.slice A n c, .int .i64 (linX s.data.toList).1]) ∧ L.map (·.data.toList) = (linX s.data.toList).2 ∧ StR w' A n L
theorem emp_toList : (⟨#[]⟩ : ByteArray).toList = [] := by
  unfold ByteArray.toList; rw [ByteArray.toList.loop]; rfl
theorem ne_toList {s : ByteArray} (h : s ≠ ⟨#[]⟩) : s.toList.isEmpty = false := by
  cases hh : s.toList.isEmpty with
  | false => rfl
  | true =>
    have e : s.toList = [] := List.isEmpty_iff.1 hh; exact absurd ((Lib.bytes_beq_iff s ⟨#[]⟩).1 (by rw [e, emp_toList]; rfl)) h
set_option maxHeartbeats 6400000 in
set_option maxRecDepth 100000 in
theorem wlines_any {b : Nat} (H1 : SfxC) (H2 : CntC) (H3 : SplC b) (s : ByteArray) (hs : s.size ≤ 1000000000) (w : World) (hX : MXp w b) :
    Calls Tryz.prog 87 #[.string s] w fun e w' => LinR s e w' ∧ Below w.heap.size w w' := by
  have hlen : s.data.toList.length = s.size := rfl; have HR : Sl (∀ (e1 : Int) (l : List By), linX s.data.toList = (e1, l) → ∀ (A : Option Addr) (n c : Nat) (L : List ByteArray) (w' : World), L.map (·.data.toList) = l → StR w' A n L → LinR s (.returned (.tuple #[.slice A n c, .int .i64 e1])) w') := ⟨fun e1 l h A n c L w' h1 h2 => ⟨A, n, c, L, by rw [h], by rw [h]; exact h1, h2⟩⟩; have HN : Sl (∀ w' : World, StR w' none 0 []) := ⟨fun w' => ⟨rfl, Reads.none_⟩⟩
  by_cases h0 : s.size ≤ 1048576
  · have k0 : decide ((1048576 : Int) < (s.size : Int)) = false := decide_eq_false (by omega); have k0b : ¬ (1048576 : Int) < (s.size : Int) := (by omega)
    by_cases h00 : s = ⟨#[]⟩
    · have HV : Sl (linX s.data.toList = (0, [])) := ⟨by rw [h00]; rfl⟩; have k1 : s.toList.isEmpty = true := (by rw [h00, emp_toList]; rfl); clear h00 h0 hlen; go_enter Tryz.func87, Tryz.ntmps87; go_wp2_with fail; refine bodyPost_ret (v := _) (by simp [results, Tryz.results87, go_sem]; rfl) rfl ?_; exact ⟨HR.out _ _ HV.out _ _ _ [] w rfl (HN.out w), Below.refl _ _⟩
    · have k1 : s.toList.isEmpty = false := ne_toList h00; have hne : s.data.toList ≠ [] := fun e => h00 (by rw [← by_bs s, e]; rfl)
      have HC1 : Sl _ := ⟨H1 s w (by omega)⟩; have hl1 : ¬ (1048576 < s.data.toList.length) := (by rw [hlen]; omega)
      by_cases hsx : s.data.toList.getLast? = some 10
      · rw [decide_eq_true hsx] at HC1; have HC2 : Sl _ := ⟨H2 s w⟩
        by_cases hcn : s.data.toList.count 10 ≤ 5000
        · have hpos : 0 < s.size := by
            have : 0 < s.data.toList.length := List.length_pos_iff.2 hne; rw [hlen] at this; exact this
          have HV : Sl (linX s.data.toList = (0, splL s.data.toList)) := ⟨by unfold linX; rw [if_neg hl1, if_neg hne, if_pos hsx, if_neg (by omega)]⟩; obtain ⟨N, hN⟩ : ∃ N, s.data.toList.count 10 = N := ⟨_, rfl⟩; rw [hN] at HC2 hcn; have k2 : decide ((5000 : Int) < (N : Int)) = false := decide_eq_false (by omega); have k2b : ¬ (5000 : Int) < (N : Int) := (by omega)
          have HEX : Sl ((s.extract 0 (s.size - 1)).data.toList = s.data.toList.dropLast) := ⟨by
            rw [Lib.extract_data, List.drop_zero, List.dropLast_eq_take]
            rfl⟩
          obtain ⟨E, hE⟩ : ∃ E, s.extract 0 (s.size - 1) = E := ⟨_, rfl⟩; have HEZ : Sl (s.extract 0 (s.size - 1) = E) := ⟨hE⟩; rw [hE] at HEX
          have hEs : E.size ≤ 2000000 := by
            have h1 : E.data.toList.length = E.size := rfl; have h2 := congrArg List.length HEX.out; rw [List.length_dropLast, h1, hlen] at h2; omega
          have HC3 : Sl _ := ⟨H3 E w hX hEs⟩; have HSP : Sl (Lib.split E.data.toList [10] = splL s.data.toList) := ⟨by rw [HEX.out]; exact split_dropLast hsx⟩; have hsI : (s.size : Int) - 1 = ((s.size - 1 : Nat) : Int) := (by omega); have hge : decide ((0 : Int) ≤ ((s.size - 1 : Nat) : Int)) = true := decide_eq_true (by omega); clear hN hE hEs hX hlen hl1 hne hsx h00; go_enter Tryz.func87, Tryz.ntmps87; go_wp2_with fail; refine HC1.out.mono ?_; rintro e w1 ⟨rfl, rfl⟩; clear HC1; go_wp2_with fail; refine HC2.out.mono ?_; rintro e w2 ⟨rfl, rfl⟩; clear HC2; have hex := HEZ.out; go_wp2_with fail; refine HC3.out.mono ?_; rintro e w3 ⟨L, hL, rfl, rfl⟩; have HL : Sl _ := ⟨hL⟩; clear HC3 hL; go_wp2_with fail; refine bodyPost_ret (v := _) (by simp [results, Tryz.results87, go_sem]; rfl) rfl ?_; exact ⟨HR.out _ _ HV.out _ _ _ L _ (by rw [HL.out, HSP.out]) (StR_made w2 _ L), (Below.refl _ _).alloc (Nat.le_refl _) _⟩
        · have HV : Sl (linX s.data.toList = (3, [])) := ⟨by unfold linX; rw [if_neg hl1, if_neg hne, if_pos hsx, if_pos (by omega)]⟩; obtain ⟨N, hN⟩ : ∃ N, s.data.toList.count 10 = N := ⟨_, rfl⟩; rw [hN] at HC2 hcn; have k2 : decide ((5000 : Int) < (N : Int)) = true := decide_eq_true (by omega); have k2b : (5000 : Int) < (N : Int) := (by omega); clear hN hX hlen hl1 hne hsx h00; go_enter Tryz.func87, Tryz.ntmps87; go_wp2_with fail; refine HC1.out.mono ?_; rintro e w1 ⟨rfl, rfl⟩; clear HC1; go_wp2_with fail; refine HC2.out.mono ?_; rintro e w2 ⟨rfl, rfl⟩; clear HC2; go_wp2_with fail; refine bodyPost_ret (v := _) (by simp [results, Tryz.results87, go_sem]; rfl) rfl ?_; exact ⟨HR.out _ _ HV.out _ _ _ [] _ rfl (HN.out _), Below.refl _ _⟩
      · rw [decide_eq_false hsx] at HC1; have HV : Sl (linX s.data.toList = (6, [])) := ⟨by unfold linX; rw [if_neg hl1, if_neg hne, if_neg hsx]⟩; clear hX hlen hl1 hne hsx h00; go_enter Tryz.func87, Tryz.ntmps87; go_wp2_with fail; refine HC1.out.mono ?_; rintro e w1 ⟨rfl, rfl⟩; clear HC1; go_wp2_with fail; refine bodyPost_ret (v := _) (by simp [results, Tryz.results87, go_sem]; rfl) rfl ?_; exact ⟨HR.out _ _ HV.out _ _ _ [] _ rfl (HN.out _), Below.refl _ _⟩
  · have HV : Sl (linX s.data.toList = (3, [])) := ⟨by unfold linX; rw [if_pos (by rw [hlen]; omega)]⟩; have k0 : decide ((1048576 : Int) < (s.size : Int)) = true := decide_eq_true (by omega); have k0b : (1048576 : Int) < (s.size : Int) := (by omega); clear hX hlen h0; go_enter Tryz.func87, Tryz.ntmps87; go_wp2_with fail; refine bodyPost_ret (v := _) (by simp [results, Tryz.results87, go_sem]; rfl) rfl ?_; exact ⟨HR.out _ _ HV.out _ _ _ [] _ rfl (HN.out _), Below.refl _ _⟩
end Go.Proofs.YtabkpbbjodfolaaGreatDoor
namespace Go.Proofs.YtabkpbbjodfolaaGreatDoor
set_option linter.unusedSimpArgs false
open Go.RowKit
set_option linter.unusedVariables false
end Go.Proofs.YtabkpbbjodfolaaGreatDoor
namespace Go.Proofs.YtabkpbbjodfolaaGreatDoor
set_option linter.unusedSimpArgs false
open Go.RowKit
set_option linter.unusedVariables false
def fok (q : Bool) (t : By) : Bool := if q then txt t else rgt t
end Go.Proofs.YtabkpbbjodfolaaGreatDoor
namespace Go.Proofs.YtabkpbbjodfolaaGreatDoor
set_option linter.unusedSimpArgs false
open Go.RowKit
set_option linter.unusedVariables false
theorem rgt_eq (t : By) : rgt t = (((decide (t ≠ []) && decide (t.length ≤ 200)) && prt 33 t) && decide ((34 : UInt8) ∉ t)) := rfl
def ConC : Prop := ∀ (c : UInt8) (s : ByteArray) (W : World), Calls Tryz.prog 176 #[.string s, .string ⟨#[c]⟩] W fun e w' => e = .returned (.bool (decide (c ∈ s.data.toList))) ∧ w' = W
set_option maxHeartbeats 3200000 in
set_option maxRecDepth 100000 in
theorem wright_any (HK : ConC) (q : Bool) (s : ByteArray) (hs : s.size ≤ maxLen) (w : World) : Calls Tryz.prog 130 #[.agg #[.bool q, .string s]] w fun e w' => e = .returned (.bool (fok q s.data.toList)) ∧ Below w.heap.size w w' := by
  have HT : Sl (∀ W, Calls Tryz.prog 174 #[.string s] W fun e w' => e = .returned (.bool (txt s.data.toList)) ∧ w' = W) := ⟨fun W => wtext_any s hs W⟩; have HP : Sl (∀ W, Calls Tryz.prog 175 #[.string s, .int .u8 33] W fun e w' => e = .returned (.bool (prt 33 s.data.toList)) ∧ w' = W) := ⟨fun W => printed_any s hs 33 (by decide) W⟩; have HK : Sl _ := ⟨fun W => HK 34 s W⟩; unfold maxLen at hs; have HPB : Sl (fok q s.data.toList = fok q s.data.toList) := ⟨rfl⟩; have HD : Sl (Lg w w []) := ⟨Lg.nil w⟩; go_enter Tryz.func130, Tryz.ntmps130
  go_upto_region 1 with ((with_reducible show wpList _ _ _ _ _ _); (refine wpList_box_new 1 rfl rfl 201 (.tmp 0) rfl #[.bool q, .string s] rfl (fun _ => by kernel_rfl) ?_; rintro w1 g1 zg zm zs zb; replace HD : Sl _ := ⟨HD.out.new zg zm zb⟩; clear zg zm zs zb))
  have c0 : w1.cell? ⟨g1, 0, none⟩ = some (.bool q) := (HD.out.at_ 0 rfl).cell 0; have c1 : w1.cell? ⟨g1, 1, none⟩ = some (.string s) := (HD.out.at_ 0 rfl).cell 1
  cases q with
  | true =>
    have HC : Sl _ := ⟨HT.out w1⟩; go_wp2_with fail; refine HC.out.mono ?_; rintro e w2 ⟨rfl, rfl⟩; clear HC; go_wp2_with fail; go_ret; exact ⟨rfl, HD.out.bl⟩
  | false =>
    have hrg : fok false s.data.toList = (((decide (s.data.toList ≠ []) && decide (s.size ≤ 200)) && prt 33 s.data.toList) && decide ((34 : UInt8) ∉ s.data.toList)) := rgt_eq s.data.toList; have htl : s.toList = s.data.toList := ByteArray.toList_eq s; have HV : Sl _ := ⟨hrg⟩; clear HPB hrg
    by_cases h0 : s.data.toList = []
    · have k0 : s.toList = [] := htl.trans h0; have HF : Sl (fok false s.data.toList = false) := ⟨by rw [HV.out, h0]; rfl⟩; clear htl h0; go_wp2_with fail; go_ret; exact ⟨by rw [HF.out]; rfl, HD.out.bl⟩
    · have k0 : s.toList.isEmpty = false := (by rw [htl]; exact List.isEmpty_eq_false_iff.2 h0); have hd0 : decide (s.data.toList ≠ []) = true := decide_eq_true h0; rw [hd0, Bool.true_and] at HV; clear htl h0 hd0
      by_cases h2 : s.size ≤ 200
      · have k2 : decide ((s.size : Int) ≤ 200) = true := decide_eq_true (by omega); have k2b : (s.size : Int) ≤ 200 := (by omega); rw [decide_eq_true h2, Bool.true_and] at HV; have HC := HP.out w1; have HC2 := HK.out w1; obtain ⟨PR, hPR⟩ : ∃ PR, prt 33 s.data.toList = PR := ⟨_, rfl⟩; rw [hPR] at HC HV; have HC : Sl _ := ⟨HC⟩; have HC2 : Sl _ := ⟨HC2⟩; clear hPR h2
        cases PR with
        | false =>
          go_wp2_with fail; refine HC.out.mono ?_; rintro e w2 ⟨rfl, rfl⟩; clear HC HC2; go_wp2_with fail; go_ret; exact ⟨by rw [HV.out]; rfl, HD.out.bl⟩
        | true =>
          obtain ⟨MB, hMB⟩ : ∃ MB, decide ((34 : UInt8) ∈ s.data.toList) = MB := ⟨_, rfl⟩; have HMB : Sl (decide ((34 : UInt8) ∉ s.data.toList) = !MB) := ⟨by rw [← hMB]; exact decide_not⟩; rw [hMB] at HC2; clear hMB; go_wp2_with fail; refine HC.out.mono ?_; rintro e w2 ⟨rfl, rfl⟩; clear HC; go_wp2_with fail; refine HC2.out.mono ?_; rintro e w3 ⟨rfl, rfl⟩; clear HC2; go_wp2_with fail; go_ret; exact ⟨by rw [HV.out, HMB.out]; simp, HD.out.bl⟩
      · have k2 : decide ((s.size : Int) ≤ 200) = false := decide_eq_false (by omega); have k2b : ¬ (s.size : Int) ≤ 200 := (by omega); rw [decide_eq_false h2, Bool.false_and, Bool.false_and] at HV; clear h2; go_wp2_with fail; go_ret; exact ⟨by rw [HV.out]; rfl, HD.out.bl⟩
end Go.Proofs.YtabkpbbjodfolaaGreatDoor
namespace Go.Proofs.YtabkpbbjodfolaaGreatDoor
set_option linter.unusedSimpArgs false
open Go.RowKit
set_option linter.unusedVariables false
end Go.Proofs.YtabkpbbjodfolaaGreatDoor
namespace Go.Proofs.YtabkpbbjodfolaaGreatDoor
set_option linter.unusedSimpArgs false
open Go.RowKit
set_option linter.unusedVariables false
end Go.Proofs.YtabkpbbjodfolaaGreatDoor
