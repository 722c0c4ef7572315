/- Package words: Feet of any footage. -/
import Derived.Test.YtabkpbbjodfolaaGreatDoorZvC
import Derived.Test.YtabkpbbjodfolaaGreatDoorShelB
import Derived.Laws.Strings
namespace Go.Proofs.YtabkpbbjodfolaaGreatDoor
set_option linter.unusedSimpArgs false
open Go.RowKit
set_option linter.unusedVariables false
def tx (u : Nat) : ByteArray := ⟨(Lib.decDigits u).toArray⟩
theorem tx_size {u : Nat} (h : u < 100) : (tx u).size ≤ 2 := by
  unfold tx; have e : (⟨(Lib.decDigits u).toArray⟩ : ByteArray).size = (Lib.decDigits u).length := (by simp [ByteArray.size]); rw [e, Lib.decDigits]
  split
  · simp
  · rw [Lib.decDigits, dif_pos (by omega)]; simp
theorem itoa_tx {u : Nat} (h : u < 100) (W : World) : Calls Tryz.prog 200 #[.int .i64 u] W fun e w' => e = .returned (.string (tx u)) ∧ w' = W := Tryz.strconv_Itoa_small u h W
set_option maxHeartbeats 3200000 in
set_option maxRecDepth 100000 in
theorem feet_any (num den : Int) (w : World) : Calls Tryz.prog 181 #[.agg #[.int .i64 num, .int .i64 den]] w fun e w' => (∃ s, e = .returned (.tuple #[.string s, .int .i64 (if vF num den then 0 else 2)])) ∧ Below w.heap.size w w' := by
  have hu : Below w.heap.size w (w.alloc (.cells #[.int .i64 num, .int .i64 den] 87)) := (Below.refl _ _).alloc (Nat.le_refl _) _; have X0 := Blk.new w 87 #[.int .i64 num, .int .i64 den]; have HV : Sl _ := ⟨fun W : World => wvalid_any num den W⟩
  by_cases hv : vF num den
  · rw [if_pos hv]; rw [decide_eq_true hv] at HV; obtain ⟨⟨h1, h2⟩, ⟨h3, h4⟩, _⟩ := hv; obtain ⟨n, rfl⟩ := Int.eq_ofNat_of_zero_le (show 0 ≤ num by omega); obtain ⟨d, rfl⟩ := Int.eq_ofNat_of_zero_le (show 0 ≤ den by omega); have hd0 : ¬ (d : Int) = 0 := (by omega); have hq : (n : Int).tdiv (d : Int) = ((n / d : Nat) : Int) := (by rw [Int.tdiv_eq_ediv_of_nonneg (by omega)]; rfl); have hr : (n : Int).tmod (d : Int) = ((n % d : Nat) : Int) := (by rw [Int.tmod_eq_emod_of_nonneg (by omega)]; rfl)
    have hq64 : n / d < 100 := by
      have : n / d ≤ 64 := (by rw [Nat.div_le_iff_le_mul_add_pred (by omega)]; omega); omega
    have hr15 : n % d < 100 := (by have := Nat.mod_lt n (show d > 0 by omega); omega); have hd15 : d < 100 := (by omega); obtain ⟨q, hqe⟩ : ∃ q, n / d = q := ⟨_, rfl⟩; obtain ⟨r, hre⟩ : ∃ r, n % d = r := ⟨_, rfl⟩; rw [hqe] at hq hq64; rw [hre] at hr hr15; have HIq : Sl _ := ⟨fun W : World => itoa_tx hq64 W⟩; have HIr : Sl _ := ⟨fun W : World => itoa_tx hr15 W⟩; have HId : Sl _ := ⟨fun W : World => itoa_tx hd15 W⟩; have sq := tx_size hq64; have sr := tx_size hr15; have sd := tx_size hd15; generalize tx q = tq at *
    generalize tx r = tr at *
    generalize tx d = td at *
    clear hqe hre h3 h4 h1 h2; go_enter Tryz.func181, Tryz.ntmps181; go_wp2_with fail; generalize w.alloc (.cells #[.int .i64 (n : Int), .int .i64 (d : Int)] 87) = w0 at *
    refine (HV.out w0).mono ?_; rintro e w1 ⟨rfl, hb⟩; have u1 := hu.trans (hb.mono hu.size); have X1 := X0.below hb X0.lt; have x0 := X1.cell 0; have x1 := X1.cell 1; simp at x0 x1; clear hu hb X0 HV; go_wp2_with fail
    go_quiet (fail)
    have u2 := below_drewN u1 nq; have X2 : Blk (w1.drewN nq) w.heap.size _ _ := X1.drewN nq; clear u1 X1 x0 x1; generalize w1.drewN nq = w2 at *
    have x0 := X2.cell 0; have x1 := X2.cell 1; simp at x0 x1; go_wp2_with fail; have hd2 : RowKit.Below w.heap.size w w2.drew := below_drewN u2 1; have xx1 : w2.drew.cell? ⟨w.heap.size, 1, none⟩ = some (.int .i64 d) := x1
    go_region_with (first
      | (go_at_call 200; (with_reducible refine (HIr.out _).mono ?_); rintro e w3 ⟨rfl, rfl⟩)
      | (go_at_call 200; (with_reducible refine (HId.out _).mono ?_); rintro e w4 ⟨rfl, rfl⟩)
      | fail)
    all_goals (
      clear x0 x1 X2 u2; generalize w2.drew = w5 at *
      by_cases hd1 : (d : Int) = 1
      · have hb1 : ((d : Int) == 1) = true := (by rw [hd1]; rfl); go_wp2_with fail; refine (HIq.out _).mono ?_; rintro e w6 ⟨rfl, rfl⟩; go_wp2_with fail; go_ret2; exact ⟨⟨_, rfl⟩, hd2⟩
      · have hb1 : ((d : Int) == 1) = false := (by rw [beq_eq_false_iff_ne]; exact hd1)
        by_cases hq0 : (q : Int) = 0
        · have hb2 : ((q : Int) == 0) = true := (by rw [hq0]; rfl); go_wp2_with fail; go_ret2; exact ⟨⟨_, rfl⟩, hd2⟩
        · have hb2 : ((q : Int) == 0) = false := (by rw [beq_eq_false_iff_ne]; exact hq0); go_wp2_with fail; refine (HIq.out _).mono ?_; rintro e w6 ⟨rfl, rfl⟩; go_wp2_with fail; go_ret2
          exact ⟨⟨_, rfl⟩, hd2⟩)
  · rw [if_neg hv]; rw [decide_eq_false hv] at HV; have HU : Sl _ := ⟨hu⟩; clear hv hu X0; go_enter Tryz.func181, Tryz.ntmps181; go_wp2_with fail; refine (HV.out _).mono ?_; rintro e w1 ⟨rfl, hb⟩; go_wp2_with fail; go_ret2; exact ⟨⟨_, rfl⟩, HU.out.trans (hb.mono HU.out.size)⟩
end Go.Proofs.YtabkpbbjodfolaaGreatDoor
