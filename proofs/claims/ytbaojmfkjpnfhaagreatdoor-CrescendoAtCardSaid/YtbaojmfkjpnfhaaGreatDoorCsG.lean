/- Package spec: first over divisions, where the test is content with each. -/
import Derived.Test.YtbaojmfkjpnfhaaGreatDoorCsF
namespace Go.Proofs.YtbaojmfkjpnfhaaGreatDoor
set_option linter.unusedSimpArgs false
open Go.RowKit
set_option linter.unusedVariables false

def flatD (ds : List (ByteArray × Int × Int)) : List Value := ds.flatMap fun x => [.string x.1, .int .i64 x.2.1, .int .i64 x.2.2]
theorem flatD_at : ∀ (ds : List (ByteArray × Int × Int)) (k : Nat) (x : ByteArray × Int × Int), ds[k]? = some x → (flatD ds)[k * 3]? = some (.string x.1) ∧ (flatD ds)[k * 3 + 1]? = some (.int .i64 x.2.1) ∧ (flatD ds)[k * 3 + 2]? = some (.int .i64 x.2.2)
  | [], k, x, h => by cases h
  | y :: ds, 0, x, h => by
    injection h with h
    subst h
    exact ⟨rfl, rfl, rfl⟩
  | y :: ds, k+1, x, h => by
    have ih := flatD_at ds k x (by simpa using h)
    rw [show (k + 1) * 3 = k * 3 + 1 + 1 + 1 by omega]
    exact ih
set_option maxHeartbeats 1600000 in
set_option maxRecDepth 100000 in
theorem first_div (gs : Nat) (t : TypeId) (ds : List (ByteArray × Int × Int)) (q : Value) (P : Nat → World → Prop) (w : World) (hn : ds.length ≤ 1000)
    (hB : ∀ k W, P k W → Blk W gs t (flatD ds).toArray) (hA : ∀ k W o, P k W → P k (W.alloc o))
    (hF : ∀ k W x, ds[k]? = some x → P k W → Calls Tryz.prog 110 #[q, .agg #[.string x.1, .int .i64 x.2.1, .int .i64 x.2.2]] W fun e w' => e = .returned (.int .i64 0) ∧ P (k + 1) w') (hP : P 0 w) :
    Calls Tryz.prog 109 #[.slice (some ⟨gs, 0, none⟩) ds.length ds.length, .func (.func 110) #[q] #[]] w fun e w' => e = .returned (.tuple #[.int .i64 0, .int .i64 0]) ∧ P ds.length w' := by
  have HB : Sl _ := ⟨hB⟩
  have HA : Sl _ := ⟨hA⟩
  have HF : Sl _ := ⟨hF⟩
  have HP : Sl _ := ⟨hP⟩
  clear hB hA hF hP
  obtain ⟨n, hnn⟩ : ∃ n, ds.length = n := ⟨_, rfl⟩
  have HN : Sl _ := ⟨hnn⟩
  rw [hnn] at hn ⊢
  clear hnn
  have hrun : ∀ (args : Array Value) (w : World), (callFunc 110 args).run Tryz.prog w = .ok (.enter 110 args) w := fun a w => by go_simp
  go_enter Tryz.func109, Tryz.ntmps109
  go_wp2_with fail
  go_loopw [11] (fun s11 wr => ∃ k : Nat, k ≤ n ∧ s11 = .int .i64 k ∧ Sl (P k wr)) (fun s11 _ => n - (RowKit.intOf s11).toNat)
  case atStart => exact ⟨0, Nat.zero_le _, rfl, HP⟩
  case round =>
    obtain ⟨k, hk, rfl, HPK⟩ := hrel
    by_cases hkn : k < n
    · have hkI : decide ((k : Int) < (n : Int)) = true := decide_eq_true (by omega)
      have hkI2 : (k : Int) < (n : Int) := by omega
      obtain ⟨x, hx⟩ : ∃ x, ds[k]? = some x := ⟨_, List.getElem?_eq_getElem (by rw [HN.out]; exact hkn)⟩
      obtain ⟨y0, y1, y2⟩ := flatD_at ds k x hx
      have X := HB.out k wr HPK.out
      have x0 := X.cell (k * 3)
      have x1 := X.cell (k * 3 + 1)
      have x2 := X.cell (k * 3 + 2)
      rw [List.getElem?_toArray, y0] at x0
      rw [List.getElem?_toArray, y1] at x1
      rw [List.getElem?_toArray, y2] at x2
      have HC : Sl _ := ⟨HF.out k _ x hx (HA.out k wr (.cells #[.string x.1, .int .i64 x.2.1, .int .i64 x.2.2] 93) HPK.out)⟩
      obtain ⟨nm, lo, hi⟩ := x
      simp only [] at x0 x1 x2 HC
      clear y0 y1 y2 X hx
      go_wp2_with fail
      refine HC.out.mono ?_; rintro e w1 ⟨rfl, hp1⟩
      have HP1 : Sl _ := ⟨hp1⟩
      clear hp1
      go_wp2_with fail
      exact ⟨⟨k + 1, by omega, by go_num, HP1⟩, by simp [RowKit.intOf]; omega⟩
    · obtain rfl : k = n := by omega
      go_wp2_with fail
      go_ret2
      exact ⟨rfl, HPK.out⟩
end Go.Proofs.YtbaojmfkjpnfhaaGreatDoor
