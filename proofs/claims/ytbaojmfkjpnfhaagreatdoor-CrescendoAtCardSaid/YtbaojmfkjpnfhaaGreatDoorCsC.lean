/- Package spec: (*checker).named. -/
import Derived.Test.YtbaojmfkjpnfhaaGreatDoorCsB
namespace Go.Proofs.YtbaojmfkjpnfhaaGreatDoor
set_option linter.unusedSimpArgs false
open Go.RowKit
set_option linter.unusedVariables false

theorem wpList_put_nm {ops : Array Oper} {rest : List Oper} {o : Oper} {a : Act} {w : World} {Q : Exit → Act → World → Prop} (hg : o.guard = none) (m x v : Operand) (hop : o.op = Op.mapUpdate 177 m x v)
    (b n : Nat) (l : List (List UInt8)) (s : ByteArray) (hm : a.eval m = .map (some b)) (hx : a.eval x = .string s) (hv : a.eval v = .bool true) (h : NM w b n l) (hs : s.size ≤ maxLen) (hn : n < maxLen)
    (hK : ∀ w', NM w' b (n + 1) (s.data.toList :: l) → w.grownBy w' (some b) → wpList Tryz.prog ops Q rest (a.put o.dst undef) w') : wpList Tryz.prog ops Q (o :: rest) a w := by
  refine wpList_plain hg fun K' hK' => ?_
  obtain ⟨w', hrun, r1, r2⟩ := h.put hs hn
  unfold Oper.wp
  simp [execOp, hop, hm, hx, hv, hrun, Result.andThen]
  exact hK' _ _ (hK w' r1 r2)
theorem nmB_size {s : ByteArray} (h : nmB s = true) : 1 ≤ s.size ∧ s.size ≤ 16 := by
  unfold nmB at h
  rw [Bool.and_eq_true, Bool.and_eq_true, decide_eq_true_eq, decide_eq_true_eq] at h
  exact h.2
/-- the key under which a name is noted -/
def keyN (ks nm : ByteArray) : ByteArray := ks ++ ⟨#[32]⟩ ++ nm
set_option maxHeartbeats 1600000 in
set_option maxRecDepth 100000 in
theorem cnamed_any (g b n : Nat) (l : List (List UInt8)) (ks nm : ByteArray) (w : World) (hc : w.cell? ⟨g, 4, none⟩ = some (.map (some b))) (hN : NM w b n l) (hks : ks.size ≤ 100) (hn : n ≤ 1000000) (hnm : nm.size ≤ maxLen) :
    Calls Tryz.prog 158 #[.pointer (some ⟨g, 0, none⟩), .string ks, .string nm] w fun e w' =>
      (nmB nm = false → e = .returned (.int .i64 6) ∧ w' = w) ∧
      (nmB nm = true → (keyN ks nm).data.toList ∈ l → e = .returned (.int .i64 8) ∧ w' = w) ∧
      (nmB nm = true → (keyN ks nm).data.toList ∉ l → e = .returned (.int .i64 0) ∧ NM w' b (n + 1) ((keyN ks nm).data.toList :: l) ∧ w.grownBy w' (some b)) := by
  have HNM : Sl _ := ⟨name_any nm hnm w⟩
  have HN : Sl _ := ⟨hN⟩
  clear hN hnm
  cases hb : nmB nm with
  | false =>
    rw [hb] at HNM
    clear hb
    go_enter Tryz.func158, Tryz.ntmps158
    go_wp2_with fail
    refine HNM.out.mono ?_; rintro e w1 ⟨rfl, rfl⟩
    go_wp2_with fail
    go_ret
    exact ⟨fun _ => ⟨rfl, rfl⟩, fun h => (by cases h), fun h => (by cases h)⟩
  | true =>
    have hsz := nmB_size hb
    rw [hb] at HNM
    clear hb
    have hk1 : (keyN ks nm).size ≤ maxLen := by unfold keyN maxLen; simp only [ByteArray.size_append]; have : (⟨#[32]⟩ : ByteArray).size = 1 := rfl; omega
    have HK : Sl _ := ⟨hk1⟩
    have hlk := HN.out.look hk1
    have h32 : (⟨#[32]⟩ : ByteArray).size = 1 := rfl
    clear hk1
    by_cases hm : (keyN ks nm).data.toList ∈ l
    · rw [decide_eq_true hm] at hlk
      have HM : Sl _ := ⟨hm⟩
      clear hm
      unfold keyN at hlk
      go_enter Tryz.func158, Tryz.ntmps158
      go_wp2_with fail
      refine HNM.out.mono ?_; rintro e w1 ⟨rfl, rfl⟩
      go_wp2_with fail
      go_ret
      exact ⟨fun h => (by cases h), fun _ _ => ⟨rfl, rfl⟩, fun _ h => absurd HM.out h⟩
    · rw [decide_eq_false hm] at hlk
      have HM : Sl _ := ⟨hm⟩
      clear hm
      unfold keyN at hlk
      go_enter Tryz.func158, Tryz.ntmps158
      go_wp2_with fail
      refine HNM.out.mono ?_; rintro e w1 ⟨rfl, rfl⟩
      go_wp2_with ((with_reducible show wpList _ _ _ _ _ _); first
        | (refine wpList_put_nm rfl (.tmp 22) (.tmp 26) _ rfl b n l (keyN ks nm) rfl rfl rfl HN.out HK.out (by unfold maxLen; omega) ?_; intro w2 hN2 hg2))
      go_ret
      exact ⟨fun h => (by cases h), fun _ h => absurd h HM.out, fun _ _ => ⟨rfl, hN2, hg2⟩⟩
end Go.Proofs.YtbaojmfkjpnfhaaGreatDoor
