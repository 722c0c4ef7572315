/- crescendo: is one of the fields quoted? -/
import Derived.Test.YtabkpbbjodfolaaGreatDoorZvLa
import Derived.Test.YtabkpbbjodfolaaGreatDoorZvJa
namespace Go.Proofs.YtabkpbbjodfolaaGreatDoor
set_option linter.unusedSimpArgs false
open Go.RowKit
set_option linter.unusedVariables false
theorem fdRow {W : World} {base n c : Nat} {A : Option Addr} {fl : List FdV} (h : W.ownsRow base 201 2 (.slice A n c) n (fl.flatMap fdC)) : RowG W A n 2 fdC fl ∧ n ≤ c ∧ c ≤ maxLen := by
  have hl := h.1
  have h2 : ∀ l : List FdV, (l.flatMap fdC).length = l.length * 2 := fun l => by
    induction l with
    | nil => rfl
    | cons r l ih => rw [List.flatMap_cons, List.length_append, ih, List.length_cons]; show 2 + _ = _; omega
  rw [h2] at hl; refine ⟨⟨by omega, Reads.of_own h, fun p => rfl⟩, ?_⟩; rcases h.2 with ⟨e, h0⟩ | ⟨g, cap, cur, e, _, _, h1, h3, _⟩
  · injection e with _ e1 e2
    subst e1 e2; exact ⟨Nat.le_refl _, Nat.zero_le _⟩
  · injection e with _ _ e2
    subst e2; exact ⟨h1, h3⟩
theorem isq_c (q : Bool) (s : ByteArray) (w : World) : Calls Tryz.prog 178 #[.agg #[.bool q, .string s]] w fun e w' => e = .returned (.bool q) ∧ Below w.heap.size w w' := by
  have HD : Sl (Lg w w []) := ⟨Lg.nil w⟩; go_enter Tryz.func178, Tryz.ntmps178
  go_upto_region 1 with ((with_reducible show wpList _ _ _ _ _ _); (refine wpList_box_new 1 rfl rfl 201 (.tmp 0) rfl #[.bool q, .string s] rfl (fun _ => by kernel_rfl) ?_; rintro w1 g1 zg zm zs zb; replace HD : Sl _ := ⟨HD.out.new zg zm zb⟩; clear zg zm zs zb))
  have c0 : w1.cell? ⟨g1, 0, none⟩ = some (.bool q) := (HD.out.at_ 0 rfl).cell 0; go_wp2_with fail; go_ret; exact ⟨rfl, HD.out.bl⟩
set_option maxHeartbeats 3200000 in
set_option maxRecDepth 100000 in
theorem ixq_any (A : Option Addr) (n c : Nat) (fl : List FdV) (w : World) (h : RowG w A n 2 fdC fl) (hn : n ≤ c ∧ c ≤ maxLen) (hn2 : n ≤ 1000) :
    Calls Tryz.prog 198 #[.slice A n c, .func (.func 178) #[] #[]] w fun e w' => (∃ r : Int, e = .returned (.int .i64 r) ∧ decide (0 ≤ r) = fl.any (·.1)) ∧ Below w.heap.size w w' := by
  have H : Sl _ := ⟨h⟩; have hln := h.len; clear h; go_enter Tryz.func198, Tryz.ntmps198; go_wp2_with fail
  go_loopw [5, 8] (fun _ s8 wr => ∃ k : Nat, k ≤ n ∧ s8 = .int .i64 k ∧ Sl (Below w.heap.size w wr ∧ (fl.take k).any (·.1) = false)) (fun _ s8 _ => n - (RowKit.intOf s8).toNat)
  case atStart => exact ⟨0, Nat.zero_le _, rfl, ⟨Below.refl _ _, rfl⟩⟩
  case round =>
    obtain ⟨k, hk, rfl, HM⟩ := hrel
    by_cases hkn : k < n
    · have hkI : decide ((k : Int) < (n : Int)) = true := decide_eq_true (by omega); have hkI2 : (k : Int) < (n : Int) := (by omega); obtain ⟨gb, o, x, hA, hgb, hx, hcc⟩ := (H.out.below HM.out.1).at_ (by decide) hkn; obtain ⟨q, s⟩ := x; have x0 : wr.cell? ⟨gb, o + k * 2, none⟩ = some (.bool q) := hcc 0 _ rfl; have x1 : wr.cell? ⟨gb, o + k * 2 + 1, none⟩ = some (.string s) := hcc 1 _ rfl; have HXX : Sl _ := ⟨hx⟩; have HC : Sl _ := ⟨isq_c q s wr⟩; subst hA; clear hcc hx
      cases q with
      | true =>
        go_wp2_with fail; refine HC.out.mono ?_; rintro e w2 ⟨rfl, hb⟩; have HB : Sl _ := ⟨hb⟩; clear hb HC x0 x1; go_wp2_with fail; go_ret
        exact ⟨⟨_, rfl, by
          have hm := List.mem_of_getElem? HXX.out; rw [decide_eq_true (by omega), eq_comm, List.any_eq_true]
          exact ⟨_, hm, rfl⟩⟩, HM.out.1.trans (HB.out.mono HM.out.1.size)⟩
      | false =>
        go_wp2_with fail; refine HC.out.mono ?_; rintro e w2 ⟨rfl, hb⟩; have HV : Sl (Below w.heap.size w w2 ∧ (fl.take (k + 1)).any (·.1) = false) := ⟨HM.out.1.trans (hb.mono HM.out.1.size), by rw [List.take_add_one, HXX.out, List.any_append, HM.out.2]; rfl⟩; clear hb HC x0 x1; go_wp2_with fail; exact ⟨⟨k + 1, hkn, by go_num, HV⟩, by simp [RowKit.intOf]; omega⟩
    · obtain rfl : k = n := (by omega); have hkI : decide ((k : Int) < (k : Int)) = false := (by simp); go_wp2_with fail; go_ret; refine ⟨⟨_, rfl, ?_⟩, HM.out.1⟩; have := HM.out.2; rw [List.take_of_length_le (by omega)] at this; rw [this]; rfl
theorem anyq_any (A : Option Addr) (n c : Nat) (fl : List FdV) (w : World) (h : RowG w A n 2 fdC fl) (hn : n ≤ c ∧ c ≤ maxLen) (hn2 : n ≤ 1000) :
    Calls Tryz.prog 177 #[.slice A n c, .func (.func 178) #[] #[]] w fun e w' => e = .returned (.bool (fl.any (·.1))) ∧ Below w.heap.size w w' := by
  have HC : Sl _ := ⟨ixq_any A n c fl w h hn hn2⟩; clear h; go_enter Tryz.func177, Tryz.ntmps177; go_wp2_with fail; refine HC.out.mono ?_; rintro e w2 ⟨⟨r, rfl, hr⟩, hb⟩; have HB : Sl _ := ⟨And.intro hr hb⟩; clear hr hb HC; go_wp2_with fail; go_ret; exact ⟨by rw [← HB.out.1]; rfl, HB.out.2⟩
end Go.Proofs.YtabkpbbjodfolaaGreatDoor
namespace Go.Proofs.YtabkpbbjodfolaaGreatDoor
set_option linter.unusedSimpArgs false
open Go.RowKit
set_option linter.unusedVariables false
theorem own_mt (w : World) (base g size : Nat) (e : TypeId) (hB : Blk w g e #[]) (hg : base ≤ g) : w.ownsRow base e size (.slice (some ⟨g, 0, none⟩) 0 0) 0 [] :=
  ⟨by simp, .inr ⟨g, 0, #[], rfl, hg, hB, Nat.le_refl _, Nat.zero_le _, by rw [Nat.zero_mul]; rfl, by rw [Nat.zero_mul]; rfl⟩⟩
end Go.Proofs.YtabkpbbjodfolaaGreatDoor
namespace Go.Proofs.YtabkpbbjodfolaaGreatDoor
set_option linter.unusedSimpArgs false
open Go.RowKit
set_option linter.unusedVariables false
theorem RowG.take {α : Type} {w : World} {A : Option Addr} {n sz : Nat} {f : α → List Value} {l : List α} (h : RowG w A n sz f l) {k : Nat} (hk : k ≤ n) : RowG w A k sz f (l.take k) := by
  have hl := h.len; refine ⟨by rw [List.length_take]; omega, ⟨?_, fun h0 => ?_⟩, h.fix⟩
  · rw [← fm_take f sz h.fix, List.length_take, h.rd.1]; exact Nat.min_eq_left (Nat.mul_le_mul_right _ hk)
  · obtain ⟨ad, e, hb, hc⟩ := h.rd.2 (by omega); refine ⟨ad, e, hb, fun j u hu => hc j u ?_⟩; rw [← fm_take f sz h.fix] at hu; exact (List.getElem?_take_of_lt (by have := (List.getElem?_eq_some_iff.1 hu).1; rw [List.length_take] at this; omega)).symm.trans hu
theorem RowG.drop {α : Type} {w : World} {A : Option Addr} {n sz c : Nat} {f : α → List Value} {l : List α} (h : RowG w A n sz f l) {k : Nat} (hk : k ≤ n) (hc : n ≤ c) : RowG w (if c = k then A else A.map (·.add (k * sz))) (n - k) sz f (l.drop k) := by
  refine ⟨by rw [List.length_drop, h.len], ?_, h.fix⟩; rw [← fm_drop f sz h.fix]; exact h.rd.cut hk hc
theorem FR.mt (w : World) (base g : Nat) (hB : Blk w g 45 #[]) (hg : base ≤ g) : FR w base (some ⟨g, 0, none⟩) 0 0 [] := own_mt w base g 2 _ hB hg
end Go.Proofs.YtabkpbbjodfolaaGreatDoor
