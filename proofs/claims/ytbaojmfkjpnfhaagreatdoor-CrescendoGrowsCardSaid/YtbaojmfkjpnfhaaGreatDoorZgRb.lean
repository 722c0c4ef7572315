/- The example's specification (chapter 10) and table (chapter 22). (Printed by gencza.py.) -/
import Derived.Test.YtbaojmfkjpnfhaaGreatDoorZgR
import Derived.Test.YtbaojmfkjpnfhaaGreatDoorSiH
import Derived.Test.YtbaojmfkjpnfhaaGreatDoorCxG
import Derived.Test.YtbaojmfkjpnfhaaGreatDoorSiF
namespace Go.Proofs.YtbaojmfkjpnfhaaGreatDoor
set_option linter.unusedSimpArgs false
open Go.RowKit
set_option linter.unusedVariables false
theorem wpList_made {P : Program} {ops : Array Oper} {Q : Exit → Act → World → Prop} {op : Oper} {rest : List Oper} {a : Act} {w : World} (k : Tmp) (hdst : op.dst = some k) (hgd : op.guard = none) (ty : TypeId) (n : Nat) (cells : Array Value)
    (hr : ∀ w : World, (execOp a.eval op).run P w = .ok (.value (.slice (some ⟨w.heap.size, 0, none⟩) n n)) (w.alloc (.cells cells ty)))
    (h : ∀ w' g, g = w.heap.size → Mv w.heap.size w w' → w'.heap.size = g + 1 → Blk w' g ty cells → wpList P ops Q rest (a.put op.dst (.slice (some ⟨g, 0, none⟩) n n)) w') : wpList P ops Q (op :: rest) a w := by
  refine wpList_plain hgd fun K hK => ?_
  unfold Oper.wp; rw [hr w, Oper.upon_value]; exact hK _ _ (h _ _ rfl (Mv.of_below ((Below.refl _ _).alloc (Nat.le_refl _) _)) (by simp) (Blk.new w ty cells))
theorem RowG.of_blk {α : Type} {w : World} {g : Nat} {t : TypeId} {cs : Array Value} {n sz : Nat} {f : α → List Value} {l : List α} (h : Blk w g t cs) (hf : ∀ p, (f p).length = sz) (hl : l.length = n) (hc : cs.toList = l.flatMap f) : RowG w (some ⟨g, 0, none⟩) n sz f l := by
  refine ⟨hl, ⟨by rw [flG_len f sz hf, hl], fun _ => ⟨_, rfl, h.lt, fun j u hu => ?_⟩⟩, hf⟩; rw [← hc] at hu; rw [show (⟨g, 0, none⟩ : Addr).add j = ⟨g, j, none⟩ by unfold Addr.add; split <;> simp_all]; have := h.cell j; rw [this, ← Array.getElem?_toList]; exact hu
def exO (A1 A2 A3 A4 P1 P2 P3 : Option Addr) : SpO := ⟨A1, 1, 1, [⟨⟨#[103, 114, 101, 97, 116]⟩, 36, 60⟩], A2, 2, 2, [⟨⟨#[102, 108, 117, 116, 101]⟩, 2, 8, 1, 36, 37⟩, ⟨⟨#[114, 101, 101, 100]⟩, 4, 8, 1, 36, 13⟩],
  A3, 3, 3, [⟨⟨#[102, 108, 117, 116, 101, 56]⟩, 0, 8, 1, P1, 1, 1, [⟨0, 0, 36, 60⟩]⟩, ⟨⟨#[102, 108, 117, 116, 101, 52]⟩, 0, 4, 1, P2, 1, 1, [⟨0, 12, 36, 60⟩]⟩, ⟨⟨#[98, 97, 115, 115]⟩, 0, 8, 1, P3, 1, 1, [⟨1, 0, 36, 48⟩]⟩], A4, 1, 1, [⟨⟨#[111, 99, 116, 97, 118, 101]⟩, 0, 0, 12, 0, false⟩]⟩
instance decI64 (z : Int) : Decidable (i64 z) := by unfold i64; infer_instance
theorem exO_F (A1 A2 A3 A4 P1 P2 P3 : Option Addr) : SpF (exO A1 A2 A3 A4 P1 P2 P3) := by
  have m1 : (1 : Nat) ≤ maxLen := (by decide); have m2 : (2 : Nat) ≤ maxLen := (by decide); have m3 : (3 : Nat) ≤ maxLen := (by decide); constructor
  · exact ⟨⟨Nat.le_refl _, m1⟩, ⟨Nat.le_refl _, m2⟩, ⟨Nat.le_refl _, m3⟩, ⟨Nat.le_refl _, m1⟩⟩
  · intro x hx; simp only [exO, List.mem_cons, List.not_mem_nil, or_false] at hx; subst hx; exact ⟨by decide, by decide, by decide⟩
  · intro x hx; simp only [exO, List.mem_cons, List.not_mem_nil, or_false] at hx; rcases hx with rfl | rfl <;> exact ⟨by decide, by decide, by decide, by decide, by decide, by decide⟩
  · intro x hx; simp only [exO, List.mem_cons, List.not_mem_nil, or_false] at hx; rcases hx with rfl | rfl | rfl <;> dsimp only <;> refine ⟨by decide, by decide, by decide, by decide, ⟨by decide, m1⟩, fun p hp => ?_⟩ <;> simp only [List.mem_cons, List.not_mem_nil, or_false] at hp <;> subst hp <;> exact ⟨by decide, by decide, by decide, by decide⟩
  · intro x hx; simp only [exO, List.mem_cons, List.not_mem_nil, or_false] at hx; subst hx; exact ⟨by decide, by decide, by decide, by decide, by decide⟩
theorem alloc_spec (w : World) : (Instr.alloc 27 true (.tuple #[])).run Tryz.prog w = .ok (.pointer (some ⟨w.heap.size, 0, none⟩)) (w.alloc (.cells #[.slice none 0 0, .slice none 0 0, .slice none 0 0, .slice none 0 0] 27)) := by kernel_rfl
theorem alloc_feet (w : World) : (Instr.alloc 95 true (.tuple #[])).run Tryz.prog w = .ok (.pointer (some ⟨w.heap.size, 0, none⟩)) (w.alloc (.cells #[.int .i64 0, .int .i64 0] 95)) := by kernel_rfl
set_option maxHeartbeats 6400000 in
set_option maxRecDepth 100000 in
theorem example_any (w : World) : Calls Tryz.prog 25 #[] w fun e w' =>
    (∃ A1 A2 A3 A4 P1 P2 P3, e = .returned (.agg #[.slice A1 1 1, .slice A2 2 2, .slice A3 3 3, .slice A4 1 1]) ∧ SpM w' (exO A1 A2 A3 A4 P1 P2 P3)) ∧ Below w.heap.size w w' := by
  have HD : Sl (Lg w w []) := ⟨Lg.nil w⟩; go_enter Tryz.func25, Tryz.ntmps25
  go_wp2_with ((with_reducible show wpList _ _ _ _ _ _); first
    | (refine wpList_alloc_new 0 rfl rfl 27 rfl #[.slice none 0 0, .slice none 0 0, .slice none 0 0, .slice none 0 0] alloc_spec ?_; rintro w1 g0 zg zm zs zb; replace HD : Sl _ := ⟨HD.out.new zg zm zb⟩; clear zg zm zs zb)
    | (refine wpList_alloc_new 1 rfl rfl 95 rfl #[.int .i64 0, .int .i64 0] alloc_feet ?_; rintro w2 g1 zg zm zs zb; replace HD : Sl _ := ⟨HD.out.new zg zm zb⟩; clear zg zm zs zb)
    | (refine wpList_alloc_new 2 rfl rfl 95 rfl #[.int .i64 0, .int .i64 0] alloc_feet ?_; rintro w3 g2 zg zm zs zb; replace HD : Sl _ := ⟨HD.out.new zg zm zb⟩; clear zg zm zs zb)
    | (refine wpList_store_whole rfl 95 (.tmp 1) (.tmp 3) rfl g1 #[.int .i64 8, .int .i64 1] rfl rfl 95 _ (HD.out.at_ 1 rfl) rfl (by kernel_rfl) (by simp [Value.oneCell']) ?_; rintro w4 zm zs zb; replace HD : Sl _ := ⟨HD.out.set 1 rfl zm zb⟩; clear zm zs zb)
    | (refine wpList_store_whole rfl 95 (.tmp 2) (.tmp 4) rfl g2 #[.int .i64 4, .int .i64 1] rfl rfl 95 _ (HD.out.at_ 0 rfl) rfl (by kernel_rfl) (by simp [Value.oneCell']) ?_; rintro w5 zm zs zb; replace HD : Sl _ := ⟨HD.out.set 0 rfl zm zb⟩; clear zm zs zb)
    | (refine wpList_made 6 rfl rfl 93 1 #[.string ⟨#[103, 114, 101, 97, 116]⟩, .int .i64 36, .int .i64 60] (fun _ => by kernel_rfl) ?_; rintro w6 gd zg zm zs zb; replace HD : Sl _ := ⟨HD.out.new zg zm zb⟩; clear zg zm zs zb)
    | (refine wpList_load_whole rfl 95 (.tmp 1) rfl g1 rfl 95 _ _ (HD.out.at_ 2 rfl) Tryz.underlying95 rfl (by kernel_rfl) ?_)
    | (refine wpList_load_whole rfl 95 (.tmp 1) rfl g1 rfl 95 _ _ (HD.out.at_ 2 rfl) Tryz.underlying95 rfl (by kernel_rfl) ?_)
    | (refine wpList_made 11 rfl rfl 97 2 #[.string ⟨#[102, 108, 117, 116, 101]⟩, .int .i64 2, .int .i64 8, .int .i64 1, .int .i64 36, .int .i64 37, .string ⟨#[114, 101, 101, 100]⟩, .int .i64 4, .int .i64 8, .int .i64 1, .int .i64 36, .int .i64 13] (fun _ => by kernel_rfl) ?_; rintro w7 gr zg zm zs zb; replace HD : Sl _ := ⟨HD.out.new zg zm zb⟩; clear zg zm zs zb)
    | (refine wpList_load_whole rfl 95 (.tmp 1) rfl g1 rfl 95 _ _ (HD.out.at_ 3 rfl) Tryz.underlying95 rfl (by kernel_rfl) ?_)
    | (refine wpList_made 14 rfl rfl 124 1 #[.int .i64 0, .int .i64 0, .int .i64 36, .int .i64 60] (fun _ => by kernel_rfl) ?_; rintro w8 p1 zg zm zs zb; replace HD : Sl _ := ⟨HD.out.new zg zm zb⟩; clear zg zm zs zb)
    | (refine wpList_load_whole rfl 95 (.tmp 2) rfl g2 rfl 95 _ _ (HD.out.at_ 3 rfl) Tryz.underlying95 rfl (by kernel_rfl) ?_)
    | (refine wpList_made 18 rfl rfl 124 1 #[.int .i64 0, .int .i64 12, .int .i64 36, .int .i64 60] (fun _ => by kernel_rfl) ?_; rintro w9 p2 zg zm zs zb; replace HD : Sl _ := ⟨HD.out.new zg zm zb⟩; clear zg zm zs zb)
    | (refine wpList_load_whole rfl 95 (.tmp 1) rfl g1 rfl 95 _ _ (HD.out.at_ 5 rfl) Tryz.underlying95 rfl (by kernel_rfl) ?_)
    | (refine wpList_made 22 rfl rfl 124 1 #[.int .i64 1, .int .i64 0, .int .i64 36, .int .i64 48] (fun _ => by kernel_rfl) ?_; rintro w10 p3 zg zm zs zb; replace HD : Sl _ := ⟨HD.out.new zg zm zb⟩; clear zg zm zs zb)
    | (refine wpList_made 24 rfl rfl 100 3 #[.string ⟨#[102, 108, 117, 116, 101, 56]⟩, .int .i64 0, .int .i64 8, .int .i64 1, .slice (some ⟨p1, 0, none⟩) 1 1, .string ⟨#[102, 108, 117, 116, 101, 52]⟩, .int .i64 0, .int .i64 4, .int .i64 1, .slice (some ⟨p2, 0, none⟩) 1 1, .string ⟨#[98, 97, 115, 115]⟩, .int .i64 0, .int .i64 8, .int .i64 1, .slice (some ⟨p3, 0, none⟩) 1 1] (fun _ => by kernel_rfl) ?_; rintro w11 gs zg zm zs zb; replace HD : Sl _ := ⟨HD.out.new zg zm zb⟩; clear zg zm zs zb)
    | (refine wpList_made 26 rfl rfl 102 1 #[.string ⟨#[111, 99, 116, 97, 118, 101]⟩, .int .i64 0, .int .i64 0, .int .i64 12, .int .i64 0, .bool false] (fun _ => by kernel_rfl) ?_; rintro w12 gc zg zm zs zb; replace HD : Sl _ := ⟨HD.out.new zg zm zb⟩; clear zg zm zs zb)
    | (refine wpList_store_whole rfl 27 (.tmp 0) (.tmp 27) rfl g0 #[.slice (some ⟨gd, 0, none⟩) 1 1, .slice (some ⟨gr, 0, none⟩) 2 2, .slice (some ⟨gs, 0, none⟩) 3 3, .slice (some ⟨gc, 0, none⟩) 1 1] rfl rfl 27 _ (HD.out.at_ 9 rfl) rfl (by kernel_rfl) (by simp [Value.oneCell']) ?_; rintro w13 zm zs zb; replace HD : Sl _ := ⟨HD.out.set 9 rfl zm zb⟩; clear zm zs zb))
  refine bodyPost_ret (results_row1c rfl _ _ g0 _ _ _ rfl (HD.out.at_ 9 rfl) Tryz.underlying27 rfl (by kernel_rfl)) rfl ?_; refine ⟨⟨some ⟨gd, 0, none⟩, some ⟨gr, 0, none⟩, some ⟨gs, 0, none⟩, some ⟨gc, 0, none⟩, some ⟨p1, 0, none⟩, some ⟨p2, 0, none⟩, some ⟨p3, 0, none⟩, rfl, ?_⟩, HD.out.bl⟩; refine ⟨.of_blk (HD.out.at_ 6 rfl) (fun _ => rfl) rfl rfl, .of_blk (HD.out.at_ 5 rfl) (fun _ => rfl) rfl rfl, .of_blk (HD.out.at_ 1 rfl) (fun _ => rfl) rfl rfl, .of_blk (HD.out.at_ 0 rfl) (fun _ => rfl) rfl rfl, fun y hy => ?_⟩; simp only [exO, List.mem_cons, List.not_mem_nil, or_false] at hy; rcases hy with rfl | rfl | rfl
  · exact .of_blk (HD.out.at_ 4 rfl) (fun _ => rfl) rfl rfl
  · exact .of_blk (HD.out.at_ 3 rfl) (fun _ => rfl) rfl rfl
  · exact .of_blk (HD.out.at_ 2 rfl) (fun _ => rfl) rfl rfl
def tbL (a b c d : Option Addr) : List RgV := [⟨a, 1, 1, [0], none, 0, 0, []⟩, ⟨b, 1, 1, [2], c, 1, 1, [0]⟩, ⟨d, 1, 1, [1], none, 0, 0, []⟩]
theorem II.of_blk {w : World} {g n : Nat} {t : TypeId} {cs : Array Value} {l : List Int} (h : Blk w g t cs) (hl : l.length = n) (hc : cs.toList = l.map iv) : II w (some ⟨g, 0, none⟩) n l := by
  refine ⟨hl, by rw [List.length_map, hl, Nat.mul_one], fun _ => ⟨_, rfl, h.lt, fun j u hu => ?_⟩⟩; rw [← hc] at hu; rw [show (⟨g, 0, none⟩ : Addr).add j = ⟨g, j, none⟩ by unfold Addr.add; split <;> simp_all]; have := h.cell j; rw [this, ← Array.getElem?_toList]; exact hu
set_option maxHeartbeats 6400000 in
set_option maxRecDepth 100000 in
theorem table_any (w : World) : Calls Tryz.prog 31 #[] w fun e w' =>
    (∃ T a b c d, e = .returned (.agg #[.slice T 3 3]) ∧ TbM w' T 3 3 (tbL a b c d)) ∧ Below w.heap.size w w' := by
  have HD : Sl (Lg w w []) := ⟨Lg.nil w⟩; go_enter Tryz.func31, Tryz.ntmps31
  go_wp2_with ((with_reducible show wpList _ _ _ _ _ _); first
    | (refine wpList_alloc_new 0 rfl rfl 30 rfl #[.slice none 0 0] alloc_cre ?_; rintro w1 g0 zg zm zs zb; replace HD : Sl _ := ⟨HD.out.new zg zm zb⟩; clear zg zm zs zb)
    | (refine wpList_made 1 rfl rfl 3 1 #[.int .i64 0] (fun _ => by kernel_rfl) ?_; rintro w2 a zg zm zs zb; replace HD : Sl _ := ⟨HD.out.new zg zm zb⟩; clear zg zm zs zb)
    | (refine wpList_made 3 rfl rfl 3 1 #[.int .i64 2] (fun _ => by kernel_rfl) ?_; rintro w3 b zg zm zs zb; replace HD : Sl _ := ⟨HD.out.new zg zm zb⟩; clear zg zm zs zb)
    | (refine wpList_made 4 rfl rfl 3 1 #[.int .i64 0] (fun _ => by kernel_rfl) ?_; rintro w4 c zg zm zs zb; replace HD : Sl _ := ⟨HD.out.new zg zm zb⟩; clear zg zm zs zb)
    | (refine wpList_made 6 rfl rfl 3 1 #[.int .i64 1] (fun _ => by kernel_rfl) ?_; rintro w5 d zg zm zs zb; replace HD : Sl _ := ⟨HD.out.new zg zm zb⟩; clear zg zm zs zb)
    | (refine wpList_made 8 rfl rfl 33 3 #[.slice (some ⟨a, 0, none⟩) 1 1, .slice none 0 0, .slice (some ⟨b, 0, none⟩) 1 1, .slice (some ⟨c, 0, none⟩) 1 1, .slice (some ⟨d, 0, none⟩) 1 1, .slice none 0 0] (fun _ => by kernel_rfl) ?_; rintro w6 gt zg zm zs zb; replace HD : Sl _ := ⟨HD.out.new zg zm zb⟩; clear zg zm zs zb)
    | (refine wpList_store_whole rfl 30 (.tmp 0) (.tmp 9) rfl g0 #[.slice (some ⟨gt, 0, none⟩) 3 3] rfl rfl 30 _ (HD.out.at_ 5 rfl) rfl (by kernel_rfl) (by simp [Value.oneCell']) ?_; rintro w7 zm zs zb; replace HD : Sl _ := ⟨HD.out.set 5 rfl zm zb⟩; clear zm zs zb))
  refine bodyPost_ret (results_row1c rfl _ _ g0 _ _ _ rfl (HD.out.at_ 5 rfl) Tryz.underlying30 rfl (by kernel_rfl)) rfl ?_; refine ⟨⟨some ⟨gt, 0, none⟩, some ⟨a, 0, none⟩, some ⟨b, 0, none⟩, some ⟨c, 0, none⟩, some ⟨d, 0, none⟩, rfl, ?_⟩, HD.out.bl⟩; refine ⟨.of_blk (HD.out.at_ 0 rfl) (fun _ => rfl) rfl rfl, ⟨Nat.le_refl _, by decide⟩, fun y hy => ?_⟩; simp only [tbL, List.mem_cons, List.not_mem_nil, or_false] at hy; rcases hy with rfl | rfl | rfl
  · exact ⟨.of_blk (HD.out.at_ 4 rfl) rfl rfl, II.nil _ _, ⟨Nat.le_refl _, by show 1 ≤ maxLen; decide⟩, ⟨Nat.le_refl _, Nat.zero_le _⟩⟩
  · exact ⟨.of_blk (HD.out.at_ 3 rfl) rfl rfl, .of_blk (HD.out.at_ 2 rfl) rfl rfl, ⟨Nat.le_refl _, by show 1 ≤ maxLen; decide⟩, ⟨Nat.le_refl _, by show 1 ≤ maxLen; decide⟩⟩
  · exact ⟨.of_blk (HD.out.at_ 1 rfl) rfl rfl, II.nil _ _, ⟨Nat.le_refl _, by show 1 ≤ maxLen; decide⟩, ⟨Nat.le_refl _, Nat.zero_le _⟩⟩
end Go.Proofs.YtbaojmfkjpnfhaaGreatDoor
namespace Go.Proofs.YtbaojmfkjpnfhaaGreatDoor
set_option linter.unusedSimpArgs false
open Go.RowKit
set_option linter.unusedVariables false
set_option maxHeartbeats 3200000 in
set_option maxRecDepth 100000 in
theorem sameI_any (A B : Option Addr) (n c d : Nat) (l : List Int) (w : World) (h1 : II w A n l) (h2 : II w B n l) (hn : n ≤ 1000000) :
    Calls Tryz.prog 59 #[.slice A n c, .slice B n d] w fun e w' => e = .returned (.bool true) ∧ Below w.heap.size w w' := by
  have H1 : Sl _ := ⟨h1⟩; have H2 : Sl _ := ⟨h2⟩; have HB : Sl _ := ⟨Below.refl w.heap.size w⟩; have hne : ((n : Int) != (n : Int)) = false := (by simp); clear h1 h2; go_enter Tryz.func59, Tryz.ntmps59; go_wp2_with fail
  go_loopw [5] (fun s5 wv => ∃ k : Nat, k ≤ n ∧ s5 = .int .i64 k ∧ Sl (Below w.heap.size w wv)) (fun s5 _ => n - (RowKit.intOf s5).toNat)
  case atStart => exact ⟨0, Nat.zero_le _, rfl, HB⟩
  case round =>
    clear HB; obtain ⟨k, hk, rfl, HB⟩ := hrel
    by_cases hkn : k < n
    · have hkI : decide ((k : Int) < (n : Int)) = true := decide_eq_true (by omega); have hkI2 : (k : Int) < (n : Int) := (by omega); obtain ⟨a1, e1, hb1, c1⟩ := (H1.out.below HB.out).cell (j := k) hkn; obtain ⟨a2, e2, hb2, c2⟩ := (H2.out.below HB.out).cell (j := k) hkn; rw [e1, e2]; clear e1 e2; obtain ⟨z, hz⟩ : ∃ z, gt l k = z := ⟨_, rfl⟩; rw [hz] at c1 c2; have hzz : (z != z) = false := (by simp); go_wp2_with fail
      go_quiet (fail)
      go_wp2_with fail; exact ⟨⟨k + 1, by omega, by go_num, ⟨below_drewN HB.out _⟩⟩, by simp [RowKit.intOf]; omega⟩
    · obtain rfl : k = n := (by omega); go_wp2_with fail; go_ret; exact ⟨rfl, HB.out⟩
structure GG (w : World) (A : Option Addr) (n : Nat) (L : List SlV) : Prop where
  len : L.length = n
  rd : Reads w w.heap.size 1 A n (L.map SlV.val)
  all : ∀ s ∈ L, II w s.A s.n s.l
theorem GG.below {w w' : World} {A : Option Addr} {n : Nat} {L : List SlV} (h : GG w A n L) (hb : Below w.heap.size w w') : GG w' A n L := ⟨h.len, (h.rd.below hb).more hb.size, fun s hs => (h.all s hs).below hb⟩
theorem GG.cell {w : World} {A : Option Addr} {n : Nat} {L : List SlV} (h : GG w A n L) {j : Nat} (hj : j < n) : ∃ ad s, A = some ad ∧ ad.block < w.heap.size ∧ L[j]? = some s ∧ w.cell? (ad.add j) = some s.val ∧ II w s.A s.n s.l := by
  have hl := h.len; obtain ⟨ad, e, hb, hc⟩ := h.rd.2 (by omega); refine ⟨ad, L[j], e, hb, List.getElem?_eq_getElem (by omega), hc j _ ?_, h.all _ (List.getElem_mem _)⟩; rw [List.getElem?_map, List.getElem?_eq_getElem (by omega)]; rfl
theorem GG.of_og {w : World} {base : Nat} {A : Option Addr} {n c : Nat} {L : List SlV} (h : OG w base A n c L) : GG w A n L := ⟨h.len, Reads.of_own h.row, fun s hs => (h.all s hs).ii⟩
theorem GG.of_blk {w : World} {g n : Nat} {t : TypeId} {cs : Array Value} {L : List SlV} (h : Blk w g t cs) (hl : L.length = n) (hc : cs.toList = L.map SlV.val) (ha : ∀ s ∈ L, II w s.A s.n s.l) : GG w (some ⟨g, 0, none⟩) n L := by
  refine ⟨hl, ⟨by rw [List.length_map, hl, Nat.mul_one], fun _ => ⟨_, rfl, h.lt, fun j u hu => ?_⟩⟩, ha⟩; rw [← hc] at hu; rw [show (⟨g, 0, none⟩ : Addr).add j = ⟨g, j, none⟩ by unfold Addr.add; split <;> simp_all]; have := h.cell j; rw [this, ← Array.getElem?_toList]; exact hu
set_option maxHeartbeats 3200000 in
set_option maxRecDepth 100000 in
theorem groups_any (A B : Option Addr) (n c d : Nat) (L M : List SlV) (w : World) (h1 : GG w A n L) (h2 : GG w B n M) (hn : n ≤ 1000000) (he : L.map SlV.l = M.map SlV.l) (hL : ∀ s ∈ L, s.n ≤ 1000000) :
    Calls Tryz.prog 33 #[.slice A n c, .slice B n d] w fun e w' => e = .returned (.bool true) ∧ Below w.heap.size w w' := by
  have H1 : Sl _ := ⟨h1⟩; have H2 : Sl _ := ⟨h2⟩; have HE : Sl _ := ⟨he⟩; have HL : Sl _ := ⟨hL⟩; have HB : Sl _ := ⟨Below.refl w.heap.size w⟩; have hne : ((n : Int) != (n : Int)) = false := (by simp); clear h1 h2 he hL; go_enter Tryz.func33, Tryz.ntmps33; go_wp2_with fail
  go_loopw [5] (fun s5 wv => ∃ k : Nat, k ≤ n ∧ s5 = .int .i64 k ∧ Sl (Below w.heap.size w wv)) (fun s5 _ => n - (RowKit.intOf s5).toNat)
  case atStart => exact ⟨0, Nat.zero_le _, rfl, HB⟩
  case round =>
    clear HB; obtain ⟨k, hk, rfl, HB⟩ := hrel
    by_cases hkn : k < n
    · have hkI : decide ((k : Int) < (n : Int)) = true := decide_eq_true (by omega); have hkI2 : (k : Int) < (n : Int) := (by omega); have hk0 : (0 : Int) ≤ (k : Int) := (by omega); obtain ⟨a1, x, e1, hb1, hx, c1, i1⟩ := (H1.out.below HB.out).cell (j := k) hkn; obtain ⟨a2, y, e2, hb2, hy, c2, i2⟩ := (H2.out.below HB.out).cell (j := k) hkn
      have hxy : y.l = x.l := by
        have := congrArg (fun l => l[k]?) HE.out; simp only [List.getElem?_map, hx, hy, Option.map_some, Option.some.injEq] at this; exact this.symm
      have hnn : y.n = x.n := (by rw [← i1.1, ← i2.1, hxy]); rw [hxy, hnn] at i2; have HX : Sl (∀ W, Below wr.heap.size wr W → Calls Tryz.prog 59 #[.slice x.A x.n x.c, .slice y.A x.n y.c] W fun e w' => e = .returned (.bool true) ∧ Below W.heap.size W w') := ⟨fun W hW => sameI_any x.A y.A x.n x.c y.c x.l W (i1.below hW) (i2.below hW) (HL.out x (List.mem_of_getElem? hx))⟩; have HC1 : Sl (∀ W, Below wr.heap.size wr W → W.cell? (a1.add k) = some (.slice x.A x.n x.c)) := ⟨fun W hW => (hW.cell (by rw [block_of_add]; exact hb1)).trans c1⟩; have HC2 : Sl (∀ W, Below wr.heap.size wr W → W.cell? (a2.add k) = some (.slice y.A x.n y.c)) := ⟨fun W hW => by rw [← hnn]; exact (hW.cell (by rw [block_of_add]; exact hb2)).trans c2⟩; rw [e1, e2]; clear e1 e2 c1 c2 i1 i2 hx hy hxy hnn; have hS0 : Below wr.heap.size wr wr.drew := below_drewN (Below.refl _ _) 1; have hSR := hS0; go_wp2_with fail; have hm := hS0; refine wp_region_held_drew (S := fun w' => Below wr.heap.size wr w') (by kernel_rfl) hm (fun hHeld => ?_); clear hm; refine wpAnyH_pure 0 (v := .slice (some a1) n c) rfl (by kernel_rfl) (by kernel_rfl) (by kernel_rfl) (fun _ _ _ h => h) rfl (fun _ => rfl) (by assumption) ?_; simp only [Act.put, sS0, sS1, sS2]; refine wpAnyH_pure 1 (v := .int .i64 (k : Int)) rfl (by kernel_rfl) (by kernel_rfl) (by kernel_rfl) (fun _ _ _ h => h) rfl (fun _ => rfl) (by assumption) ?_; simp only [Act.put, sS0, sS1, sS2]; refine wpAnyH_pure 2 (v := .pointer (some (a1.add k))) rfl (by kernel_rfl) (by kernel_rfl) (by kernel_rfl) (fun _ _ _ h => h) rfl (fun _ => by go_simp) (by assumption) ?_; simp only [Act.put, sS0, sS1, sS2]
      refine wpAnyH_cell 3 (v := .slice x.A x.n x.c) rfl rfl (fun w' h => by
        have hc := HC1.out w' h
        go_simp) (by kernel_rfl) (by kernel_rfl) (by kernel_rfl) (fun _ _ _ h => h) (by assumption) ?_
      simp only [Act.put, sS0, sS1, sS2]; refine wpAnyH_pure 4 (v := .slice (some a2) n d) rfl (by kernel_rfl) (by kernel_rfl) (by kernel_rfl) (fun _ _ _ h => h) rfl (fun _ => rfl) (by assumption) ?_; simp only [Act.put, sS0, sS1, sS2]; refine wpAnyH_pure 5 (v := .int .i64 (k : Int)) rfl (by kernel_rfl) (by kernel_rfl) (by kernel_rfl) (fun _ _ _ h => h) rfl (fun _ => rfl) (by assumption) ?_; simp only [Act.put, sS0, sS1, sS2]; refine wpAnyH_pure 6 (v := .pointer (some (a2.add k))) rfl (by kernel_rfl) (by kernel_rfl) (by kernel_rfl) (fun _ _ _ h => h) rfl (fun _ => by go_simp) (by assumption) ?_; simp only [Act.put, sS0, sS1, sS2]
      refine wpAnyH_cell 7 (v := .slice y.A x.n y.c) rfl rfl (fun w' h => by
        have hc := HC2.out w' h
        go_simp) (by kernel_rfl) (by kernel_rfl) (by kernel_rfl) (fun _ _ _ h => h) (by assumption) ?_
      simp only [Act.put, sS0, sS1, sS2]; refine wpAnyH_one 8 rfl (by kernel_rfl) rfl (fun K hK => ?_); go_simp; go_at_call 59
      (with_reducible refine (HX.out _ hSR).mono ?_)
      rintro e w6 ⟨rfl, hb⟩; have hW6 : Below wr.heap.size wr w6 := hSR.trans (hb.mono hSR.size); refine hK.out _ _ hW6 (fun hHeld => ?_); clear hK K
      (try simp only [Act.put, sS0, sS1, sS2])
      refine wpAnyH_pure 9 (v := .bool false) rfl (by kernel_rfl) (by kernel_rfl) (by kernel_rfl) (fun _ _ _ h => h) rfl (fun _ => by go_simp) (by assumption) ?_; simp only [Act.put, sS0, sS1, sS2]; refine wpAnyH_done (by kernel_rfl) ?_ _; go_wp2_with fail; exact ⟨⟨k + 1, by omega, by go_num, ⟨HB.out.trans (hW6.mono HB.out.size)⟩⟩, by simp [RowKit.intOf]; omega⟩
    · obtain rfl : k = n := (by omega); go_wp2_with fail; go_ret; exact ⟨rfl, HB.out⟩
set_option maxHeartbeats 3200000 in
set_option maxRecDepth 100000 in
theorem sameR_any (r s : RgV) (w : World) (hr : RgM w r) (hs : RgM w s) (h1 : s.l = r.l) (h2 : s.k = r.k) (hn : r.n ≤ 1000000) (hm : r.m ≤ 1000000) :
    Calls Tryz.prog 21 #[.agg #[.slice r.A r.n r.c, .slice r.B r.m r.d], .agg #[.slice s.A s.n s.c, .slice s.B s.m s.d]] w fun e w' => e = .returned (.bool true) ∧ Below w.heap.size w w' := by
  have e1 : s.n = r.n := (by rw [← hs.s.1, ← hr.s.1, h1]); have e2 : s.m = r.m := (by rw [← hs.c.1, ← hr.c.1, h2]); have i1 := hs.s; have i2 := hs.c; rw [e1, h1] at i1; rw [e2, h2] at i2; rw [e1, e2]; have H1 : Sl _ := ⟨fun W (hW : Below w.heap.size w W) => sameI_any r.A s.A r.n r.c s.c r.l W (hr.s.below hW) (i1.below hW) hn⟩; have H2 : Sl _ := ⟨fun W (hW : Below w.heap.size w W) => sameI_any r.B s.B r.m r.d s.d r.k W (hr.c.below hW) (i2.below hW) hm⟩; have HD : Sl (Lg w w []) := ⟨Lg.nil w⟩; clear e1 e2 i1 i2 h1 h2 hr hs; go_enter Tryz.func21, Tryz.ntmps21
  go_upto_region 1 with ((with_reducible show wpList _ _ _ _ _ _); first
    | (refine wpList_box_new 2 rfl rfl 33 (.tmp 0) rfl #[.slice r.A r.n r.c, .slice r.B r.m r.d] rfl (fun _ => by kernel_rfl) ?_; rintro w1 g1 zg zm zs zb; replace HD : Sl _ := ⟨HD.out.new zg zm zb⟩; clear zg zm zs zb)
    | (refine wpList_box_new 3 rfl rfl 33 (.tmp 1) rfl #[.slice s.A r.n s.c, .slice s.B r.m s.d] rfl (fun _ => by kernel_rfl) ?_; rintro w2 g2 zg zm zs zb; replace HD : Sl _ := ⟨HD.out.new zg zm zb⟩; clear zg zm zs zb))
  have s0 := (HD.out.at_ 1 rfl).cell 0; have s1 := (HD.out.at_ 1 rfl).cell 1; have t0 := (HD.out.at_ 0 rfl).cell 0; have t1 := (HD.out.at_ 0 rfl).cell 1; simp at s0 s1 t0 t1; go_wp2_with fail; refine (H1.out _ HD.out.bl).mono ?_; rintro e w3 ⟨rfl, hb⟩; replace HD : Sl _ := ⟨HD.out.below hb⟩; clear hb s0 s1 t0 t1; have s1 := (HD.out.at_ 1 rfl).cell 1; have t1 := (HD.out.at_ 0 rfl).cell 1; simp at s1 t1; go_wp2_with fail; refine (H2.out _ HD.out.bl).mono ?_; rintro e w4 ⟨rfl, hb⟩; replace HD : Sl _ := ⟨HD.out.below hb⟩; go_wp2_with fail; go_ret; exact ⟨rfl, HD.out.bl⟩
end Go.Proofs.YtbaojmfkjpnfhaaGreatDoor
namespace Go.Proofs.YtbaojmfkjpnfhaaGreatDoor
set_option linter.unusedSimpArgs false
open Go.RowKit
set_option linter.unusedVariables false
section
variable {P : Program} {ops : Array Oper} {Q : Exit → Act → World → Prop} {md : Region.Mode} {S : World → Prop}
theorem wpAnyH_threem (i j k : Nat) {oi oj ok : Oper} {fuel : Nat} {listed : Array Bool} {a : Act} {w : World} (hi0 : ops.toList[i]? = some oi) (hj0 : ops.toList[j]? = some oj) (hk0 : ops.toList[k]? = some ok) (hr : Region.ready md ops listed = [i, j, k]) (hgi : oi.guard = none) (hgj : oj.guard = none) (hgk : ok.guard = none)
    (h1 : ∀ K' : Act → World → Prop, Shut (∀ a w, S w → (S w → wpAnyH P md ops Q S fuel (listed.setIfInBounds i true) a w) → K' a w) → Oper.wp P oi a w K' Q)
    (h2 : ∀ K' : Act → World → Prop, Shut (∀ a w, S w → (S w → wpAnyH P md ops Q S fuel (listed.setIfInBounds j true) a w) → K' a w) → Oper.wp P oj a w K' Q)
    (h3 : ∀ K' : Act → World → Prop, Shut (∀ a w, S w → (S w → wpAnyH P md ops Q S fuel (listed.setIfInBounds k true) a w) → K' a w) → Oper.wp P ok a w K' Q) : wpAnyH P md ops Q S (fuel + 1) listed a w :=
  have hi : ops[i]? = some oi := (by rw [← Array.getElem?_toList]; exact hi0); have hj : ops[j]? = some oj := (by rw [← Array.getElem?_toList]; exact hj0); have hk : ops[k]? = some ok := (by rw [← Array.getElem?_toList]; exact hk0)
  wpAnyH_ready hr (by simp) (AllReadyH.cons hi (fun K' hK => by
    have hw : Region.wanted oi (yielded ops a.tmps) = true := (by simp [Region.wanted, hgi]); rw [if_pos hw]
    exact h1 K' hK) (AllReadyH.cons hj (fun K' hK => by
    have hw : Region.wanted oj (yielded ops a.tmps) = true := (by simp [Region.wanted, hgj]); rw [if_pos hw]
    exact h2 K' hK) (AllReadyH.cons hk (fun K' hK => by
    have hw : Region.wanted ok (yielded ops a.tmps) = true := (by simp [Region.wanted, hgk]); rw [if_pos hw]
    exact h3 K' hK) AllReadyH.nil)))
end
theorem wp_newblk {P : Program} {Q : Exit → Act → World → Prop} {op : Oper} {a : Act} {w : World} {K : Act → World → Prop} (mk : Nat → Value) (ty : TypeId) (cells : Array Value)
    (hr : ∀ w : World, (execOp a.eval op).run P w = .ok (.value (mk w.heap.size)) (w.alloc (.cells cells ty)))
    (h : ∀ w' g, g = w.heap.size → Mv w.heap.size w w' → Below w.heap.size w w' → Blk w' g ty cells → K (a.put op.dst (mk g)) w') : Oper.wp P op a w K Q := by
  unfold Oper.wp; rw [hr w, Oper.upon_value]; exact h _ _ rfl (Mv.of_below ((Below.refl _ _).alloc (Nat.le_refl _) _)) ((Below.refl _ _).alloc (Nat.le_refl _) _) (Blk.new w ty cells)
section
variable (A1 A2 A3 A4 P1 P2 P3 a b c d e f : Option Addr)
theorem shE1 : atE (exO A1 A2 A3 A4 P1 P2 P3) (tbL a b c d) ⟨e, 1, 1, [1], none, 0, 0, []⟩ 2 = 0 := by kernel_rfl
theorem shL1 : atL (exO A1 A2 A3 A4 P1 P2 P3) (tbL a b c d) ⟨e, 1, 1, [1], none, 0, 0, []⟩ 2 RgV.l = [0, 1, 2] := by
  unfold atL; rw [if_pos (shE1 ..)]; show uniI [1, 0, 2] = [0, 1, 2]
  have hs : srtI [1, 0, 2] = [0, 1, 2] := by
    simp [srtI, List.mergeSort, List.MergeSort.Internal.splitInTwo, List.merge]
  have hc : Lib.compact ([0, 1, 2] : List Int) = [0, 1, 2] := (by kernel_rfl); unfold uniI; rw [hs, hc]
theorem shK1 : atL (exO A1 A2 A3 A4 P1 P2 P3) (tbL a b c d) ⟨e, 1, 1, [1], none, 0, 0, []⟩ 2 RgV.k = [0] := by kernel_rfl
theorem shN : neeF (exO A1 A2 A3 A4 P1 P2 P3) (tbL a b c d) ⟨e, 1, 1, [0], f, 1, 1, [0]⟩ = (2, 0) := by kernel_rfl
theorem shPE : planE [5, 1, 3, 4, 2] 2 = 0 := by kernel_rfl
theorem shPS : planS [5, 1, 3, 4, 2] 2 = 9 := by kernel_rfl
theorem shPG : planG [5, 1, 3, 4, 2] 2 = [[1, 4, 2], [3, 0]] := by kernel_rfl
theorem shTE : printE (exO A1 A2 A3 A4 P1 P2 P3) [⟨a, 2, 2, [0, 2], b, 1, 1, [0]⟩, ⟨none, 0, 0, [], none, 0, 0, []⟩] = 0 := by kernel_rfl
theorem shTX : printX (exO A1 A2 A3 A4 P1 P2 P3) [⟨a, 2, 2, [0, 2], b, 1, 1, [0]⟩, ⟨none, 0, 0, [], none, 0, 0, []⟩] = ⟨#[102, 114, 97, 109, 101, 32, 102, 108, 117, 116, 101, 56, 64, 103, 114, 101, 97, 116, 32, 98, 97, 115, 115, 64, 103, 114, 101, 97, 116, 32, 43, 111, 99, 116, 97, 118, 101, 10, 102, 114, 97, 109, 101, 10]⟩ := by kernel_rfl
end
theorem shAt (A1 A2 A3 A4 P1 P2 P3 : Option Addr) (T a b c d : Option Addr) (ga : Nat) (w : World) (hM : SpM w (exO A1 A2 A3 A4 P1 P2 P3)) (hT : TbM w T 3 3 (tbL a b c d)) (hB : Blk w ga 3 #[.int .i64 1]) :
    Calls Tryz.prog 15 #[.agg #[.slice A1 1 1, .slice A2 2 2, .slice A3 3 3, .slice A4 1 1], .agg #[.slice T 3 3], .int .i64 2, .agg #[.slice (some ⟨ga, 0, none⟩) 1 1, .slice none 0 0]] w fun e w' =>
      (∃ A n c B m d, e = .returned (.tuple #[.agg #[.slice A n c, .slice B m d], .int .i64 0]) ∧ RgM w' ⟨A, n, c, [0, 1, 2], B, m, d, [0]⟩) ∧ Below w.heap.size w w' := by
  refine (At_any (exO A1 A2 A3 A4 P1 P2 P3) T 3 3 (tbL a b c d) 2 ⟨some ⟨ga, 0, none⟩, 1, 1, [1], none, 0, 0, []⟩ w hM (exO_F ..) hT ⟨.of_blk hB rfl rfl, II.nil _ _, ⟨Nat.le_refl _, by show 1 ≤ maxLen; decide⟩, ⟨Nat.le_refl _, Nat.zero_le _⟩⟩ (by decide)).mono ?_; rintro e w' ⟨⟨A, n, c', B, m, d', h1, h2⟩, hb⟩; rw [shE1] at h1; rw [shL1, shK1] at h2; exact ⟨⟨A, n, c', B, m, d', h1, h2⟩, hb⟩
theorem shNeeded (A1 A2 A3 A4 P1 P2 P3 : Option Addr) (T a b c d : Option Addr) (ga gb : Nat) (w : World) (hM : SpM w (exO A1 A2 A3 A4 P1 P2 P3)) (hT : TbM w T 3 3 (tbL a b c d)) (hB : Blk w ga 3 #[.int .i64 0]) (hC : Blk w gb 3 #[.int .i64 0]) :
    Calls Tryz.prog 17 #[.agg #[.slice A1 1 1, .slice A2 2 2, .slice A3 3 3, .slice A4 1 1], .agg #[.slice T 3 3], .agg #[.slice (some ⟨ga, 0, none⟩) 1 1, .slice (some ⟨gb, 0, none⟩) 1 1]] w fun e w' =>
      e = .returned (.tuple #[.int .i64 2, .int .i64 0]) ∧ Below w.heap.size w w' := by
  refine (Needed_any (exO A1 A2 A3 A4 P1 P2 P3) T 3 3 (tbL a b c d) ⟨some ⟨ga, 0, none⟩, 1, 1, [0], some ⟨gb, 0, none⟩, 1, 1, [0]⟩ w hM (exO_F ..) hT ⟨.of_blk hB rfl rfl, .of_blk hC rfl rfl, ⟨Nat.le_refl _, by show 1 ≤ maxLen; decide⟩, ⟨Nat.le_refl _, by show 1 ≤ maxLen; decide⟩⟩).mono ?_; rintro e w' ⟨h1, hb⟩; rw [shN] at h1; exact ⟨h1, hb⟩
theorem shPlan (g : Nat) (w : World) (hB : Blk w g 2 #[.int .i64 5, .int .i64 1, .int .i64 3, .int .i64 4, .int .i64 2]) :
    Calls Tryz.prog 32 #[.slice (some ⟨g, 0, none⟩) 5 5, .int .i64 2] w fun e w' =>
      (∃ A c L, e = .returned (.tuple #[.slice A 2 c, .int .i64 9, .int .i64 0]) ∧ GG w' A 2 L ∧ L.map SlV.l = [[1, 4, 2], [3, 0]]) ∧ Below w.heap.size w w' := by
  refine (crPlan_any (some ⟨g, 0, none⟩) 5 5 [5, 1, 3, 4, 2] 2 w (.of_blk hB rfl rfl) (by decide) (by decide)).mono ?_; rintro e w' ⟨⟨A, k, c, L, h1, h2, h3⟩, hb⟩; rw [shPG] at h3; rw [shPS, shPE] at h1; have hk : k = 2 := (by rw [← h2.len]; have := congrArg List.length h3; rw [List.length_map] at this; exact this); subst hk; exact ⟨⟨A, c, L, h1, .of_og h2, h3⟩, hb⟩
theorem shPrint (A1 A2 A3 A4 P1 P2 P3 : Option Addr) (gt ga gb : Nat) (w : World) (hM : SpM w (exO A1 A2 A3 A4 P1 P2 P3)) (hB : Blk w ga 3 #[.int .i64 0, .int .i64 2]) (hC : Blk w gb 3 #[.int .i64 0]) (hT : Blk w gt 33 #[.slice (some ⟨ga, 0, none⟩) 2 2, .slice (some ⟨gb, 0, none⟩) 1 1, .slice none 0 0, .slice none 0 0]) :
    Calls Tryz.prog 43 #[.agg #[.slice A1 1 1, .slice A2 2 2, .slice A3 3 3, .slice A4 1 1], .slice (some ⟨gt, 0, none⟩) 2 2] w fun e w' =>
      e = .returned (.tuple #[.string ⟨#[102, 114, 97, 109, 101, 32, 102, 108, 117, 116, 101, 56, 64, 103, 114, 101, 97, 116, 32, 98, 97, 115, 115, 64, 103, 114, 101, 97, 116, 32, 43, 111, 99, 116, 97, 118, 101, 10, 102, 114, 97, 109, 101, 10]⟩, .int .i64 0]) ∧ Below w.heap.size w w' := by
  refine (crPrint_any (exO A1 A2 A3 A4 P1 P2 P3) (some ⟨gt, 0, none⟩) 2 2 [⟨some ⟨ga, 0, none⟩, 2, 2, [0, 2], some ⟨gb, 0, none⟩, 1, 1, [0]⟩, ⟨none, 0, 0, [], none, 0, 0, []⟩] w hM (exO_F ..) ⟨.of_blk hT (fun _ => rfl) rfl rfl, ⟨Nat.le_refl _, by decide⟩, fun y hy => ?_⟩).mono ?_
  · simp only [List.mem_cons, List.not_mem_nil, or_false] at hy; rcases hy with rfl | rfl
    · exact ⟨.of_blk hB rfl rfl, .of_blk hC rfl rfl, ⟨Nat.le_refl _, by show 2 ≤ maxLen; decide⟩, ⟨Nat.le_refl _, by show 1 ≤ maxLen; decide⟩⟩
    · exact ⟨II.nil _ _, II.nil _ _, ⟨Nat.le_refl _, Nat.zero_le _⟩, ⟨Nat.le_refl _, Nat.zero_le _⟩⟩
  · rintro e w' ⟨h1, hb⟩; rw [shTX, shTE] at h1; exact ⟨h1, hb⟩
end Go.Proofs.YtbaojmfkjpnfhaaGreatDoor
namespace Go.Proofs.YtbaojmfkjpnfhaaGreatDoor
set_option linter.unusedSimpArgs false
open Go.RowKit
set_option linter.unusedVariables false
def risK (l : List Int) (lo hi bad : Int) (k : Nat) : Int := if gt l k < lo ∨ hi < gt l k then bad else if 0 < k ∧ gt l k ≤ gt l (k - 1) then 8 else 0
def risE (l : List Int) (lo hi bad : Int) : Int := fstE (risK l lo hi bad) l.length 0
theorem risE_drw (l : List Int) (many : Int) : risE l 0 (many - 1) 4 = drwE l many := by
  unfold risE drwE; congr 1; funext k; unfold risK drwK; have : (gt l k < 0 ∨ many - 1 < gt l k) ↔ (gt l k < 0 ∨ many ≤ gt l k) := (by omega); simp only [this]
set_option maxHeartbeats 3200000 in
set_option maxRecDepth 100000 in
theorem rising_any (A : Option Addr) (n c : Nat) (l : List Int) (lo hi bad : Int) (w : World) (hl : II w A n l) (hn : n ≤ maxLen) (hbad : bad ≠ 0) :
    Calls Tryz.prog 120 #[.slice A n c, .int .i64 lo, .int .i64 hi, .int .i64 bad] w fun e w' => e = .returned (.int .i64 (risE l lo hi bad)) ∧ Below w.heap.size w w' := by
  have HL : Sl _ := ⟨hl⟩; obtain ⟨X, hX⟩ : ∃ X, risE l lo hi bad = X := ⟨_, rfl⟩; have HX : Sl (fstE (risK l lo hi bad) n 0 = X) := ⟨by rw [← hl.1]; exact hX⟩; rw [hX]; unfold maxLen at hn; have HBAD : Sl (bad ≠ 0) := ⟨hbad⟩; clear hbad; clear hl hX; go_enter Tryz.func120, Tryz.ntmps120; go_wp2_with fail
  go_loopw [9] (fun s9 wv => ∃ k : Nat, k ≤ n ∧ s9 = .int .i64 (k : Int) ∧ Sl (Below w.heap.size w wv) ∧ Sl (fstE (risK l lo hi bad) (n - k) k = X)) (fun s9 _ => n - (RowKit.intOf s9).toNat)
  case atStart => exact ⟨0, Nat.zero_le _, rfl, ⟨Below.refl _ _⟩, HX⟩
  case round =>
    obtain ⟨k, hk, rfl, HB, HK⟩ := hrel; have hn63 : (n : Int) ≤ 9223372036854775807 := (by omega)
    by_cases hkn : k < n
    · have hkI : decide ((k : Int) < (n : Int)) = true := decide_eq_true (by omega); have hkI2 : (k : Int) < (n : Int) := (by omega); have hk0 : (0 : Int) ≤ (k : Int) := (by omega); obtain ⟨ad, hA, hab, c1⟩ := (HL.out.below HB.out).cell (j := k) hkn; have hSU := fstE_succ (risK l lo hi bad) hkn; rw [HK.out] at hSU; have HS2 : Sl _ := ⟨hSU⟩; have HRK : Sl (risK l lo hi bad k = if gt l k < lo ∨ hi < gt l k then bad else if 0 < k ∧ gt l k ≤ gt l (k - 1) then 8 else 0) := ⟨rfl⟩; obtain ⟨z, hz⟩ : ∃ z, gt l k = z := ⟨_, rfl⟩; rw [hz] at c1 HRK; have HZ : Sl _ := ⟨hz⟩; rw [hA]; have HA : Sl _ := ⟨hA⟩; have HKN : Sl (k < n) := ⟨hkn⟩; clear hz hA hSU hkn
      by_cases p1 : z < lo
      · have p1d : decide (z < lo) = true := decide_eq_true p1
        have HV : Sl (X = bad) := ⟨by
          have hr : risK l lo hi bad k = bad := (by rw [HRK.out, if_pos (.inl p1)])
          rw [HS2.out, hr, if_neg HBAD.out]⟩
        go_wp2_with fail; go_ret; exact ⟨by first | (rw [HV.out]; rfl) | rw [HV.out], HB.out⟩
      · have p1d : decide (z < lo) = false := decide_eq_false p1
        by_cases p2 : hi < z
        · have p2d : decide (hi < z) = true := decide_eq_true p2
          have HV : Sl (X = bad) := ⟨by
            have hr : risK l lo hi bad k = bad := (by rw [HRK.out, if_pos (.inr p2)])
            rw [HS2.out, hr, if_neg HBAD.out]⟩
          go_wp2_with fail; go_ret; exact ⟨by first | (rw [HV.out]; rfl) | rw [HV.out], HB.out⟩
        · have p2d : decide (hi < z) = false := decide_eq_false p2; replace HRK : Sl (risK l lo hi bad k = if 0 < k ∧ z ≤ gt l (k - 1) then 8 else 0) := ⟨by rw [HRK.out, if_neg (by omega)]⟩; have hS0 : Below wr.heap.size wr wr.drew := below_drewN (Below.refl _ _) 1; go_wp2_with fail
          by_cases hk00 : k = 0
          · have HR : Sl (risK l lo hi bad k = 0) := ⟨by rw [HRK.out, if_neg (by omega)]⟩; rw [HR.out, if_pos rfl] at HS2; have HS3 : Sl _ := ⟨HS2.out.symm⟩; have hkz : decide ((0 : Int) < (k : Int)) = false := decide_eq_false (by omega); have HKZ : Sl (k = 0) := ⟨hk00⟩; clear hk00; have hm := hS0; refine wp_region_held_drew (S := fun w' => Below wr.heap.size wr w') (by kernel_rfl) hm (fun hHeld => ?_); clear hm; refine wpAnyH_pure 0 (v := .int .i64 (k : Int)) rfl (by kernel_rfl) (by kernel_rfl) (by kernel_rfl) (fun _ _ _ h => h) rfl (fun _ => rfl) (by assumption) ?_; simp only [Act.put, sS0, sS1, sS2]; refine wpAnyH_pure 1 (v := .bool false) rfl (by kernel_rfl) (by kernel_rfl) (by kernel_rfl) (fun _ _ _ h => h) rfl (fun _ => by go_simp; (try (have := HKZ.out; omega))) (by assumption) ?_; simp only [Act.put, sS0, sS1, sS2]; refine wpAnyH_pure 2 (v := .bool false) rfl (by kernel_rfl) (by kernel_rfl) (by kernel_rfl) (fun _ _ _ h => h) rfl (fun _ => rfl) (by assumption) ?_; simp only [Act.put, sS0, sS1, sS2]; refine wpAnyH_no 3 rfl (by kernel_rfl) (by kernel_rfl) (by kernel_rfl) (fun _ _ _ h => h) (by rfl) (by assumption) ?_; simp only [Act.put, sS0, sS1, sS2]; refine wpAnyH_no 4 rfl (by kernel_rfl) (by kernel_rfl) (by kernel_rfl) (fun _ _ _ h => h) (by rfl) (by assumption) ?_; simp only [Act.put, sS0, sS1, sS2]; refine wpAnyH_no 5 rfl (by kernel_rfl) (by kernel_rfl) (by kernel_rfl) (fun _ _ _ h => h) (by rfl) (by assumption) ?_; simp only [Act.put, sS0, sS1, sS2]; refine wpAnyH_no 6 rfl (by kernel_rfl) (by kernel_rfl) (by kernel_rfl) (fun _ _ _ h => h) (by rfl) (by assumption) ?_; simp only [Act.put, sS0, sS1, sS2]; refine wpAnyH_no 7 rfl (by kernel_rfl) (by kernel_rfl) (by kernel_rfl) (fun _ _ _ h => h) (by rfl) (by assumption) ?_; simp only [Act.put, sS0, sS1, sS2]; refine wpAnyH_no 8 rfl (by kernel_rfl) (by kernel_rfl) (by kernel_rfl) (fun _ _ _ h => h) (by rfl) (by assumption) ?_; simp only [Act.put, sS0, sS1, sS2]; refine wpAnyH_no 9 rfl (by kernel_rfl) (by kernel_rfl) (by kernel_rfl) (fun _ _ _ h => h) (by rfl) (by assumption) ?_; simp only [Act.put, sS0, sS1, sS2]; refine wpAnyH_no 10 rfl (by kernel_rfl) (by kernel_rfl) (by kernel_rfl) (fun _ _ _ h => h) (by rfl) (by assumption) ?_; simp only [Act.put, sS0, sS1, sS2]; refine wpAnyH_no 11 rfl (by kernel_rfl) (by kernel_rfl) (by kernel_rfl) (fun _ _ _ h => h) (by rfl) (by assumption) ?_; simp only [Act.put, sS0, sS1, sS2]; refine wpAnyH_no 12 rfl (by kernel_rfl) (by kernel_rfl) (by kernel_rfl) (fun _ _ _ h => h) (by rfl) (by assumption) ?_; simp only [Act.put, sS0, sS1, sS2]; refine wpAnyH_pure 13 (v := .bool false) rfl (by kernel_rfl) (by kernel_rfl) (by kernel_rfl) (fun _ _ _ h => h) rfl (fun _ => by go_simp) (by assumption) ?_; simp only [Act.put, sS0, sS1, sS2]; refine wpAnyH_done (by kernel_rfl) ?_ _; clear hHeld; go_wp2_with fail; exact ⟨⟨k + 1, HKN.out, by go_num, ⟨below_drewN HB.out 1⟩, HS3⟩, by have := HKN.out; simp [RowKit.intOf]; omega⟩
          · obtain ⟨J, hJ⟩ : ∃ J, k = J + 1 := ⟨k - 1, by omega⟩; obtain ⟨ad2, hA2, hab2, c2⟩ := (HL.out.below HB.out).cell (j := J) (by have := HKN.out; omega); rw [HA.out] at hA2; injection hA2 with hA2
            subst hA2; rw [show k - 1 = J by omega] at HRK; obtain ⟨u, hu⟩ : ∃ u, gt l J = u := ⟨_, rfl⟩; rw [hu] at c2 HRK; have HQ : Sl (∀ W, Below wr.heap.size wr W → W.cell? (ad.add k) = some (.int .i64 z) ∧ W.cell? (ad.add J) = some (.int .i64 u)) := ⟨fun W hW => ⟨(hW.cell (by rw [block_of_add]; exact hab)).trans c1, (hW.cell (by rw [block_of_add]; exact hab)).trans c2⟩⟩; have hJ0 : decide ((0 : Int) < (k : Int)) = true := decide_eq_true (by omega); have hJ1 : (0 : Int) < (k : Int) := (by omega); have hJ3 : (0 : Int) ≤ (J : Int) := (by omega); have hJ4 : (J : Int) < (n : Int) := (by have := HKN.out; omega); have hJw : IntKind.i64.wrap ((k : Int) - 1) = (J : Int) := (by rw [IntKind.wrap_i64]; omega); have HKP : Sl (0 < k) := ⟨by omega⟩; clear hu c2 hab2 hk00 hJ
            by_cases hzu : z ≤ u
            · have hzd : decide (z ≤ u) = true := decide_eq_true hzu
              have HV : Sl (X = 8) := ⟨by
                have hr : risK l lo hi bad k = 8 := (by rw [HRK.out, if_pos ⟨HKP.out, hzu⟩])
                rw [HS2.out, hr, if_neg (by decide)]⟩
              have hm := hS0; refine wp_region_held_drew (S := fun w' => Below wr.heap.size wr w') (by kernel_rfl) hm (fun hHeld => ?_); clear hm; refine wpAnyH_pure 0 (v := .int .i64 (k : Int)) rfl (by kernel_rfl) (by kernel_rfl) (by kernel_rfl) (fun _ _ _ h => h) rfl (fun _ => rfl) (by assumption) ?_; simp only [Act.put, sS0, sS1, sS2]; refine wpAnyH_pure 1 (v := .bool true) rfl (by kernel_rfl) (by kernel_rfl) (by kernel_rfl) (fun _ _ _ h => h) rfl (fun _ => by go_simp; (try (have := HKP.out; omega))) (by assumption) ?_; simp only [Act.put, sS0, sS1, sS2]; refine wpAnyH_pure 2 (v := .bool true) rfl (by kernel_rfl) (by kernel_rfl) (by kernel_rfl) (fun _ _ _ h => h) rfl (fun _ => rfl) (by assumption) ?_; simp only [Act.put, sS0, sS1, sS2]; refine wpAnyH_pureg 3 (v := .slice (some ad) n c) rfl (by kernel_rfl) (by kernel_rfl) (by kernel_rfl) (fun _ _ _ h => h) (by rfl) (fun _ => rfl) (by assumption) ?_; simp only [Act.put, sS0, sS1, sS2]; refine wpAnyH_pureg 4 (v := .int .i64 (k : Int)) rfl (by kernel_rfl) (by kernel_rfl) (by kernel_rfl) (fun _ _ _ h => h) (by rfl) (fun _ => by go_simp) (by assumption) ?_; simp only [Act.put, sS0, sS1, sS2]; refine wpAnyH_pureg 5 (v := .pointer (some (ad.add k))) rfl (by kernel_rfl) (by kernel_rfl) (by kernel_rfl) (fun _ _ _ h => h) (by rfl) (fun _ => by go_simp) (by assumption) ?_; simp only [Act.put, sS0, sS1, sS2]
              refine wpAnyH_cellg 6 (v := .int .i64 z) rfl (by rfl) (fun w' h => by
                have hc := (HQ.out w' h).1
                go_simp) (by kernel_rfl) (by kernel_rfl) (by kernel_rfl) (fun _ _ _ h => h) (by assumption) ?_
              simp only [Act.put, sS0, sS1, sS2]; refine wpAnyH_pureg 7 (v := .slice (some ad) n c) rfl (by kernel_rfl) (by kernel_rfl) (by kernel_rfl) (fun _ _ _ h => h) (by rfl) (fun _ => rfl) (by assumption) ?_; simp only [Act.put, sS0, sS1, sS2]; refine wpAnyH_pureg 8 (v := .int .i64 (k : Int)) rfl (by kernel_rfl) (by kernel_rfl) (by kernel_rfl) (fun _ _ _ h => h) (by rfl) (fun _ => by go_simp) (by assumption) ?_; simp only [Act.put, sS0, sS1, sS2]; refine wpAnyH_pureg 9 (v := .int .i64 (J : Int)) rfl (by kernel_rfl) (by kernel_rfl) (by kernel_rfl) (fun _ _ _ h => h) (by rfl) (fun _ => by go_simp) (by assumption) ?_; simp only [Act.put, sS0, sS1, sS2]; refine wpAnyH_pureg 10 (v := .pointer (some (ad.add J))) rfl (by kernel_rfl) (by kernel_rfl) (by kernel_rfl) (fun _ _ _ h => h) (by rfl) (fun _ => by go_simp) (by assumption) ?_; simp only [Act.put, sS0, sS1, sS2]
              refine wpAnyH_cellg 11 (v := .int .i64 u) rfl (by rfl) (fun w' h => by
                have hc := (HQ.out w' h).2
                go_simp) (by kernel_rfl) (by kernel_rfl) (by kernel_rfl) (fun _ _ _ h => h) (by assumption) ?_
              simp only [Act.put, sS0, sS1, sS2]; refine wpAnyH_pureg 12 (v := .bool true) rfl (by kernel_rfl) (by kernel_rfl) (by kernel_rfl) (fun _ _ _ h => h) (by rfl) (fun _ => by go_simp) (by assumption) ?_; simp only [Act.put, sS0, sS1, sS2]; refine wpAnyH_pure 13 (v := .bool true) rfl (by kernel_rfl) (by kernel_rfl) (by kernel_rfl) (fun _ _ _ h => h) rfl (fun _ => by go_simp) (by assumption) ?_; simp only [Act.put, sS0, sS1, sS2]; refine wpAnyH_done (by kernel_rfl) ?_ _; clear hHeld; go_wp2_with fail; go_ret; exact ⟨by first | (rw [HV.out]; rfl) | rw [HV.out], below_drewN HB.out 1⟩
            · have hzd : decide (z ≤ u) = false := decide_eq_false hzu; have HR : Sl (risK l lo hi bad k = 0) := ⟨by rw [HRK.out, if_neg (fun h => hzu h.2)]⟩; rw [HR.out, if_pos rfl] at HS2; have HS3 : Sl _ := ⟨HS2.out.symm⟩; have hm := hS0; refine wp_region_held_drew (S := fun w' => Below wr.heap.size wr w') (by kernel_rfl) hm (fun hHeld => ?_); clear hm; refine wpAnyH_pure 0 (v := .int .i64 (k : Int)) rfl (by kernel_rfl) (by kernel_rfl) (by kernel_rfl) (fun _ _ _ h => h) rfl (fun _ => rfl) (by assumption) ?_; simp only [Act.put, sS0, sS1, sS2]; refine wpAnyH_pure 1 (v := .bool true) rfl (by kernel_rfl) (by kernel_rfl) (by kernel_rfl) (fun _ _ _ h => h) rfl (fun _ => by go_simp; (try (have := HKP.out; omega))) (by assumption) ?_; simp only [Act.put, sS0, sS1, sS2]; refine wpAnyH_pure 2 (v := .bool true) rfl (by kernel_rfl) (by kernel_rfl) (by kernel_rfl) (fun _ _ _ h => h) rfl (fun _ => rfl) (by assumption) ?_; simp only [Act.put, sS0, sS1, sS2]; refine wpAnyH_pureg 3 (v := .slice (some ad) n c) rfl (by kernel_rfl) (by kernel_rfl) (by kernel_rfl) (fun _ _ _ h => h) (by rfl) (fun _ => rfl) (by assumption) ?_; simp only [Act.put, sS0, sS1, sS2]; refine wpAnyH_pureg 4 (v := .int .i64 (k : Int)) rfl (by kernel_rfl) (by kernel_rfl) (by kernel_rfl) (fun _ _ _ h => h) (by rfl) (fun _ => by go_simp) (by assumption) ?_; simp only [Act.put, sS0, sS1, sS2]; refine wpAnyH_pureg 5 (v := .pointer (some (ad.add k))) rfl (by kernel_rfl) (by kernel_rfl) (by kernel_rfl) (fun _ _ _ h => h) (by rfl) (fun _ => by go_simp) (by assumption) ?_; simp only [Act.put, sS0, sS1, sS2]
              refine wpAnyH_cellg 6 (v := .int .i64 z) rfl (by rfl) (fun w' h => by
                have hc := (HQ.out w' h).1
                go_simp) (by kernel_rfl) (by kernel_rfl) (by kernel_rfl) (fun _ _ _ h => h) (by assumption) ?_
              simp only [Act.put, sS0, sS1, sS2]; refine wpAnyH_pureg 7 (v := .slice (some ad) n c) rfl (by kernel_rfl) (by kernel_rfl) (by kernel_rfl) (fun _ _ _ h => h) (by rfl) (fun _ => rfl) (by assumption) ?_; simp only [Act.put, sS0, sS1, sS2]; refine wpAnyH_pureg 8 (v := .int .i64 (k : Int)) rfl (by kernel_rfl) (by kernel_rfl) (by kernel_rfl) (fun _ _ _ h => h) (by rfl) (fun _ => by go_simp) (by assumption) ?_; simp only [Act.put, sS0, sS1, sS2]; refine wpAnyH_pureg 9 (v := .int .i64 (J : Int)) rfl (by kernel_rfl) (by kernel_rfl) (by kernel_rfl) (fun _ _ _ h => h) (by rfl) (fun _ => by go_simp) (by assumption) ?_; simp only [Act.put, sS0, sS1, sS2]; refine wpAnyH_pureg 10 (v := .pointer (some (ad.add J))) rfl (by kernel_rfl) (by kernel_rfl) (by kernel_rfl) (fun _ _ _ h => h) (by rfl) (fun _ => by go_simp) (by assumption) ?_; simp only [Act.put, sS0, sS1, sS2]
              refine wpAnyH_cellg 11 (v := .int .i64 u) rfl (by rfl) (fun w' h => by
                have hc := (HQ.out w' h).2
                go_simp) (by kernel_rfl) (by kernel_rfl) (by kernel_rfl) (fun _ _ _ h => h) (by assumption) ?_
              simp only [Act.put, sS0, sS1, sS2]; refine wpAnyH_pureg 12 (v := .bool false) rfl (by kernel_rfl) (by kernel_rfl) (by kernel_rfl) (fun _ _ _ h => h) (by rfl) (fun _ => by go_simp) (by assumption) ?_; simp only [Act.put, sS0, sS1, sS2]; refine wpAnyH_pure 13 (v := .bool false) rfl (by kernel_rfl) (by kernel_rfl) (by kernel_rfl) (fun _ _ _ h => h) rfl (fun _ => by go_simp) (by assumption) ?_; simp only [Act.put, sS0, sS1, sS2]; refine wpAnyH_done (by kernel_rfl) ?_ _; clear hHeld; go_wp2_with fail; exact ⟨⟨k + 1, HKN.out, by go_num, ⟨below_drewN HB.out 1⟩, HS3⟩, by have := HKN.out; simp [RowKit.intOf]; omega⟩
    · obtain rfl : n = k := (by omega); have hkI : decide ((n : Int) < (n : Int)) = false := (by simp); have HV : Sl (X = 0) := ⟨by rw [← HK.out, Nat.sub_self]; rfl⟩; go_wp2_with fail; go_ret; exact ⟨by rw [HV.out]; rfl, HB.out⟩
set_option maxHeartbeats 3200000 in
set_option maxRecDepth 100000 in
theorem rcheck12_any (o : SpO) (r : RgV) (gk : Nat) (w : World) (hM : SpM w o) (hF : SpF o) (hr : RgM w r) (hk : ∀ j, j < o.n1 → w.cell? ⟨gk, j, none⟩ = some (.slice none 0 0)) (hgk : gk < w.heap.size) :
    Calls Tryz.prog 60 #[.agg #[.slice o.A1 o.n1 o.c1, .slice o.A2 o.n2 o.c2, .slice o.A3 o.n3 o.c3, .slice o.A4 o.n4 o.c4], .agg #[.slice (some ⟨gk, 0, none⟩) o.n1 o.n1, .slice r.A r.n r.c, .slice r.B r.m r.d]] w fun e w' => e = .returned (.int .i64 (if specE o = 0 then regE o r else specE o)) ∧ Below w.heap.size w w' := by
  have HD : Sl (Lg w w []) := ⟨Lg.nil w⟩; have HM : Sl _ := ⟨hM⟩; have HF : Sl _ := ⟨hF⟩; have HR : Sl _ := ⟨hr⟩; have HK : Sl _ := ⟨hk⟩; have HGK : Sl _ := ⟨hgk⟩; obtain ⟨X, hX⟩ : ∃ X, (if specE o = 0 then regE o r else specE o) = X := ⟨_, rfl⟩; have HX : Sl _ := ⟨hX⟩; rw [hX]; clear hM hF hr hk hgk hX; go_enter Tryz.func60, Tryz.ntmps60
  go_wp2_with ((with_reducible show wpList _ _ _ _ _ _); first
    | (refine wpList_box_new 2 rfl rfl 27 (.tmp 0) rfl #[.slice o.A1 o.n1 o.c1, .slice o.A2 o.n2 o.c2, .slice o.A3 o.n3 o.c3, .slice o.A4 o.n4 o.c4] rfl (fun _ => by kernel_rfl) ?_; rintro w1 g2 zg zm zs zb; replace HD : Sl _ := ⟨HD.out.new zg zm zb⟩; clear zg zm zs zb)
    | (refine wpList_box_new 3 rfl rfl 115 (.tmp 1) rfl #[.slice (some ⟨gk, 0, none⟩) o.n1 o.n1, .slice r.A r.n r.c, .slice r.B r.m r.d] rfl (fun _ => by kernel_rfl) ?_; rintro w2 g3 zg zm zs zb; replace HD : Sl _ := ⟨HD.out.new zg zm zb⟩; clear zg zm zs zb)
    | (refine wpList_load_whole rfl 27 (.tmp 2) rfl g2 rfl 27 _ _ (HD.out.at_ 1 rfl) Tryz.underlying27 rfl (by kernel_rfl) ?_))
  refine (rcheck_any o _ (HM.out.below HD.out.bl) HF.out).mono ?_; rintro e w4 ⟨⟨a, b, c, rfl⟩, hb4⟩; replace HD : Sl _ := ⟨HD.out.below hb4⟩; clear hb4; have HSB : Sl (specE o = 0 → o.n1 ≤ 6 ∧ o.n2 ≤ 40 ∧ o.n3 ≤ 80 ∧ o.n4 ≤ 24) := ⟨specE_bd⟩; obtain ⟨z, hz⟩ : ∃ z, specE o = z := ⟨_, rfl⟩; rw [hz] at HX HSB ⊢; clear hz
  by_cases hz0 : z = 0
  · subst hz0; rw [if_pos rfl] at HX; have hzz : ((0 : Int) != 0) = false := (by decide); have HN : Sl _ := ⟨HSB.out rfl⟩; clear HSB
    go_upto_region 2 with ((with_reducible show wpList _ _ _ _ _ _); first
      | (refine wpList_alloc_new 5 rfl rfl 80 rfl #[.int .i64 0, .int .i64 0, .int .i64 0] (fun _ => by kernel_rfl) ?_; rintro w5 g5 zg zm zs zb; replace HD : Sl _ := ⟨HD.out.new zg zm zb⟩; clear zg zm zs zb)
      | (refine wpList_store_whole rfl 80 (.tmp 5) (.tmp 13) rfl g5 #[.int .i64 a, .int .i64 b, .int .i64 c] rfl rfl 80 _ (HD.out.at_ 0 rfl) rfl (by kernel_rfl) (by simp [Value.oneCell']) ?_; rintro w6 zm zs zb; replace HD : Sl _ := ⟨HD.out.upd zm zb⟩; clear zm zs zb))
    have c0 : w6.cell? ⟨g3, 0, none⟩ = some (.slice (some ⟨gk, 0, none⟩) o.n1 o.n1) := (HD.out.at_ 1 rfl).cell 0; have c1 : w6.cell? ⟨g2, 0, none⟩ = some (.slice o.A1 o.n1 o.c1) := (HD.out.at_ 2 rfl).cell 0; have hnn : ((o.n1 : Int) != (o.n1 : Int)) = false := (by simp); go_wp2_with fail; clear c0 c1 hnn
    go_loopw [7] (fun s7 wv => ∃ k : Nat, k ≤ o.n1 ∧ s7 = .int .i64 (k : Int) ∧ Sl (Lg w wv [(g5, 80, #[.int .i64 a, .int .i64 b, .int .i64 c]), (g3, 115, #[.slice (some ⟨gk, 0, none⟩) o.n1 o.n1, .slice r.A r.n r.c, .slice r.B r.m r.d]), (g2, 27, #[.slice o.A1 o.n1 o.c1, .slice o.A2 o.n2 o.c2, .slice o.A3 o.n3 o.c3, .slice o.A4 o.n4 o.c4])])) (fun s7 _ => o.n1 - (RowKit.intOf s7).toNat)
    case atStart => exact ⟨0, Nat.zero_le _, rfl, HD⟩
    case round =>
      clear HD; obtain ⟨k, hk, rfl, HD⟩ := hrel; have c0 : wr.cell? ⟨g3, 0, none⟩ = some (.slice (some ⟨gk, 0, none⟩) o.n1 o.n1) := (HD.out.at_ 1 rfl).cell 0
      by_cases hkn : k < o.n1
      · have hkI : decide ((k : Int) < (o.n1 : Int)) = true := decide_eq_true (by omega); have hkI2 : (k : Int) < (o.n1 : Int) := (by omega); have hk0 : (0 : Int) ≤ (k : Int) := (by omega); have HKN : Sl (k < o.n1 ∧ o.n1 ≤ 6) := ⟨hkn, HN.out.1⟩; obtain ⟨gd, od, hA, hgd, hall⟩ := HM.out.d.all_ (by decide) (show 0 < o.n1 by omega); obtain ⟨d, hd, _⟩ := hall w (Below.refl _ _) k hkn; have HA : Sl _ := ⟨hA⟩
        have HDR : Sl (∀ W, Below w.heap.size w W → W.cell? ⟨gd, od + k * 3 + 1, none⟩ = some (.int .i64 d.lo) ∧ W.cell? ⟨gd, od + k * 3 + 2, none⟩ = some (.int .i64 d.hi)) := ⟨fun W hW => by
          obtain ⟨x2, hx2, h2⟩ := hall W hW k HKN.out.1; rw [hd] at hx2; injection hx2 with hx2
          subst hx2
          exact ⟨h2 1 _ rfl, h2 2 _ rfl⟩⟩
        have HQ : Sl (∀ W, Below wr.heap.size wr W → Lg w W [(g5, 80, #[.int .i64 a, .int .i64 b, .int .i64 c]), (g3, 115, #[.slice (some ⟨gk, 0, none⟩) o.n1 o.n1, .slice r.A r.n r.c, .slice r.B r.m r.d]), (g2, 27, #[.slice o.A1 o.n1 o.c1, .slice o.A2 o.n2 o.c2, .slice o.A3 o.n3 o.c3, .slice o.A4 o.n4 o.c4])]) := ⟨fun W hW => HD.out.below hW⟩; have hS0 : Below wr.heap.size wr wr.drew := below_drewN (Below.refl _ _) 1; have HS0 : Sl _ := ⟨hS0⟩; clear hA hgd hall hd hkn; go_wp2_with fail; clear c0; have hm := hS0; refine wp_region_held_drew (S := fun w' => Below wr.heap.size wr w') (by kernel_rfl) hm (fun hHeld => ?_); clear hm; refine wpAnyH_pure 0 (v := .pointer (some ⟨g3, 0, none⟩)) rfl (by kernel_rfl) (by kernel_rfl) (by kernel_rfl) (fun _ _ _ h => h) rfl (fun _ => by go_simp) (by assumption) ?_; simp only [Act.put, sS0, sS1, sS2]
        refine wpAnyH_cell 1 (v := .slice (some ⟨gk, 0, none⟩) o.n1 o.n1) rfl rfl (fun w' h => by
          have hc := ((HQ.out w' h).at_ 1 rfl).cell 0
          go_simp) (by kernel_rfl) (by kernel_rfl) (by kernel_rfl) (fun _ _ _ h => h) (by assumption) ?_
        simp only [Act.put, sS0, sS1, sS2]; refine wpAnyH_pure 2 (v := .int .i64 (k : Int)) rfl (by kernel_rfl) (by kernel_rfl) (by kernel_rfl) (fun _ _ _ h => h) rfl (fun _ => rfl) (by assumption) ?_; simp only [Act.put, sS0, sS1, sS2]; refine wpAnyH_pure 3 (v := .pointer (some ⟨gk, k, none⟩)) rfl (by kernel_rfl) (by kernel_rfl) (by kernel_rfl) (fun _ _ _ h => h) rfl (fun _ => by go_simp) (by assumption) ?_; simp only [Act.put, sS0, sS1, sS2]
        refine wpAnyH_cell 4 (v := .slice none 0 0) rfl rfl (fun w' h => by
          have hc := ((HQ.out w' h).bl.cell (p := ⟨gk, k, none⟩) HGK.out).trans (HK.out k HKN.out.1)
          go_simp) (by kernel_rfl) (by kernel_rfl) (by kernel_rfl) (fun _ _ _ h => h) (by assumption) ?_
        simp only [Act.put, sS0, sS1, sS2]; refine wpAnyH_pure 5 (v := .pointer (some ⟨g2, 0, none⟩)) rfl (by kernel_rfl) (by kernel_rfl) (by kernel_rfl) (fun _ _ _ h => h) rfl (fun _ => by go_simp) (by assumption) ?_; simp only [Act.put, sS0, sS1, sS2]
        refine wpAnyH_cell 6 (v := .slice (some ⟨gd, od, none⟩) o.n1 o.c1) rfl rfl (fun w' h => by
          have hc := (((HQ.out w' h).at_ 2 rfl).cell 0).trans (show _ = some (.slice (some ⟨gd, od, none⟩) o.n1 o.c1) by rw [← HA.out]; rfl)
          go_simp) (by kernel_rfl) (by kernel_rfl) (by kernel_rfl) (fun _ _ _ h => h) (by assumption) ?_
        simp only [Act.put, sS0, sS1, sS2]; refine wpAnyH_pure 7 (v := .int .i64 (k : Int)) rfl (by kernel_rfl) (by kernel_rfl) (by kernel_rfl) (fun _ _ _ h => h) rfl (fun _ => rfl) (by assumption) ?_; simp only [Act.put, sS0, sS1, sS2]; refine wpAnyH_pure 8 (v := .pointer (some ⟨gd, od + k * 3, none⟩)) rfl (by kernel_rfl) (by kernel_rfl) (by kernel_rfl) (fun _ _ _ h => h) rfl (fun _ => by go_simp) (by assumption) ?_; simp only [Act.put, sS0, sS1, sS2]; refine wpAnyH_pure 9 (v := .pointer (some ⟨gd, od + k * 3 + 1, none⟩)) rfl (by kernel_rfl) (by kernel_rfl) (by kernel_rfl) (fun _ _ _ h => h) rfl (fun _ => by go_simp) (by assumption) ?_; simp only [Act.put, sS0, sS1, sS2]
        refine wpAnyH_cell 10 (v := .int .i64 d.lo) rfl rfl (fun w' h => by
          have hc := (HDR.out w' (HQ.out w' h).bl).1
          go_simp) (by kernel_rfl) (by kernel_rfl) (by kernel_rfl) (fun _ _ _ h => h) (by assumption) ?_
        simp only [Act.put, sS0, sS1, sS2]; refine wpAnyH_pure 11 (v := .pointer (some ⟨g2, 0, none⟩)) rfl (by kernel_rfl) (by kernel_rfl) (by kernel_rfl) (fun _ _ _ h => h) rfl (fun _ => by go_simp) (by assumption) ?_; simp only [Act.put, sS0, sS1, sS2]
        refine wpAnyH_cell 12 (v := .slice (some ⟨gd, od, none⟩) o.n1 o.c1) rfl rfl (fun w' h => by
          have hc := (((HQ.out w' h).at_ 2 rfl).cell 0).trans (show _ = some (.slice (some ⟨gd, od, none⟩) o.n1 o.c1) by rw [← HA.out]; rfl)
          go_simp) (by kernel_rfl) (by kernel_rfl) (by kernel_rfl) (fun _ _ _ h => h) (by assumption) ?_
        simp only [Act.put, sS0, sS1, sS2]; refine wpAnyH_pure 13 (v := .int .i64 (k : Int)) rfl (by kernel_rfl) (by kernel_rfl) (by kernel_rfl) (fun _ _ _ h => h) rfl (fun _ => rfl) (by assumption) ?_; simp only [Act.put, sS0, sS1, sS2]; refine wpAnyH_pure 14 (v := .pointer (some ⟨gd, od + k * 3, none⟩)) rfl (by kernel_rfl) (by kernel_rfl) (by kernel_rfl) (fun _ _ _ h => h) rfl (fun _ => by go_simp) (by assumption) ?_; simp only [Act.put, sS0, sS1, sS2]; refine wpAnyH_pure 15 (v := .pointer (some ⟨gd, od + k * 3 + 2, none⟩)) rfl (by kernel_rfl) (by kernel_rfl) (by kernel_rfl) (fun _ _ _ h => h) rfl (fun _ => by go_simp) (by assumption) ?_; simp only [Act.put, sS0, sS1, sS2]
        refine wpAnyH_cell 16 (v := .int .i64 d.hi) rfl rfl (fun w' h => by
          have hc := (HDR.out w' (HQ.out w' h).bl).2
          go_simp) (by kernel_rfl) (by kernel_rfl) (by kernel_rfl) (fun _ _ _ h => h) (by assumption) ?_
        simp only [Act.put, sS0, sS1, sS2]; refine wpAnyH_one 17 rfl (by kernel_rfl) rfl (fun K hK => ?_); go_simp; go_at_call 120
        (with_reducible refine (rising_any none 0 0 [] d.lo d.hi 7 _ (II.nil _ _) (Nat.zero_le _) (by decide)).mono ?_)
        rintro e4 w7 ⟨rfl, hb4⟩; have hb5 : Below wr.heap.size wr w7 := HS0.out.trans (hb4.mono HS0.out.size); have HB5 : Sl _ := ⟨hb5⟩; clear hb4 hb5; rw [show risE [] d.lo d.hi 7 = 0 from rfl]; refine hK.out _ _ HB5.out (fun hHeld => ?_); clear hK K
        (try simp only [Act.put, sS0, sS1, sS2])
        refine wpAnyH_pure 18 (v := .int .i64 0) rfl (by kernel_rfl) (by kernel_rfl) (by kernel_rfl) (fun _ _ _ h => h) rfl (fun _ => rfl) (by assumption) ?_; simp only [Act.put, sS0, sS1, sS2]; refine wpAnyH_done (by kernel_rfl) ?_ _; clear hHeld; have hzz : ((0 : Int) != 0) = false := (by decide); have hn6 : (o.n1 : Int) ≤ 6 := (by have := HKN.out; omega); go_wp2_with fail; exact ⟨⟨k + 1, HKN.out.1, by go_num, ⟨HQ.out _ HB5.out⟩⟩, by have := HKN.out; simp [RowKit.intOf]; omega⟩
      · obtain rfl : o.n1 = k := (by omega); have hkI : decide ((o.n1 : Int) < (o.n1 : Int)) = false := (by simp); have c1 : wr.cell? ⟨g3, 1, none⟩ = some (.slice r.A r.n r.c) := (HD.out.at_ 1 rfl).cell 1; have c2 : wr.cell? ⟨g3, 2, none⟩ = some (.slice r.B r.m r.d) := (HD.out.at_ 1 rfl).cell 2; have c3 : wr.cell? ⟨g2, 2, none⟩ = some (.slice o.A3 o.n3 o.c3) := (HD.out.at_ 2 rfl).cell 2; have c4 : wr.cell? ⟨g2, 3, none⟩ = some (.slice o.A4 o.n4 o.c4) := (HD.out.at_ 2 rfl).cell 3; have hw3 : IntKind.i64.wrap ((o.n3 : Int) - 1) = (o.n3 : Int) - 1 := (by have := HN.out; rw [IntKind.wrap_i64]; omega); have hw4 : IntKind.i64.wrap ((o.n4 : Int) - 1) = (o.n4 : Int) - 1 := (by have := HN.out; rw [IntKind.wrap_i64]; omega); have HRE : Sl (regE o r = if drwE r.l (o.n3 : Int) = 0 then drwE r.k (o.n4 : Int) else drwE r.l (o.n3 : Int)) := ⟨rfl⟩; rw [HRE.out] at HX; clear HRE hkn hk; go_wp2_with fail; refine (rising_any r.A r.n r.c r.l 0 ((o.n3 : Int) - 1) 4 _ (HR.out.below HD.out.bl).s (Nat.le_trans HR.out.sc.1 HR.out.sc.2) (by decide)).mono ?_; rintro e w7 ⟨rfl, hb7⟩; rw [risE_drw]; replace HD : Sl _ := ⟨HD.out.below hb7⟩; clear hb7 c0 c1 c2 c3 c4 hw3; obtain ⟨y, hy⟩ : ∃ y, drwE r.l (o.n3 : Int) = y := ⟨_, rfl⟩; rw [hy] at HX ⊢; clear hy
        by_cases hy0 : y = 0
        · subst hy0; rw [if_pos rfl] at HX; have hyy : ((0 : Int) == 0) = true := (by decide); have c2 : w7.cell? ⟨g3, 2, none⟩ = some (.slice r.B r.m r.d) := (HD.out.at_ 1 rfl).cell 2; have c4 : w7.cell? ⟨g2, 3, none⟩ = some (.slice o.A4 o.n4 o.c4) := (HD.out.at_ 2 rfl).cell 3; go_wp2_with fail; refine (rising_any r.B r.m r.d r.k 0 ((o.n4 : Int) - 1) 4 _ (HR.out.below HD.out.bl).c (Nat.le_trans HR.out.cc.1 HR.out.cc.2) (by decide)).mono ?_; rintro e w8 ⟨rfl, hb8⟩; rw [risE_drw]; replace HD : Sl _ := ⟨HD.out.below hb8⟩; clear hb8 c2 c4; rw [HX.out]; go_wp2_with fail; go_ret; exact ⟨rfl, HD.out.bl⟩
        · rw [if_neg hy0] at HX; have hyy : (y == 0) = false := (by simpa using hy0); rw [HX.out]; rw [HX.out] at hyy; go_wp2_with fail; go_ret; exact ⟨rfl, HD.out.bl⟩
  · rw [if_neg hz0] at HX; have hzz : (z != 0) = true := (by simpa using hz0); clear hz0 HSB
    go_wp2_with ((with_reducible show wpList _ _ _ _ _ _); first
      | (refine wpList_alloc_new 5 rfl rfl 80 rfl #[.int .i64 0, .int .i64 0, .int .i64 0] (fun _ => by kernel_rfl) ?_; rintro w5 g5 zg zm zs zb; replace HD : Sl _ := ⟨HD.out.new zg zm zb⟩; clear zg zm zs zb)
      | (refine wpList_store_whole rfl 80 (.tmp 5) (.tmp 13) rfl g5 #[.int .i64 a, .int .i64 b, .int .i64 c] rfl rfl 80 _ (HD.out.at_ 0 rfl) rfl (by kernel_rfl) (by simp [Value.oneCell']) ?_; rintro w6 zm zs zb; replace HD : Sl _ := ⟨HD.out.upd zm zb⟩; clear zm zs zb))
    go_ret; exact ⟨by first | (rw [HX.out]; rfl) | rw [HX.out], HD.out.bl⟩
theorem make_irows (n : Nat) (hn : n ≤ 1000000) (W : World) : (Instr.makeSlice 67 (.int .i64 (n : Int)) (.int .i64 (n : Int))).run Tryz.prog W = .ok (.slice (some ⟨W.heap.size, 0, none⟩) n n) (W.alloc (.cells (madeCells #[.slice none 0 0] n) 31)) := by
  obtain ⟨i, h1, h2, h3, h4⟩ := infoSl; have h := run_make (P := Tryz.prog) W 67 31 i _ Tryz.underlying67 h1 h2 .i64 .i64 (n : Int) (n : Int) (by omega) (Int.le_refl _) (by rw [h4]; omega) (by omega); rw [h3] at h; simpa [Value.cells] using h
theorem madeR {z : Value} {n j : Nat} (hj : j < n) : (madeCells #[z] n)[j]? = some z := by
  unfold madeCells; simp [hj, Nat.mod_one]
set_option maxHeartbeats 3200000 in
set_option maxRecDepth 100000 in
theorem rreg_any (o : SpO) (r : RgV) (w : World) (hM : SpM w o) (hF : SpF o) (hr : RgM w r) (hn1 : o.n1 ≤ 1000) :
    Calls Tryz.prog 22 #[.agg #[.slice o.A1 o.n1 o.c1, .slice o.A2 o.n2 o.c2, .slice o.A3 o.n3 o.c3, .slice o.A4 o.n4 o.c4], .agg #[.slice r.A r.n r.c, .slice r.B r.m r.d]] w fun e w' => e = .returned (.int .i64 (if specE o = 0 then regE o r else specE o)) ∧ Below w.heap.size w w' := by
  have HD : Sl (Lg w w []) := ⟨Lg.nil w⟩; have HM : Sl _ := ⟨hM⟩; have HF : Sl _ := ⟨hF⟩; have HR : Sl _ := ⟨hr⟩; have HN1 : Sl _ := ⟨hn1⟩; obtain ⟨X, hX⟩ : ∃ X, (if specE o = 0 then regE o r else specE o) = X := ⟨_, rfl⟩; have HX : Sl _ := ⟨hX⟩; rw [hX]; clear hM hF hr hX hn1; go_enter Tryz.func22, Tryz.ntmps22
  go_wp2_with ((with_reducible show wpList _ _ _ _ _ _); first
    | (refine wpList_box_new 2 rfl rfl 27 (.tmp 0) rfl #[.slice o.A1 o.n1 o.c1, .slice o.A2 o.n2 o.c2, .slice o.A3 o.n3 o.c3, .slice o.A4 o.n4 o.c4] rfl (fun _ => by kernel_rfl) ?_; rintro w1 g2 zg zm zs zb; replace HD : Sl _ := ⟨HD.out.new zg zm zb⟩; clear zg zm zs zb)
    | (refine wpList_box_new 3 rfl rfl 33 (.tmp 1) rfl #[.slice r.A r.n r.c, .slice r.B r.m r.d] rfl (fun _ => by kernel_rfl) ?_; rintro w2 g3 zg zm zs zb; replace HD : Sl _ := ⟨HD.out.new zg zm zb⟩; clear zg zm zs zb))
  have hS0 : Below w2.heap.size w2 w2.drew := below_drewN (Below.refl _ _) 1; have HS0 : Sl _ := ⟨hS0⟩; have HQ : Sl (∀ W, Below w2.heap.size w2 W → Lg w W [(g3, 33, #[.slice r.A r.n r.c, .slice r.B r.m r.d]), (g2, 27, #[.slice o.A1 o.n1 o.c1, .slice o.A2 o.n2 o.c2, .slice o.A3 o.n3 o.c3, .slice o.A4 o.n4 o.c4])]) := ⟨fun W hW => HD.out.below hW⟩; have hm := hS0; refine wp_region_held_drew (S := fun w' => Below w2.heap.size w2 w') (by kernel_rfl) hm (fun hHeld => ?_); clear hm
  refine wpAnyH_load 0 27 (.tmp 2) rfl rfl rfl g2 0 rfl #[.slice o.A1 o.n1 o.c1, .slice o.A2 o.n2 o.c2, .slice o.A3 o.n3 o.c3, .slice o.A4 o.n4 o.c4] _ (fun w' h => by
    have := World.rangeAt_of_block ((HQ.out w' h).at_ 1 rfl) 0 4
    exact this) Tryz.underlying27 rfl (by kernel_rfl) (by kernel_rfl) (by kernel_rfl) (by kernel_rfl) (fun _ _ _ h => h) (by assumption) ?_
  simp only [Act.put, sS0, sS1, sS2]; refine wpAnyH_pure 1 (v := .pointer (some ⟨g2, 0, none⟩)) rfl (by kernel_rfl) (by kernel_rfl) (by kernel_rfl) (fun _ _ _ h => h) rfl (fun _ => by go_simp) (by assumption) ?_; simp only [Act.put, sS0, sS1, sS2]
  refine wpAnyH_cell 2 (v := .slice o.A1 o.n1 o.c1) rfl rfl (fun w' h => by
    have hc := ((HQ.out w' h).at_ 1 rfl).cell 0
    go_simp) (by kernel_rfl) (by kernel_rfl) (by kernel_rfl) (fun _ _ _ h => h) (by assumption) ?_
  simp only [Act.put, sS0, sS1, sS2]; refine wpAnyH_pure 3 (v := .int .i64 (o.n1 : Int)) rfl (by kernel_rfl) (by kernel_rfl) (by kernel_rfl) (fun _ _ _ h => h) rfl (fun _ => by go_simp) (by assumption) ?_; simp only [Act.put, sS0, sS1, sS2]; refine wpAnyH_pure 5 (v := .pointer (some ⟨g3, 0, none⟩)) rfl (by kernel_rfl) (by kernel_rfl) (by kernel_rfl) (fun _ _ _ h => h) rfl (fun _ => by go_simp) (by assumption) ?_; simp only [Act.put, sS0, sS1, sS2]
  refine wpAnyH_cell 6 (v := .slice r.A r.n r.c) rfl rfl (fun w' h => by
    have hc := ((HQ.out w' h).at_ 0 rfl).cell 0
    go_simp) (by kernel_rfl) (by kernel_rfl) (by kernel_rfl) (fun _ _ _ h => h) (by assumption) ?_
  simp only [Act.put, sS0, sS1, sS2]; refine wpAnyH_pure 7 (v := .pointer (some ⟨g3, 1, none⟩)) rfl (by kernel_rfl) (by kernel_rfl) (by kernel_rfl) (fun _ _ _ h => h) rfl (fun _ => by go_simp) (by assumption) ?_; simp only [Act.put, sS0, sS1, sS2]
  refine wpAnyH_cell 8 (v := .slice r.B r.m r.d) rfl rfl (fun w' h => by
    have hc := ((HQ.out w' h).at_ 0 rfl).cell 1
    go_simp) (by kernel_rfl) (by kernel_rfl) (by kernel_rfl) (fun _ _ _ h => h) (by assumption) ?_
  simp only [Act.put, sS0, sS1, sS2]; refine wpAnyH_one 4 rfl (by kernel_rfl) rfl (fun K hK => ?_)
  refine wp_newblk (fun g => .slice (some ⟨g, 0, none⟩) o.n1 o.n1) 31 (madeCells #[.slice none 0 0] o.n1) (fun W => by
    have := make_irows o.n1 (by have := HN1.out; omega) W
    go_simp) ?_
  rintro w5 gk zg zm zb zB; have hb5 : Below w2.heap.size w2 w5 := HS0.out.trans (zb.mono HS0.out.size); have HB5 : Sl _ := ⟨hb5⟩; have HBK : Sl _ := ⟨zB⟩; clear zg zm zb zB hb5; refine hK.out _ _ HB5.out (fun hHeld => ?_); clear hK K
  (try simp only [Act.put, sS0, sS1, sS2])
  refine wpAnyH_pure 9 (v := .agg #[.slice (some ⟨gk, 0, none⟩) o.n1 o.n1, .slice r.A r.n r.c, .slice r.B r.m r.d]) rfl (by kernel_rfl) (by kernel_rfl) (by kernel_rfl) (fun _ _ _ h => h) rfl (fun _ => by go_simp) (by assumption) ?_; simp only [Act.put, sS0, sS1, sS2]; refine wpAnyH_one 10 rfl (by kernel_rfl) rfl (fun K hK => ?_); go_simp; go_at_call 60
  (with_reducible refine (rcheck12_any o r gk _ (HM.out.below (HQ.out _ HB5.out).bl) HF.out (HR.out.below (HQ.out _ HB5.out).bl) (fun j hj => (HBK.out.cell j).trans (madeR hj)) HBK.out.lt).mono ?_)
  rintro e4 w7 ⟨rfl, hb4⟩; have hb6 : Below w2.heap.size w2 w7 := HB5.out.trans (hb4.mono HB5.out.size); have HB6 : Sl _ := ⟨hb6⟩; clear hb4 hb6; rw [HX.out]; refine hK.out _ _ HB6.out (fun hHeld => ?_); clear hK K
  (try simp only [Act.put, sS0, sS1, sS2])
  refine wpAnyH_pure 11 (v := .int .i64 X) rfl (by kernel_rfl) (by kernel_rfl) (by kernel_rfl) (fun _ _ _ h => h) rfl (fun _ => rfl) (by assumption) ?_; simp only [Act.put, sS0, sS1, sS2]; refine wpAnyH_done (by kernel_rfl) ?_ _; clear hHeld; go_wp2_with fail; go_ret; exact ⟨rfl, (HQ.out _ HB6.out).bl⟩
end Go.Proofs.YtbaojmfkjpnfhaaGreatDoor
namespace Go.Proofs.YtbaojmfkjpnfhaaGreatDoor
set_option linter.unusedSimpArgs false
set_option linter.unusedVariables false
theorem cup_srt {d : Array Int} (hs : ∀ i j, i ≤ j → j < d.size → d[i]! ≤ d[j]!) : ∀ m, m ≤ d.size → (Lib.compactUpTo d m).Pairwise (· < ·) ∧ ∀ z, z ∈ Lib.compactUpTo d m ↔ ∃ j, j < m ∧ d[j]! = z
  | 0, _ => ⟨by simp [Lib.compactUpTo], fun z => ⟨fun h => by simp [Lib.compactUpTo] at h, fun ⟨j, h, _⟩ => absurd h (Nat.not_lt_zero _)⟩⟩
  | m+1, hm => by
    obtain ⟨i1, i2⟩ := cup_srt hs m (by omega); rw [Lib.compactUpTo_succ]
    by_cases hk : Lib.keeps d m = true
    · rw [if_pos hk]; have hk2 : m = 0 ∨ d[m]! ≠ d[m - 1]! := (by unfold Lib.keeps at hk; exact of_decide_eq_true hk); refine ⟨List.pairwise_append.2 ⟨i1, List.pairwise_singleton _ _, fun a ha b hb => ?_⟩, fun z => ?_⟩
      · have hb : b = d[m]! := (by simpa using hb); subst hb; obtain ⟨j, hj, rfl⟩ := (i2 a).1 ha; have h1 := hs j (m - 1) (by omega) (by omega); have h2 := hs (m - 1) m (by omega) (by omega); rcases hk2 with h3 | h3
        · omega
        · omega
      · rw [List.mem_append, i2 z]; constructor
        · rintro (⟨j, hj, e⟩ | h)
          · exact ⟨j, by omega, e⟩
          · exact ⟨m, by omega, by
            have h : z = d[m]! := (by simpa using h)
            exact h.symm⟩
        · rintro ⟨j, hj, e⟩; rcases Nat.lt_or_ge j m with h | h
          · exact .inl ⟨j, h, e⟩
          · obtain rfl : j = m := (by omega); exact .inr (by simp [e])
    · rw [if_neg hk, List.append_nil]; have hk2 : ¬ (m = 0 ∨ d[m]! ≠ d[m - 1]!) := (by unfold Lib.keeps at hk; exact fun h => hk (decide_eq_true h)); have hm0 : m ≠ 0 := fun h => hk2 (.inl h)
      have he : d[m]! = d[m - 1]! := Classical.byContradiction fun h => hk2 (.inr h)
      refine ⟨i1, fun z => (i2 z).trans ⟨fun ⟨j, hj, e⟩ => ⟨j, by omega, e⟩, fun ⟨j, hj, e⟩ => ?_⟩⟩; rcases Nat.lt_or_ge j m with h | h
      · exact ⟨j, h, e⟩
      · obtain rfl : j = m := (by omega); exact ⟨j - 1, by omega, by rw [← he]; exact e⟩
theorem uni_all (l : List Int) : (uniI l).Pairwise (· < ·) ∧ ∀ z, z ∈ uniI l ↔ z ∈ l := by
  have hp : (srtI l).Pairwise (fun a b => decide (a ≤ b) = true) := List.pairwise_mergeSort (fun a b c h1 h2 => by simp at *; omega) (fun a b => by simp; omega) l
  have hs : ∀ i j, i ≤ j → j < (srtI l).toArray.size → (srtI l).toArray[i]! ≤ (srtI l).toArray[j]! := fun i j hij hj => by
    have hj' : j < (srtI l).length := (by simpa using hj); rw [getElem!_pos _ i (by simp; omega), getElem!_pos _ j hj]; rcases Nat.lt_or_ge i j with h | h
    · have := List.pairwise_iff_getElem.1 hp i j (by omega) hj' h; simpa using this
    · obtain rfl : i = j := (by omega); exact Int.le_refl _
  obtain ⟨h1, h2⟩ := cup_srt hs (srtI l).length (by simp); refine ⟨h1, fun z => (h2 z).trans ?_⟩; have hm : z ∈ srtI l ↔ z ∈ l := (List.mergeSort_perm l _).mem_iff; rw [← hm]; constructor
  · rintro ⟨j, hj, e⟩; rw [← e, getElem!_pos _ j (by simpa using hj)]; simp
  · intro h; obtain ⟨j, hj, e⟩ := List.getElem_of_mem h; exact ⟨j, hj, by rw [getElem!_pos _ j (by simpa using hj)]; simpa using e⟩
theorem asc_uniq {a b : List Int} (ha : a.Pairwise (· < ·)) (hb : b.Pairwise (· < ·)) (h : ∀ z, z ∈ a ↔ z ∈ b) : a = b := srt_uniq (f := fun z => z) ha hb h
theorem gtI_mem {l : List Int} {x : Int} : x ∈ l ↔ ∃ k, k < l.length ∧ gt l k = x := by
  constructor
  · intro h; obtain ⟨k, hk, e⟩ := List.getElem_of_mem h; exact ⟨k, hk, by rw [gt, List.getElem?_eq_getElem hk]; exact e⟩
  · rintro ⟨k, hk, e⟩; rw [gt, List.getElem?_eq_getElem hk] at e; rw [← e]; exact List.getElem_mem hk
theorem drw_asc {l : List Int} {many : Int} (h : drwE l many = 0) : l.Pairwise (· < ·) ∧ ∀ x ∈ l, 0 ≤ x ∧ x < many := by
  refine ⟨List.pairwise_iff_getElem.2 fun i j hi hj hij => ?_, fun x hx => ?_⟩
  · have := (drwE_ok h hj).2 i hij; rw [gt, gt, List.getElem?_eq_getElem hi, List.getElem?_eq_getElem hj] at this; exact this
  · obtain ⟨k, hk, rfl⟩ := gtI_mem.1 hx; exact (drwE_ok h hk).1
structure StI (L : List (List Int)) (n : Nat) (pre : List Int) (s : StS) : Prop where
  pos : ∀ x : Int, 0 ≤ x → (0 < s.1 x.toNat ↔ (∃ l ∈ L.take n, x ∈ l) ∨ x ∈ pre)
  nn : ∀ y, 0 ≤ s.1 y
  tw0 : 0 ≤ s.2
  tw : 0 < s.2 ↔ (∃ k i a b, k < i ∧ i < n ∧ L[k]? = some a ∧ L[i]? = some b ∧ ∃ x, x ∈ a ∧ x ∈ b) ∨ ∃ x ∈ pre, ∃ l ∈ L.take n, x ∈ l
  val : s.2 = 0 → (∀ i a, i < n → L[i]? = some a → ∀ x ∈ a, s.1 x.toNat = (i : Int) + 1) ∧ ∀ x ∈ pre, s.1 x.toNat = (n : Int) + 1
theorem StI.one {L : List (List Int)} {n : Nat} {pre : List Int} {s : StS} {x : Int} (h : StI L n pre s) (hL : ∀ l ∈ L, ∀ x ∈ l, 0 ≤ x) (hp : ∀ y ∈ pre, 0 ≤ y) (hx : 0 ≤ x) (hnp : x ∉ pre) : StI L n (pre ++ [x]) (stU n s x) := by
  have hseen : 0 < s.1 x.toNat ↔ ∃ l ∈ L.take n, x ∈ l := by
    rw [h.pos x hx]; exact ⟨fun hh => hh.resolve_right hnp, .inl⟩
  have hz : ∀ y, 0 ≤ y → ((stU n s x).1 y.toNat = if y = x then (n : Int) + 1 else s.1 y.toNat) := fun y hy => by
    unfold stU; simp only []
    by_cases e : y = x
    · subst e; rw [if_pos rfl, if_pos rfl]
    · rw [if_neg (by omega), if_neg e]
  have ht : (stU n s x).2 = if 0 < s.1 x.toNat ∧ s.2 = 0 then (n : Int) + 1 else s.2 := rfl
  refine ⟨fun y hy => ?_, fun y => ?_, ?_, ?_, fun h0 => ?_⟩
  · rw [hz y hy]
    by_cases e : y = x
    · rw [if_pos e]; exact ⟨fun _ => .inr (by simp [e]), fun _ => by omega⟩
    · rw [if_neg e, h.pos y hy]; constructor
      · rintro (h1 | h1)
        · exact .inl h1
        · exact .inr (List.mem_append_left _ h1)
      · rintro (h1 | h1)
        · exact .inl h1
        · rcases List.mem_append.1 h1 with h1 | h1
          · exact .inr h1
          · exact absurd (by simpa using h1) e
  · unfold stU; simp only []
    split
    · omega
    · exact h.nn y
  · rw [ht]; have := h.tw0
    split <;> omega
  · have h1 : 0 < (stU n s x).2 ↔ 0 < s.2 ∨ 0 < s.1 x.toNat := by
      rw [ht]; have := h.tw0
      by_cases hc : 0 < s.1 x.toNat ∧ s.2 = 0
      · rw [if_pos hc]; exact ⟨fun _ => .inr hc.1, fun _ => by omega⟩
      · rw [if_neg hc]; exact ⟨.inl, fun hh => hh.elim id fun h2 => by have : ¬ s.2 = 0 := fun e => hc ⟨h2, e⟩; omega⟩
    rw [h1, hseen, h.tw]; constructor
    · rintro ((hh | ⟨y, hy, l, hl, hyl⟩) | ⟨l, hl, hxl⟩)
      · exact .inl hh
      · exact .inr ⟨y, List.mem_append_left _ hy, l, hl, hyl⟩
      · exact .inr ⟨x, by simp, l, hl, hxl⟩
    · rintro (hh | ⟨y, hy, l, hl, hyl⟩)
      · exact .inl (.inl hh)
      · rcases List.mem_append.1 hy with hy | hy
        · exact .inl (.inr ⟨y, hy, l, hl, hyl⟩)
        · have : y = x := (by simpa using hy); exact .inr ⟨l, hl, by rw [← this]; exact hyl⟩
  · rw [ht] at h0
    have hns : ¬ 0 < s.1 x.toNat := fun hc => by
      by_cases e : s.2 = 0
      · rw [if_pos ⟨hc, e⟩] at h0; omega
      · rw [if_neg (fun hh => e hh.2)] at h0; exact e h0
    have h00 : s.2 = 0 := (by rw [if_neg (fun hh => hns hh.1)] at h0; exact h0); obtain ⟨v1, v2⟩ := h.val h00; have hnl : ¬ ∃ l ∈ L.take n, x ∈ l := fun hh => hns (hseen.2 hh)
    refine ⟨fun i a hi ha y hy => ?_, fun y hy => ?_⟩
    · have hm : a ∈ L.take n := by
        refine List.mem_of_getElem? (i := i) ?_; rw [List.getElem?_take_of_lt hi]; exact ha
      rw [hz y (hL a (List.mem_of_getElem? ha) y hy), if_neg (fun e => hnl ⟨a, hm, by rw [← e]; exact hy⟩)]; exact v1 i a hi ha y hy
    · rcases List.mem_append.1 hy with hy | hy
      · rw [hz y (hp y hy), if_neg (fun e => hnp (by rw [← e]; exact hy))]; exact v2 y hy
      · have : y = x := (by simpa using hy); subst this; rw [hz y hx, if_pos rfl]
theorem StI.list {L : List (List Int)} {n : Nat} (hL : ∀ l ∈ L, ∀ x ∈ l, 0 ≤ x) : ∀ (l pre : List Int) (s : StS), StI L n pre s → (∀ y ∈ pre ++ l, 0 ≤ y) → (pre ++ l).Pairwise (· < ·) → StI L n (pre ++ l) (l.foldl (stU n) s)
  | [], pre, s, h, _, _ => by rw [List.append_nil]; exact h
  | x :: l, pre, s, h, h1, h2 => by
    rw [List.foldl_cons, show pre ++ x :: l = (pre ++ [x]) ++ l by simp]
    have hnp : x ∉ pre := fun hm => by
      have := (List.pairwise_append.1 h2).2.2 x hm x List.mem_cons_self; omega
    exact StI.list hL l (pre ++ [x]) _ (h.one hL (fun y hy => h1 y (List.mem_append_left _ hy)) (h1 x (by simp)) hnp) (by simpa using h1) (by simpa using h2)
theorem StI.next {L : List (List Int)} {n : Nat} {l : List Int} {s : StS} (h : StI L n l s) (hl : L[n]? = some l) : StI L (n + 1) [] s := by
  have hm : ∀ x : Int, (∃ a ∈ L.take (n + 1), x ∈ a) ↔ (∃ a ∈ L.take n, x ∈ a) ∨ x ∈ l := fun x => by
    rw [List.take_add_one, hl]; constructor
    · rintro ⟨a, ha, hx⟩; rcases List.mem_append.1 ha with ha | ha
      · exact .inl ⟨a, ha, hx⟩
      · have : a = l := (by simpa using ha); exact .inr (by rw [← this]; exact hx)
    · rintro (⟨a, ha, hx⟩ | hx)
      · exact ⟨a, List.mem_append_left _ ha, hx⟩
      · exact ⟨l, by simp, hx⟩
  refine ⟨fun x hx => ?_, h.nn, h.tw0, h.tw.trans ?_, fun h0 => ⟨fun i a hi ha x hx => ?_, fun x hx => by cases hx⟩⟩
  · rw [h.pos x hx, hm x]; exact ⟨.inl, fun hh => hh.elim id (fun e => by cases e)⟩
  · constructor
    · rintro (⟨k, i, a, b, h1, h2, h3, h4, h5⟩ | ⟨x, hx, a, ha, hxa⟩)
      · exact .inl ⟨k, i, a, b, h1, by omega, h3, h4, h5⟩
      · obtain ⟨k, hk, e⟩ := List.getElem_of_mem ha; have hkn : k < n := (by rw [List.length_take] at hk; omega); refine .inl ⟨k, n, a, l, hkn, by omega, ?_, hl, x, hxa, hx⟩; rw [← List.getElem?_take_of_lt hkn, List.getElem?_eq_getElem hk, e]
    · rintro (⟨k, i, a, b, h1, h2, h3, h4, x, hxa, hxb⟩ | ⟨x, hx, _⟩)
      · rcases Nat.lt_or_ge i n with h6 | h6
        · exact .inl ⟨k, i, a, b, h1, h6, h3, h4, x, hxa, hxb⟩
        · obtain rfl : i = n := (by omega); rw [hl] at h4; injection h4 with h4
          subst h4; refine .inr ⟨x, hxb, a, ?_, hxa⟩; refine List.mem_of_getElem? (i := k) ?_; rw [List.getElem?_take_of_lt h1]; exact h3
      · cases hx
  · obtain ⟨v1, v2⟩ := h.val h0; rcases Nat.lt_or_ge i n with h6 | h6
    · exact v1 i a h6 ha x hx
    · obtain rfl : i = n := (by omega); rw [hl] at ha; injection ha with ha
      subst ha; exact v2 x hx
theorem StI.all {L : List (List Int)} (hL : ∀ l ∈ L, l.Pairwise (· < ·) ∧ ∀ x ∈ l, 0 ≤ x) : ∀ (m n : Nat) (s : StS), L.length = n + m → StI L n [] s → StI L L.length [] (stV n (L.drop n) s)
  | 0, n, s, hn, h => by
    rw [List.drop_eq_nil_of_le (by omega), stV, show L.length = n by omega]; exact h
  | m+1, n, s, hn, h => by
    have hi : n < L.length := (by omega); have hx := List.getElem?_eq_getElem hi; generalize L[n] = l at hx; rw [stV_drop s hx]; have hl := hL l (List.mem_of_getElem? hx); have h1 := StI.list (fun l hl => (hL l hl).2) l [] s h (by simpa using hl.2) (by simpa using hl.1); rw [List.nil_append] at h1; exact StI.all hL m (n + 1) _ (by omega) (h1.next hx)
theorem stV_I {L : List (List Int)} (hL : ∀ l ∈ L, l.Pairwise (· < ·) ∧ ∀ x ∈ l, 0 ≤ x) : StI L L.length [] (stV 0 L (fun _ => 0, 0)) := by
  have h0 : StI L 0 [] ((fun _ => 0, 0) : StS) := by
    refine ⟨fun x _ => ⟨fun h => absurd h (by simp), fun h => ?_⟩, fun _ => Int.le_refl _, Int.le_refl _, ⟨fun h => absurd h (by simp), fun h => ?_⟩, fun _ => ⟨fun i _ h => absurd h (Nat.not_lt_zero _), fun x hx => by cases hx⟩⟩
    · rcases h with ⟨l, hl, _⟩ | h
      · rw [List.take_zero] at hl; cases hl
      · cases h
    · rcases h with ⟨_, i, _, _, _, h, _⟩ | ⟨x, hx, _⟩
      · exact absurd h (Nat.not_lt_zero _)
      · cases hx
  have := StI.all hL L.length 0 _ (by omega) h0
  rwa [List.drop_zero] at this
end Go.Proofs.YtbaojmfkjpnfhaaGreatDoor
namespace Go.Proofs.YtbaojmfkjpnfhaaGreatDoor
set_option linter.unusedSimpArgs false
set_option linter.unusedVariables false
theorem ndA_some {st : Nat → Int} : ∀ {l : List Int} {p q : Int}, ndA st l p = some q → (∀ x ∈ l, st x.toNat ≠ 0 ∧ st x.toNat ≤ q) ∧ p ≤ q ∧ (q = p ∨ ∃ x ∈ l, st x.toNat = q)
  | [], p, q, h => by
    have : p = q := (by injection h); subst this; exact ⟨fun x hx => (by cases hx), Int.le_refl _, .inl rfl⟩
  | y :: l, p, q, h => by
    rw [ndA] at h
    by_cases h0 : st y.toNat = 0
    · rw [if_pos h0] at h; cases h
    · rw [if_neg h0] at h; obtain ⟨h1, h2, h3⟩ := ndA_some h; have hm1 : p ≤ max p (st y.toNat) := Int.le_max_left _ _; have hm2 : st y.toNat ≤ max p (st y.toNat) := Int.le_max_right _ _; refine ⟨fun x hx => ?_, by omega, ?_⟩
      · rcases List.mem_cons.1 hx with rfl | hx
        · exact ⟨h0, by omega⟩
        · exact h1 x hx
      · rcases h3 with h3 | ⟨x, hx, e⟩
        · rcases Int.le_total p (st y.toNat) with h4 | h4
          · exact .inr ⟨y, List.mem_cons_self, by omega⟩
          · exact .inl (by omega)
        · exact .inr ⟨x, List.mem_cons_of_mem _ hx, e⟩
theorem ndA_none {st : Nat → Int} : ∀ {l : List Int} {p : Int}, ndA st l p = none → ∃ x ∈ l, st x.toNat = 0
  | [], p, h => by cases h
  | y :: l, p, h => by
    rw [ndA] at h
    by_cases h0 : st y.toNat = 0
    · exact ⟨y, List.mem_cons_self, h0⟩
    · rw [if_neg h0] at h; obtain ⟨x, hx, e⟩ := ndA_none h; exact ⟨x, List.mem_cons_of_mem _ hx, e⟩
theorem tabE_ok2 {o : SpO} {L : List RgV} (h : tabE o L = 0) : specE o = 0 ∧ L.length ≤ 60 ∧ ∀ i, i < L.length → tabK o L i = 0 := by
  unfold tabE at h
  by_cases h1 : specE o = 0
  · rw [if_pos h1] at h
    by_cases h2 : 60 < L.length
    · rw [if_pos h2] at h; cases h
    · rw [if_neg h2] at h; exact ⟨h1, by omega, fun i hi => fstE_zero h i (Nat.zero_le _) (by omega)⟩
  · rw [if_neg h1] at h; exact absurd h h1
theorem tabK_ok2 {o : SpO} {L : List RgV} {i : Nat} {r : RgV} (hr : L[i]? = some r) (h : tabK o L i = 0) : regE o r = 0 ∧ ¬ 0 < (stV 0 ((L.take (i + 1)).map RgV.l) (fun _ => 0, 0)).2 ∧ ¬ 0 < (stV 0 ((L.take (i + 1)).map RgV.k) (fun _ => 0, 0)).2 := by
  unfold tabK at h; rw [hr] at h; simp only [Option.getD_some] at h
  by_cases h1 : regE o r = 0
  · rw [if_pos h1] at h
    by_cases h2 : 0 < (stV 0 ((L.take (i + 1)).map RgV.l) (fun _ => 0, 0)).2 ∨ 0 < (stV 0 ((L.take (i + 1)).map RgV.k) (fun _ => 0, 0)).2
    · rw [if_pos h2] at h; cases h
    · exact ⟨h1, fun e => h2 (.inl e), fun e => h2 (.inr e)⟩
  · rw [if_neg h1] at h; exact absurd h h1
structure TOK (many : Int) (M : List (List Int)) : Prop where
  asc : ∀ l ∈ M, l.Pairwise (· < ·) ∧ ∀ x ∈ l, 0 ≤ x ∧ x < many
  tw : (stV 0 M (fun _ => 0, 0)).2 = 0
theorem TOK.i {many : Int} {M : List (List Int)} (h : TOK many M) : StI M M.length [] (stV 0 M (fun _ => 0, 0)) := stV_I fun l hl => ⟨(h.asc l hl).1, fun x hx => ((h.asc l hl).2 x hx).1⟩
theorem tok_of {o : SpO} {L : List RgV} (h : tabE o L = 0) : TOK (o.n3 : Int) (L.map RgV.l) ∧ TOK (o.n4 : Int) (L.map RgV.k) := by
  obtain ⟨_, _, h3⟩ := tabE_ok2 h
  have hreg : ∀ r ∈ L, regE o r = 0 := fun r hr => by
    obtain ⟨i, hi, e⟩ := List.getElem_of_mem hr; exact (tabK_ok2 (by rw [List.getElem?_eq_getElem hi, e]) (h3 i hi)).1
  have a1 : ∀ l ∈ L.map RgV.l, l.Pairwise (· < ·) ∧ ∀ x ∈ l, 0 ≤ x ∧ x < (o.n3 : Int) := fun l hl => by
    obtain ⟨r, hr, rfl⟩ := List.mem_map.1 hl; exact drw_asc (regE_ok (hreg r hr)).1
  have a2 : ∀ l ∈ L.map RgV.k, l.Pairwise (· < ·) ∧ ∀ x ∈ l, 0 ≤ x ∧ x < (o.n4 : Int) := fun l hl => by
    obtain ⟨r, hr, rfl⟩ := List.mem_map.1 hl; exact drw_asc (regE_ok (hreg r hr)).2
  have b1 := stV_I fun l hl => ⟨(a1 l hl).1, fun x hx => ((a1 l hl).2 x hx).1⟩
  have b2 := stV_I fun l hl => ⟨(a2 l hl).1, fun x hx => ((a2 l hl).2 x hx).1⟩
  rcases Nat.eq_zero_or_pos L.length with h0 | h0
  · have : L = [] := List.eq_nil_of_length_eq_zero h0; subst this; exact ⟨⟨a1, rfl⟩, ⟨a2, rfl⟩⟩
  · have hl : L.length - 1 < L.length := (by omega); obtain ⟨_, c1, c2⟩ := tabK_ok2 (List.getElem?_eq_getElem hl) (h3 _ hl); rw [show L.length - 1 + 1 = L.length by omega, List.take_length] at c1 c2; have := b1.tw0; have := b2.tw0; exact ⟨⟨a1, by omega⟩, ⟨a2, by omega⟩⟩
theorem TOK.by_ {many : Int} {M : List (List Int)} (h : TOK many M) {x : Int} (hx : 0 ≤ x) (p : Nat) : (∃ l ∈ M.take p, x ∈ l) ↔ (stV 0 M (fun _ => 0, 0)).1 x.toNat ≠ 0 ∧ (stV 0 M (fun _ => 0, 0)).1 x.toNat ≤ (p : Int) := by
  have hi := h.i; have hv := (hi.val h.tw).1; constructor
  · rintro ⟨l, hl, hxl⟩; obtain ⟨i, hi2, e⟩ := List.getElem_of_mem hl; have hip : i < p ∧ i < M.length := (by rw [List.length_take] at hi2; omega); have hg : M[i]? = some l := (by rw [← List.getElem?_take_of_lt hip.1, List.getElem?_eq_getElem hi2, e]); have := hv i l hip.2 hg x hxl; omega
  · rintro ⟨h1, h2⟩; have h3 : 0 < (stV 0 M (fun _ => 0, 0)).1 x.toNat := (by have := hi.nn x.toNat; omega); rcases (hi.pos x hx).1 h3 with ⟨l, hl, hxl⟩ | hh
    · rw [List.take_length] at hl; obtain ⟨i, hi2, e⟩ := List.getElem_of_mem hl; have hg : M[i]? = some l := (by rw [List.getElem?_eq_getElem hi2, e]); have := hv i l hi2 hg x hxl; refine ⟨l, List.mem_of_getElem? (i := i) ?_, hxl⟩; rw [List.getElem?_take_of_lt (by omega)]; exact hg
    · cases hh
def AllIn (L : List RgV) (r : RgV) (p : Nat) : Prop := (∀ x ∈ r.l, ∃ l ∈ (L.map RgV.l).take p, x ∈ l) ∧ ∀ x ∈ r.k, ∃ l ∈ (L.map RgV.k).take p, x ∈ l
theorem AllIn.mono {L : List RgV} {r : RgV} {p q : Nat} (h : AllIn L r p) (hpq : p ≤ q) : AllIn L r q := by
  have hh : ∀ M : List (List Int), ∀ l ∈ M.take p, l ∈ M.take q := fun M l hl => by
    have : M.take p = (M.take q).take p := (by rw [List.take_take, Nat.min_eq_left hpq]); rw [this] at hl; exact List.mem_of_mem_take hl
  exact ⟨fun x hx => by obtain ⟨l, hl, e⟩ := h.1 x hx; exact ⟨l, hh _ l hl, e⟩, fun x hx => by obtain ⟨l, hl, e⟩ := h.2 x hx; exact ⟨l, hh _ l hl, e⟩⟩
theorem nee_spec {o : SpO} {L : List RgV} {r : RgV} (h : botE o L r = 0) : ((neeF o L r).2 = 0 ∧ ∃ q : Nat, (neeF o L r).1 = (q : Int) ∧ q ≤ L.length ∧ AllIn L r q ∧ ∀ p, p < q → ¬ AllIn L r p) ∨ ((neeF o L r) = (0, 4) ∧ ∀ p, ¬ AllIn L r p) := by
  obtain ⟨h1, h2⟩ := botE_ok h; obtain ⟨t1, t2⟩ := tok_of h1; obtain ⟨r1, r2⟩ := regE_ok h2; have p1 := (drw_asc r1).2; have p2 := (drw_asc r2).2; have eS : stA L RgV.l = (stV 0 (L.map RgV.l) (fun _ => 0, 0)).1 := rfl; have eK : stA L RgV.k = (stV 0 (L.map RgV.k) (fun _ => 0, 0)).1 := rfl; unfold neeF; rw [if_pos h]
  cases e1 : ndA (stA L RgV.l) r.l 0 with
  | none =>
    refine .inr ⟨rfl, fun p hA => ?_⟩; obtain ⟨x, hx, e⟩ := ndA_none e1; exact ((t1.by_ (p1 x hx).1 p).1 (hA.1 x hx)).1 (by rw [← eS]; exact e)
  | some a =>
    cases e2 : ndA (stA L RgV.k) r.k a with
    | none =>
      refine .inr ⟨by simp only [e2], fun p hA => ?_⟩; obtain ⟨x, hx, e⟩ := ndA_none e2; exact ((t2.by_ (p2 x hx).1 p).1 (hA.2 x hx)).1 (by rw [← eK]; exact e)
    | some b =>
      refine .inl ⟨by simp only [e2], ?_⟩; simp only [e2]; obtain ⟨a1, a2, a3⟩ := ndA_some e1; obtain ⟨b1, b2, b3⟩ := ndA_some e2; obtain ⟨q, rfl⟩ := Int.eq_ofNat_of_zero_le (show 0 ≤ b by omega)
      have hlen : ∀ (M : List (List Int)) (many : Int) (ht : TOK many M) (x : Int), 0 ≤ x → (stV 0 M (fun _ => 0, 0)).1 x.toNat ≠ 0 → (stV 0 M (fun _ => 0, 0)).1 x.toNat ≤ (M.length : Int) := fun M many ht x hx hne => by
        have hi := ht.i; have h3 : 0 < (stV 0 M (fun _ => 0, 0)).1 x.toNat := (by have := hi.nn x.toNat; omega); rcases (hi.pos x hx).1 h3 with ⟨l, hl, hxl⟩ | hh
        · exact ((ht.by_ hx M.length).1 ⟨l, hl, hxl⟩).2
        · cases hh
      have hA : AllIn L r q := ⟨fun x hx => (t1.by_ (p1 x hx).1 q).2 (by rw [← eS]; exact ⟨(a1 x hx).1, by have := (a1 x hx).2; omega⟩), fun x hx => (t2.by_ (p2 x hx).1 q).2 (by rw [← eK]; exact b1 x hx)⟩
      have hmax : (q = 0) ∨ (∃ x ∈ r.l, (stV 0 (L.map RgV.l) (fun _ => 0, 0)).1 x.toNat = (q : Int)) ∨ ∃ x ∈ r.k, (stV 0 (L.map RgV.k) (fun _ => 0, 0)).1 x.toNat = (q : Int) := by
        rcases b3 with b3 | b3
        · rcases a3 with a3 | ⟨x, hx, e⟩
          · exact .inl (by omega)
          · exact .inr (.inl ⟨x, hx, by rw [← eS, e, b3]⟩)
        · exact .inr (.inr b3)
      refine ⟨q, rfl, ?_, hA, fun p hp hAp => ?_⟩
      · rcases hmax with h0 | ⟨x, hx, e⟩ | ⟨x, hx, e⟩
        · omega
        · have := hlen _ _ t1 x (p1 x hx).1 (by rw [← eS]; exact (a1 x hx).1); rw [List.length_map] at this; omega
        · have := hlen _ _ t2 x (p2 x hx).1 (by rw [← eK]; exact (b1 x hx).1); rw [List.length_map] at this; omega
      · rcases hmax with h0 | ⟨x, hx, e⟩ | ⟨x, hx, e⟩
        · omega
        · have := ((t1.by_ (p1 x hx).1 p).1 (hAp.1 x hx)).2; omega
        · have := ((t2.by_ (p2 x hx).1 p).1 (hAp.2 x hx)).2; omega
theorem at_mem {o : SpO} {L : List RgV} {r : RgV} {p : Nat} (h : botE o L r = 0) (hp : p ≤ L.length) (f : RgV → List Int) : atE o L r p = 0 ∧ (atL o L r p f).Pairwise (· < ·) ∧ ∀ z, z ∈ atL o L r p f ↔ z ∈ f r ∨ ∃ l ∈ (L.map f).take p, z ∈ l := by
  have he : atE o L r p = 0 := (by unfold atE; rw [if_pos h, if_neg (by omega)]); unfold atL; rw [if_pos he]; refine ⟨he, (uni_all _).1, fun z => ?_⟩; rw [(uni_all _).2, List.mem_append, List.mem_flatten, Int.toNat_natCast, List.map_take]
theorem at_zero {o : SpO} {L : List RgV} {r : RgV} (h : botE o L r = 0) : atL o L r 0 RgV.l = r.l ∧ atL o L r 0 RgV.k = r.k := by
  obtain ⟨_, h2⟩ := botE_ok h; obtain ⟨r1, r2⟩ := regE_ok h2; obtain ⟨_, a1, a2⟩ := at_mem h (Nat.zero_le _) RgV.l; obtain ⟨_, b1, b2⟩ := at_mem h (Nat.zero_le _) RgV.k
  exact ⟨asc_uniq a1 (drw_asc r1).1 fun z => (a2 z).trans ⟨fun hh => hh.elim id (fun ⟨l, hl, _⟩ => by rw [List.take_zero] at hl; cases hl), .inl⟩,
    asc_uniq b1 (drw_asc r2).1 fun z => (b2 z).trans ⟨fun hh => hh.elim id (fun ⟨l, hl, _⟩ => by rw [List.take_zero] at hl; cases hl), .inl⟩⟩
end Go.Proofs.YtbaojmfkjpnfhaaGreatDoor
namespace Go.Proofs.YtbaojmfkjpnfhaaGreatDoor
set_option linter.unusedSimpArgs false
open Go.RowKit
set_option linter.unusedVariables false
def Tv (t : Bool) (p : Prop) : Prop := t = true ↔ p
def BoolR (e : Ending) : Prop := ∃ b : Bool, e = .returned (.bool b)
def wideC (r : RgV) : Bool := decide (100 < r.n) || decide (100 < r.m)
set_option maxHeartbeats 6400000 in
set_option maxRecDepth 100000 in
theorem wideC_any (r : RgV) (w : World) : Calls Tryz.prog 13 #[.agg #[.slice r.A r.n r.c, .slice r.B r.m r.d]] w fun e w' => e = .returned (.bool (wideC r)) ∧ Below w.heap.size w w' := by
  have HD : Sl (Lg w w []) := ⟨Lg.nil w⟩; go_enter Tryz.func13, Tryz.ntmps13
  go_upto_region 1 with ((with_reducible show wpList _ _ _ _ _ _); first
    | (refine wpList_box_new 1 rfl rfl 33 (.tmp 0) rfl #[.slice r.A r.n r.c, .slice r.B r.m r.d] rfl (fun _ => by kernel_rfl) ?_; rintro w1 g1 zg zm zs zb; replace HD : Sl _ := ⟨HD.out.new zg zm zb⟩; clear zg zm zs zb))
  have c0 := (HD.out.at_ 0 rfl).cell 0; have c1 := (HD.out.at_ 0 rfl).cell 1; simp at c0 c1
  by_cases h1 : 100 < r.n
  · have p1 : decide ((100 : Int) < (r.n : Int)) = true := decide_eq_true (by omega); have p2 : (100 : Int) < (r.n : Int) := (by omega); have HW : Sl (wideC r = true) := ⟨by unfold wideC; rw [decide_eq_true h1]; rfl⟩; clear h1; go_wp2_with fail; go_ret; exact ⟨by rw [HW.out]; rfl, HD.out.bl⟩
  · have p1 : decide ((100 : Int) < (r.n : Int)) = false := decide_eq_false (by omega); have p2 : ¬ (100 : Int) < (r.n : Int) := (by omega); have HW : Sl (wideC r = decide (100 < r.m)) := ⟨by unfold wideC; rw [decide_eq_false h1]; rfl⟩
    have HW2 : Sl (decide ((100 : Int) < (r.m : Int)) = decide (100 < r.m)) := ⟨by
      by_cases h : 100 < r.m
      · rw [decide_eq_true h, decide_eq_true (by omega)]
      · rw [decide_eq_false h, decide_eq_false (by omega)]⟩
    clear h1; go_wp2_with fail
    all_goals go_ret
    all_goals exact ⟨by rw [HW.out, ← HW2.out]; rfl, HD.out.bl⟩
set_option maxHeartbeats 3200000 in
set_option maxRecDepth 100000 in
theorem lFar_any (o : SpO) (w : World) (hM : SpM w o) : Calls Tryz.prog 11 #[.agg #[.slice o.A1 o.n1 o.c1, .slice o.A2 o.n2 o.c2, .slice o.A3 o.n3 o.c3, .slice o.A4 o.n4 o.c4]] w fun e w' => BoolR e ∧ Below w.heap.size w w' := by
  have HD : Sl (Lg w w []) := ⟨Lg.nil w⟩; have HM : Sl _ := ⟨hM⟩; clear hM; go_enter Tryz.func11, Tryz.ntmps11
  go_upto_region 1 with ((with_reducible show wpList _ _ _ _ _ _); (refine wpList_box_new 1 rfl rfl 27 (.tmp 0) rfl #[.slice o.A1 o.n1 o.c1, .slice o.A2 o.n2 o.c2, .slice o.A3 o.n3 o.c3, .slice o.A4 o.n4 o.c4] rfl (fun _ => by kernel_rfl) ?_; rintro w1 g1 zg zm zs zb; replace HD : Sl _ := ⟨HD.out.new zg zm zb⟩; clear zg zm zs zb))
  have c0 : w1.cell? ⟨g1, 0, none⟩ = some (.slice o.A1 o.n1 o.c1) := (HD.out.at_ 0 rfl).cell 0; have c1 : w1.cell? ⟨g1, 1, none⟩ = some (.slice o.A2 o.n2 o.c2) := (HD.out.at_ 0 rfl).cell 1; have c2 : w1.cell? ⟨g1, 2, none⟩ = some (.slice o.A3 o.n3 o.c3) := (HD.out.at_ 0 rfl).cell 2; have c3 : w1.cell? ⟨g1, 3, none⟩ = some (.slice o.A4 o.n4 o.c4) := (HD.out.at_ 0 rfl).cell 3
  by_cases b0 : 10 < o.n1
  · have p0 : (10 : Int) < (o.n1 : Int) := (by omega); have p0d : decide ((10 : Int) < (o.n1 : Int)) = true := decide_eq_true p0; clear b0; go_wp2_with fail; go_ret; exact ⟨⟨_, rfl⟩, HD.out.bl⟩
  have p0 : ¬ (10 : Int) < (o.n1 : Int) := (by omega); have p0d : decide ((10 : Int) < (o.n1 : Int)) = false := decide_eq_false p0
  by_cases b1 : 50 < o.n2
  · have p1 : (50 : Int) < (o.n2 : Int) := (by omega); have p1d : decide ((50 : Int) < (o.n2 : Int)) = true := decide_eq_true p1; clear b1; go_wp2_with fail; go_ret; exact ⟨⟨_, rfl⟩, HD.out.bl⟩
  have p1 : ¬ (50 : Int) < (o.n2 : Int) := (by omega); have p1d : decide ((50 : Int) < (o.n2 : Int)) = false := decide_eq_false p1
  by_cases b2 : 100 < o.n3
  · have p2 : (100 : Int) < (o.n3 : Int) := (by omega); have p2d : decide ((100 : Int) < (o.n3 : Int)) = true := decide_eq_true p2; clear b2; go_wp2_with fail; go_ret; exact ⟨⟨_, rfl⟩, HD.out.bl⟩
  have p2 : ¬ (100 : Int) < (o.n3 : Int) := (by omega); have p2d : decide ((100 : Int) < (o.n3 : Int)) = false := decide_eq_false p2
  by_cases b3 : 40 < o.n4
  · have p3 : (40 : Int) < (o.n4 : Int) := (by omega); have p3d : decide ((40 : Int) < (o.n4 : Int)) = true := decide_eq_true p3; clear b3; go_wp2_with fail; go_ret; exact ⟨⟨_, rfl⟩, HD.out.bl⟩
  have p3 : ¬ (40 : Int) < (o.n4 : Int) := (by omega); have p3d : decide ((40 : Int) < (o.n4 : Int)) = false := decide_eq_false p3; have HN : Sl (o.n1 ≤ 10 ∧ o.n2 ≤ 50 ∧ o.n3 ≤ 100 ∧ o.n4 ≤ 40) := ⟨by omega⟩; clear b0 b1 b2 b3
  go_upto_region 4 with fail
  clear c0 c1 c2 c3 p0 p1 p2 p3 p0d p1d p2d p3d; go_wp2_with fail
  go_loopw [3, 4] (fun s3 s wv => ∃ (b : Bool) (k : Nat), k ≤ o.n1 ∧ s3 = .bool b ∧ s = .int .i64 (k : Int) ∧ Sl (Lg w wv [(g1, 27, #[.slice o.A1 o.n1 o.c1, .slice o.A2 o.n2 o.c2, .slice o.A3 o.n3 o.c3, .slice o.A4 o.n4 o.c4])])) (fun _ s _ => o.n1 - (RowKit.intOf s).toNat)
  case atStart => exact ⟨_, 0, Nat.zero_le _, rfl, rfl, HD⟩
  case round =>
    clear HD; obtain ⟨b, k, hk, rfl, rfl, HD⟩ := hrel; have c0 : wr.cell? ⟨g1, 0, none⟩ = some (.slice o.A1 o.n1 o.c1) := (HD.out.at_ 0 rfl).cell 0; have hn100 : (o.n1 : Int) ≤ 100 := (by have := HN.out; omega)
    by_cases hkn : k < o.n1
    · have hkI : decide ((k : Int) < (o.n1 : Int)) = true := decide_eq_true (by omega); have hkI2 : (k : Int) < (o.n1 : Int) := (by omega); have hk0 : (0 : Int) ≤ (k : Int) := (by omega); have HKN : Sl (k < o.n1) := ⟨hkn⟩; obtain ⟨gb, oo, hA, hgb, hall⟩ := HM.out.d.all_ (by decide) (show 0 < o.n1 by omega); obtain ⟨x, hx, hra⟩ := hall _ HD.out.bl k hkn; have q1 : wr.cell? ⟨gb, oo + k * 3, none⟩ = some (.string x.nm) := hra 0 _ rfl; have c1 : wr.cell? ⟨g1, 0, none⟩ = some (.slice (some ⟨gb, oo, none⟩) o.n1 o.c1) := (by rw [← hA]; exact c0); clear c0 hra hall hgb hA hkn hx
      cases b with
      | true =>
        go_wp2_with fail; exact ⟨⟨_, k + 1, HKN.out, rfl, by go_num, HD⟩, by have := HKN.out; simp [RowKit.intOf]; omega⟩
      | false =>
        go_wp2_with fail; exact ⟨⟨_, k + 1, HKN.out, rfl, by go_num, HD⟩, by have := HKN.out; simp [RowKit.intOf]; omega⟩
    · obtain rfl : o.n1 = k := (by omega); have hkI : decide ((o.n1 : Int) < (o.n1 : Int)) = false := (by simp); clear hkn hk; go_wp2_with fail
      go_loopw [3, 5] (fun s3 s wv => ∃ (b : Bool) (k : Nat), k ≤ o.n2 ∧ s3 = .bool b ∧ s = .int .i64 (k : Int) ∧ Sl (Lg w wv [(g1, 27, #[.slice o.A1 o.n1 o.c1, .slice o.A2 o.n2 o.c2, .slice o.A3 o.n3 o.c3, .slice o.A4 o.n4 o.c4])])) (fun _ s _ => o.n2 - (RowKit.intOf s).toNat)
      case atStart => exact ⟨_, 0, Nat.zero_le _, rfl, rfl, HD⟩
      case round =>
        clear HD; obtain ⟨b, k, hk, rfl, rfl, HD⟩ := hrel; have c0 : wr.cell? ⟨g1, 1, none⟩ = some (.slice o.A2 o.n2 o.c2) := (HD.out.at_ 0 rfl).cell 1; have hn100 : (o.n2 : Int) ≤ 100 := (by have := HN.out; omega)
        by_cases hkn : k < o.n2
        · have hkI : decide ((k : Int) < (o.n2 : Int)) = true := decide_eq_true (by omega); have hkI2 : (k : Int) < (o.n2 : Int) := (by omega); have hk0 : (0 : Int) ≤ (k : Int) := (by omega); have HKN : Sl (k < o.n2) := ⟨hkn⟩; obtain ⟨gb, oo, hA, hgb, hall⟩ := HM.out.r.all_ (by decide) (show 0 < o.n2 by omega); obtain ⟨x, hx, hra⟩ := hall _ HD.out.bl k hkn; have q1 : wr.cell? ⟨gb, oo + k * 6, none⟩ = some (.string x.nm) := hra 0 _ rfl; have c1 : wr.cell? ⟨g1, 1, none⟩ = some (.slice (some ⟨gb, oo, none⟩) o.n2 o.c2) := (by rw [← hA]; exact c0); clear c0 hra hall hgb hA hkn hx
          cases b with
          | true =>
            go_wp2_with fail; exact ⟨⟨_, k + 1, HKN.out, rfl, by go_num, HD⟩, by have := HKN.out; simp [RowKit.intOf]; omega⟩
          | false =>
            go_wp2_with fail; exact ⟨⟨_, k + 1, HKN.out, rfl, by go_num, HD⟩, by have := HKN.out; simp [RowKit.intOf]; omega⟩
        · obtain rfl : o.n2 = k := (by omega); have hkI : decide ((o.n2 : Int) < (o.n2 : Int)) = false := (by simp); clear hkn hk; go_wp2_with fail
          go_loopw [3, 6] (fun s3 s wv => ∃ (b : Bool) (k : Nat), k ≤ o.n3 ∧ s3 = .bool b ∧ s = .int .i64 (k : Int) ∧ Sl (Lg w wv [(g1, 27, #[.slice o.A1 o.n1 o.c1, .slice o.A2 o.n2 o.c2, .slice o.A3 o.n3 o.c3, .slice o.A4 o.n4 o.c4])])) (fun _ s _ => o.n3 - (RowKit.intOf s).toNat)
          case atStart => exact ⟨_, 0, Nat.zero_le _, rfl, rfl, HD⟩
          case round =>
            clear HD; obtain ⟨b, k, hk, rfl, rfl, HD⟩ := hrel; have c0 : wr.cell? ⟨g1, 2, none⟩ = some (.slice o.A3 o.n3 o.c3) := (HD.out.at_ 0 rfl).cell 2; have hn100 : (o.n3 : Int) ≤ 100 := (by have := HN.out; omega)
            by_cases hkn : k < o.n3
            · have hkI : decide ((k : Int) < (o.n3 : Int)) = true := decide_eq_true (by omega); have hkI2 : (k : Int) < (o.n3 : Int) := (by omega); have hk0 : (0 : Int) ≤ (k : Int) := (by omega); have HKN : Sl (k < o.n3) := ⟨hkn⟩; obtain ⟨gb, oo, hA, hgb, hall⟩ := HM.out.s.all_ (by decide) (show 0 < o.n3 by omega); obtain ⟨x, hx, hra⟩ := hall _ HD.out.bl k hkn; have q1 : wr.cell? ⟨gb, oo + k * 5, none⟩ = some (.string x.nm) := hra 0 _ rfl; have c1 : wr.cell? ⟨g1, 2, none⟩ = some (.slice (some ⟨gb, oo, none⟩) o.n3 o.c3) := (by rw [← hA]; exact c0); have q2 : wr.cell? ⟨gb, oo + k * 5 + 4, none⟩ = some (.slice x.A x.n x.c) := hra 4 _ rfl; clear c0 hra hall hgb hA hkn hx
              cases b with
              | true =>
                go_wp2_with fail; exact ⟨⟨_, k + 1, HKN.out, rfl, by go_num, HD⟩, by have := HKN.out; simp [RowKit.intOf]; omega⟩
              | false =>
                by_cases p : 100 < x.nm.size
                · have pd : decide ((100 : Int) < (x.nm.size : Int)) = true := decide_eq_true (by omega); go_wp2_with fail; exact ⟨⟨_, k + 1, HKN.out, rfl, by go_num, HD⟩, by have := HKN.out; simp [RowKit.intOf]; omega⟩
                · have pd : decide ((100 : Int) < (x.nm.size : Int)) = false := decide_eq_false (by omega); go_wp2_with fail; exact ⟨⟨_, k + 1, HKN.out, rfl, by go_num, HD⟩, by have := HKN.out; simp [RowKit.intOf]; omega⟩
            · obtain rfl : o.n3 = k := (by omega); have hkI : decide ((o.n3 : Int) < (o.n3 : Int)) = false := (by simp); clear hkn hk; go_wp2_with fail
              go_loopw [3, 7] (fun s3 s wv => ∃ (b : Bool) (k : Nat), k ≤ o.n4 ∧ s3 = .bool b ∧ s = .int .i64 (k : Int) ∧ Sl (Lg w wv [(g1, 27, #[.slice o.A1 o.n1 o.c1, .slice o.A2 o.n2 o.c2, .slice o.A3 o.n3 o.c3, .slice o.A4 o.n4 o.c4])])) (fun _ s _ => o.n4 - (RowKit.intOf s).toNat)
              case atStart => exact ⟨_, 0, Nat.zero_le _, rfl, rfl, HD⟩
              case round =>
                clear HD; obtain ⟨b, k, hk, rfl, rfl, HD⟩ := hrel; have c0 : wr.cell? ⟨g1, 3, none⟩ = some (.slice o.A4 o.n4 o.c4) := (HD.out.at_ 0 rfl).cell 3; have hn100 : (o.n4 : Int) ≤ 100 := (by have := HN.out; omega)
                by_cases hkn : k < o.n4
                · have hkI : decide ((k : Int) < (o.n4 : Int)) = true := decide_eq_true (by omega); have hkI2 : (k : Int) < (o.n4 : Int) := (by omega); have hk0 : (0 : Int) ≤ (k : Int) := (by omega); have HKN : Sl (k < o.n4) := ⟨hkn⟩; obtain ⟨gb, oo, hA, hgb, hall⟩ := HM.out.c.all_ (by decide) (show 0 < o.n4 by omega); obtain ⟨x, hx, hra⟩ := hall _ HD.out.bl k hkn; have q1 : wr.cell? ⟨gb, oo + k * 6, none⟩ = some (.string x.nm) := hra 0 _ rfl; have c1 : wr.cell? ⟨g1, 3, none⟩ = some (.slice (some ⟨gb, oo, none⟩) o.n4 o.c4) := (by rw [← hA]; exact c0); clear c0 hra hall hgb hA hkn hx
                  cases b with
                  | true =>
                    go_wp2_with fail; exact ⟨⟨_, k + 1, HKN.out, rfl, by go_num, HD⟩, by have := HKN.out; simp [RowKit.intOf]; omega⟩
                  | false =>
                    go_wp2_with fail; exact ⟨⟨_, k + 1, HKN.out, rfl, by go_num, HD⟩, by have := HKN.out; simp [RowKit.intOf]; omega⟩
                · obtain rfl : o.n4 = k := (by omega); have hkI : decide ((o.n4 : Int) < (o.n4 : Int)) = false := (by simp); clear hkn hk; go_wp2_with fail; go_ret; exact ⟨⟨_, rfl⟩, HD.out.bl⟩
set_option maxHeartbeats 3200000 in
set_option maxRecDepth 100000 in
theorem lfar_any (A : Option Addr) (n c : Nat) (L : List RgV) (most : Int) (w : World) (hT : TbM w A n c L) : Calls Tryz.prog 12 #[.slice A n c, .int .i64 most] w fun e w' => BoolR e ∧ Below w.heap.size w w' := by
  have HT : Sl _ := ⟨hT⟩; have hnc : n ≤ 9223372036854775807 := (by have := hT.cap; unfold maxLen at this; omega); clear hT; go_enter Tryz.func12, Tryz.ntmps12
  by_cases h : most < (n : Int)
  · have hd : decide (most < (n : Int)) = true := decide_eq_true h; go_wp2_with fail; go_ret; exact ⟨⟨_, rfl⟩, Below.refl _ _⟩
  · have hd : decide (most < (n : Int)) = false := decide_eq_false h; go_wp2_with fail; clear h hd
    go_loopw [5, 6] (fun s5 s6 wv => ∃ (z : Int) (k : Nat), k ≤ n ∧ s5 = .int .i64 z ∧ s6 = .int .i64 (k : Int) ∧ Sl (Below w.heap.size w wv)) (fun _ s6 _ => n - (RowKit.intOf s6).toNat)
    case atStart => exact ⟨0, 0, Nat.zero_le _, rfl, rfl, ⟨Below.refl _ _⟩⟩
    case round =>
      obtain ⟨z, k, hk, rfl, rfl, HB⟩ := hrel
      by_cases hkn : k < n
      · have hkI : decide ((k : Int) < (n : Int)) = true := decide_eq_true (by omega); have hkI2 : (k : Int) < (n : Int) := (by omega); have hk0 : (0 : Int) ≤ (k : Int) := (by omega); have HKN : Sl (k < n) := ⟨hkn⟩; have hn63 : (n : Int) ≤ 9223372036854775807 := (by omega); obtain ⟨gb, oo, r, hA, hgb, hr, k1, k2⟩ := (HT.out.below HB.out).at_ hkn; subst hA; have HGB : Sl (gb < wr.heap.size) := ⟨hgb⟩; have HK1 : Sl (∀ W, Below wr.heap.size wr W → W.cell? ⟨gb, oo + k * 2, none⟩ = some (.slice r.A r.n r.c) ∧ W.cell? ⟨gb, oo + k * 2 + 1, none⟩ = some (.slice r.B r.m r.d)) := ⟨fun W hW => ⟨(hW.cell hgb).trans k1, (hW.cell hgb).trans k2⟩⟩; clear hkn hr hgb; go_wp2_with fail; refine (wideC_any r _).mono ?_; rintro e w5 ⟨rfl, hb5⟩; have HB5 : Sl (Below w.heap.size w w5) := ⟨HB.out.trans (hb5.mono HB.out.size)⟩; have hkk := HK1.out _ hb5; have q1 := hkk.1; have q2 := hkk.2; clear hkk hb5 k1 k2; generalize wideC r = b
        cases b with
        | true =>
          go_wp2_with fail; go_ret; exact ⟨⟨_, rfl⟩, HB5.out⟩
        | false =>
          go_wp2_with fail
          go_quiet (fail)
          go_wp2_with fail; exact ⟨⟨_, k + 1, HKN.out, rfl, by go_num, ⟨below_drewN HB5.out nq⟩⟩, by have := HKN.out; simp [RowKit.intOf]; omega⟩
      · obtain rfl : n = k := (by omega); have hkI : decide ((n : Int) < (n : Int)) = false := (by simp); go_wp2_with fail; go_ret; exact ⟨⟨_, rfl⟩, HB.out⟩
def RgV.ls (r : RgV) (i : Nat) : SlV := if i = 0 then ⟨r.A, r.n, r.c, r.l⟩ else ⟨r.B, r.m, r.d, r.k⟩
theorem RgM.ls {w : World} {r : RgV} (h : RgM w r) (i : Nat) : II w (r.ls i).A (r.ls i).n (r.ls i).l ∧ (r.ls i).n ≤ maxLen := by
  unfold RgV.ls
  split
  · exact ⟨h.s, Nat.le_trans h.sc.1 h.sc.2⟩
  · exact ⟨h.c, Nat.le_trans h.cc.1 h.cc.2⟩
def WiR (a b : RgV) : Prop := (∀ x ∈ a.l, x ∈ b.l) ∧ ∀ x ∈ a.k, x ∈ b.k
def wiL (a b : RgV) (i : Nat) : Prop := ∀ x ∈ (a.ls i).l, x ∈ (b.ls i).l
theorem WiR_iff (a b : RgV) : WiR a b ↔ ∀ i, i < 2 → wiL a b i := by
  constructor
  · intro h i hi; rcases Nat.lt_or_ge 0 i with h1 | h1
    · obtain rfl : i = 1 := (by omega); exact h.2
    · obtain rfl : i = 0 := (by omega); exact h.1
  · exact fun h => ⟨h 0 (by omega), h 1 (by omega)⟩
noncomputable def wiB2 (a b : RgV) : Bool := @decide (WiR a b) (Classical.propDecidable _)
theorem wiB2_t {a b : RgV} (h : WiR a b) : wiB2 a b = true := @decide_eq_true _ (Classical.propDecidable _) h
theorem wiB2_f {a b : RgV} (h : ¬ WiR a b) : wiB2 a b = false := @decide_eq_false _ (Classical.propDecidable _) h
set_option maxHeartbeats 3200000 in
set_option maxRecDepth 100000 in
theorem within_rg (a b : RgV) (w : World) (ha : RgM w a) (hb : RgM w b) : Calls Tryz.prog 23 #[.agg #[.slice a.A a.n a.c, .slice a.B a.m a.d], .agg #[.slice b.A b.n b.c, .slice b.B b.m b.d]] w fun e w' => e = .returned (.bool (wiB2 a b)) ∧ Below w.heap.size w w' := by
  have HD : Sl (Lg w w []) := ⟨Lg.nil w⟩; have HA : Sl _ := ⟨ha⟩; have HB : Sl _ := ⟨hb⟩; clear ha hb; go_enter Tryz.func23, Tryz.ntmps23
  go_upto_region 1 with ((with_reducible show wpList _ _ _ _ _ _); first
    | (refine wpList_box_new 2 rfl rfl 33 (.tmp 0) rfl #[.slice a.A a.n a.c, .slice a.B a.m a.d] rfl (fun _ => by kernel_rfl) ?_; rintro w1 g2 zg zm zs zb; replace HD : Sl _ := ⟨HD.out.new zg zm zb⟩; clear zg zm zs zb)
    | (refine wpList_box_new 3 rfl rfl 33 (.tmp 1) rfl #[.slice b.A b.n b.c, .slice b.B b.m b.d] rfl (fun _ => by kernel_rfl) ?_; rintro w2 g3 zg zm zs zb; replace HD : Sl _ := ⟨HD.out.new zg zm zb⟩; clear zg zm zs zb))
  have c0 : w2.cell? ⟨g2, 0, none⟩ = some (.slice a.A a.n a.c) := (HD.out.at_ 1 rfl).cell 0; have c1 : w2.cell? ⟨g2, 1, none⟩ = some (.slice a.B a.m a.d) := (HD.out.at_ 1 rfl).cell 1; have c2 : w2.cell? ⟨g3, 0, none⟩ = some (.slice b.A b.n b.c) := (HD.out.at_ 0 rfl).cell 0; have c3 : w2.cell? ⟨g3, 1, none⟩ = some (.slice b.B b.m b.d) := (HD.out.at_ 0 rfl).cell 1
  go_upto_region 2 with ((with_reducible show wpList _ _ _ _ _ _); first
    | (refine wpList_alloc_new 5 rfl rfl 117 rfl #[.slice none 0 0, .slice none 0 0, .slice none 0 0, .slice none 0 0] (fun _ => by kernel_rfl) ?_; rintro w3 g5 zg zm zs zb; replace HD : Sl _ := ⟨HD.out.new zg zm zb⟩; clear zg zm zs zb)
    | (refine wpList_store_whole rfl 117 (.tmp 5) (.tmp 20) rfl g5 #[.slice a.A a.n a.c, .slice b.A b.n b.c, .slice a.B a.m a.d, .slice b.B b.m b.d] rfl rfl 117 _ (HD.out.at_ 0 rfl) rfl (by kernel_rfl) (by simp [Value.oneCell']) ?_; rintro w4 zm zs zb; replace HD : Sl _ := ⟨HD.out.upd zm zb⟩; clear zm zs zb))
  clear c0 c1 c2 c3; go_wp2_with fail
  have HLS : Sl (∀ i, i < 2 → ∀ W, Lg w W [(g5, 117, #[.slice a.A a.n a.c, .slice b.A b.n b.c, .slice a.B a.m a.d, .slice b.B b.m b.d]), (g3, 33, #[.slice b.A b.n b.c, .slice b.B b.m b.d]), (g2, 33, #[.slice a.A a.n a.c, .slice a.B a.m a.d])] → W.cell? ⟨g5, i * 2, none⟩ = some (.slice (a.ls i).A (a.ls i).n (a.ls i).c) ∧ W.cell? ⟨g5, i * 2 + 1, none⟩ = some (.slice (b.ls i).A (b.ls i).n (b.ls i).c)) := ⟨fun i hi W hW => by
    have hB := hW.at_ 0 rfl; rcases Nat.lt_or_ge 0 i with h1 | h1
    · obtain rfl : i = 1 := (by omega); exact ⟨hB.cell 2, hB.cell 3⟩
    · obtain rfl : i = 0 := (by omega)
      exact ⟨hB.cell 0, hB.cell 1⟩⟩
  go_loopw [6] (fun s6 wv => ∃ i : Nat, i ≤ 2 ∧ s6 = .int .i64 (i : Int) ∧ Sl (Lg w wv [(g5, 117, #[.slice a.A a.n a.c, .slice b.A b.n b.c, .slice a.B a.m a.d, .slice b.B b.m b.d]), (g3, 33, #[.slice b.A b.n b.c, .slice b.B b.m b.d]), (g2, 33, #[.slice a.A a.n a.c, .slice a.B a.m a.d])]) ∧ Sl (∀ j, j < i → wiL a b j)) (fun s6 _ => 2 - (RowKit.intOf s6).toNat)
  case atStart => exact ⟨0, by omega, rfl, HD, ⟨fun j h => absurd h (Nat.not_lt_zero _)⟩⟩
  case round =>
    clear HD; obtain ⟨i, hi, rfl, HD, HI⟩ := hrel
    by_cases hi2 : i < 2
    · have hiI : decide ((i : Int) < 2) = true := decide_eq_true (by omega); have hiI2 : (i : Int) < 2 := (by omega); have hi0 : (0 : Int) ≤ (i : Int) := (by omega); have HI2 : Sl (i < 2) := ⟨hi2⟩; obtain ⟨P, hP⟩ : ∃ P, a.ls i = P := ⟨_, rfl⟩; obtain ⟨Y, hY⟩ : ∃ Y, b.ls i = Y := ⟨_, rfl⟩; have HPI : Sl (∀ W, Below w.heap.size w W → II W P.A P.n P.l) := ⟨fun W hW => by rw [← hP]; exact (HA.out.ls i).1.below hW⟩; have HYI : Sl (∀ W, Below w.heap.size w W → II W Y.A Y.n Y.l) := ⟨fun W hW => by rw [← hY]; exact (HB.out.ls i).1.below hW⟩; have HMX : Sl (P.n ≤ 9223372036854775807 ∧ Y.n ≤ 9223372036854775807) := ⟨by have h1 := (HA.out.ls i).2; have h2 := (HB.out.ls i).2; rw [hP] at h1; rw [hY] at h2; unfold maxLen at h1 h2; exact ⟨h1, h2⟩⟩; have HC : Sl (∀ W, Lg w W [(g5, 117, #[.slice a.A a.n a.c, .slice b.A b.n b.c, .slice a.B a.m a.d, .slice b.B b.m b.d]), (g3, 33, #[.slice b.A b.n b.c, .slice b.B b.m b.d]), (g2, 33, #[.slice a.A a.n a.c, .slice a.B a.m a.d])] → W.cell? ⟨g5, i * 2, none⟩ = some (.slice P.A P.n P.c) ∧ W.cell? ⟨g5, i * 2 + 1, none⟩ = some (.slice Y.A Y.n Y.c)) := ⟨fun W hW => by rw [← hP, ← hY]; exact HLS.out i HI2.out W hW⟩; have HWL : Sl (wiL a b i ↔ ∀ x ∈ P.l, x ∈ Y.l) := ⟨by unfold wiL; rw [hP, hY]⟩; have HPL : Sl (P.l.length = P.n ∧ Y.l.length = Y.n) := ⟨(HPI.out w (Below.refl _ _)).1, (HYI.out w (Below.refl _ _)).1⟩; clear hP hY hi2 hi; go_wp2_with fail
      go_loopw [7] (fun s7 wv => ∃ k : Nat, k ≤ P.n ∧ s7 = .int .i64 (k : Int) ∧ Sl (Lg w wv [(g5, 117, #[.slice a.A a.n a.c, .slice b.A b.n b.c, .slice a.B a.m a.d, .slice b.B b.m b.d]), (g3, 33, #[.slice b.A b.n b.c, .slice b.B b.m b.d]), (g2, 33, #[.slice a.A a.n a.c, .slice a.B a.m a.d])]) ∧ Sl (∀ j, j < k → gt P.l j ∈ Y.l)) (fun s7 _ => P.n - (RowKit.intOf s7).toNat)
      case atStart => exact ⟨0, Nat.zero_le _, rfl, HD, ⟨fun j h => absurd h (Nat.not_lt_zero _)⟩⟩
      case round =>
        clear HD; obtain ⟨k, hk, rfl, HD, HK⟩ := hrel; have c0 := (HC.out _ HD.out).1; have hp63 : (P.n : Int) ≤ 9223372036854775807 := (by have := HMX.out; omega)
        by_cases hkn : k < P.n
        · have hkI : decide ((k : Int) < (P.n : Int)) = true := decide_eq_true (by omega); have hkI2 : (k : Int) < (P.n : Int) := (by omega); have hk0 : (0 : Int) ≤ (k : Int) := (by omega); have HKN : Sl (k < P.n) := ⟨hkn⟩; obtain ⟨x, hx⟩ : ∃ x, gt P.l k = x := ⟨_, rfl⟩; have HX : Sl _ := ⟨hx⟩; clear hx hkn hk; go_wp2_with fail; clear c0
          go_loopw [8, 9] (fun s8 s9 wv => ∃ (t : Bool) (n : Nat), n ≤ Y.n ∧ s8 = .bool t ∧ s9 = .int .i64 (n : Int) ∧ Sl (Lg w wv [(g5, 117, #[.slice a.A a.n a.c, .slice b.A b.n b.c, .slice a.B a.m a.d, .slice b.B b.m b.d]), (g3, 33, #[.slice b.A b.n b.c, .slice b.B b.m b.d]), (g2, 33, #[.slice a.A a.n a.c, .slice a.B a.m a.d])]) ∧ Sl (Tv t (∃ j, j < n ∧ gt Y.l j = x))) (fun _ s9 _ => Y.n - (RowKit.intOf s9).toNat)
          case atStart => exact ⟨false, 0, Nat.zero_le _, rfl, rfl, HD, ⟨fun h => (by cases h), fun ⟨j, h, _⟩ => absurd h (Nat.not_lt_zero _)⟩⟩
          case round =>
            clear HD; obtain ⟨t, n, hn, rfl, rfl, HD, HT⟩ := hrel; have c1 := (HC.out _ HD.out).2; have hy63 : (Y.n : Int) ≤ 9223372036854775807 := (by have := HMX.out; omega)
            by_cases hnn : n < Y.n
            · have hnI : decide ((n : Int) < (Y.n : Int)) = true := decide_eq_true (by omega); have hnI2 : (n : Int) < (Y.n : Int) := (by omega); have hn0 : (0 : Int) ≤ (n : Int) := (by omega); have HNN : Sl (n < Y.n) := ⟨hnn⟩; have hS0 : Below wr.heap.size wr wr.drew := below_drewN (Below.refl _ _) 1; have HQ : Sl (∀ W, Below wr.heap.size wr W → Lg w W [(g5, 117, #[.slice a.A a.n a.c, .slice b.A b.n b.c, .slice a.B a.m a.d, .slice b.B b.m b.d]), (g3, 33, #[.slice b.A b.n b.c, .slice b.B b.m b.d]), (g2, 33, #[.slice a.A a.n a.c, .slice a.B a.m a.d])]) := ⟨fun W hW => HD.out.below hW⟩; clear hnn hn
              cases t with
              | true =>
                have HT2 : Sl (Tv true (∃ j, j < n + 1 ∧ gt Y.l j = x)) := ⟨⟨fun _ => by obtain ⟨j, h1, h2⟩ := HT.out.1 rfl; exact ⟨j, by omega, h2⟩, fun _ => rfl⟩⟩; go_wp2_with fail; clear c1; have hm := hS0; refine wp_region_held_drew (S := fun w' => Below wr.heap.size wr w') (by kernel_rfl) hm (fun hHeld => ?_); clear hm; refine wpAnyH_pure 0 (v := .bool true) rfl (by kernel_rfl) (by kernel_rfl) (by kernel_rfl) (fun _ _ _ h => h) rfl (fun _ => rfl) (by assumption) ?_; simp only [Act.put, sS0, sS1, sS2]; refine wpAnyH_pure 1 (v := .bool true) rfl (by kernel_rfl) (by kernel_rfl) (by kernel_rfl) (fun _ _ _ h => h) rfl (fun _ => rfl) (by assumption) ?_; simp only [Act.put, sS0, sS1, sS2]; refine wpAnyH_no 2 rfl (by kernel_rfl) (by kernel_rfl) (by kernel_rfl) (fun _ _ _ h => h) (by rfl) (by assumption) ?_; simp only [Act.put, sS0, sS1, sS2]; refine wpAnyH_no 3 rfl (by kernel_rfl) (by kernel_rfl) (by kernel_rfl) (fun _ _ _ h => h) (by rfl) (by assumption) ?_; simp only [Act.put, sS0, sS1, sS2]; refine wpAnyH_no 4 rfl (by kernel_rfl) (by kernel_rfl) (by kernel_rfl) (fun _ _ _ h => h) (by rfl) (by assumption) ?_; simp only [Act.put, sS0, sS1, sS2]; refine wpAnyH_no 5 rfl (by kernel_rfl) (by kernel_rfl) (by kernel_rfl) (fun _ _ _ h => h) (by rfl) (by assumption) ?_; simp only [Act.put, sS0, sS1, sS2]; refine wpAnyH_no 6 rfl (by kernel_rfl) (by kernel_rfl) (by kernel_rfl) (fun _ _ _ h => h) (by rfl) (by assumption) ?_; simp only [Act.put, sS0, sS1, sS2]; refine wpAnyH_no 7 rfl (by kernel_rfl) (by kernel_rfl) (by kernel_rfl) (fun _ _ _ h => h) (by rfl) (by assumption) ?_; simp only [Act.put, sS0, sS1, sS2]; refine wpAnyH_no 8 rfl (by kernel_rfl) (by kernel_rfl) (by kernel_rfl) (fun _ _ _ h => h) (by rfl) (by assumption) ?_; simp only [Act.put, sS0, sS1, sS2]; refine wpAnyH_no 9 rfl (by kernel_rfl) (by kernel_rfl) (by kernel_rfl) (fun _ _ _ h => h) (by rfl) (by assumption) ?_; simp only [Act.put, sS0, sS1, sS2]; refine wpAnyH_no 10 rfl (by kernel_rfl) (by kernel_rfl) (by kernel_rfl) (fun _ _ _ h => h) (by rfl) (by assumption) ?_; simp only [Act.put, sS0, sS1, sS2]; refine wpAnyH_no 11 rfl (by kernel_rfl) (by kernel_rfl) (by kernel_rfl) (fun _ _ _ h => h) (by rfl) (by assumption) ?_; simp only [Act.put, sS0, sS1, sS2]; refine wpAnyH_no 12 rfl (by kernel_rfl) (by kernel_rfl) (by kernel_rfl) (fun _ _ _ h => h) (by rfl) (by assumption) ?_; simp only [Act.put, sS0, sS1, sS2]; refine wpAnyH_no 13 rfl (by kernel_rfl) (by kernel_rfl) (by kernel_rfl) (fun _ _ _ h => h) (by rfl) (by assumption) ?_; simp only [Act.put, sS0, sS1, sS2]; refine wpAnyH_no 14 rfl (by kernel_rfl) (by kernel_rfl) (by kernel_rfl) (fun _ _ _ h => h) (by rfl) (by assumption) ?_; simp only [Act.put, sS0, sS1, sS2]; refine wpAnyH_no 15 rfl (by kernel_rfl) (by kernel_rfl) (by kernel_rfl) (fun _ _ _ h => h) (by rfl) (by assumption) ?_; simp only [Act.put, sS0, sS1, sS2]; refine wpAnyH_no 16 rfl (by kernel_rfl) (by kernel_rfl) (by kernel_rfl) (fun _ _ _ h => h) (by rfl) (by assumption) ?_
                simp only [Act.put, sS0, sS1, sS2]; refine wpAnyH_pure 17 (v := .bool true) rfl (by kernel_rfl) (by kernel_rfl) (by kernel_rfl) (fun _ _ _ h => h) rfl (fun _ => by go_simp) (by assumption) ?_; simp only [Act.put, sS0, sS1, sS2]; refine wpAnyH_pure 18 (v := .bool true) rfl (by kernel_rfl) (by kernel_rfl) (by kernel_rfl) (fun _ _ _ h => h) rfl (fun _ => rfl) (by assumption) ?_; simp only [Act.put, sS0, sS1, sS2]; refine wpAnyH_done (by kernel_rfl) ?_ _; clear hHeld; go_wp2_with fail; exact ⟨⟨_, n + 1, HNN.out, rfl, by go_num, ⟨HQ.out _ (below_drewN (Below.refl _ _) 1)⟩, HT2⟩, by have := HNN.out; simp [RowKit.intOf]; omega⟩
              | false =>
                obtain ⟨ax, hAX, hbx, kx⟩ := (HPI.out _ HD.out.bl).cell (j := k) HKN.out; obtain ⟨ay, hAY, hby, ky⟩ := (HYI.out _ HD.out.bl).cell (j := n) HNN.out; rw [HX.out] at kx; obtain ⟨y, hy⟩ : ∃ y, gt Y.l n = y := ⟨_, rfl⟩; rw [hy] at ky; have HAX : Sl _ := ⟨hAX⟩; have HAY : Sl _ := ⟨hAY⟩; have HY : Sl _ := ⟨hy⟩; have HCX : Sl (∀ W, Below wr.heap.size wr W → W.cell? (ax.add k) = some (.int .i64 x)) := ⟨fun W hW => (hW.cell (by rw [block_of_add]; exact hbx)).trans kx⟩; have HCY : Sl (∀ W, Below wr.heap.size wr W → W.cell? (ay.add n) = some (.int .i64 y)) := ⟨fun W hW => (hW.cell (by rw [block_of_add]; exact hby)).trans ky⟩; clear hAX hAY hbx hby kx ky hy; go_wp2_with fail; clear c1
                by_cases hxy : x = y
                · have HT2 : Sl (Tv true (∃ j, j < n + 1 ∧ gt Y.l j = x)) := ⟨⟨fun _ => ⟨n, by omega, by rw [HY.out, hxy]⟩, fun _ => rfl⟩⟩; have hm := hS0; refine wp_region_held_drew (S := fun w' => Below wr.heap.size wr w') (by kernel_rfl) hm (fun hHeld => ?_); clear hm; refine wpAnyH_pure 0 (v := .bool false) rfl (by kernel_rfl) (by kernel_rfl) (by kernel_rfl) (fun _ _ _ h => h) rfl (fun _ => rfl) (by assumption) ?_; simp only [Act.put, sS0, sS1, sS2]; refine wpAnyH_pure 1 (v := .bool false) rfl (by kernel_rfl) (by kernel_rfl) (by kernel_rfl) (fun _ _ _ h => h) rfl (fun _ => rfl) (by assumption) ?_; simp only [Act.put, sS0, sS1, sS2]; refine wpAnyH_pureg 2 (v := .int .i64 (i : Int)) rfl (by kernel_rfl) (by kernel_rfl) (by kernel_rfl) (fun _ _ _ h => h) (by rfl) (fun _ => rfl) (by assumption) ?_; simp only [Act.put, sS0, sS1, sS2]; refine wpAnyH_pureg 3 (v := .pointer (some ⟨g5, i * 2, none⟩)) rfl (by kernel_rfl) (by kernel_rfl) (by kernel_rfl) (fun _ _ _ h => h) (by rfl) (fun _ => by go_simp) (by assumption) ?_; simp only [Act.put, sS0, sS1, sS2]; refine wpAnyH_pureg 4 (v := .pointer (some ⟨g5, i * 2, none⟩)) rfl (by kernel_rfl) (by kernel_rfl) (by kernel_rfl) (fun _ _ _ h => h) (by rfl) (fun _ => by go_simp) (by assumption) ?_; simp only [Act.put, sS0, sS1, sS2]
                  refine wpAnyH_cellg 5 (v := .slice (some ax) P.n P.c) rfl (by rfl) (fun w' h => by
                    have hc := (HC.out w' (HQ.out w' h)).1.trans (show _ = some (.slice (some ax) P.n P.c) by rw [← HAX.out])
                    go_simp) (by kernel_rfl) (by kernel_rfl) (by kernel_rfl) (fun _ _ _ h => h) (by assumption) ?_
                  simp only [Act.put, sS0, sS1, sS2]; refine wpAnyH_pureg 6 (v := .int .i64 (k : Int)) rfl (by kernel_rfl) (by kernel_rfl) (by kernel_rfl) (fun _ _ _ h => h) (by rfl) (fun _ => rfl) (by assumption) ?_; simp only [Act.put, sS0, sS1, sS2]; refine wpAnyH_pureg 7 (v := .pointer (some (ax.add k))) rfl (by kernel_rfl) (by kernel_rfl) (by kernel_rfl) (fun _ _ _ h => h) (by rfl) (fun _ => by go_simp) (by assumption) ?_; simp only [Act.put, sS0, sS1, sS2]
                  refine wpAnyH_cellg 8 (v := .int .i64 x) rfl (by rfl) (fun w' h => by
                    have hc := HCX.out w' h
                    go_simp) (by kernel_rfl) (by kernel_rfl) (by kernel_rfl) (fun _ _ _ h => h) (by assumption) ?_
                  simp only [Act.put, sS0, sS1, sS2]; refine wpAnyH_pureg 9 (v := .int .i64 (i : Int)) rfl (by kernel_rfl) (by kernel_rfl) (by kernel_rfl) (fun _ _ _ h => h) (by rfl) (fun _ => rfl) (by assumption) ?_; simp only [Act.put, sS0, sS1, sS2]; refine wpAnyH_pureg 10 (v := .pointer (some ⟨g5, i * 2, none⟩)) rfl (by kernel_rfl) (by kernel_rfl) (by kernel_rfl) (fun _ _ _ h => h) (by rfl) (fun _ => by go_simp) (by assumption) ?_; simp only [Act.put, sS0, sS1, sS2]; refine wpAnyH_pureg 11 (v := .pointer (some ⟨g5, i * 2 + 1, none⟩)) rfl (by kernel_rfl) (by kernel_rfl) (by kernel_rfl) (fun _ _ _ h => h) (by rfl) (fun _ => by go_simp) (by assumption) ?_; simp only [Act.put, sS0, sS1, sS2]
                  refine wpAnyH_cellg 12 (v := .slice (some ay) Y.n Y.c) rfl (by rfl) (fun w' h => by
                    have hc := (HC.out w' (HQ.out w' h)).2.trans (show _ = some (.slice (some ay) Y.n Y.c) by rw [← HAY.out])
                    go_simp) (by kernel_rfl) (by kernel_rfl) (by kernel_rfl) (fun _ _ _ h => h) (by assumption) ?_
                  simp only [Act.put, sS0, sS1, sS2]; refine wpAnyH_pureg 13 (v := .int .i64 (n : Int)) rfl (by kernel_rfl) (by kernel_rfl) (by kernel_rfl) (fun _ _ _ h => h) (by rfl) (fun _ => rfl) (by assumption) ?_; simp only [Act.put, sS0, sS1, sS2]; refine wpAnyH_pureg 14 (v := .pointer (some (ay.add n))) rfl (by kernel_rfl) (by kernel_rfl) (by kernel_rfl) (fun _ _ _ h => h) (by rfl) (fun _ => by go_simp) (by assumption) ?_; simp only [Act.put, sS0, sS1, sS2]
                  refine wpAnyH_cellg 15 (v := .int .i64 y) rfl (by rfl) (fun w' h => by
                    have hc := HCY.out w' h
                    go_simp) (by kernel_rfl) (by kernel_rfl) (by kernel_rfl) (fun _ _ _ h => h) (by assumption) ?_
                  simp only [Act.put, sS0, sS1, sS2]; refine wpAnyH_pureg 16 (v := .bool true) rfl (by kernel_rfl) (by kernel_rfl) (by kernel_rfl) (fun _ _ _ h => h) (by rfl) (fun _ => by go_simp; (try (simpa using hxy))) (by assumption) ?_; simp only [Act.put, sS0, sS1, sS2]; refine wpAnyH_pure 17 (v := .bool true) rfl (by kernel_rfl) (by kernel_rfl) (by kernel_rfl) (fun _ _ _ h => h) rfl (fun _ => by go_simp) (by assumption) ?_; simp only [Act.put, sS0, sS1, sS2]; refine wpAnyH_pure 18 (v := .bool true) rfl (by kernel_rfl) (by kernel_rfl) (by kernel_rfl) (fun _ _ _ h => h) rfl (fun _ => rfl) (by assumption) ?_; simp only [Act.put, sS0, sS1, sS2]; refine wpAnyH_done (by kernel_rfl) ?_ _; clear hHeld; go_wp2_with fail; exact ⟨⟨_, n + 1, HNN.out, rfl, by go_num, ⟨HQ.out _ (below_drewN (Below.refl _ _) 1)⟩, HT2⟩, by have := HNN.out; simp [RowKit.intOf]; omega⟩
                · have HT2 : Sl (Tv false (∃ j, j < n + 1 ∧ gt Y.l j = x)) := ⟨⟨fun h => (by cases h), fun ⟨j, h1, h2⟩ => by
                    rcases Nat.lt_or_ge j n with h3 | h3
                    · exact HT.out.2 ⟨j, h3, h2⟩
                    · obtain rfl : j = n := (by omega)
                      exact absurd (by rw [← h2]; exact HY.out) hxy⟩⟩
                  have hm := hS0; refine wp_region_held_drew (S := fun w' => Below wr.heap.size wr w') (by kernel_rfl) hm (fun hHeld => ?_); clear hm; refine wpAnyH_pure 0 (v := .bool false) rfl (by kernel_rfl) (by kernel_rfl) (by kernel_rfl) (fun _ _ _ h => h) rfl (fun _ => rfl) (by assumption) ?_; simp only [Act.put, sS0, sS1, sS2]; refine wpAnyH_pure 1 (v := .bool false) rfl (by kernel_rfl) (by kernel_rfl) (by kernel_rfl) (fun _ _ _ h => h) rfl (fun _ => rfl) (by assumption) ?_; simp only [Act.put, sS0, sS1, sS2]; refine wpAnyH_pureg 2 (v := .int .i64 (i : Int)) rfl (by kernel_rfl) (by kernel_rfl) (by kernel_rfl) (fun _ _ _ h => h) (by rfl) (fun _ => rfl) (by assumption) ?_; simp only [Act.put, sS0, sS1, sS2]; refine wpAnyH_pureg 3 (v := .pointer (some ⟨g5, i * 2, none⟩)) rfl (by kernel_rfl) (by kernel_rfl) (by kernel_rfl) (fun _ _ _ h => h) (by rfl) (fun _ => by go_simp) (by assumption) ?_; simp only [Act.put, sS0, sS1, sS2]; refine wpAnyH_pureg 4 (v := .pointer (some ⟨g5, i * 2, none⟩)) rfl (by kernel_rfl) (by kernel_rfl) (by kernel_rfl) (fun _ _ _ h => h) (by rfl) (fun _ => by go_simp) (by assumption) ?_; simp only [Act.put, sS0, sS1, sS2]
                  refine wpAnyH_cellg 5 (v := .slice (some ax) P.n P.c) rfl (by rfl) (fun w' h => by
                    have hc := (HC.out w' (HQ.out w' h)).1.trans (show _ = some (.slice (some ax) P.n P.c) by rw [← HAX.out])
                    go_simp) (by kernel_rfl) (by kernel_rfl) (by kernel_rfl) (fun _ _ _ h => h) (by assumption) ?_
                  simp only [Act.put, sS0, sS1, sS2]; refine wpAnyH_pureg 6 (v := .int .i64 (k : Int)) rfl (by kernel_rfl) (by kernel_rfl) (by kernel_rfl) (fun _ _ _ h => h) (by rfl) (fun _ => rfl) (by assumption) ?_; simp only [Act.put, sS0, sS1, sS2]; refine wpAnyH_pureg 7 (v := .pointer (some (ax.add k))) rfl (by kernel_rfl) (by kernel_rfl) (by kernel_rfl) (fun _ _ _ h => h) (by rfl) (fun _ => by go_simp) (by assumption) ?_; simp only [Act.put, sS0, sS1, sS2]
                  refine wpAnyH_cellg 8 (v := .int .i64 x) rfl (by rfl) (fun w' h => by
                    have hc := HCX.out w' h
                    go_simp) (by kernel_rfl) (by kernel_rfl) (by kernel_rfl) (fun _ _ _ h => h) (by assumption) ?_
                  simp only [Act.put, sS0, sS1, sS2]; refine wpAnyH_pureg 9 (v := .int .i64 (i : Int)) rfl (by kernel_rfl) (by kernel_rfl) (by kernel_rfl) (fun _ _ _ h => h) (by rfl) (fun _ => rfl) (by assumption) ?_; simp only [Act.put, sS0, sS1, sS2]; refine wpAnyH_pureg 10 (v := .pointer (some ⟨g5, i * 2, none⟩)) rfl (by kernel_rfl) (by kernel_rfl) (by kernel_rfl) (fun _ _ _ h => h) (by rfl) (fun _ => by go_simp) (by assumption) ?_; simp only [Act.put, sS0, sS1, sS2]; refine wpAnyH_pureg 11 (v := .pointer (some ⟨g5, i * 2 + 1, none⟩)) rfl (by kernel_rfl) (by kernel_rfl) (by kernel_rfl) (fun _ _ _ h => h) (by rfl) (fun _ => by go_simp) (by assumption) ?_; simp only [Act.put, sS0, sS1, sS2]
                  refine wpAnyH_cellg 12 (v := .slice (some ay) Y.n Y.c) rfl (by rfl) (fun w' h => by
                    have hc := (HC.out w' (HQ.out w' h)).2.trans (show _ = some (.slice (some ay) Y.n Y.c) by rw [← HAY.out])
                    go_simp) (by kernel_rfl) (by kernel_rfl) (by kernel_rfl) (fun _ _ _ h => h) (by assumption) ?_
                  simp only [Act.put, sS0, sS1, sS2]; refine wpAnyH_pureg 13 (v := .int .i64 (n : Int)) rfl (by kernel_rfl) (by kernel_rfl) (by kernel_rfl) (fun _ _ _ h => h) (by rfl) (fun _ => rfl) (by assumption) ?_; simp only [Act.put, sS0, sS1, sS2]; refine wpAnyH_pureg 14 (v := .pointer (some (ay.add n))) rfl (by kernel_rfl) (by kernel_rfl) (by kernel_rfl) (fun _ _ _ h => h) (by rfl) (fun _ => by go_simp) (by assumption) ?_; simp only [Act.put, sS0, sS1, sS2]
                  refine wpAnyH_cellg 15 (v := .int .i64 y) rfl (by rfl) (fun w' h => by
                    have hc := HCY.out w' h
                    go_simp) (by kernel_rfl) (by kernel_rfl) (by kernel_rfl) (fun _ _ _ h => h) (by assumption) ?_
                  simp only [Act.put, sS0, sS1, sS2]; refine wpAnyH_pureg 16 (v := .bool false) rfl (by kernel_rfl) (by kernel_rfl) (by kernel_rfl) (fun _ _ _ h => h) (by rfl) (fun _ => by go_simp; (try (simpa using hxy))) (by assumption) ?_; simp only [Act.put, sS0, sS1, sS2]; refine wpAnyH_pure 17 (v := .bool false) rfl (by kernel_rfl) (by kernel_rfl) (by kernel_rfl) (fun _ _ _ h => h) rfl (fun _ => by go_simp) (by assumption) ?_; simp only [Act.put, sS0, sS1, sS2]; refine wpAnyH_pure 18 (v := .bool false) rfl (by kernel_rfl) (by kernel_rfl) (by kernel_rfl) (fun _ _ _ h => h) rfl (fun _ => rfl) (by assumption) ?_; simp only [Act.put, sS0, sS1, sS2]; refine wpAnyH_done (by kernel_rfl) ?_ _; clear hHeld; go_wp2_with fail; exact ⟨⟨_, n + 1, HNN.out, rfl, by go_num, ⟨HQ.out _ (below_drewN (Below.refl _ _) 1)⟩, HT2⟩, by have := HNN.out; simp [RowKit.intOf]; omega⟩
            · obtain rfl : Y.n = n := (by omega); have hnI : decide ((Y.n : Int) < (Y.n : Int)) = false := (by simp); have HIN : Sl (Tv t (x ∈ Y.l)) := ⟨Iff.trans HT.out (by rw [gtI_mem, HPL.out.2])⟩; clear hnn hn HT
              cases t with
              | true =>
                have HK2 : Sl (∀ j, j < k + 1 → gt P.l j ∈ Y.l) := ⟨fun j hj => by
                  rcases Nat.lt_or_ge j k with h3 | h3
                  · exact HK.out j h3
                  · obtain rfl : j = k := (by omega); rw [HX.out]
                    exact HIN.out.1 rfl⟩
                go_wp2_with fail; exact ⟨⟨k + 1, HKN.out, by go_num, HD, HK2⟩, by have := HKN.out; simp [RowKit.intOf]; omega⟩
              | false =>
                have HV : Sl (wiB2 a b = false) := ⟨wiB2_f fun h => by
                  have h2 := HWL.out.1 ((WiR_iff a b).1 h i HI2.out) x (gtI_mem.2 ⟨k, by rw [HPL.out.1]; exact HKN.out, HX.out⟩); have := HIN.out.2 h2
                  cases this⟩
                go_wp2_with fail; go_ret; exact ⟨by rw [HV.out]; rfl, HD.out.bl⟩
        · obtain rfl : P.n = k := (by omega); have hkI : decide ((P.n : Int) < (P.n : Int)) = false := (by simp)
          have HI3 : Sl (∀ j, j < i + 1 → wiL a b j) := ⟨fun j hj => by
            rcases Nat.lt_or_ge j i with h3 | h3
            · exact HI.out j h3
            · obtain rfl : j = i := (by omega); refine HWL.out.2 fun x hx => ?_
              obtain ⟨m, hm, rfl⟩ := gtI_mem.1 hx
              exact HK.out m (by rw [← HPL.out.1]; exact hm)⟩
          clear hkn hk HK; go_wp2_with fail; exact ⟨⟨i + 1, HI2.out, by go_num, HD, HI3⟩, by have := HI2.out; simp [RowKit.intOf]; omega⟩
    · obtain rfl : i = 2 := (by omega); have HV : Sl (wiB2 a b = true) := ⟨wiB2_t ((WiR_iff a b).2 HI.out)⟩; have hiI : decide (((2 : Nat) : Int) < 2) = false := (by decide); go_wp2_with fail; go_ret; exact ⟨by rw [HV.out]; rfl, HD.out.bl⟩
end Go.Proofs.YtbaojmfkjpnfhaaGreatDoor
namespace Go.Proofs.YtbaojmfkjpnfhaaGreatDoor
set_option linter.unusedSimpArgs false
open Go.RowKit
set_option linter.unusedVariables false
theorem Lg.two {b w : World} {l : List (Nat × TypeId × Array Value)} (h : Lg b w l) (i j : Nat) {p q : Nat × TypeId × Array Value} (hp : l[i]? = some p) (hq : l[j]? = some q) (hij : i ≠ j) : Lg b w [p, q] := by
  have h1 := List.mem_of_getElem? hp; have h2 := List.mem_of_getElem? hq; refine ⟨⟨h.bl, fun r hr => ?_, fun r hr => ?_⟩, ?_⟩
  · simp only [List.mem_cons, List.not_mem_nil, or_false] at hr; rcases hr with rfl | rfl
    · exact h.ld.all _ h1
    · exact h.ld.all _ h2
  · simp only [List.mem_cons, List.not_mem_nil, or_false] at hr; rcases hr with rfl | rfl
    · exact h.ld.ge _ h1
    · exact h.ld.ge _ h2
  · have hne : p.1 ≠ q.1 := fun e => hij ((List.getElem?_inj (l := l.map Prod.fst) (by rw [List.length_map]; exact (List.getElem?_eq_some_iff.1 hp).1) h.nd).1 (by rw [List.getElem?_map, List.getElem?_map, hp, hq]; exact congrArg some e))
    simp [hne]
theorem two_rows (w : World) (t u : TypeId) (cs ds : Array Value) : Blk ((w.alloc (.cells cs t)).alloc (.cells ds u)) w.heap.size t cs ∧ Blk ((w.alloc (.cells cs t)).alloc (.cells ds u)) (w.heap.size + 1) u ds ∧ Below w.heap.size w ((w.alloc (.cells cs t)).alloc (.cells ds u)) := by
  have b1 : Below w.heap.size w (w.alloc (.cells cs t)) := (Below.refl _ _).alloc (Nat.le_refl _) _; have b2 : Below (w.alloc (.cells cs t)).heap.size (w.alloc (.cells cs t)) ((w.alloc (.cells cs t)).alloc (.cells ds u)) := (Below.refl _ _).alloc (Nat.le_refl _) _; have h2 := Blk.new (w.alloc (.cells cs t)) u ds; have e : (w.alloc (.cells cs t)).heap.size = w.heap.size + 1 := (by simp); rw [e] at h2; have h1 := Blk.new w t cs; exact ⟨h1.below b2 h1.lt, h2, b1.trans (b2.mono b1.size)⟩
theorem three_rows (w : World) (t u v : TypeId) (cs ds es : Array Value) : Blk (((w.alloc (.cells cs t)).alloc (.cells ds u)).alloc (.cells es v)) w.heap.size t cs ∧ Blk (((w.alloc (.cells cs t)).alloc (.cells ds u)).alloc (.cells es v)) (w.heap.size + 1) u ds ∧ Blk (((w.alloc (.cells cs t)).alloc (.cells ds u)).alloc (.cells es v)) (w.heap.size + 2) v es ∧ Below w.heap.size w (((w.alloc (.cells cs t)).alloc (.cells ds u)).alloc (.cells es v)) := by
  obtain ⟨h1, h2, h3⟩ := two_rows w t u cs ds; have b2 : Below ((w.alloc (.cells cs t)).alloc (.cells ds u)).heap.size ((w.alloc (.cells cs t)).alloc (.cells ds u)) (((w.alloc (.cells cs t)).alloc (.cells ds u)).alloc (.cells es v)) := (Below.refl _ _).alloc (Nat.le_refl _) _; have h4 := Blk.new ((w.alloc (.cells cs t)).alloc (.cells ds u)) v es; have e : ((w.alloc (.cells cs t)).alloc (.cells ds u)).heap.size = w.heap.size + 2 := (by simp); rw [e] at h4; exact ⟨h1.below b2 h1.lt, h2.below b2 h2.lt, h4, h3.trans (b2.mono h3.size)⟩
theorem II.mvR {w w' : World} {A : Option Addr} {n g : Nat} {l : List Int} {t : TypeId} {cs : Array Value} (h : II w A n l) (hB : Blk w g t cs) (hc : ∀ (j : Nat) (z : Int), cs[j]? ≠ some (.int .i64 z)) (hm : Mv g w w') : II w' A n l := by
  refine ⟨h.1, h.2.1, fun hn => ?_⟩; obtain ⟨ad, e, h1, h2⟩ := h.2.2 hn
  have hne : ad.block ≠ g := fun hg => by
    have hl : 0 < l.length := (by rw [h.1]; exact hn); have h3 := h2 0 (iv l[0]) (by rw [List.getElem?_map, List.getElem?_eq_getElem hl]; rfl); unfold World.cell? at h3; rw [block_of_add, hg, show w.heap[g]? = some (.cells cs t (0, 0)) from hB] at h3; simp only [] at h3
    split at h3
    · cases h3
    · exact hc _ _ h3
  refine ⟨ad, e, Nat.lt_of_lt_of_le h1 hm.size, fun j u hu => ?_⟩; rw [← h2 j u hu]; exact World.cell?_of_block (by rw [block_of_add]; exact hm.block _ h1 hne)
theorem RgM.mvR {w w' : World} {g : Nat} {r : RgV} {t : TypeId} (h : RgM w r) (hB : Blk w g t #[.slice none 0 0, .slice none 0 0]) (hm : Mv g w w') : RgM w' r := by
  have hc : ∀ (j : Nat) (z : Int), (#[.slice none 0 0, .slice none 0 0] : Array Value)[j]? ≠ some (.int .i64 z) := by
    intro j z e; rcases j with _ | _ | j
    · cases e
    · cases e
    · cases e
  exact ⟨h.s.mvR hB hc hm, h.c.mvR hB hc hm, h.sc, h.cc⟩
set_option maxHeartbeats 12800000 in
set_option maxRecDepth 100000 in
theorem shown_any (w : World) : Calls Tryz.prog 14 #[] w fun e w' => e = .returned (.bool true) ∧ Below w.heap.size w w' := by
  go_enter Tryz.func14, Tryz.ntmps14; go_wp2_with fail; refine (example_any _).mono ?_; rintro e wE ⟨⟨A1, A2, A3, A4, P1, P2, P3, rfl, hm⟩, hb⟩; have HBE : Sl (Below w.heap.size w wE) := ⟨hb⟩; have HM : Sl _ := ⟨hm⟩; have HD : Sl (Lg wE wE []) := ⟨Lg.nil wE⟩; clear hm hb
  go_upto_region 2 with ((with_reducible show wpList _ _ _ _ _ _); first
    | (refine wpList_alloc_new 1 rfl rfl 27 rfl #[.slice none 0 0, .slice none 0 0, .slice none 0 0, .slice none 0 0] alloc_spec ?_; rintro w1 g1 zg zm zs zb; replace HD : Sl _ := ⟨HD.out.new zg zm zb⟩; clear zg zm zs zb)
    | (refine wpList_store_whole rfl 27 (.tmp 1) (.tmp 11) rfl g1 #[.slice A1 1 1, .slice A2 2 2, .slice A3 3 3, .slice A4 1 1] rfl rfl 27 _ (HD.out.at_ 0 rfl) rfl (by kernel_rfl) (by simp [Value.oneCell']) ?_; rintro w2 zm zs zb; replace HD : Sl _ := ⟨HD.out.upd zm zb⟩; clear zm zs zb))
  simp only [Act.put, sS0, sS1, sS2]
  go_cut [2, 3] from 13 to 19 (fun s2 s3 wx => ∃ (g2 : Nat) (A B : Option Addr) (n c m d : Nat), s2 = .pointer (some ⟨g2, 0, none⟩) ∧ s3 = .int .i64 0 ∧ Sl (Lg wE wx [(g2, 33, #[.slice A n c, .slice B m d]), (g1, 27, #[.slice A1 1 1, .slice A2 2 2, .slice A3 3 3, .slice A4 1 1])] ∧ RgM wx ⟨A, n, c, [0, 1, 2], B, m, d, [0]⟩))
  case first =>
    have hS0 : Below wE.heap.size wE w2.drew ∧ Blk w2.drew g1 27 #[.slice A1 1 1, .slice A2 2 2, .slice A3 3 3, .slice A4 1 1] := ⟨HD.out.bl.trans ((below_drewN (Below.refl _ _) 1).mono HD.out.bl.size), HD.out.at_ 0 rfl⟩; replace HD : Sl (Lg wE w2.drew [(g1, 27, #[.slice A1 1 1, .slice A2 2 2, .slice A3 3 3, .slice A4 1 1])]) := ⟨HD.out.below (below_drewN (Below.refl _ _) 1)⟩; have hm := hS0; refine wp_region_held_drew (S := fun w' => Below wE.heap.size wE w' ∧ Blk w' g1 27 #[.slice A1 1 1, .slice A2 2 2, .slice A3 3 3, .slice A4 1 1]) (by kernel_rfl) hm (fun hHeld => ?_); clear hm; refine wpAnyH_load 0 27 (.tmp 1) rfl rfl rfl g1 0 rfl #[.slice A1 1 1, .slice A2 2 2, .slice A3 3 3, .slice A4 1 1] _ (fun w' h => by have := World.rangeAt_of_block h.2 0 4; exact this) Tryz.underlying27 rfl (by kernel_rfl) (by kernel_rfl) (by kernel_rfl) (by kernel_rfl) (fun _ _ _ h => h) (by assumption) ?_; simp only [Act.put, sS0, sS1, sS2]; refine wpAnyH_threem 1 2 8 rfl rfl rfl (by kernel_rfl) rfl rfl rfl (fun K hK => ?_) (fun K hK => ?_) (fun K hK => ?_) 
    · skip; go_simp; go_at_call 31
      (with_reducible refine (table_any _).mono ?_)
      rintro e w10 ⟨⟨T, a, b, c, d, rfl, ht⟩, hb⟩; replace HD : Sl _ := ⟨HD.out.below hb⟩; have HT : Sl _ := ⟨ht⟩; clear hb ht; refine hK.out _ _ ⟨HD.out.bl, HD.out.at_ 0 rfl⟩ (fun hHeld => ?_); clear hK K
      (try simp only [Act.put, sS0, sS1, sS2])
      refine wpAnyH_twom 2 8 rfl rfl (by kernel_rfl) rfl rfl (fun K hK => ?_) (fun K hK => ?_) 
      · skip; refine wp_newblk (fun g => .slice (some ⟨g, 0, none⟩) 1 1) 3 #[.int .i64 1] (fun _ => by kernel_rfl) ?_; rintro w11 ga zg zm zw zb; replace HD : Sl _ := ⟨HD.out.new zg zm zb⟩; replace HT : Sl _ := ⟨HT.out.below zw⟩; clear zg zm zw zb; refine hK.out _ _ ⟨HD.out.bl, HD.out.at_ 1 rfl⟩ (fun hHeld => ?_); clear hK K
        (try simp only [Act.put, sS0, sS1, sS2])
        refine wpAnyH_pure 3 (v := .agg #[.slice (some ⟨ga, 0, none⟩) 1 1, .slice none 0 0]) rfl (by kernel_rfl) (by kernel_rfl) (by kernel_rfl) (fun _ _ _ h => h) rfl (fun _ => by go_simp) (by assumption) ?_; simp only [Act.put, sS0, sS1, sS2]; refine wpAnyH_twom 4 8 rfl rfl (by kernel_rfl) rfl rfl (fun K hK => ?_) (fun K hK => ?_) 
        · skip; go_simp; go_at_call 15
          (with_reducible refine (shAt A1 A2 A3 A4 P1 P2 P3 T a b c d ga _ (HM.out.below HD.out.bl) HT.out (HD.out.at_ 0 rfl)).mono ?_)
          rintro e w12 ⟨⟨A, n, c, B, m, d', rfl, hr⟩, hb⟩; replace HD : Sl _ := ⟨HD.out.below hb⟩; have HR : Sl _ := ⟨hr⟩; clear hb hr HT; refine hK.out _ _ ⟨HD.out.bl, HD.out.at_ 1 rfl⟩ (fun hHeld => ?_); clear hK K
          (try simp only [Act.put, sS0, sS1, sS2])
          refine wpAnyH_pure 5 (v := .tuple #[.agg #[.slice A n c, .slice B m d'], .int .i64 0]) rfl (by kernel_rfl) (by kernel_rfl) (by kernel_rfl) (fun _ _ _ h => h) rfl (fun _ => rfl) (by assumption) ?_; simp only [Act.put, sS0, sS1, sS2]; refine wpAnyH_pure 6 (v := .agg #[.slice A n c, .slice B m d']) rfl (by kernel_rfl) (by kernel_rfl) (by kernel_rfl) (fun _ _ _ h => h) rfl (fun _ => by go_simp) (by assumption) ?_; simp only [Act.put, sS0, sS1, sS2]; refine wpAnyH_pure 7 (v := .int .i64 0) rfl (by kernel_rfl) (by kernel_rfl) (by kernel_rfl) (fun _ _ _ h => h) rfl (fun _ => by go_simp) (by assumption) ?_; simp only [Act.put, sS0, sS1, sS2]; refine wpAnyH_one 8 rfl (by kernel_rfl) rfl (fun K hK => ?_); refine wp_newblk (fun g => .pointer (some ⟨g, 0, none⟩)) 33 #[.slice none 0 0, .slice none 0 0] (fun _ => by kernel_rfl) ?_; rintro w13 g2 zg zm zw zb; replace HD : Sl _ := ⟨HD.out.new zg zm zb⟩; replace HR : Sl _ := ⟨HR.out.below zw⟩; clear zg zm zw zb; refine hK.out _ _ ⟨HD.out.bl, HD.out.at_ 2 rfl⟩ (fun hHeld => ?_); clear hK K
          (try simp only [Act.put, sS0, sS1, sS2])
          refine wpAnyH_one 9 rfl (by kernel_rfl) rfl (fun K hK => ?_); refine wp_store_partm 33 (.tmp 2) (.tmp 18) rfl g2 0 #[.slice A n c, .slice B m d'] rfl rfl 33 _ #[.slice A n c, .slice B m d'] (HD.out.at_ 0 rfl) (by simp) (putA_all _ _ rfl) (by kernel_rfl) (by simp [Value.oneCell']) ?_; rintro w14 zm zs zb; replace HR : Sl _ := ⟨HR.out.mvR (HD.out.at_ 0 rfl) zm⟩; replace HD : Sl _ := ⟨HD.out.set 0 rfl zm zb⟩; clear zm zs zb; refine hK.out _ _ ⟨HD.out.bl, HD.out.at_ 2 rfl⟩ (fun hHeld => ?_); clear hK K
          (try simp only [Act.put, sS0, sS1, sS2])
          refine wpAnyH_pure 10 (v := .int .i64 0) rfl (by kernel_rfl) (by kernel_rfl) (by kernel_rfl) (fun _ _ _ h => h) rfl (fun _ => rfl) (by assumption) ?_; simp only [Act.put, sS0, sS1, sS2]; refine wpAnyH_done (by kernel_rfl) ?_ _
          (try go_wp2_with fail)
          go_meet
          exact ⟨g2, A, B, n, c, m, d', rfl, rfl, ⟨HD.out.two 0 2 rfl rfl (by decide), HR.out⟩⟩
        · skip; refine wp_newblk (fun g => .pointer (some ⟨g, 0, none⟩)) 33 #[.slice none 0 0, .slice none 0 0] (fun _ => by kernel_rfl) ?_; rintro w15 g2 zg zm zw zb; replace HD : Sl _ := ⟨HD.out.new zg zm zb⟩; replace HT : Sl _ := ⟨HT.out.below zw⟩; clear zg zm zw zb; refine hK.out _ _ ⟨HD.out.bl, HD.out.at_ 2 rfl⟩ (fun hHeld => ?_); clear hK K
          (try simp only [Act.put, sS0, sS1, sS2])
          refine wpAnyH_one 4 rfl (by kernel_rfl) rfl (fun K hK => ?_); go_simp; go_at_call 15
          (with_reducible refine (shAt A1 A2 A3 A4 P1 P2 P3 T a b c d ga _ (HM.out.below HD.out.bl) HT.out (HD.out.at_ 1 rfl)).mono ?_)
          rintro e w16 ⟨⟨A, n, c, B, m, d', rfl, hr⟩, hb⟩; replace HD : Sl _ := ⟨HD.out.below hb⟩; have HR : Sl _ := ⟨hr⟩; clear hb hr HT; refine hK.out _ _ ⟨HD.out.bl, HD.out.at_ 2 rfl⟩ (fun hHeld => ?_); clear hK K
          (try simp only [Act.put, sS0, sS1, sS2])
          refine wpAnyH_pure 5 (v := .tuple #[.agg #[.slice A n c, .slice B m d'], .int .i64 0]) rfl (by kernel_rfl) (by kernel_rfl) (by kernel_rfl) (fun _ _ _ h => h) rfl (fun _ => rfl) (by assumption) ?_; simp only [Act.put, sS0, sS1, sS2]; refine wpAnyH_pure 6 (v := .agg #[.slice A n c, .slice B m d']) rfl (by kernel_rfl) (by kernel_rfl) (by kernel_rfl) (fun _ _ _ h => h) rfl (fun _ => by go_simp) (by assumption) ?_; simp only [Act.put, sS0, sS1, sS2]; refine wpAnyH_pure 7 (v := .int .i64 0) rfl (by kernel_rfl) (by kernel_rfl) (by kernel_rfl) (fun _ _ _ h => h) rfl (fun _ => by go_simp) (by assumption) ?_; simp only [Act.put, sS0, sS1, sS2]; refine wpAnyH_one 9 rfl (by kernel_rfl) rfl (fun K hK => ?_); refine wp_store_partm 33 (.tmp 2) (.tmp 18) rfl g2 0 #[.slice A n c, .slice B m d'] rfl rfl 33 _ #[.slice A n c, .slice B m d'] (HD.out.at_ 0 rfl) (by simp) (putA_all _ _ rfl) (by kernel_rfl) (by simp [Value.oneCell']) ?_; rintro w17 zm zs zb; replace HR : Sl _ := ⟨HR.out.mvR (HD.out.at_ 0 rfl) zm⟩; replace HD : Sl _ := ⟨HD.out.set 0 rfl zm zb⟩; clear zm zs zb; refine hK.out _ _ ⟨HD.out.bl, HD.out.at_ 2 rfl⟩ (fun hHeld => ?_); clear hK K
          (try simp only [Act.put, sS0, sS1, sS2])
          refine wpAnyH_pure 10 (v := .int .i64 0) rfl (by kernel_rfl) (by kernel_rfl) (by kernel_rfl) (fun _ _ _ h => h) rfl (fun _ => rfl) (by assumption) ?_; simp only [Act.put, sS0, sS1, sS2]; refine wpAnyH_done (by kernel_rfl) ?_ _
          (try go_wp2_with fail)
          go_meet
          exact ⟨g2, A, B, n, c, m, d', rfl, rfl, ⟨HD.out.two 0 2 rfl rfl (by decide), HR.out⟩⟩
      · skip; refine wp_newblk (fun g => .pointer (some ⟨g, 0, none⟩)) 33 #[.slice none 0 0, .slice none 0 0] (fun _ => by kernel_rfl) ?_; rintro w18 g2 zg zm zw zb; replace HD : Sl _ := ⟨HD.out.new zg zm zb⟩; replace HT : Sl _ := ⟨HT.out.below zw⟩; clear zg zm zw zb; refine hK.out _ _ ⟨HD.out.bl, HD.out.at_ 1 rfl⟩ (fun hHeld => ?_); clear hK K
        (try simp only [Act.put, sS0, sS1, sS2])
        refine wpAnyH_one 2 rfl (by kernel_rfl) rfl (fun K hK => ?_); refine wp_newblk (fun g => .slice (some ⟨g, 0, none⟩) 1 1) 3 #[.int .i64 1] (fun _ => by kernel_rfl) ?_; rintro w19 ga zg zm zw zb; replace HD : Sl _ := ⟨HD.out.new zg zm zb⟩; replace HT : Sl _ := ⟨HT.out.below zw⟩; clear zg zm zw zb; refine hK.out _ _ ⟨HD.out.bl, HD.out.at_ 2 rfl⟩ (fun hHeld => ?_); clear hK K
        (try simp only [Act.put, sS0, sS1, sS2])
        refine wpAnyH_pure 3 (v := .agg #[.slice (some ⟨ga, 0, none⟩) 1 1, .slice none 0 0]) rfl (by kernel_rfl) (by kernel_rfl) (by kernel_rfl) (fun _ _ _ h => h) rfl (fun _ => by go_simp) (by assumption) ?_; simp only [Act.put, sS0, sS1, sS2]; refine wpAnyH_one 4 rfl (by kernel_rfl) rfl (fun K hK => ?_); go_simp; go_at_call 15
        (with_reducible refine (shAt A1 A2 A3 A4 P1 P2 P3 T a b c d ga _ (HM.out.below HD.out.bl) HT.out (HD.out.at_ 0 rfl)).mono ?_)
        rintro e w20 ⟨⟨A, n, c, B, m, d', rfl, hr⟩, hb⟩; replace HD : Sl _ := ⟨HD.out.below hb⟩; have HR : Sl _ := ⟨hr⟩; clear hb hr HT; refine hK.out _ _ ⟨HD.out.bl, HD.out.at_ 2 rfl⟩ (fun hHeld => ?_); clear hK K
        (try simp only [Act.put, sS0, sS1, sS2])
        refine wpAnyH_pure 5 (v := .tuple #[.agg #[.slice A n c, .slice B m d'], .int .i64 0]) rfl (by kernel_rfl) (by kernel_rfl) (by kernel_rfl) (fun _ _ _ h => h) rfl (fun _ => rfl) (by assumption) ?_; simp only [Act.put, sS0, sS1, sS2]; refine wpAnyH_pure 6 (v := .agg #[.slice A n c, .slice B m d']) rfl (by kernel_rfl) (by kernel_rfl) (by kernel_rfl) (fun _ _ _ h => h) rfl (fun _ => by go_simp) (by assumption) ?_; simp only [Act.put, sS0, sS1, sS2]; refine wpAnyH_pure 7 (v := .int .i64 0) rfl (by kernel_rfl) (by kernel_rfl) (by kernel_rfl) (fun _ _ _ h => h) rfl (fun _ => by go_simp) (by assumption) ?_; simp only [Act.put, sS0, sS1, sS2]; refine wpAnyH_one 9 rfl (by kernel_rfl) rfl (fun K hK => ?_); refine wp_store_partm 33 (.tmp 2) (.tmp 18) rfl g2 0 #[.slice A n c, .slice B m d'] rfl rfl 33 _ #[.slice A n c, .slice B m d'] (HD.out.at_ 1 rfl) (by simp) (putA_all _ _ rfl) (by kernel_rfl) (by simp [Value.oneCell']) ?_; rintro w21 zm zs zb; replace HR : Sl _ := ⟨HR.out.mvR (HD.out.at_ 1 rfl) zm⟩; replace HD : Sl _ := ⟨HD.out.set 1 rfl zm zb⟩; clear zm zs zb; refine hK.out _ _ ⟨HD.out.bl, HD.out.at_ 2 rfl⟩ (fun hHeld => ?_); clear hK K
        (try simp only [Act.put, sS0, sS1, sS2])
        refine wpAnyH_pure 10 (v := .int .i64 0) rfl (by kernel_rfl) (by kernel_rfl) (by kernel_rfl) (fun _ _ _ h => h) rfl (fun _ => rfl) (by assumption) ?_; simp only [Act.put, sS0, sS1, sS2]; refine wpAnyH_done (by kernel_rfl) ?_ _
        (try go_wp2_with fail)
        go_meet
        exact ⟨g2, A, B, n, c, m, d', rfl, rfl, ⟨HD.out.two 1 2 rfl rfl (by decide), HR.out⟩⟩
    · skip; refine wp_newblk (fun g => .slice (some ⟨g, 0, none⟩) 1 1) 3 #[.int .i64 1] (fun _ => by kernel_rfl) ?_; rintro w22 ga zg zm zw zb; replace HD : Sl _ := ⟨HD.out.new zg zm zb⟩; clear zg zm zw zb; refine hK.out _ _ ⟨HD.out.bl, HD.out.at_ 1 rfl⟩ (fun hHeld => ?_); clear hK K
      (try simp only [Act.put, sS0, sS1, sS2])
      refine wpAnyH_pure 3 (v := .agg #[.slice (some ⟨ga, 0, none⟩) 1 1, .slice none 0 0]) rfl (by kernel_rfl) (by kernel_rfl) (by kernel_rfl) (fun _ _ _ h => h) rfl (fun _ => by go_simp) (by assumption) ?_; simp only [Act.put, sS0, sS1, sS2]; refine wpAnyH_twom 1 8 rfl rfl (by kernel_rfl) rfl rfl (fun K hK => ?_) (fun K hK => ?_) 
      · skip; go_simp; go_at_call 31
        (with_reducible refine (table_any _).mono ?_)
        rintro e w23 ⟨⟨T, a, b, c, d, rfl, ht⟩, hb⟩; replace HD : Sl _ := ⟨HD.out.below hb⟩; have HT : Sl _ := ⟨ht⟩; clear hb ht; refine hK.out _ _ ⟨HD.out.bl, HD.out.at_ 1 rfl⟩ (fun hHeld => ?_); clear hK K
        (try simp only [Act.put, sS0, sS1, sS2])
        refine wpAnyH_twom 4 8 rfl rfl (by kernel_rfl) rfl rfl (fun K hK => ?_) (fun K hK => ?_) 
        · skip; go_simp; go_at_call 15
          (with_reducible refine (shAt A1 A2 A3 A4 P1 P2 P3 T a b c d ga _ (HM.out.below HD.out.bl) HT.out (HD.out.at_ 0 rfl)).mono ?_)
          rintro e w24 ⟨⟨A, n, c, B, m, d', rfl, hr⟩, hb⟩; replace HD : Sl _ := ⟨HD.out.below hb⟩; have HR : Sl _ := ⟨hr⟩; clear hb hr HT; refine hK.out _ _ ⟨HD.out.bl, HD.out.at_ 1 rfl⟩ (fun hHeld => ?_); clear hK K
          (try simp only [Act.put, sS0, sS1, sS2])
          refine wpAnyH_pure 5 (v := .tuple #[.agg #[.slice A n c, .slice B m d'], .int .i64 0]) rfl (by kernel_rfl) (by kernel_rfl) (by kernel_rfl) (fun _ _ _ h => h) rfl (fun _ => rfl) (by assumption) ?_; simp only [Act.put, sS0, sS1, sS2]; refine wpAnyH_pure 6 (v := .agg #[.slice A n c, .slice B m d']) rfl (by kernel_rfl) (by kernel_rfl) (by kernel_rfl) (fun _ _ _ h => h) rfl (fun _ => by go_simp) (by assumption) ?_; simp only [Act.put, sS0, sS1, sS2]; refine wpAnyH_pure 7 (v := .int .i64 0) rfl (by kernel_rfl) (by kernel_rfl) (by kernel_rfl) (fun _ _ _ h => h) rfl (fun _ => by go_simp) (by assumption) ?_; simp only [Act.put, sS0, sS1, sS2]; refine wpAnyH_one 8 rfl (by kernel_rfl) rfl (fun K hK => ?_); refine wp_newblk (fun g => .pointer (some ⟨g, 0, none⟩)) 33 #[.slice none 0 0, .slice none 0 0] (fun _ => by kernel_rfl) ?_; rintro w25 g2 zg zm zw zb; replace HD : Sl _ := ⟨HD.out.new zg zm zb⟩; replace HR : Sl _ := ⟨HR.out.below zw⟩; clear zg zm zw zb; refine hK.out _ _ ⟨HD.out.bl, HD.out.at_ 2 rfl⟩ (fun hHeld => ?_); clear hK K
          (try simp only [Act.put, sS0, sS1, sS2])
          refine wpAnyH_one 9 rfl (by kernel_rfl) rfl (fun K hK => ?_); refine wp_store_partm 33 (.tmp 2) (.tmp 18) rfl g2 0 #[.slice A n c, .slice B m d'] rfl rfl 33 _ #[.slice A n c, .slice B m d'] (HD.out.at_ 0 rfl) (by simp) (putA_all _ _ rfl) (by kernel_rfl) (by simp [Value.oneCell']) ?_; rintro w26 zm zs zb; replace HR : Sl _ := ⟨HR.out.mvR (HD.out.at_ 0 rfl) zm⟩; replace HD : Sl _ := ⟨HD.out.set 0 rfl zm zb⟩; clear zm zs zb; refine hK.out _ _ ⟨HD.out.bl, HD.out.at_ 2 rfl⟩ (fun hHeld => ?_); clear hK K
          (try simp only [Act.put, sS0, sS1, sS2])
          refine wpAnyH_pure 10 (v := .int .i64 0) rfl (by kernel_rfl) (by kernel_rfl) (by kernel_rfl) (fun _ _ _ h => h) rfl (fun _ => rfl) (by assumption) ?_; simp only [Act.put, sS0, sS1, sS2]; refine wpAnyH_done (by kernel_rfl) ?_ _
          (try go_wp2_with fail)
          go_meet
          exact ⟨g2, A, B, n, c, m, d', rfl, rfl, ⟨HD.out.two 0 2 rfl rfl (by decide), HR.out⟩⟩
        · skip; refine wp_newblk (fun g => .pointer (some ⟨g, 0, none⟩)) 33 #[.slice none 0 0, .slice none 0 0] (fun _ => by kernel_rfl) ?_; rintro w27 g2 zg zm zw zb; replace HD : Sl _ := ⟨HD.out.new zg zm zb⟩; replace HT : Sl _ := ⟨HT.out.below zw⟩; clear zg zm zw zb; refine hK.out _ _ ⟨HD.out.bl, HD.out.at_ 2 rfl⟩ (fun hHeld => ?_); clear hK K
          (try simp only [Act.put, sS0, sS1, sS2])
          refine wpAnyH_one 4 rfl (by kernel_rfl) rfl (fun K hK => ?_); go_simp; go_at_call 15
          (with_reducible refine (shAt A1 A2 A3 A4 P1 P2 P3 T a b c d ga _ (HM.out.below HD.out.bl) HT.out (HD.out.at_ 1 rfl)).mono ?_)
          rintro e w28 ⟨⟨A, n, c, B, m, d', rfl, hr⟩, hb⟩; replace HD : Sl _ := ⟨HD.out.below hb⟩; have HR : Sl _ := ⟨hr⟩; clear hb hr HT; refine hK.out _ _ ⟨HD.out.bl, HD.out.at_ 2 rfl⟩ (fun hHeld => ?_); clear hK K
          (try simp only [Act.put, sS0, sS1, sS2])
          refine wpAnyH_pure 5 (v := .tuple #[.agg #[.slice A n c, .slice B m d'], .int .i64 0]) rfl (by kernel_rfl) (by kernel_rfl) (by kernel_rfl) (fun _ _ _ h => h) rfl (fun _ => rfl) (by assumption) ?_; simp only [Act.put, sS0, sS1, sS2]; refine wpAnyH_pure 6 (v := .agg #[.slice A n c, .slice B m d']) rfl (by kernel_rfl) (by kernel_rfl) (by kernel_rfl) (fun _ _ _ h => h) rfl (fun _ => by go_simp) (by assumption) ?_; simp only [Act.put, sS0, sS1, sS2]; refine wpAnyH_pure 7 (v := .int .i64 0) rfl (by kernel_rfl) (by kernel_rfl) (by kernel_rfl) (fun _ _ _ h => h) rfl (fun _ => by go_simp) (by assumption) ?_; simp only [Act.put, sS0, sS1, sS2]; refine wpAnyH_one 9 rfl (by kernel_rfl) rfl (fun K hK => ?_); refine wp_store_partm 33 (.tmp 2) (.tmp 18) rfl g2 0 #[.slice A n c, .slice B m d'] rfl rfl 33 _ #[.slice A n c, .slice B m d'] (HD.out.at_ 0 rfl) (by simp) (putA_all _ _ rfl) (by kernel_rfl) (by simp [Value.oneCell']) ?_; rintro w29 zm zs zb; replace HR : Sl _ := ⟨HR.out.mvR (HD.out.at_ 0 rfl) zm⟩; replace HD : Sl _ := ⟨HD.out.set 0 rfl zm zb⟩; clear zm zs zb; refine hK.out _ _ ⟨HD.out.bl, HD.out.at_ 2 rfl⟩ (fun hHeld => ?_); clear hK K
          (try simp only [Act.put, sS0, sS1, sS2])
          refine wpAnyH_pure 10 (v := .int .i64 0) rfl (by kernel_rfl) (by kernel_rfl) (by kernel_rfl) (fun _ _ _ h => h) rfl (fun _ => rfl) (by assumption) ?_; simp only [Act.put, sS0, sS1, sS2]; refine wpAnyH_done (by kernel_rfl) ?_ _
          (try go_wp2_with fail)
          go_meet
          exact ⟨g2, A, B, n, c, m, d', rfl, rfl, ⟨HD.out.two 0 2 rfl rfl (by decide), HR.out⟩⟩
      · skip; refine wp_newblk (fun g => .pointer (some ⟨g, 0, none⟩)) 33 #[.slice none 0 0, .slice none 0 0] (fun _ => by kernel_rfl) ?_; rintro w30 g2 zg zm zw zb; replace HD : Sl _ := ⟨HD.out.new zg zm zb⟩; clear zg zm zw zb; refine hK.out _ _ ⟨HD.out.bl, HD.out.at_ 2 rfl⟩ (fun hHeld => ?_); clear hK K
        (try simp only [Act.put, sS0, sS1, sS2])
        refine wpAnyH_one 1 rfl (by kernel_rfl) rfl (fun K hK => ?_); go_simp; go_at_call 31
        (with_reducible refine (table_any _).mono ?_)
        rintro e w31 ⟨⟨T, a, b, c, d, rfl, ht⟩, hb⟩; replace HD : Sl _ := ⟨HD.out.below hb⟩; have HT : Sl _ := ⟨ht⟩; clear hb ht; refine hK.out _ _ ⟨HD.out.bl, HD.out.at_ 2 rfl⟩ (fun hHeld => ?_); clear hK K
        (try simp only [Act.put, sS0, sS1, sS2])
        refine wpAnyH_one 4 rfl (by kernel_rfl) rfl (fun K hK => ?_); go_simp; go_at_call 15
        (with_reducible refine (shAt A1 A2 A3 A4 P1 P2 P3 T a b c d ga _ (HM.out.below HD.out.bl) HT.out (HD.out.at_ 1 rfl)).mono ?_)
        rintro e w32 ⟨⟨A, n, c, B, m, d', rfl, hr⟩, hb⟩; replace HD : Sl _ := ⟨HD.out.below hb⟩; have HR : Sl _ := ⟨hr⟩; clear hb hr HT; refine hK.out _ _ ⟨HD.out.bl, HD.out.at_ 2 rfl⟩ (fun hHeld => ?_); clear hK K
        (try simp only [Act.put, sS0, sS1, sS2])
        refine wpAnyH_pure 5 (v := .tuple #[.agg #[.slice A n c, .slice B m d'], .int .i64 0]) rfl (by kernel_rfl) (by kernel_rfl) (by kernel_rfl) (fun _ _ _ h => h) rfl (fun _ => rfl) (by assumption) ?_; simp only [Act.put, sS0, sS1, sS2]; refine wpAnyH_pure 6 (v := .agg #[.slice A n c, .slice B m d']) rfl (by kernel_rfl) (by kernel_rfl) (by kernel_rfl) (fun _ _ _ h => h) rfl (fun _ => by go_simp) (by assumption) ?_; simp only [Act.put, sS0, sS1, sS2]; refine wpAnyH_pure 7 (v := .int .i64 0) rfl (by kernel_rfl) (by kernel_rfl) (by kernel_rfl) (fun _ _ _ h => h) rfl (fun _ => by go_simp) (by assumption) ?_; simp only [Act.put, sS0, sS1, sS2]; refine wpAnyH_one 9 rfl (by kernel_rfl) rfl (fun K hK => ?_); refine wp_store_partm 33 (.tmp 2) (.tmp 18) rfl g2 0 #[.slice A n c, .slice B m d'] rfl rfl 33 _ #[.slice A n c, .slice B m d'] (HD.out.at_ 0 rfl) (by simp) (putA_all _ _ rfl) (by kernel_rfl) (by simp [Value.oneCell']) ?_; rintro w33 zm zs zb; replace HR : Sl _ := ⟨HR.out.mvR (HD.out.at_ 0 rfl) zm⟩; replace HD : Sl _ := ⟨HD.out.set 0 rfl zm zb⟩; clear zm zs zb; refine hK.out _ _ ⟨HD.out.bl, HD.out.at_ 2 rfl⟩ (fun hHeld => ?_); clear hK K
        (try simp only [Act.put, sS0, sS1, sS2])
        refine wpAnyH_pure 10 (v := .int .i64 0) rfl (by kernel_rfl) (by kernel_rfl) (by kernel_rfl) (fun _ _ _ h => h) rfl (fun _ => rfl) (by assumption) ?_; simp only [Act.put, sS0, sS1, sS2]; refine wpAnyH_done (by kernel_rfl) ?_ _
        (try go_wp2_with fail)
        go_meet
        exact ⟨g2, A, B, n, c, m, d', rfl, rfl, ⟨HD.out.two 0 2 rfl rfl (by decide), HR.out⟩⟩
    · skip; refine wp_newblk (fun g => .pointer (some ⟨g, 0, none⟩)) 33 #[.slice none 0 0, .slice none 0 0] (fun _ => by kernel_rfl) ?_; rintro w34 g2 zg zm zw zb; replace HD : Sl _ := ⟨HD.out.new zg zm zb⟩; clear zg zm zw zb; refine hK.out _ _ ⟨HD.out.bl, HD.out.at_ 1 rfl⟩ (fun hHeld => ?_); clear hK K
      (try simp only [Act.put, sS0, sS1, sS2])
      refine wpAnyH_twom 1 2 rfl rfl (by kernel_rfl) rfl rfl (fun K hK => ?_) (fun K hK => ?_) 
      · skip; go_simp; go_at_call 31
        (with_reducible refine (table_any _).mono ?_)
        rintro e w35 ⟨⟨T, a, b, c, d, rfl, ht⟩, hb⟩; replace HD : Sl _ := ⟨HD.out.below hb⟩; have HT : Sl _ := ⟨ht⟩; clear hb ht; refine hK.out _ _ ⟨HD.out.bl, HD.out.at_ 1 rfl⟩ (fun hHeld => ?_); clear hK K
        (try simp only [Act.put, sS0, sS1, sS2])
        refine wpAnyH_one 2 rfl (by kernel_rfl) rfl (fun K hK => ?_); refine wp_newblk (fun g => .slice (some ⟨g, 0, none⟩) 1 1) 3 #[.int .i64 1] (fun _ => by kernel_rfl) ?_; rintro w36 ga zg zm zw zb; replace HD : Sl _ := ⟨HD.out.new zg zm zb⟩; replace HT : Sl _ := ⟨HT.out.below zw⟩; clear zg zm zw zb; refine hK.out _ _ ⟨HD.out.bl, HD.out.at_ 2 rfl⟩ (fun hHeld => ?_); clear hK K
        (try simp only [Act.put, sS0, sS1, sS2])
        refine wpAnyH_pure 3 (v := .agg #[.slice (some ⟨ga, 0, none⟩) 1 1, .slice none 0 0]) rfl (by kernel_rfl) (by kernel_rfl) (by kernel_rfl) (fun _ _ _ h => h) rfl (fun _ => by go_simp) (by assumption) ?_; simp only [Act.put, sS0, sS1, sS2]; refine wpAnyH_one 4 rfl (by kernel_rfl) rfl (fun K hK => ?_); go_simp; go_at_call 15
        (with_reducible refine (shAt A1 A2 A3 A4 P1 P2 P3 T a b c d ga _ (HM.out.below HD.out.bl) HT.out (HD.out.at_ 0 rfl)).mono ?_)
        rintro e w37 ⟨⟨A, n, c, B, m, d', rfl, hr⟩, hb⟩; replace HD : Sl _ := ⟨HD.out.below hb⟩; have HR : Sl _ := ⟨hr⟩; clear hb hr HT; refine hK.out _ _ ⟨HD.out.bl, HD.out.at_ 2 rfl⟩ (fun hHeld => ?_); clear hK K
        (try simp only [Act.put, sS0, sS1, sS2])
        refine wpAnyH_pure 5 (v := .tuple #[.agg #[.slice A n c, .slice B m d'], .int .i64 0]) rfl (by kernel_rfl) (by kernel_rfl) (by kernel_rfl) (fun _ _ _ h => h) rfl (fun _ => rfl) (by assumption) ?_; simp only [Act.put, sS0, sS1, sS2]; refine wpAnyH_pure 6 (v := .agg #[.slice A n c, .slice B m d']) rfl (by kernel_rfl) (by kernel_rfl) (by kernel_rfl) (fun _ _ _ h => h) rfl (fun _ => by go_simp) (by assumption) ?_; simp only [Act.put, sS0, sS1, sS2]; refine wpAnyH_pure 7 (v := .int .i64 0) rfl (by kernel_rfl) (by kernel_rfl) (by kernel_rfl) (fun _ _ _ h => h) rfl (fun _ => by go_simp) (by assumption) ?_; simp only [Act.put, sS0, sS1, sS2]; refine wpAnyH_one 9 rfl (by kernel_rfl) rfl (fun K hK => ?_); refine wp_store_partm 33 (.tmp 2) (.tmp 18) rfl g2 0 #[.slice A n c, .slice B m d'] rfl rfl 33 _ #[.slice A n c, .slice B m d'] (HD.out.at_ 1 rfl) (by simp) (putA_all _ _ rfl) (by kernel_rfl) (by simp [Value.oneCell']) ?_; rintro w38 zm zs zb; replace HR : Sl _ := ⟨HR.out.mvR (HD.out.at_ 1 rfl) zm⟩; replace HD : Sl _ := ⟨HD.out.set 1 rfl zm zb⟩; clear zm zs zb; refine hK.out _ _ ⟨HD.out.bl, HD.out.at_ 2 rfl⟩ (fun hHeld => ?_); clear hK K
        (try simp only [Act.put, sS0, sS1, sS2])
        refine wpAnyH_pure 10 (v := .int .i64 0) rfl (by kernel_rfl) (by kernel_rfl) (by kernel_rfl) (fun _ _ _ h => h) rfl (fun _ => rfl) (by assumption) ?_; simp only [Act.put, sS0, sS1, sS2]; refine wpAnyH_done (by kernel_rfl) ?_ _
        (try go_wp2_with fail)
        go_meet
        exact ⟨g2, A, B, n, c, m, d', rfl, rfl, ⟨HD.out.two 1 2 rfl rfl (by decide), HR.out⟩⟩
      · skip; refine wp_newblk (fun g => .slice (some ⟨g, 0, none⟩) 1 1) 3 #[.int .i64 1] (fun _ => by kernel_rfl) ?_; rintro w39 ga zg zm zw zb; replace HD : Sl _ := ⟨HD.out.new zg zm zb⟩; clear zg zm zw zb; refine hK.out _ _ ⟨HD.out.bl, HD.out.at_ 2 rfl⟩ (fun hHeld => ?_); clear hK K
        (try simp only [Act.put, sS0, sS1, sS2])
        refine wpAnyH_pure 3 (v := .agg #[.slice (some ⟨ga, 0, none⟩) 1 1, .slice none 0 0]) rfl (by kernel_rfl) (by kernel_rfl) (by kernel_rfl) (fun _ _ _ h => h) rfl (fun _ => by go_simp) (by assumption) ?_; simp only [Act.put, sS0, sS1, sS2]; refine wpAnyH_one 1 rfl (by kernel_rfl) rfl (fun K hK => ?_); go_simp; go_at_call 31
        (with_reducible refine (table_any _).mono ?_)
        rintro e w40 ⟨⟨T, a, b, c, d, rfl, ht⟩, hb⟩; replace HD : Sl _ := ⟨HD.out.below hb⟩; have HT : Sl _ := ⟨ht⟩; clear hb ht; refine hK.out _ _ ⟨HD.out.bl, HD.out.at_ 2 rfl⟩ (fun hHeld => ?_); clear hK K
        (try simp only [Act.put, sS0, sS1, sS2])
        refine wpAnyH_one 4 rfl (by kernel_rfl) rfl (fun K hK => ?_); go_simp; go_at_call 15
        (with_reducible refine (shAt A1 A2 A3 A4 P1 P2 P3 T a b c d ga _ (HM.out.below HD.out.bl) HT.out (HD.out.at_ 0 rfl)).mono ?_)
        rintro e w41 ⟨⟨A, n, c, B, m, d', rfl, hr⟩, hb⟩; replace HD : Sl _ := ⟨HD.out.below hb⟩; have HR : Sl _ := ⟨hr⟩; clear hb hr HT; refine hK.out _ _ ⟨HD.out.bl, HD.out.at_ 2 rfl⟩ (fun hHeld => ?_); clear hK K
        (try simp only [Act.put, sS0, sS1, sS2])
        refine wpAnyH_pure 5 (v := .tuple #[.agg #[.slice A n c, .slice B m d'], .int .i64 0]) rfl (by kernel_rfl) (by kernel_rfl) (by kernel_rfl) (fun _ _ _ h => h) rfl (fun _ => rfl) (by assumption) ?_; simp only [Act.put, sS0, sS1, sS2]; refine wpAnyH_pure 6 (v := .agg #[.slice A n c, .slice B m d']) rfl (by kernel_rfl) (by kernel_rfl) (by kernel_rfl) (fun _ _ _ h => h) rfl (fun _ => by go_simp) (by assumption) ?_; simp only [Act.put, sS0, sS1, sS2]; refine wpAnyH_pure 7 (v := .int .i64 0) rfl (by kernel_rfl) (by kernel_rfl) (by kernel_rfl) (fun _ _ _ h => h) rfl (fun _ => by go_simp) (by assumption) ?_; simp only [Act.put, sS0, sS1, sS2]; refine wpAnyH_one 9 rfl (by kernel_rfl) rfl (fun K hK => ?_); refine wp_store_partm 33 (.tmp 2) (.tmp 18) rfl g2 0 #[.slice A n c, .slice B m d'] rfl rfl 33 _ #[.slice A n c, .slice B m d'] (HD.out.at_ 1 rfl) (by simp) (putA_all _ _ rfl) (by kernel_rfl) (by simp [Value.oneCell']) ?_; rintro w42 zm zs zb; replace HR : Sl _ := ⟨HR.out.mvR (HD.out.at_ 1 rfl) zm⟩; replace HD : Sl _ := ⟨HD.out.set 1 rfl zm zb⟩; clear zm zs zb; refine hK.out _ _ ⟨HD.out.bl, HD.out.at_ 2 rfl⟩ (fun hHeld => ?_); clear hK K
        (try simp only [Act.put, sS0, sS1, sS2])
        refine wpAnyH_pure 10 (v := .int .i64 0) rfl (by kernel_rfl) (by kernel_rfl) (by kernel_rfl) (fun _ _ _ h => h) rfl (fun _ => rfl) (by assumption) ?_; simp only [Act.put, sS0, sS1, sS2]; refine wpAnyH_done (by kernel_rfl) ?_ _
        (try go_wp2_with fail)
        go_meet
        exact ⟨g2, A, B, n, c, m, d', rfl, rfl, ⟨HD.out.two 1 2 rfl rfl (by decide), HR.out⟩⟩
  case rest =>
    clear HD; obtain ⟨g2, A, B, n, c, m, d, rfl, rfl, HX⟩ := hcut; have HR : Sl _ := ⟨HX.out.2⟩; have HD : Sl _ := ⟨HX.out.1⟩; clear HX; have hn3 : n = 3 := HR.out.s.1.symm; have hm1 : m = 1 := HR.out.c.1.symm; subst hn3 hm1
    rename World => wx
    go_upto_region 3 with fail
    go_cut [4, 5] from 20 to 28 (fun s4 s5 wy => s4 = .int .i64 2 ∧ s5 = .int .i64 0 ∧ Sl (Below wx.heap.size wx wy))
    case first =>
      have HB : Sl (∀ W, Below wx.heap.size wx W → Blk W g1 27 #[.slice A1 1 1, .slice A2 2 2, .slice A3 3 3, .slice A4 1 1]) := ⟨fun W h => (HD.out.at_ 1 rfl).below h (HD.out.at_ 1 rfl).lt⟩; have HM2 : Sl (∀ W, Below wx.heap.size wx W → SpM W (exO A1 A2 A3 A4 P1 P2 P3)) := ⟨fun W h => HM.out.below (HD.out.bl.trans (h.mono HD.out.bl.size))⟩; have hS0 : Below wx.heap.size wx wx.drew := below_drewN (Below.refl _ _) 1; have HL : Sl (Lg wx wx.drew []) := ⟨(Lg.nil wx).below hS0⟩; clear HD; have HD : Sl _ := ⟨HL.out⟩; clear HL; have hm := hS0; refine wp_region_held_drew (S := fun w' => Below wx.heap.size wx w') (by kernel_rfl) hm (fun hHeld => ?_); clear hm; refine wpAnyH_load 0 27 (.tmp 1) rfl rfl rfl g1 0 rfl #[.slice A1 1 1, .slice A2 2 2, .slice A3 3 3, .slice A4 1 1] _ (fun w' h => by have := World.rangeAt_of_block (HB.out w' h) 0 4; exact this) Tryz.underlying27 rfl (by kernel_rfl) (by kernel_rfl) (by kernel_rfl) (by kernel_rfl) (fun _ _ _ h => h) (by assumption) ?_; simp only [Act.put, sS0, sS1, sS2]; refine wpAnyH_threem 1 2 3 rfl rfl rfl (by kernel_rfl) rfl rfl rfl (fun K hK => ?_) (fun K hK => ?_) (fun K hK => ?_) 
      · skip; go_simp; go_at_call 31
        (with_reducible refine (table_any _).mono ?_)
        rintro e w43 ⟨⟨T, a, b, c', d', rfl, ht⟩, hb⟩; replace HD : Sl _ := ⟨HD.out.below hb⟩; have HT : Sl _ := ⟨ht⟩; clear hb ht; refine hK.out _ _ HD.out.bl (fun hHeld => ?_); clear hK K
        (try simp only [Act.put, sS0, sS1, sS2])
        refine wpAnyH_twom 2 3 rfl rfl (by kernel_rfl) rfl rfl (fun K hK => ?_) (fun K hK => ?_) 
        · skip; refine wp_newblk (fun g => .slice (some ⟨g, 0, none⟩) 1 1) 3 #[.int .i64 0] (fun _ => by kernel_rfl) ?_; rintro w44 ga zg zm zw zb; replace HD : Sl _ := ⟨HD.out.new zg zm zb⟩; replace HT : Sl _ := ⟨HT.out.below zw⟩; clear zg zm zw zb; refine hK.out _ _ HD.out.bl (fun hHeld => ?_); clear hK K
          (try simp only [Act.put, sS0, sS1, sS2])
          refine wpAnyH_one 3 rfl (by kernel_rfl) rfl (fun K hK => ?_); refine wp_newblk (fun g => .slice (some ⟨g, 0, none⟩) 1 1) 3 #[.int .i64 0] (fun _ => by kernel_rfl) ?_; rintro w45 gb zg zm zw zb; replace HD : Sl _ := ⟨HD.out.new zg zm zb⟩; replace HT : Sl _ := ⟨HT.out.below zw⟩; clear zg zm zw zb; refine hK.out _ _ HD.out.bl (fun hHeld => ?_); clear hK K
          (try simp only [Act.put, sS0, sS1, sS2])
          refine wpAnyH_pure 4 (v := .agg #[.slice (some ⟨ga, 0, none⟩) 1 1, .slice (some ⟨gb, 0, none⟩) 1 1]) rfl (by kernel_rfl) (by kernel_rfl) (by kernel_rfl) (fun _ _ _ h => h) rfl (fun _ => by go_simp) (by assumption) ?_; simp only [Act.put, sS0, sS1, sS2]; refine wpAnyH_one 5 rfl (by kernel_rfl) rfl (fun K hK => ?_); go_simp; go_at_call 17
          (with_reducible refine (shNeeded A1 A2 A3 A4 P1 P2 P3 T a b c' d' ga gb _ (HM2.out _ HD.out.bl) HT.out (HD.out.at_ 1 rfl) (HD.out.at_ 0 rfl)).mono ?_)
          rintro e w46 ⟨rfl, hb⟩; replace HD : Sl _ := ⟨HD.out.below hb⟩; clear hb; refine hK.out _ _ HD.out.bl (fun hHeld => ?_); clear hK K
          (try simp only [Act.put, sS0, sS1, sS2])
          clear HT; refine wpAnyH_pure 6 (v := .tuple #[.int .i64 2, .int .i64 0]) rfl (by kernel_rfl) (by kernel_rfl) (by kernel_rfl) (fun _ _ _ h => h) rfl (fun _ => rfl) (by assumption) ?_; simp only [Act.put, sS0, sS1, sS2]; refine wpAnyH_pure 7 (v := .int .i64 2) rfl (by kernel_rfl) (by kernel_rfl) (by kernel_rfl) (fun _ _ _ h => h) rfl (fun _ => by go_simp) (by assumption) ?_; simp only [Act.put, sS0, sS1, sS2]; refine wpAnyH_pure 8 (v := .int .i64 0) rfl (by kernel_rfl) (by kernel_rfl) (by kernel_rfl) (fun _ _ _ h => h) rfl (fun _ => by go_simp) (by assumption) ?_; simp only [Act.put, sS0, sS1, sS2]; refine wpAnyH_pure 9 (v := .int .i64 2) rfl (by kernel_rfl) (by kernel_rfl) (by kernel_rfl) (fun _ _ _ h => h) rfl (fun _ => rfl) (by assumption) ?_; simp only [Act.put, sS0, sS1, sS2]; refine wpAnyH_pure 10 (v := .int .i64 0) rfl (by kernel_rfl) (by kernel_rfl) (by kernel_rfl) (fun _ _ _ h => h) rfl (fun _ => rfl) (by assumption) ?_; simp only [Act.put, sS0, sS1, sS2]; refine wpAnyH_done (by kernel_rfl) ?_ _
          (try go_wp2_with fail)
          go_meet
          exact ⟨rfl, rfl, ⟨HD.out.bl⟩⟩
        · skip; refine wp_newblk (fun g => .slice (some ⟨g, 0, none⟩) 1 1) 3 #[.int .i64 0] (fun _ => by kernel_rfl) ?_; rintro w47 gb zg zm zw zb; replace HD : Sl _ := ⟨HD.out.new zg zm zb⟩; replace HT : Sl _ := ⟨HT.out.below zw⟩; clear zg zm zw zb; refine hK.out _ _ HD.out.bl (fun hHeld => ?_); clear hK K
          (try simp only [Act.put, sS0, sS1, sS2])
          refine wpAnyH_one 2 rfl (by kernel_rfl) rfl (fun K hK => ?_); refine wp_newblk (fun g => .slice (some ⟨g, 0, none⟩) 1 1) 3 #[.int .i64 0] (fun _ => by kernel_rfl) ?_; rintro w48 ga zg zm zw zb; replace HD : Sl _ := ⟨HD.out.new zg zm zb⟩; replace HT : Sl _ := ⟨HT.out.below zw⟩; clear zg zm zw zb; refine hK.out _ _ HD.out.bl (fun hHeld => ?_); clear hK K
          (try simp only [Act.put, sS0, sS1, sS2])
          refine wpAnyH_pure 4 (v := .agg #[.slice (some ⟨ga, 0, none⟩) 1 1, .slice (some ⟨gb, 0, none⟩) 1 1]) rfl (by kernel_rfl) (by kernel_rfl) (by kernel_rfl) (fun _ _ _ h => h) rfl (fun _ => by go_simp) (by assumption) ?_; simp only [Act.put, sS0, sS1, sS2]; refine wpAnyH_one 5 rfl (by kernel_rfl) rfl (fun K hK => ?_); go_simp; go_at_call 17
          (with_reducible refine (shNeeded A1 A2 A3 A4 P1 P2 P3 T a b c' d' ga gb _ (HM2.out _ HD.out.bl) HT.out (HD.out.at_ 0 rfl) (HD.out.at_ 1 rfl)).mono ?_)
          rintro e w49 ⟨rfl, hb⟩; replace HD : Sl _ := ⟨HD.out.below hb⟩; clear hb; refine hK.out _ _ HD.out.bl (fun hHeld => ?_); clear hK K
          (try simp only [Act.put, sS0, sS1, sS2])
          clear HT; refine wpAnyH_pure 6 (v := .tuple #[.int .i64 2, .int .i64 0]) rfl (by kernel_rfl) (by kernel_rfl) (by kernel_rfl) (fun _ _ _ h => h) rfl (fun _ => rfl) (by assumption) ?_; simp only [Act.put, sS0, sS1, sS2]; refine wpAnyH_pure 7 (v := .int .i64 2) rfl (by kernel_rfl) (by kernel_rfl) (by kernel_rfl) (fun _ _ _ h => h) rfl (fun _ => by go_simp) (by assumption) ?_; simp only [Act.put, sS0, sS1, sS2]; refine wpAnyH_pure 8 (v := .int .i64 0) rfl (by kernel_rfl) (by kernel_rfl) (by kernel_rfl) (fun _ _ _ h => h) rfl (fun _ => by go_simp) (by assumption) ?_; simp only [Act.put, sS0, sS1, sS2]; refine wpAnyH_pure 9 (v := .int .i64 2) rfl (by kernel_rfl) (by kernel_rfl) (by kernel_rfl) (fun _ _ _ h => h) rfl (fun _ => rfl) (by assumption) ?_; simp only [Act.put, sS0, sS1, sS2]; refine wpAnyH_pure 10 (v := .int .i64 0) rfl (by kernel_rfl) (by kernel_rfl) (by kernel_rfl) (fun _ _ _ h => h) rfl (fun _ => rfl) (by assumption) ?_; simp only [Act.put, sS0, sS1, sS2]; refine wpAnyH_done (by kernel_rfl) ?_ _
          (try go_wp2_with fail)
          go_meet
          exact ⟨rfl, rfl, ⟨HD.out.bl⟩⟩
      · skip; refine wp_newblk (fun g => .slice (some ⟨g, 0, none⟩) 1 1) 3 #[.int .i64 0] (fun _ => by kernel_rfl) ?_; rintro w50 ga zg zm zw zb; replace HD : Sl _ := ⟨HD.out.new zg zm zb⟩; clear zg zm zw zb; refine hK.out _ _ HD.out.bl (fun hHeld => ?_); clear hK K
        (try simp only [Act.put, sS0, sS1, sS2])
        refine wpAnyH_twom 1 3 rfl rfl (by kernel_rfl) rfl rfl (fun K hK => ?_) (fun K hK => ?_) 
        · skip; go_simp; go_at_call 31
          (with_reducible refine (table_any _).mono ?_)
          rintro e w51 ⟨⟨T, a, b, c', d', rfl, ht⟩, hb⟩; replace HD : Sl _ := ⟨HD.out.below hb⟩; have HT : Sl _ := ⟨ht⟩; clear hb ht; refine hK.out _ _ HD.out.bl (fun hHeld => ?_); clear hK K
          (try simp only [Act.put, sS0, sS1, sS2])
          refine wpAnyH_one 3 rfl (by kernel_rfl) rfl (fun K hK => ?_); refine wp_newblk (fun g => .slice (some ⟨g, 0, none⟩) 1 1) 3 #[.int .i64 0] (fun _ => by kernel_rfl) ?_; rintro w52 gb zg zm zw zb; replace HD : Sl _ := ⟨HD.out.new zg zm zb⟩; replace HT : Sl _ := ⟨HT.out.below zw⟩; clear zg zm zw zb; refine hK.out _ _ HD.out.bl (fun hHeld => ?_); clear hK K
          (try simp only [Act.put, sS0, sS1, sS2])
          refine wpAnyH_pure 4 (v := .agg #[.slice (some ⟨ga, 0, none⟩) 1 1, .slice (some ⟨gb, 0, none⟩) 1 1]) rfl (by kernel_rfl) (by kernel_rfl) (by kernel_rfl) (fun _ _ _ h => h) rfl (fun _ => by go_simp) (by assumption) ?_; simp only [Act.put, sS0, sS1, sS2]; refine wpAnyH_one 5 rfl (by kernel_rfl) rfl (fun K hK => ?_); go_simp; go_at_call 17
          (with_reducible refine (shNeeded A1 A2 A3 A4 P1 P2 P3 T a b c' d' ga gb _ (HM2.out _ HD.out.bl) HT.out (HD.out.at_ 1 rfl) (HD.out.at_ 0 rfl)).mono ?_)
          rintro e w53 ⟨rfl, hb⟩; replace HD : Sl _ := ⟨HD.out.below hb⟩; clear hb; refine hK.out _ _ HD.out.bl (fun hHeld => ?_); clear hK K
          (try simp only [Act.put, sS0, sS1, sS2])
          clear HT; refine wpAnyH_pure 6 (v := .tuple #[.int .i64 2, .int .i64 0]) rfl (by kernel_rfl) (by kernel_rfl) (by kernel_rfl) (fun _ _ _ h => h) rfl (fun _ => rfl) (by assumption) ?_; simp only [Act.put, sS0, sS1, sS2]; refine wpAnyH_pure 7 (v := .int .i64 2) rfl (by kernel_rfl) (by kernel_rfl) (by kernel_rfl) (fun _ _ _ h => h) rfl (fun _ => by go_simp) (by assumption) ?_; simp only [Act.put, sS0, sS1, sS2]; refine wpAnyH_pure 8 (v := .int .i64 0) rfl (by kernel_rfl) (by kernel_rfl) (by kernel_rfl) (fun _ _ _ h => h) rfl (fun _ => by go_simp) (by assumption) ?_; simp only [Act.put, sS0, sS1, sS2]; refine wpAnyH_pure 9 (v := .int .i64 2) rfl (by kernel_rfl) (by kernel_rfl) (by kernel_rfl) (fun _ _ _ h => h) rfl (fun _ => rfl) (by assumption) ?_; simp only [Act.put, sS0, sS1, sS2]; refine wpAnyH_pure 10 (v := .int .i64 0) rfl (by kernel_rfl) (by kernel_rfl) (by kernel_rfl) (fun _ _ _ h => h) rfl (fun _ => rfl) (by assumption) ?_; simp only [Act.put, sS0, sS1, sS2]; refine wpAnyH_done (by kernel_rfl) ?_ _
          (try go_wp2_with fail)
          go_meet
          exact ⟨rfl, rfl, ⟨HD.out.bl⟩⟩
        · skip; refine wp_newblk (fun g => .slice (some ⟨g, 0, none⟩) 1 1) 3 #[.int .i64 0] (fun _ => by kernel_rfl) ?_; rintro w54 gb zg zm zw zb; replace HD : Sl _ := ⟨HD.out.new zg zm zb⟩; clear zg zm zw zb; refine hK.out _ _ HD.out.bl (fun hHeld => ?_); clear hK K
          (try simp only [Act.put, sS0, sS1, sS2])
          refine wpAnyH_pure 4 (v := .agg #[.slice (some ⟨ga, 0, none⟩) 1 1, .slice (some ⟨gb, 0, none⟩) 1 1]) rfl (by kernel_rfl) (by kernel_rfl) (by kernel_rfl) (fun _ _ _ h => h) rfl (fun _ => by go_simp) (by assumption) ?_; simp only [Act.put, sS0, sS1, sS2]; refine wpAnyH_one 1 rfl (by kernel_rfl) rfl (fun K hK => ?_); go_simp; go_at_call 31
          (with_reducible refine (table_any _).mono ?_)
          rintro e w55 ⟨⟨T, a, b, c', d', rfl, ht⟩, hb⟩; replace HD : Sl _ := ⟨HD.out.below hb⟩; have HT : Sl _ := ⟨ht⟩; clear hb ht; refine hK.out _ _ HD.out.bl (fun hHeld => ?_); clear hK K
          (try simp only [Act.put, sS0, sS1, sS2])
          refine wpAnyH_one 5 rfl (by kernel_rfl) rfl (fun K hK => ?_); go_simp; go_at_call 17
          (with_reducible refine (shNeeded A1 A2 A3 A4 P1 P2 P3 T a b c' d' ga gb _ (HM2.out _ HD.out.bl) HT.out (HD.out.at_ 1 rfl) (HD.out.at_ 0 rfl)).mono ?_)
          rintro e w56 ⟨rfl, hb⟩; replace HD : Sl _ := ⟨HD.out.below hb⟩; clear hb; refine hK.out _ _ HD.out.bl (fun hHeld => ?_); clear hK K
          (try simp only [Act.put, sS0, sS1, sS2])
          clear HT; refine wpAnyH_pure 6 (v := .tuple #[.int .i64 2, .int .i64 0]) rfl (by kernel_rfl) (by kernel_rfl) (by kernel_rfl) (fun _ _ _ h => h) rfl (fun _ => rfl) (by assumption) ?_; simp only [Act.put, sS0, sS1, sS2]; refine wpAnyH_pure 7 (v := .int .i64 2) rfl (by kernel_rfl) (by kernel_rfl) (by kernel_rfl) (fun _ _ _ h => h) rfl (fun _ => by go_simp) (by assumption) ?_; simp only [Act.put, sS0, sS1, sS2]; refine wpAnyH_pure 8 (v := .int .i64 0) rfl (by kernel_rfl) (by kernel_rfl) (by kernel_rfl) (fun _ _ _ h => h) rfl (fun _ => by go_simp) (by assumption) ?_; simp only [Act.put, sS0, sS1, sS2]; refine wpAnyH_pure 9 (v := .int .i64 2) rfl (by kernel_rfl) (by kernel_rfl) (by kernel_rfl) (fun _ _ _ h => h) rfl (fun _ => rfl) (by assumption) ?_; simp only [Act.put, sS0, sS1, sS2]; refine wpAnyH_pure 10 (v := .int .i64 0) rfl (by kernel_rfl) (by kernel_rfl) (by kernel_rfl) (fun _ _ _ h => h) rfl (fun _ => rfl) (by assumption) ?_; simp only [Act.put, sS0, sS1, sS2]; refine wpAnyH_done (by kernel_rfl) ?_ _
          (try go_wp2_with fail)
          go_meet
          exact ⟨rfl, rfl, ⟨HD.out.bl⟩⟩
      · skip; refine wp_newblk (fun g => .slice (some ⟨g, 0, none⟩) 1 1) 3 #[.int .i64 0] (fun _ => by kernel_rfl) ?_; rintro w57 gb zg zm zw zb; replace HD : Sl _ := ⟨HD.out.new zg zm zb⟩; clear zg zm zw zb; refine hK.out _ _ HD.out.bl (fun hHeld => ?_); clear hK K
        (try simp only [Act.put, sS0, sS1, sS2])
        refine wpAnyH_twom 1 2 rfl rfl (by kernel_rfl) rfl rfl (fun K hK => ?_) (fun K hK => ?_) 
        · skip; go_simp; go_at_call 31
          (with_reducible refine (table_any _).mono ?_)
          rintro e w58 ⟨⟨T, a, b, c', d', rfl, ht⟩, hb⟩; replace HD : Sl _ := ⟨HD.out.below hb⟩; have HT : Sl _ := ⟨ht⟩; clear hb ht; refine hK.out _ _ HD.out.bl (fun hHeld => ?_); clear hK K
          (try simp only [Act.put, sS0, sS1, sS2])
          refine wpAnyH_one 2 rfl (by kernel_rfl) rfl (fun K hK => ?_); refine wp_newblk (fun g => .slice (some ⟨g, 0, none⟩) 1 1) 3 #[.int .i64 0] (fun _ => by kernel_rfl) ?_; rintro w59 ga zg zm zw zb; replace HD : Sl _ := ⟨HD.out.new zg zm zb⟩; replace HT : Sl _ := ⟨HT.out.below zw⟩; clear zg zm zw zb; refine hK.out _ _ HD.out.bl (fun hHeld => ?_); clear hK K
          (try simp only [Act.put, sS0, sS1, sS2])
          refine wpAnyH_pure 4 (v := .agg #[.slice (some ⟨ga, 0, none⟩) 1 1, .slice (some ⟨gb, 0, none⟩) 1 1]) rfl (by kernel_rfl) (by kernel_rfl) (by kernel_rfl) (fun _ _ _ h => h) rfl (fun _ => by go_simp) (by assumption) ?_; simp only [Act.put, sS0, sS1, sS2]; refine wpAnyH_one 5 rfl (by kernel_rfl) rfl (fun K hK => ?_); go_simp; go_at_call 17
          (with_reducible refine (shNeeded A1 A2 A3 A4 P1 P2 P3 T a b c' d' ga gb _ (HM2.out _ HD.out.bl) HT.out (HD.out.at_ 0 rfl) (HD.out.at_ 1 rfl)).mono ?_)
          rintro e w60 ⟨rfl, hb⟩; replace HD : Sl _ := ⟨HD.out.below hb⟩; clear hb; refine hK.out _ _ HD.out.bl (fun hHeld => ?_); clear hK K
          (try simp only [Act.put, sS0, sS1, sS2])
          clear HT; refine wpAnyH_pure 6 (v := .tuple #[.int .i64 2, .int .i64 0]) rfl (by kernel_rfl) (by kernel_rfl) (by kernel_rfl) (fun _ _ _ h => h) rfl (fun _ => rfl) (by assumption) ?_; simp only [Act.put, sS0, sS1, sS2]; refine wpAnyH_pure 7 (v := .int .i64 2) rfl (by kernel_rfl) (by kernel_rfl) (by kernel_rfl) (fun _ _ _ h => h) rfl (fun _ => by go_simp) (by assumption) ?_; simp only [Act.put, sS0, sS1, sS2]; refine wpAnyH_pure 8 (v := .int .i64 0) rfl (by kernel_rfl) (by kernel_rfl) (by kernel_rfl) (fun _ _ _ h => h) rfl (fun _ => by go_simp) (by assumption) ?_; simp only [Act.put, sS0, sS1, sS2]; refine wpAnyH_pure 9 (v := .int .i64 2) rfl (by kernel_rfl) (by kernel_rfl) (by kernel_rfl) (fun _ _ _ h => h) rfl (fun _ => rfl) (by assumption) ?_; simp only [Act.put, sS0, sS1, sS2]; refine wpAnyH_pure 10 (v := .int .i64 0) rfl (by kernel_rfl) (by kernel_rfl) (by kernel_rfl) (fun _ _ _ h => h) rfl (fun _ => rfl) (by assumption) ?_; simp only [Act.put, sS0, sS1, sS2]; refine wpAnyH_done (by kernel_rfl) ?_ _
          (try go_wp2_with fail)
          go_meet
          exact ⟨rfl, rfl, ⟨HD.out.bl⟩⟩
        · skip; refine wp_newblk (fun g => .slice (some ⟨g, 0, none⟩) 1 1) 3 #[.int .i64 0] (fun _ => by kernel_rfl) ?_; rintro w61 ga zg zm zw zb; replace HD : Sl _ := ⟨HD.out.new zg zm zb⟩; clear zg zm zw zb; refine hK.out _ _ HD.out.bl (fun hHeld => ?_); clear hK K
          (try simp only [Act.put, sS0, sS1, sS2])
          refine wpAnyH_pure 4 (v := .agg #[.slice (some ⟨ga, 0, none⟩) 1 1, .slice (some ⟨gb, 0, none⟩) 1 1]) rfl (by kernel_rfl) (by kernel_rfl) (by kernel_rfl) (fun _ _ _ h => h) rfl (fun _ => by go_simp) (by assumption) ?_; simp only [Act.put, sS0, sS1, sS2]; refine wpAnyH_one 1 rfl (by kernel_rfl) rfl (fun K hK => ?_); go_simp; go_at_call 31
          (with_reducible refine (table_any _).mono ?_)
          rintro e w62 ⟨⟨T, a, b, c', d', rfl, ht⟩, hb⟩; replace HD : Sl _ := ⟨HD.out.below hb⟩; have HT : Sl _ := ⟨ht⟩; clear hb ht; refine hK.out _ _ HD.out.bl (fun hHeld => ?_); clear hK K
          (try simp only [Act.put, sS0, sS1, sS2])
          refine wpAnyH_one 5 rfl (by kernel_rfl) rfl (fun K hK => ?_); go_simp; go_at_call 17
          (with_reducible refine (shNeeded A1 A2 A3 A4 P1 P2 P3 T a b c' d' ga gb _ (HM2.out _ HD.out.bl) HT.out (HD.out.at_ 0 rfl) (HD.out.at_ 1 rfl)).mono ?_)
          rintro e w63 ⟨rfl, hb⟩; replace HD : Sl _ := ⟨HD.out.below hb⟩; clear hb; refine hK.out _ _ HD.out.bl (fun hHeld => ?_); clear hK K
          (try simp only [Act.put, sS0, sS1, sS2])
          clear HT; refine wpAnyH_pure 6 (v := .tuple #[.int .i64 2, .int .i64 0]) rfl (by kernel_rfl) (by kernel_rfl) (by kernel_rfl) (fun _ _ _ h => h) rfl (fun _ => rfl) (by assumption) ?_; simp only [Act.put, sS0, sS1, sS2]; refine wpAnyH_pure 7 (v := .int .i64 2) rfl (by kernel_rfl) (by kernel_rfl) (by kernel_rfl) (fun _ _ _ h => h) rfl (fun _ => by go_simp) (by assumption) ?_; simp only [Act.put, sS0, sS1, sS2]; refine wpAnyH_pure 8 (v := .int .i64 0) rfl (by kernel_rfl) (by kernel_rfl) (by kernel_rfl) (fun _ _ _ h => h) rfl (fun _ => by go_simp) (by assumption) ?_; simp only [Act.put, sS0, sS1, sS2]; refine wpAnyH_pure 9 (v := .int .i64 2) rfl (by kernel_rfl) (by kernel_rfl) (by kernel_rfl) (fun _ _ _ h => h) rfl (fun _ => rfl) (by assumption) ?_; simp only [Act.put, sS0, sS1, sS2]; refine wpAnyH_pure 10 (v := .int .i64 0) rfl (by kernel_rfl) (by kernel_rfl) (by kernel_rfl) (fun _ _ _ h => h) rfl (fun _ => rfl) (by assumption) ?_; simp only [Act.put, sS0, sS1, sS2]; refine wpAnyH_done (by kernel_rfl) ?_ _
          (try go_wp2_with fail)
          go_meet
          exact ⟨rfl, rfl, ⟨HD.out.bl⟩⟩
    case rest =>
      obtain ⟨rfl, rfl, HY⟩ := hcut; replace HD : Sl _ := ⟨HD.out.below HY.out⟩; replace HR : Sl _ := ⟨HR.out.below HY.out⟩; clear HY
      go_wp2_with ((with_reducible show wpList _ _ _ _ _ _); first
        | (refine wpList_made 30 rfl rfl 2 5 #[.int .i64 5, .int .i64 1, .int .i64 3, .int .i64 4, .int .i64 2] (fun _ => by kernel_rfl) ?_; rintro w50 g30 zg zm zs zb; replace HD : Sl _ := ⟨HD.out.new zg zm zb⟩; replace HR : Sl _ := ⟨HR.out.below (below_mv (Below.refl _ _) zm (Nat.le_refl _) (Nat.le_refl _))⟩; clear zg zm zs zb))
      refine (shPlan g30 _ (HD.out.at_ 0 rfl)).mono ?_; rintro e wp ⟨⟨AP, cP, L, rfl, hg, hl⟩, hb⟩; have HO : Sl _ := ⟨HD.out.below hb⟩; replace HR : Sl _ := ⟨HR.out.below hb⟩; have HG : Sl _ := ⟨hg⟩; have HGL : Sl _ := ⟨hl⟩; clear HD hb hg hl; have HD : Sl (Lg wp wp []) := ⟨Lg.nil wp⟩
      go_wp2_with ((with_reducible show wpList _ _ _ _ _ _); first
        | (refine wpList_load_whole rfl 27 (.tmp 1) rfl g1 rfl 27 _ _ ((HO.out.below HD.out.bl).at_ 2 rfl) Tryz.underlying27 rfl (by kernel_rfl) ?_)
        | (refine wpList_made 37 rfl rfl 3 2 #[.int .i64 0, .int .i64 2] (fun _ => by kernel_rfl) ?_; rintro w51 g37 zg zm zs zb; replace HD : Sl _ := ⟨HD.out.new zg zm zb⟩; clear zg zm zs zb)
        | (refine wpList_made 38 rfl rfl 3 1 #[.int .i64 0] (fun _ => by kernel_rfl) ?_; rintro w52 g38 zg zm zs zb; replace HD : Sl _ := ⟨HD.out.new zg zm zb⟩; clear zg zm zs zb)
        | (refine wpList_made 41 rfl rfl 33 2 #[.slice (some ⟨g37, 0, none⟩) 2 2, .slice (some ⟨g38, 0, none⟩) 1 1, .slice none 0 0, .slice none 0 0] (fun _ => by kernel_rfl) ?_; rintro w53 g41 zg zm zs zb; replace HD : Sl _ := ⟨HD.out.new zg zm zb⟩; clear zg zm zs zb))
      refine (shPrint A1 A2 A3 A4 P1 P2 P3 g41 g37 g38 _ (HM.out.below (HO.out.bl.trans (HD.out.bl.mono HO.out.bl.size))) (HD.out.at_ 2 rfl) (HD.out.at_ 1 rfl) (HD.out.at_ 0 rfl)).mono ?_; rintro e wq ⟨rfl, hb⟩; replace HD : Sl _ := ⟨HD.out.below hb⟩; have HW : Sl (Below wp.heap.size wp wq) := ⟨HD.out.bl⟩; clear HD hb; have r0 := ((HO.out.below HW.out).at_ 1 rfl).cell 0; have r1 := ((HO.out.below HW.out).at_ 1 rfl).cell 1; simp at r0 r1; go_wp2_with fail; have H2 : Sl _ := ⟨two_rows wq 3 3 #[.int .i64 0, .int .i64 1, .int .i64 2] #[.int .i64 0]⟩; refine (sameR_any ⟨A, 3, c, [0, 1, 2], B, 1, d, [0]⟩ ⟨some ⟨wq.heap.size, 0, none⟩, 3, 3, [0, 1, 2], some ⟨wq.heap.size + 1, 0, none⟩, 1, 1, [0]⟩ _ (HR.out.below (HW.out.trans (H2.out.2.2.mono HW.out.size))) ⟨.of_blk H2.out.1 rfl rfl, .of_blk H2.out.2.1 rfl rfl, ⟨Nat.le_refl _, by show 3 ≤ maxLen; decide⟩, ⟨Nat.le_refl _, by show 1 ≤ maxLen; decide⟩⟩ rfl rfl (by show 3 ≤ 1000000; decide) (by show 1 ≤ 1000000; decide)).mono ?_; rintro e wr ⟨rfl, hb⟩; have HV : Sl (Below wp.heap.size wp wr) := ⟨(HW.out.trans (H2.out.2.2.mono HW.out.size)).trans (hb.mono (Nat.le_trans HW.out.size H2.out.2.2.size))⟩; clear HW H2 hb r0 r1; go_wp2_with fail; have H3 : Sl _ := ⟨three_rows wr 3 3 31 #[.int .i64 1, .int .i64 4, .int .i64 2] #[.int .i64 3, .int .i64 0] #[.slice (some ⟨wr.heap.size, 0, none⟩) 3 3, .slice (some ⟨wr.heap.size + 1, 0, none⟩) 2 2]⟩
      have HLE : Sl (∀ s ∈ L, s.n ≤ 1000000) := ⟨fun s hs => by
        have h1 := (HG.out.all s hs).1; have h2 : s.l ∈ L.map SlV.l := List.mem_map.2 ⟨s, hs, rfl⟩; rw [HGL.out] at h2; simp only [List.mem_cons, List.not_mem_nil, or_false] at h2; rcases h2 with h2 | h2
        · rw [h2] at h1; simp at h1; omega
        · rw [h2] at h1; simp at h1; omega⟩
      refine (groups_any AP (some ⟨wr.heap.size + 2, 0, none⟩) 2 cP 2 L [⟨some ⟨wr.heap.size, 0, none⟩, 3, 3, [1, 4, 2]⟩, ⟨some ⟨wr.heap.size + 1, 0, none⟩, 2, 2, [3, 0]⟩] _ (HG.out.below (HV.out.trans (H3.out.2.2.2.mono HV.out.size))) (.of_blk H3.out.2.2.1 rfl rfl (fun s hs => ?_)) (by decide) HGL.out HLE.out).mono ?_
      · simp only [List.mem_cons, List.not_mem_nil, or_false] at hs; rcases hs with rfl | rfl
        · exact .of_blk H3.out.1 rfl rfl
        · exact .of_blk H3.out.2.1 rfl rfl
      rintro e wt ⟨rfl, hb⟩; have HU : Sl (Below w.heap.size w wt) := ⟨HBE.out.trans ((HO.out.bl.trans (((HV.out.trans (H3.out.2.2.2.mono HV.out.size)).trans (hb.mono (Nat.le_trans HV.out.size H3.out.2.2.2.size))).mono HO.out.bl.size)).mono HBE.out.size)⟩; clear HV H3 hb HLE; go_wp2_with fail; go_ret; exact ⟨rfl, HU.out⟩
end Go.Proofs.YtbaojmfkjpnfhaaGreatDoor
namespace Go.Proofs.YtbaojmfkjpnfhaaGreatDoor
set_option linter.unusedSimpArgs false
open Go.RowKit
set_option linter.unusedVariables false
theorem below_of_mv {w w' : World} (h : Mv w.heap.size w w') : Below w.heap.size w w' := ⟨h.os, h.tape, h.output, h.size, fun k hk => h.block k hk (by omega)⟩
theorem RgM.mvS {w w' : World} {g : Nat} {r : RgV} {t : TypeId} {a b : Option Addr} {n c m d : Nat} (h : RgM w r) (hB : Blk w g t #[.slice a n c, .slice b m d]) (hm : Mv g w w') : RgM w' r := by
  have hc : ∀ (j : Nat) (z : Int), (#[Value.slice a n c, Value.slice b m d] : Array Value)[j]? ≠ some (.int .i64 z) := fun j z => by
    rcases j with _ | _ | j
    · intro h; cases h
    · intro h; cases h
    · intro h; cases h
  exact ⟨h.s.mvR hB hc hm, h.c.mvR hB hc hm, h.sc, h.cc⟩
theorem rg0_M (w : World) : RgM w rg0 := ⟨II.nil _ _, II.nil _ _, ⟨Nat.le_refl _, Nat.zero_le _⟩, ⟨Nat.le_refl _, Nat.zero_le _⟩⟩
def NowOK (L : List RgV) (r : RgV) (p : Nat) (v : RgV) : Prop := (∀ z ∈ v.l, z ∈ r.l ∨ ∃ l ∈ (L.map RgV.l).take p, z ∈ l) ∧ ∀ z ∈ v.k, z ∈ r.k ∨ ∃ l ∈ (L.map RgV.k).take p, z ∈ l
theorem mem_take_mono {M : List (List Int)} {p q : Nat} (h : p ≤ q) {l : List Int} (hl : l ∈ M.take p) : l ∈ M.take q := by
  have : M.take p = (M.take q).take p := (by rw [List.take_take, Nat.min_eq_left h]); rw [this] at hl; exact List.mem_of_mem_take hl
theorem NowOK.succ {L : List RgV} {r v : RgV} {p : Nat} (h : NowOK L r p v) : NowOK L r (p + 1) v :=
  ⟨fun z hz => (h.1 z hz).imp id fun ⟨l, hl, e⟩ => ⟨l, mem_take_mono (by omega) hl, e⟩, fun z hz => (h.2 z hz).imp id fun ⟨l, hl, e⟩ => ⟨l, mem_take_mono (by omega) hl, e⟩⟩
def LstOK (L : List RgV) (r : RgV) (p : Nat) (s : Int) : Prop := (s = -1 ∧ ∀ j, j < p → ¬ AllIn L r j) ∨ ∃ q : Nat, s = (q : Int) ∧ q < p ∧ AllIn L r q ∧ ∀ j, j < q → ¬ AllIn L r j
theorem bot_at {o : SpO} {L : List RgV} {r : RgV} : atE o L r 0 = botE o L r := by
  unfold atE
  by_cases h : botE o L r = 0
  · rw [if_pos h, if_neg (by omega), h]
  · rw [if_neg h]
theorem bot_rg0 {o : SpO} {L : List RgV} {r : RgV} (h : botE o L r = 0) : botE o L rg0 = 0 := by
  have := (botE_ok h).1; unfold botE; rw [if_pos this]; rfl
theorem wi_alone {o : SpO} {L : List RgV} {r v : RgV} {p : Nat} (h : botE o L r = 0) (hp : p ≤ L.length) (h1 : v.l = atL o L rg0 p RgV.l) (h2 : v.k = atL o L rg0 p RgV.k) : WiR r v ↔ AllIn L r p := by
  obtain ⟨_, _, a⟩ := at_mem (bot_rg0 h) hp RgV.l; obtain ⟨_, _, b⟩ := at_mem (bot_rg0 h) hp RgV.k; unfold WiR AllIn; rw [h1, h2]; constructor
  · rintro ⟨x, y⟩; exact ⟨fun z hz => ((a z).1 (x z hz)).elim (fun e => (by cases e)) id, fun z hz => ((b z).1 (y z hz)).elim (fun e => (by cases e)) id⟩
  · rintro ⟨x, y⟩; exact ⟨fun z hz => (a z).2 (.inr (x z hz)), fun z hz => (b z).2 (.inr (y z hz))⟩
set_option maxHeartbeats 12800000 in
set_option maxRecDepth 100000 in
theorem crescendoGrows_any (o : SpO) (T : Option Addr) (n c : Nat) (L : List RgV) (r : RgV) (w : World) (hM : SpM w o) (hF : SpF o) (hT : TbM w T n c L) (hr : RgM w r) :
    Calls Tryz.prog 4 #[.agg #[.slice o.A1 o.n1 o.c1, .slice o.A2 o.n2 o.c2, .slice o.A3 o.n3 o.c3, .slice o.A4 o.n4 o.c4], .agg #[.slice T n c], .agg #[.slice r.A r.n r.c, .slice r.B r.m r.d]] w fun e w' => e = .returned (.bool true) ∧ Below w.heap.size w w' := by
  have HD : Sl (Lg w w []) := ⟨Lg.nil w⟩; have HM : Sl _ := ⟨hM⟩; have HF : Sl _ := ⟨hF⟩; have HT : Sl _ := ⟨hT⟩; have HR : Sl _ := ⟨hr⟩; have HL : Sl (L.length = n) := ⟨hT.row.len⟩; have HNC : Sl (n ≤ 9223372036854775807) := ⟨by have := hT.cap; unfold maxLen at this; omega⟩; clear hM hF hT hr; go_enter Tryz.func4, Tryz.ntmps4
  go_upto_region 1 with ((with_reducible show wpList _ _ _ _ _ _); first
    | (refine wpList_box_new 3 rfl rfl 27 (.tmp 0) rfl #[.slice o.A1 o.n1 o.c1, .slice o.A2 o.n2 o.c2, .slice o.A3 o.n3 o.c3, .slice o.A4 o.n4 o.c4] rfl (fun _ => by kernel_rfl) ?_; rintro w1 g3 zg zm zs zb; replace HD : Sl _ := ⟨HD.out.new zg zm zb⟩; clear zg zm zs zb)
    | (refine wpList_box_new 4 rfl rfl 30 (.tmp 1) rfl #[.slice T n c] rfl (fun _ => by kernel_rfl) ?_; rintro w2 g4 zg zm zs zb; replace HD : Sl _ := ⟨HD.out.new zg zm zb⟩; clear zg zm zs zb)
    | (refine wpList_box_new 5 rfl rfl 33 (.tmp 2) rfl #[.slice r.A r.n r.c, .slice r.B r.m r.d] rfl (fun _ => by kernel_rfl) ?_; rintro w3 g5 zg zm zs zb; replace HD : Sl _ := ⟨HD.out.new zg zm zb⟩; clear zg zm zs zb))
  have c30 : w3.cell? ⟨g3, 0, none⟩ = some (.slice o.A1 o.n1 o.c1) := (HD.out.at_ 2 rfl).cell 0; have c31 : w3.cell? ⟨g3, 1, none⟩ = some (.slice o.A2 o.n2 o.c2) := (HD.out.at_ 2 rfl).cell 1; have c32 : w3.cell? ⟨g3, 2, none⟩ = some (.slice o.A3 o.n3 o.c3) := (HD.out.at_ 2 rfl).cell 2; have c33 : w3.cell? ⟨g3, 3, none⟩ = some (.slice o.A4 o.n4 o.c4) := (HD.out.at_ 2 rfl).cell 3; have c40 : w3.cell? ⟨g4, 0, none⟩ = some (.slice T n c) := (HD.out.at_ 1 rfl).cell 0; have c50 : w3.cell? ⟨g5, 0, none⟩ = some (.slice r.A r.n r.c) := (HD.out.at_ 0 rfl).cell 0; have c51 : w3.cell? ⟨g5, 1, none⟩ = some (.slice r.B r.m r.d) := (HD.out.at_ 0 rfl).cell 1; go_wp2_with fail; refine (lFar_any o _ (HM.out.below HD.out.bl)).mono ?_; rintro e w4 ⟨⟨b1, rfl⟩, hb⟩; replace HD : Sl _ := ⟨HD.out.below hb⟩; clear hb; clear c30 c31 c32 c33 c40 c50 c51
  cases b1 with
  | true =>
    go_wp2_with fail; refine (shown_any _).mono ?_; rintro e w9 ⟨rfl, hb⟩; have HB9 : Sl _ := ⟨HD.out.bl.trans (hb.mono HD.out.bl.size)⟩; clear hb; go_wp2_with fail; go_ret; exact ⟨rfl, HB9.out⟩
  | false =>
    have c40 : w4.cell? ⟨g4, 0, none⟩ = some (.slice T n c) := (HD.out.at_ 1 rfl).cell 0; have c50 : w4.cell? ⟨g5, 0, none⟩ = some (.slice r.A r.n r.c) := (HD.out.at_ 0 rfl).cell 0; have c51 : w4.cell? ⟨g5, 1, none⟩ = some (.slice r.B r.m r.d) := (HD.out.at_ 0 rfl).cell 1; go_wp2_with fail; refine (lfar_any T n c L 70 _ (HT.out.below HD.out.bl)).mono ?_; rintro e w5 ⟨⟨b2, rfl⟩, hb⟩; replace HD : Sl _ := ⟨HD.out.below hb⟩; clear hb; clear c40 c50 c51
    cases b2 with
    | true =>
      go_wp2_with fail; refine (shown_any _).mono ?_; rintro e w9 ⟨rfl, hb⟩; have HB9 : Sl _ := ⟨HD.out.bl.trans (hb.mono HD.out.bl.size)⟩; clear hb; go_wp2_with fail; go_ret; exact ⟨rfl, HB9.out⟩
    | false =>
      have c40 : w5.cell? ⟨g4, 0, none⟩ = some (.slice T n c) := (HD.out.at_ 1 rfl).cell 0; have c50 : w5.cell? ⟨g5, 0, none⟩ = some (.slice r.A r.n r.c) := (HD.out.at_ 0 rfl).cell 0; have c51 : w5.cell? ⟨g5, 1, none⟩ = some (.slice r.B r.m r.d) := (HD.out.at_ 0 rfl).cell 1; go_wp2_with fail; refine (wideC_any r _).mono ?_; rintro e w6 ⟨rfl, hb⟩; replace HD : Sl _ := ⟨HD.out.below hb⟩; clear hb; clear c40 c50 c51; generalize wideC r = b3
      cases b3 with
      | true =>
        go_wp2_with fail; refine (shown_any _).mono ?_; rintro e w9 ⟨rfl, hb⟩; have HB9 : Sl _ := ⟨HD.out.bl.trans (hb.mono HD.out.bl.size)⟩; clear hb; go_wp2_with fail; go_ret; exact ⟨rfl, HB9.out⟩
      | false =>
        have c30 : w6.cell? ⟨g3, 0, none⟩ = some (.slice o.A1 o.n1 o.c1) := (HD.out.at_ 2 rfl).cell 0; have c31 : w6.cell? ⟨g3, 1, none⟩ = some (.slice o.A2 o.n2 o.c2) := (HD.out.at_ 2 rfl).cell 1; have c32 : w6.cell? ⟨g3, 2, none⟩ = some (.slice o.A3 o.n3 o.c3) := (HD.out.at_ 2 rfl).cell 2; have c33 : w6.cell? ⟨g3, 3, none⟩ = some (.slice o.A4 o.n4 o.c4) := (HD.out.at_ 2 rfl).cell 3; have c40 : w6.cell? ⟨g4, 0, none⟩ = some (.slice T n c) := (HD.out.at_ 1 rfl).cell 0; have c50 : w6.cell? ⟨g5, 0, none⟩ = some (.slice r.A r.n r.c) := (HD.out.at_ 0 rfl).cell 0; have c51 : w6.cell? ⟨g5, 1, none⟩ = some (.slice r.B r.m r.d) := (HD.out.at_ 0 rfl).cell 1; go_wp2_with fail; refine (At_any o T n c L 0 r _ (HM.out.below HD.out.bl) HF.out (HT.out.below HD.out.bl) (HR.out.below HD.out.bl) (by unfold i64; omega)).mono ?_; rintro e w7 ⟨⟨A0, n0, c0, B0, m0, d0, rfl, hg0⟩, hb⟩; replace HD : Sl _ := ⟨HD.out.below hb⟩; clear hb; clear c30 c31 c32 c33 c40 c50 c51; rw [bot_at]; have HG0 : Sl _ := ⟨hg0⟩; clear hg0; have HB0 : Sl (botE o L r = if tabE o L = 0 then regE o r else tabE o L) := ⟨rfl⟩; have HRF : Sl (tabE o L = 0 → (if specE o = 0 then regE o r else specE o) = regE o r) := ⟨fun h => if_pos (tabE_ok2 h).1⟩; have HN1 : Sl (tabE o L = 0 → o.n1 ≤ 1000) := ⟨fun h => by have := specE_bd (tabE_ok2 h).1; omega⟩; have HBOK : Sl (botE o L r = 0 → atL o L r 0 RgV.l = r.l ∧ atL o L r 0 RgV.k = r.k) := ⟨at_zero⟩; obtain ⟨z, hz⟩ : ∃ z, botE o L r = z := ⟨_, rfl⟩; have HZ : Sl _ := ⟨hz⟩; rw [hz] at HB0 HBOK ⊢; clear hz; obtain ⟨l0, hl0⟩ : ∃ l0, atL o L r 0 RgV.l = l0 := ⟨_, rfl⟩; obtain ⟨k0, hk0⟩ : ∃ k0, atL o L r 0 RgV.k = k0 := ⟨_, rfl⟩; rw [hl0, hk0] at HG0 HBOK; clear hl0 hk0
        go_upto_region 4 with ((with_reducible show wpList _ _ _ _ _ _); first
          | (refine wpList_alloc_new 7 rfl rfl 33 rfl #[.slice none 0 0, .slice none 0 0] alloc_reg ?_; rintro w8 g7 zg zm zs zb; replace HG0 : Sl _ := ⟨HG0.out.below (below_of_mv zm)⟩; replace HD : Sl _ := ⟨HD.out.new zg zm zb⟩; clear zg zm zs zb)
          | (refine wpList_store_whole rfl 33 (.tmp 7) (.tmp 34) rfl g7 #[.slice A0 n0 c0, .slice B0 m0 d0] rfl rfl 33 _ (HD.out.at_ 0 rfl) rfl (by kernel_rfl) (by simp [Value.oneCell']) ?_; rintro w9 zm zs zb; replace HG0 : Sl _ := ⟨HG0.out.mvS (HD.out.at_ 0 rfl) zm⟩; replace HD : Sl _ := ⟨HD.out.upd zm zb⟩; clear zm zs zb))
        by_cases hz0 : z = 0
        · subst hz0; obtain ⟨hl0, hk0⟩ := HBOK.out rfl; subst hl0 hk0
          have HLE : Sl (r.n ≤ 1000000 ∧ r.m ≤ 1000000 ∧ n0 ≤ 1000000 ∧ m0 ≤ 1000000 ∧ n ≤ 60) := ⟨by
            obtain ⟨h1, h2⟩ := botE_ok HZ.out; have h3 := (tabE_ok2 h1).1; have h4 := specE_bd h3; have h5 := drwE_len (regE_ok h2).1; have h6 := drwE_len (regE_ok h2).2; have h7 := HR.out.s.1; have h8 := HR.out.c.1; have h9 := HG0.out.s.1; have h10 := HG0.out.c.1; have h11 := (tabE_ok2 h1).2.1; have h12 := HL.out; simp only [] at h9 h10
            omega⟩
          have hzz : ((0 : Int) != 0) = false := (by decide); have c70 : w9.cell? ⟨g7, 0, none⟩ = some (.slice A0 n0 c0) := (HD.out.at_ 0 rfl).cell 0; have c71 : w9.cell? ⟨g7, 1, none⟩ = some (.slice B0 m0 d0) := (HD.out.at_ 0 rfl).cell 1; have c50 : w9.cell? ⟨g5, 0, none⟩ = some (.slice r.A r.n r.c) := (HD.out.at_ 1 rfl).cell 0; have c51 : w9.cell? ⟨g5, 1, none⟩ = some (.slice r.B r.m r.d) := (HD.out.at_ 1 rfl).cell 1; go_wp2_with fail; refine (sameR_any ⟨A0, n0, c0, r.l, B0, m0, d0, r.k⟩ r _ HG0.out (HR.out.below HD.out.bl) rfl rfl HLE.out.2.2.1 HLE.out.2.2.2.1).mono ?_; rintro e w10 ⟨rfl, hb⟩; have HG1 : Sl (RgM w10 ⟨A0, n0, c0, r.l, B0, m0, d0, r.k⟩) := ⟨HG0.out.below hb⟩; replace HD : Sl _ := ⟨HD.out.below hb⟩; clear hb; clear c70 c71 c50 c51 HG0; have HNW : Sl (NowOK L r 0 ⟨A0, n0, c0, r.l, B0, m0, d0, r.k⟩) := ⟨⟨fun z hz => .inl hz, fun z hz => .inl hz⟩⟩; have HLS : Sl (LstOK L r 0 (-1)) := ⟨.inl ⟨rfl, fun j h => absurd h (Nat.not_lt_zero _)⟩⟩; go_wp2_with fail; clear HB0 HRF HN1 HBOK
          go_loopw [9, 10] (fun s9 s10 wv => ∃ (s : Int) (p : Nat) (v : RgV), p ≤ n + 1 ∧ s9 = .int .i64 s ∧ s10 = .int .i64 (p : Int) ∧ Sl (Lg w wv [(g7, 33, #[.slice v.A v.n v.c, .slice v.B v.m v.d]), (g5, 33, #[.slice r.A r.n r.c, .slice r.B r.m r.d]), (g4, 30, #[.slice T n c]), (g3, 27, #[.slice o.A1 o.n1 o.c1, .slice o.A2 o.n2 o.c2, .slice o.A3 o.n3 o.c3, .slice o.A4 o.n4 o.c4])]) ∧ Sl (RgM wv v) ∧ Sl (NowOK L r p v) ∧ Sl (LstOK L r p s)) (fun _ s10 _ => n + 1 - (RowKit.intOf s10).toNat)
          case atStart => exact ⟨-1, 0, ⟨A0, n0, c0, r.l, B0, m0, d0, r.k⟩, by omega, rfl, rfl, HD, HG1, HNW, HLS⟩
          case round =>
            clear HD HG1 HNW HLS; obtain ⟨s, p, v, hp, rfl, rfl, HD, HV, HNW, HLS⟩ := hrel; have hn60 : (n : Int) ≤ 60 := (by have := HLE.out; omega); have c30 : wr.cell? ⟨g3, 0, none⟩ = some (.slice o.A1 o.n1 o.c1) := (HD.out.at_ 3 rfl).cell 0; have c31 : wr.cell? ⟨g3, 1, none⟩ = some (.slice o.A2 o.n2 o.c2) := (HD.out.at_ 3 rfl).cell 1; have c32 : wr.cell? ⟨g3, 2, none⟩ = some (.slice o.A3 o.n3 o.c3) := (HD.out.at_ 3 rfl).cell 2; have c33 : wr.cell? ⟨g3, 3, none⟩ = some (.slice o.A4 o.n4 o.c4) := (HD.out.at_ 3 rfl).cell 3; have c40 : wr.cell? ⟨g4, 0, none⟩ = some (.slice T n c) := (HD.out.at_ 2 rfl).cell 0; have c50 : wr.cell? ⟨g5, 0, none⟩ = some (.slice r.A r.n r.c) := (HD.out.at_ 1 rfl).cell 0; have c51 : wr.cell? ⟨g5, 1, none⟩ = some (.slice r.B r.m r.d) := (HD.out.at_ 1 rfl).cell 1
            by_cases hpn : p ≤ n
            · have hpI : decide ((p : Int) ≤ (n : Int)) = true := decide_eq_true (by omega); have hpI2 : (p : Int) ≤ (n : Int) := (by omega); have HPN : Sl (p ≤ L.length ∧ p ≤ n) := ⟨by have := HL.out; omega⟩; clear hpn hp; go_wp2_with fail; refine (At_any o T n c L (p : Int) r _ (HM.out.below HD.out.bl) HF.out (HT.out.below HD.out.bl) (HR.out.below HD.out.bl) (by unfold i64; omega)).mono ?_; rintro e w11 ⟨⟨A1, n1, c1, B1, m1, d1, rfl, hg1⟩, hb⟩; obtain ⟨e1, _, ml⟩ := at_mem HZ.out HPN.out.1 RgV.l; obtain ⟨_, _, mk⟩ := at_mem HZ.out HPN.out.1 RgV.k; rw [e1]; replace HV : Sl _ := ⟨HV.out.below hb⟩; replace HD : Sl _ := ⟨HD.out.below hb⟩; clear hb; obtain ⟨nl, hnl⟩ : ∃ nl, atL o L r (p : Int) RgV.l = nl := ⟨_, rfl⟩; obtain ⟨nk, hnk⟩ : ∃ nk, atL o L r (p : Int) RgV.k = nk := ⟨_, rfl⟩; rw [hnl] at hg1 ml; rw [hnk] at hg1 mk; have HX : Sl (RgM w11 ⟨A1, n1, c1, nl, B1, m1, d1, nk⟩) := ⟨hg1⟩; have HML : Sl _ := ⟨ml⟩; have HMK : Sl _ := ⟨mk⟩; clear c30 c31 c32 c33 c40 c50 c51; clear hg1 ml mk e1 hnl hnk
              go_upto_region 13 with ((with_reducible show wpList _ _ _ _ _ _); first
                | (refine wpList_alloc_new 11 rfl rfl 33 rfl #[.slice none 0 0, .slice none 0 0] alloc_reg ?_; rintro w12 g11 zg zm zs zb; replace HX : Sl _ := ⟨HX.out.below (below_of_mv zm)⟩; replace HV : Sl _ := ⟨HV.out.below (below_of_mv zm)⟩; replace HD : Sl _ := ⟨HD.out.new zg zm zb⟩; clear zg zm zs zb)
                | (refine wpList_store_whole rfl 33 (.tmp 11) (.tmp 68) rfl g11 #[.slice A1 n1 c1, .slice B1 m1 d1] rfl rfl 33 _ (HD.out.at_ 0 rfl) rfl (by kernel_rfl) (by simp [Value.oneCell']) ?_; rintro w13 zm zs zb; replace HX : Sl _ := ⟨HX.out.mvS (HD.out.at_ 0 rfl) zm⟩; replace HV : Sl _ := ⟨HV.out.mvS (HD.out.at_ 0 rfl) zm⟩; replace HD : Sl _ := ⟨HD.out.upd zm zb⟩; clear zm zs zb))
              have c30 : w13.cell? ⟨g3, 0, none⟩ = some (.slice o.A1 o.n1 o.c1) := (HD.out.at_ 4 rfl).cell 0; have c31 : w13.cell? ⟨g3, 1, none⟩ = some (.slice o.A2 o.n2 o.c2) := (HD.out.at_ 4 rfl).cell 1; have c32 : w13.cell? ⟨g3, 2, none⟩ = some (.slice o.A3 o.n3 o.c3) := (HD.out.at_ 4 rfl).cell 2; have c33 : w13.cell? ⟨g3, 3, none⟩ = some (.slice o.A4 o.n4 o.c4) := (HD.out.at_ 4 rfl).cell 3; have c40 : w13.cell? ⟨g4, 0, none⟩ = some (.slice T n c) := (HD.out.at_ 3 rfl).cell 0; go_wp2_with fail; refine (At_any o T n c L (p : Int) rg0 _ (HM.out.below HD.out.bl) HF.out (HT.out.below HD.out.bl) (rg0_M _) (by unfold i64; omega)).mono ?_; rintro e w14 ⟨⟨A2, n2, c2, B2, m2, d2, rfl, hg2⟩, hb⟩; obtain ⟨e2, _, al⟩ := at_mem (bot_rg0 HZ.out) HPN.out.1 RgV.l; obtain ⟨_, _, ak⟩ := at_mem (bot_rg0 HZ.out) HPN.out.1 RgV.k; rw [e2]; replace HV : Sl _ := ⟨HV.out.below hb⟩; replace HX : Sl _ := ⟨HX.out.below hb⟩; replace HD : Sl _ := ⟨HD.out.below hb⟩; clear hb; have HWA : Sl (WiR r ⟨A2, n2, c2, atL o L rg0 (p : Int) RgV.l, B2, m2, d2, atL o L rg0 (p : Int) RgV.k⟩ ↔ AllIn L r p) := ⟨wi_alone HZ.out HPN.out.1 rfl rfl⟩; obtain ⟨yl, hyl⟩ : ∃ yl, atL o L rg0 (p : Int) RgV.l = yl := ⟨_, rfl⟩; obtain ⟨yk, hyk⟩ : ∃ yk, atL o L rg0 (p : Int) RgV.k = yk := ⟨_, rfl⟩; rw [hyl] at hg2 al HWA; rw [hyk] at hg2 ak HWA; have HY : Sl (RgM w14 ⟨A2, n2, c2, yl, B2, m2, d2, yk⟩) := ⟨hg2⟩; have HW1 : Sl (wiB2 v ⟨A1, n1, c1, nl, B1, m1, d1, nk⟩ = true) := ⟨wiB2_t ⟨fun z hz => (HML.out z).2 (HNW.out.1 z hz), fun z hz => (HMK.out z).2 (HNW.out.2 z hz)⟩⟩; have HW2 : Sl (wiB2 ⟨A2, n2, c2, yl, B2, m2, d2, yk⟩ ⟨A1, n1, c1, nl, B1, m1, d1, nk⟩ = true) := ⟨wiB2_t ⟨fun z hz => (HML.out z).2 (((al z).1 hz).elim (fun e => (by cases e)) .inr), fun z hz => (HMK.out z).2 (((ak z).1 hz).elim (fun e => (by cases e)) .inr)⟩⟩; have HNX : Sl (NowOK L r (p + 1) ⟨A1, n1, c1, nl, B1, m1, d1, nk⟩) := ⟨NowOK.succ ⟨fun z hz => (HML.out z).1 hz, fun z hz => (HMK.out z).1 hz⟩⟩; clear hg2 al ak e2 hyl hyk c30 c31 c32 c33 c40 HML HMK
              go_upto_region 14 with ((with_reducible show wpList _ _ _ _ _ _); first
                | (refine wpList_alloc_new 13 rfl rfl 33 rfl #[.slice none 0 0, .slice none 0 0] alloc_reg ?_; rintro w15 g13 zg zm zs zb; replace HY : Sl _ := ⟨HY.out.below (below_of_mv zm)⟩; replace HX : Sl _ := ⟨HX.out.below (below_of_mv zm)⟩; replace HV : Sl _ := ⟨HV.out.below (below_of_mv zm)⟩; replace HD : Sl _ := ⟨HD.out.new zg zm zb⟩; clear zg zm zs zb)
                | (refine wpList_store_whole rfl 33 (.tmp 13) (.tmp 76) rfl g13 #[.slice A2 n2 c2, .slice B2 m2 d2] rfl rfl 33 _ (HD.out.at_ 0 rfl) rfl (by kernel_rfl) (by simp [Value.oneCell']) ?_; rintro w16 zm zs zb; replace HY : Sl _ := ⟨HY.out.mvS (HD.out.at_ 0 rfl) zm⟩; replace HX : Sl _ := ⟨HX.out.mvS (HD.out.at_ 0 rfl) zm⟩; replace HV : Sl _ := ⟨HV.out.mvS (HD.out.at_ 0 rfl) zm⟩; replace HD : Sl _ := ⟨HD.out.upd zm zb⟩; clear zm zs zb))
              have hzz : ((0 : Int) != 0) = false := (by decide); have x0 : w16.cell? ⟨g11, 0, none⟩ = some (.slice A1 n1 c1) := (HD.out.at_ 1 rfl).cell 0; have x1 : w16.cell? ⟨g11, 1, none⟩ = some (.slice B1 m1 d1) := (HD.out.at_ 1 rfl).cell 1; have y0 : w16.cell? ⟨g13, 0, none⟩ = some (.slice A2 n2 c2) := (HD.out.at_ 0 rfl).cell 0; have y1 : w16.cell? ⟨g13, 1, none⟩ = some (.slice B2 m2 d2) := (HD.out.at_ 0 rfl).cell 1; have v0 : w16.cell? ⟨g7, 0, none⟩ = some (.slice v.A v.n v.c) := (HD.out.at_ 2 rfl).cell 0; have v1 : w16.cell? ⟨g7, 1, none⟩ = some (.slice v.B v.m v.d) := (HD.out.at_ 2 rfl).cell 1; have c50 : w16.cell? ⟨g5, 0, none⟩ = some (.slice r.A r.n r.c) := (HD.out.at_ 3 rfl).cell 0; have c51 : w16.cell? ⟨g5, 1, none⟩ = some (.slice r.B r.m r.d) := (HD.out.at_ 3 rfl).cell 1; go_wp2_with fail; refine (within_rg v ⟨A1, n1, c1, nl, B1, m1, d1, nk⟩ _ HV.out HX.out).mono ?_; rintro e w17 ⟨rfl, hb⟩; rw [HW1.out]; replace HV : Sl _ := ⟨HV.out.below hb⟩; replace HX : Sl _ := ⟨HX.out.below hb⟩; replace HY : Sl _ := ⟨HY.out.below hb⟩; replace HD : Sl _ := ⟨HD.out.below hb⟩; clear hb; clear x0 x1 y0 y1 v0 v1 c50 c51; have x0 : w17.cell? ⟨g11, 0, none⟩ = some (.slice A1 n1 c1) := (HD.out.at_ 1 rfl).cell 0; have x1 : w17.cell? ⟨g11, 1, none⟩ = some (.slice B1 m1 d1) := (HD.out.at_ 1 rfl).cell 1; have y0 : w17.cell? ⟨g13, 0, none⟩ = some (.slice A2 n2 c2) := (HD.out.at_ 0 rfl).cell 0; have y1 : w17.cell? ⟨g13, 1, none⟩ = some (.slice B2 m2 d2) := (HD.out.at_ 0 rfl).cell 1; have v0 : w17.cell? ⟨g7, 0, none⟩ = some (.slice v.A v.n v.c) := (HD.out.at_ 2 rfl).cell 0; have v1 : w17.cell? ⟨g7, 1, none⟩ = some (.slice v.B v.m v.d) := (HD.out.at_ 2 rfl).cell 1; have c50 : w17.cell? ⟨g5, 0, none⟩ = some (.slice r.A r.n r.c) := (HD.out.at_ 3 rfl).cell 0; have c51 : w17.cell? ⟨g5, 1, none⟩ = some (.slice r.B r.m r.d) := (HD.out.at_ 3 rfl).cell 1; go_wp2_with fail; refine (within_rg ⟨A2, n2, c2, yl, B2, m2, d2, yk⟩ ⟨A1, n1, c1, nl, B1, m1, d1, nk⟩ _ HY.out HX.out).mono ?_; rintro e w18 ⟨rfl, hb⟩; rw [HW2.out]; replace HV : Sl _ := ⟨HV.out.below hb⟩; replace HX : Sl _ := ⟨HX.out.below hb⟩; replace HY : Sl _ := ⟨HY.out.below hb⟩; replace HD : Sl _ := ⟨HD.out.below hb⟩; clear hb; clear x0 x1 y0 y1 v0 v1 c50 c51; rcases HLS.out with ⟨hs, hno⟩ | ⟨q, hs, hq, hqa, hqn⟩
              · subst hs; have HNO : Sl _ := ⟨hno⟩; clear hno HLS; have hneg : decide ((-1 : Int) < 0) = true := (by decide); have x0 : w18.cell? ⟨g11, 0, none⟩ = some (.slice A1 n1 c1) := (HD.out.at_ 1 rfl).cell 0; have x1 : w18.cell? ⟨g11, 1, none⟩ = some (.slice B1 m1 d1) := (HD.out.at_ 1 rfl).cell 1; have y0 : w18.cell? ⟨g13, 0, none⟩ = some (.slice A2 n2 c2) := (HD.out.at_ 0 rfl).cell 0; have y1 : w18.cell? ⟨g13, 1, none⟩ = some (.slice B2 m2 d2) := (HD.out.at_ 0 rfl).cell 1; have v0 : w18.cell? ⟨g7, 0, none⟩ = some (.slice v.A v.n v.c) := (HD.out.at_ 2 rfl).cell 0; have v1 : w18.cell? ⟨g7, 1, none⟩ = some (.slice v.B v.m v.d) := (HD.out.at_ 2 rfl).cell 1; have c50 : w18.cell? ⟨g5, 0, none⟩ = some (.slice r.A r.n r.c) := (HD.out.at_ 3 rfl).cell 0; have c51 : w18.cell? ⟨g5, 1, none⟩ = some (.slice r.B r.m r.d) := (HD.out.at_ 3 rfl).cell 1; go_wp2_with fail; refine (within_rg r ⟨A2, n2, c2, yl, B2, m2, d2, yk⟩ _ (HR.out.below HD.out.bl) HY.out).mono ?_; rintro e w19 ⟨rfl, hb⟩; replace HV : Sl _ := ⟨HV.out.below hb⟩; replace HX : Sl _ := ⟨HX.out.below hb⟩; replace HY : Sl _ := ⟨HY.out.below hb⟩; replace HD : Sl _ := ⟨HD.out.below hb⟩; clear hb; clear x0 x1 y0 y1 v0 v1 c50 c51
                by_cases hA : AllIn L r p
                · rw [wiB2_t (HWA.out.2 hA)]; have HL2 : Sl (LstOK L r (p + 1) (p : Int)) := ⟨.inr ⟨p, rfl, by omega, hA, HNO.out⟩⟩; have x0 : w19.cell? ⟨g11, 0, none⟩ = some (.slice A1 n1 c1) := (HD.out.at_ 1 rfl).cell 0; have x1 : w19.cell? ⟨g11, 1, none⟩ = some (.slice B1 m1 d1) := (HD.out.at_ 1 rfl).cell 1; have y0 : w19.cell? ⟨g13, 0, none⟩ = some (.slice A2 n2 c2) := (HD.out.at_ 0 rfl).cell 0; have y1 : w19.cell? ⟨g13, 1, none⟩ = some (.slice B2 m2 d2) := (HD.out.at_ 0 rfl).cell 1; have v0 : w19.cell? ⟨g7, 0, none⟩ = some (.slice v.A v.n v.c) := (HD.out.at_ 2 rfl).cell 0; have v1 : w19.cell? ⟨g7, 1, none⟩ = some (.slice v.B v.m v.d) := (HD.out.at_ 2 rfl).cell 1; have c50 : w19.cell? ⟨g5, 0, none⟩ = some (.slice r.A r.n r.c) := (HD.out.at_ 3 rfl).cell 0; have c51 : w19.cell? ⟨g5, 1, none⟩ = some (.slice r.B r.m r.d) := (HD.out.at_ 3 rfl).cell 1
                  go_wp2_with ((with_reducible show wpList _ _ _ _ _ _); first
                    | (refine wpList_load_whole rfl 33 (.tmp 11) rfl g11 rfl 33 _ _ (HD.out.at_ 1 rfl) Tryz.underlying33 rfl (by kernel_rfl) ?_)
                    | (refine wpList_store_whole rfl 33 (.tmp 7) (.tmp 104) rfl g7 #[.slice A1 n1 c1, .slice B1 m1 d1] rfl rfl 33 _ (HD.out.at_ 2 rfl) rfl (by kernel_rfl) (by simp [Value.oneCell']) ?_; rintro w20 zm zs zb; replace HX : Sl _ := ⟨HX.out.mvS (HD.out.at_ 2 rfl) zm⟩; replace HD : Sl _ := ⟨HD.out.set 2 rfl zm zb⟩; clear zm zs zb))
                  exact ⟨⟨(p : Int), p + 1, ⟨A1, n1, c1, nl, B1, m1, d1, nk⟩, by have := HPN.out; omega, rfl, by go_num, ⟨HD.out.drop.drop⟩, HX, HNX, HL2⟩, by have := HPN.out; simp [RowKit.intOf]; omega⟩
                · rw [wiB2_f (fun h => hA (HWA.out.1 h))]
                  have HL2 : Sl (LstOK L r (p + 1) (-1)) := ⟨.inl ⟨rfl, fun j hj => by
                    rcases Nat.lt_or_ge j p with h1 | h1
                    · exact HNO.out j h1
                    · obtain rfl : j = p := (by omega)
                      exact hA⟩⟩
                  have x0 : w19.cell? ⟨g11, 0, none⟩ = some (.slice A1 n1 c1) := (HD.out.at_ 1 rfl).cell 0; have x1 : w19.cell? ⟨g11, 1, none⟩ = some (.slice B1 m1 d1) := (HD.out.at_ 1 rfl).cell 1; have y0 : w19.cell? ⟨g13, 0, none⟩ = some (.slice A2 n2 c2) := (HD.out.at_ 0 rfl).cell 0; have y1 : w19.cell? ⟨g13, 1, none⟩ = some (.slice B2 m2 d2) := (HD.out.at_ 0 rfl).cell 1; have v0 : w19.cell? ⟨g7, 0, none⟩ = some (.slice v.A v.n v.c) := (HD.out.at_ 2 rfl).cell 0; have v1 : w19.cell? ⟨g7, 1, none⟩ = some (.slice v.B v.m v.d) := (HD.out.at_ 2 rfl).cell 1; have c50 : w19.cell? ⟨g5, 0, none⟩ = some (.slice r.A r.n r.c) := (HD.out.at_ 3 rfl).cell 0; have c51 : w19.cell? ⟨g5, 1, none⟩ = some (.slice r.B r.m r.d) := (HD.out.at_ 3 rfl).cell 1
                  go_wp2_with ((with_reducible show wpList _ _ _ _ _ _); first
                    | (refine wpList_load_whole rfl 33 (.tmp 11) rfl g11 rfl 33 _ _ (HD.out.at_ 1 rfl) Tryz.underlying33 rfl (by kernel_rfl) ?_)
                    | (refine wpList_store_whole rfl 33 (.tmp 7) (.tmp 104) rfl g7 #[.slice A1 n1 c1, .slice B1 m1 d1] rfl rfl 33 _ (HD.out.at_ 2 rfl) rfl (by kernel_rfl) (by simp [Value.oneCell']) ?_; rintro w20 zm zs zb; replace HX : Sl _ := ⟨HX.out.mvS (HD.out.at_ 2 rfl) zm⟩; replace HD : Sl _ := ⟨HD.out.set 2 rfl zm zb⟩; clear zm zs zb))
                  exact ⟨⟨-1, p + 1, ⟨A1, n1, c1, nl, B1, m1, d1, nk⟩, by have := HPN.out; omega, rfl, by go_num, ⟨HD.out.drop.drop⟩, HX, HNX, HL2⟩, by have := HPN.out; simp [RowKit.intOf]; omega⟩
              · have HL2 : Sl (LstOK L r (p + 1) s) := ⟨.inr ⟨q, hs, by omega, hqa, hqn⟩⟩; subst hs; have hneg : decide ((q : Int) < 0) = false := decide_eq_false (by omega); clear HLS hqa hqn hq; have x0 : w18.cell? ⟨g11, 0, none⟩ = some (.slice A1 n1 c1) := (HD.out.at_ 1 rfl).cell 0; have x1 : w18.cell? ⟨g11, 1, none⟩ = some (.slice B1 m1 d1) := (HD.out.at_ 1 rfl).cell 1; have y0 : w18.cell? ⟨g13, 0, none⟩ = some (.slice A2 n2 c2) := (HD.out.at_ 0 rfl).cell 0; have y1 : w18.cell? ⟨g13, 1, none⟩ = some (.slice B2 m2 d2) := (HD.out.at_ 0 rfl).cell 1; have v0 : w18.cell? ⟨g7, 0, none⟩ = some (.slice v.A v.n v.c) := (HD.out.at_ 2 rfl).cell 0; have v1 : w18.cell? ⟨g7, 1, none⟩ = some (.slice v.B v.m v.d) := (HD.out.at_ 2 rfl).cell 1; have c50 : w18.cell? ⟨g5, 0, none⟩ = some (.slice r.A r.n r.c) := (HD.out.at_ 3 rfl).cell 0; have c51 : w18.cell? ⟨g5, 1, none⟩ = some (.slice r.B r.m r.d) := (HD.out.at_ 3 rfl).cell 1
                go_wp2_with ((with_reducible show wpList _ _ _ _ _ _); first
                  | (refine wpList_load_whole rfl 33 (.tmp 11) rfl g11 rfl 33 _ _ (HD.out.at_ 1 rfl) Tryz.underlying33 rfl (by kernel_rfl) ?_)
                  | (refine wpList_store_whole rfl 33 (.tmp 7) (.tmp 104) rfl g7 #[.slice A1 n1 c1, .slice B1 m1 d1] rfl rfl 33 _ (HD.out.at_ 2 rfl) rfl (by kernel_rfl) (by simp [Value.oneCell']) ?_; rintro w20 zm zs zb; replace HX : Sl _ := ⟨HX.out.mvS (HD.out.at_ 2 rfl) zm⟩; replace HD : Sl _ := ⟨HD.out.set 2 rfl zm zb⟩; clear zm zs zb))
                exact ⟨⟨(q : Int), p + 1, ⟨A1, n1, c1, nl, B1, m1, d1, nk⟩, by have := HPN.out; omega, rfl, by go_num, ⟨HD.out.drop.drop⟩, HX, HNX, HL2⟩, by have := HPN.out; simp [RowKit.intOf]; omega⟩
            · have hpp : p = n + 1 := (by omega); subst hpp; have hpI : decide (((n + 1 : Nat) : Int) ≤ (n : Int)) = false := decide_eq_false (by omega); have hpI2 : (n : Int) < ((n + 1 : Nat) : Int) := (by omega); clear hpn hp; go_wp2_with fail; refine (Needed_any o T n c L r _ (HM.out.below HD.out.bl) HF.out (HT.out.below HD.out.bl) (HR.out.below HD.out.bl)).mono ?_; rintro e w21 ⟨rfl, hb⟩; replace HD : Sl _ := ⟨HD.out.below hb⟩; clear hb; clear c30 c31 c32 c33 c40 c50 c51
              have HNE : Sl ((neeF o L r).2 = 0 ∧ (neeF o L r).1 = s ∧ 0 ≤ s ∨ (neeF o L r).2 = 4 ∧ s = -1) := ⟨by
                rcases nee_spec HZ.out with ⟨e, q, e1, hq, hqa, hqn⟩ | ⟨e, hno⟩
                · refine .inl ⟨e, ?_⟩; rcases HLS.out with ⟨_, h⟩ | ⟨q2, h1, h2, h3, h4⟩
                  · exact absurd hqa (h q (by have := HL.out; omega))
                  · rcases Nat.lt_trichotomy q q2 with h5 | h5 | h5
                    · exact absurd hqa (h4 q h5)
                    · rw [e1, h1, h5]; exact ⟨rfl, by omega⟩
                    · exact absurd h3 (hqn q2 h5)
                · refine .inr ⟨by rw [e], ?_⟩; rcases HLS.out with ⟨h, _⟩ | ⟨q2, _, _, h3, _⟩
                  · exact h
                  · exact absurd h3 (hno q2)⟩
              generalize (neeF o L r).1 = na at *
              generalize (neeF o L r).2 = ne at *
              rcases HNE.out with ⟨h1, h2, h3⟩ | ⟨h1, h2⟩
              · subst h1; subst h2; have t1 : ((0 : Int) == 0) = true := (by decide); have t2 : decide ((0 : Int) ≤ na) = true := decide_eq_true h3; have t3 : (na == na) = true := (by simp); have t4 : ((0 : Int) != 0) = false := (by decide); go_wp2_with fail; refine (shown_any _).mono ?_; rintro e w9 ⟨rfl, hb⟩; have HB9 : Sl _ := ⟨HD.out.bl.trans (hb.mono HD.out.bl.size)⟩; clear hb; go_wp2_with fail; go_ret; exact ⟨rfl, HB9.out⟩
              · subst h1; subst h2; have t1 : ((4 : Int) == 0) = false := (by decide); have t2 : decide ((0 : Int) ≤ -1) = false := (by decide); have t4 : ((4 : Int) != 0) = true := (by decide); go_wp2_with fail; refine (shown_any _).mono ?_; rintro e w9 ⟨rfl, hb⟩; have HB9 : Sl _ := ⟨HD.out.bl.trans (hb.mono HD.out.bl.size)⟩; clear hb; go_wp2_with fail; go_ret; exact ⟨rfl, HB9.out⟩
        · have hzz : (z != 0) = true := (by simpa using hz0); have c30 : w9.cell? ⟨g3, 0, none⟩ = some (.slice o.A1 o.n1 o.c1) := (HD.out.at_ 3 rfl).cell 0; have c31 : w9.cell? ⟨g3, 1, none⟩ = some (.slice o.A2 o.n2 o.c2) := (HD.out.at_ 3 rfl).cell 1; have c32 : w9.cell? ⟨g3, 2, none⟩ = some (.slice o.A3 o.n3 o.c3) := (HD.out.at_ 3 rfl).cell 2; have c33 : w9.cell? ⟨g3, 3, none⟩ = some (.slice o.A4 o.n4 o.c4) := (HD.out.at_ 3 rfl).cell 3; have c40 : w9.cell? ⟨g4, 0, none⟩ = some (.slice T n c) := (HD.out.at_ 2 rfl).cell 0; have c50 : w9.cell? ⟨g5, 0, none⟩ = some (.slice r.A r.n r.c) := (HD.out.at_ 1 rfl).cell 0; have c51 : w9.cell? ⟨g5, 1, none⟩ = some (.slice r.B r.m r.d) := (HD.out.at_ 1 rfl).cell 1; go_wp2_with fail; refine (crCheck_any o T n c L _ (HM.out.below HD.out.bl) HF.out (HT.out.below HD.out.bl)).mono ?_; rintro e w10 ⟨rfl, hb⟩; replace HD : Sl _ := ⟨HD.out.below hb⟩; clear hb; clear c30 c31 c32 c33 c40 c50 c51
          by_cases ht : tabE o L = 0
          · have HRE := HRF.out ht; have HNN := HN1.out ht; have HB1 := HB0.out; rw [if_pos ht] at HB1; have HRX : Sl _ := ⟨HRE.trans HB1.symm⟩; have HN5 : Sl _ := ⟨HNN⟩; rw [ht]; have hyy : ((0 : Int) != 0) = false := (by decide); clear HRE HNN HB1 HB0 HRF HN1 ht; have c30 : w10.cell? ⟨g3, 0, none⟩ = some (.slice o.A1 o.n1 o.c1) := (HD.out.at_ 3 rfl).cell 0; have c31 : w10.cell? ⟨g3, 1, none⟩ = some (.slice o.A2 o.n2 o.c2) := (HD.out.at_ 3 rfl).cell 1; have c32 : w10.cell? ⟨g3, 2, none⟩ = some (.slice o.A3 o.n3 o.c3) := (HD.out.at_ 3 rfl).cell 2; have c33 : w10.cell? ⟨g3, 3, none⟩ = some (.slice o.A4 o.n4 o.c4) := (HD.out.at_ 3 rfl).cell 3; have c50 : w10.cell? ⟨g5, 0, none⟩ = some (.slice r.A r.n r.c) := (HD.out.at_ 1 rfl).cell 0; have c51 : w10.cell? ⟨g5, 1, none⟩ = some (.slice r.B r.m r.d) := (HD.out.at_ 1 rfl).cell 1; go_wp2_with fail; refine (rreg_any o r _ (HM.out.below HD.out.bl) HF.out (HR.out.below HD.out.bl) HN5.out).mono ?_; rintro e w11 ⟨rfl, hb⟩; rw [HRX.out]; replace HD : Sl _ := ⟨HD.out.below hb⟩; clear hb; clear c30 c31 c32 c33 c50 c51; go_wp2_with fail; refine (shown_any _).mono ?_; rintro e w9 ⟨rfl, hb⟩; have HB9 : Sl _ := ⟨HD.out.bl.trans (hb.mono HD.out.bl.size)⟩; clear hb; go_wp2_with fail; go_ret; exact ⟨rfl, HB9.out⟩
          · have hyy : (tabE o L != 0) = true := (by simpa using ht); generalize tabE o L = y at *
            go_wp2_with fail; refine (shown_any _).mono ?_; rintro e w9 ⟨rfl, hb⟩; have HB9 : Sl _ := ⟨HD.out.bl.trans (hb.mono HD.out.bl.size)⟩; clear hb; go_wp2_with fail; go_ret; exact ⟨rfl, HB9.out⟩
end Go.Proofs.YtbaojmfkjpnfhaaGreatDoor
