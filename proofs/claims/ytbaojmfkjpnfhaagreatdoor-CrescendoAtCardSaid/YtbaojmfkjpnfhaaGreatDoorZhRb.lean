/- The example's specification (chapter 10) and table (chapter 22). (Printed by gencza.py.) -/
import Derived.Test.YtbaojmfkjpnfhaaGreatDoorZhR
import Derived.Test.YtbaojmfkjpnfhaaGreatDoorSiH
namespace Go.Proofs.YtbaojmfkjpnfhaaGreatDoor
set_option linter.unusedSimpArgs false
open Go.RowKit
set_option linter.unusedVariables false
theorem wpList_made {P : Program} {ops : Array Oper} {Q : Exit → Act → World → Prop} {op : Oper} {rest : List Oper} {a : Act} {w : World} (k : Tmp) (hdst : op.dst = some k) (hgd : op.guard = none) (ty : TypeId) (n : Nat) (cells : Array Value)
    (hr : ∀ w : World, (execOp a.eval op).run P w = .ok (.value (.slice (some ⟨w.heap.size, 0, none⟩) n n)) (w.alloc (.cells cells ty)))
    (h : ∀ w' g, g = w.heap.size → Mv w.heap.size w w' → w'.heap.size = g + 1 → Blk w' g ty cells → wpList P ops Q rest (a.put op.dst (.slice (some ⟨g, 0, none⟩) n n)) w') : wpList P ops Q (op :: rest) a w := by
  refine wpList_plain hgd fun K hK => ?_
  unfold Oper.wp; rw [hr w, Oper.upon_value]; exact hK _ _ (h _ _ rfl (Mv.of_below ((Below.refl _ _).alloc (Nat.le_refl _) _)) (by simp) (Blk.new w ty cells))
theorem RowG.of_blk {α : Type} {w : World} {g : Nat} {t : TypeId} {cs : Array Value} {n sz : Nat} {f : α → List Value} {l : List α} (h : Blk w g t cs) (hf : ∀ p, (f p).length = sz) (hl : l.length = n) (hc : cs.toList = l.flatMap f) : RowG w (some ⟨g, 0, none⟩) n sz f l := by
  refine ⟨hl, ⟨by rw [flG_len f sz hf, hl], fun _ => ⟨_, rfl, h.lt, fun j u hu => ?_⟩⟩, hf⟩; rw [← hc] at hu; rw [show (⟨g, 0, none⟩ : Addr).add j = ⟨g, j, none⟩ by unfold Addr.add; split <;> simp_all]; have := h.cell j; rw [this, ← Array.getElem?_toList]; exact hu
def exO (A1 A2 A3 A4 P1 P2 P3 : Option Addr) : SpO := ⟨A1, 1, 1, [⟨⟨#[103, 114, 101, 97, 116]⟩, 36, 60⟩], A2, 2, 2, [⟨⟨#[102, 108, 117, 116, 101]⟩, 2, 8, 1, 36, 37⟩, ⟨⟨#[114, 101, 101, 100]⟩, 4, 8, 1, 36, 13⟩],
  A3, 3, 3, [⟨⟨#[102, 108, 117, 116, 101, 56]⟩, 0, 8, 1, P1, 1, 1, [⟨0, 0, 36, 60⟩]⟩, ⟨⟨#[102, 108, 117, 116, 101, 52]⟩, 0, 4, 1, P2, 1, 1, [⟨0, 12, 36, 60⟩]⟩, ⟨⟨#[98, 97, 115, 115]⟩, 0, 8, 1, P3, 1, 1, [⟨1, 0, 36, 48⟩]⟩], A4, 1, 1, [⟨⟨#[111, 99, 116, 97, 118, 101]⟩, 0, 0, 12, 0, false⟩]⟩
instance decI64 (z : Int) : Decidable (i64 z) := by unfold i64; infer_instance
theorem exO_F (A1 A2 A3 A4 P1 P2 P3 : Option Addr) : SpF (exO A1 A2 A3 A4 P1 P2 P3) := by
  have m1 : (1 : Nat) ≤ maxLen := (by decide); have m2 : (2 : Nat) ≤ maxLen := (by decide); have m3 : (3 : Nat) ≤ maxLen := (by decide); constructor
  · exact ⟨⟨Nat.le_refl _, m1⟩, ⟨Nat.le_refl _, m2⟩, ⟨Nat.le_refl _, m3⟩, ⟨Nat.le_refl _, m1⟩⟩
  · intro x hx; simp only [exO, List.mem_cons, List.not_mem_nil, or_false] at hx; subst hx; exact ⟨by decide, by decide, by decide⟩
  · intro x hx; simp only [exO, List.mem_cons, List.not_mem_nil, or_false] at hx; rcases hx with rfl | rfl <;> exact ⟨by decide, by decide, by decide, by decide, by decide, by decide⟩
  · intro x hx; simp only [exO, List.mem_cons, List.not_mem_nil, or_false] at hx; rcases hx with rfl | rfl | rfl <;> dsimp only <;> refine ⟨by decide, by decide, by decide, by decide, ⟨by decide, m1⟩, fun p hp => ?_⟩ <;> simp only [List.mem_cons, List.not_mem_nil, or_false] at hp <;> subst hp <;> exact ⟨by decide, by decide, by decide, by decide⟩
  · intro x hx; simp only [exO, List.mem_cons, List.not_mem_nil, or_false] at hx; subst hx; exact ⟨by decide, by decide, by decide, by decide, by decide⟩
theorem alloc_spec (w : World) : (Instr.alloc 27 true (.tuple #[])).run Tryz.prog w = .ok (.pointer (some ⟨w.heap.size, 0, none⟩)) (w.alloc (.cells #[.slice none 0 0, .slice none 0 0, .slice none 0 0, .slice none 0 0] 27)) := by kernel_rfl
theorem alloc_feet (w : World) : (Instr.alloc 95 true (.tuple #[])).run Tryz.prog w = .ok (.pointer (some ⟨w.heap.size, 0, none⟩)) (w.alloc (.cells #[.int .i64 0, .int .i64 0] 95)) := by kernel_rfl
set_option maxHeartbeats 6400000 in
set_option maxRecDepth 100000 in
theorem example_any (w : World) : Calls Tryz.prog 25 #[] w fun e w' =>
    (∃ A1 A2 A3 A4 P1 P2 P3, e = .returned (.agg #[.slice A1 1 1, .slice A2 2 2, .slice A3 3 3, .slice A4 1 1]) ∧ SpM w' (exO A1 A2 A3 A4 P1 P2 P3)) ∧ Below w.heap.size w w' := by
  have HD : Sl (Lg w w []) := ⟨Lg.nil w⟩; go_enter Tryz.func25, Tryz.ntmps25
  go_wp2_with ((with_reducible show wpList _ _ _ _ _ _); first
    | (refine wpList_alloc_new 0 rfl rfl 27 rfl #[.slice none 0 0, .slice none 0 0, .slice none 0 0, .slice none 0 0] alloc_spec ?_; rintro w1 g0 zg zm zs zb; replace HD : Sl _ := ⟨HD.out.new zg zm zb⟩; clear zg zm zs zb)
    | (refine wpList_alloc_new 1 rfl rfl 95 rfl #[.int .i64 0, .int .i64 0] alloc_feet ?_; rintro w2 g1 zg zm zs zb; replace HD : Sl _ := ⟨HD.out.new zg zm zb⟩; clear zg zm zs zb)
    | (refine wpList_alloc_new 2 rfl rfl 95 rfl #[.int .i64 0, .int .i64 0] alloc_feet ?_; rintro w3 g2 zg zm zs zb; replace HD : Sl _ := ⟨HD.out.new zg zm zb⟩; clear zg zm zs zb)
    | (refine wpList_store_whole rfl 95 (.tmp 1) (.tmp 3) rfl g1 #[.int .i64 8, .int .i64 1] rfl rfl 95 _ (HD.out.at_ 1 rfl) rfl (by kernel_rfl) (by simp [Value.oneCell']) ?_; rintro w4 zm zs zb; replace HD : Sl _ := ⟨HD.out.set 1 rfl zm zb⟩; clear zm zs zb)
    | (refine wpList_store_whole rfl 95 (.tmp 2) (.tmp 4) rfl g2 #[.int .i64 4, .int .i64 1] rfl rfl 95 _ (HD.out.at_ 0 rfl) rfl (by kernel_rfl) (by simp [Value.oneCell']) ?_; rintro w5 zm zs zb; replace HD : Sl _ := ⟨HD.out.set 0 rfl zm zb⟩; clear zm zs zb)
    | (refine wpList_made 6 rfl rfl 93 1 #[.string ⟨#[103, 114, 101, 97, 116]⟩, .int .i64 36, .int .i64 60] (fun _ => by kernel_rfl) ?_; rintro w6 gd zg zm zs zb; replace HD : Sl _ := ⟨HD.out.new zg zm zb⟩; clear zg zm zs zb)
    | (refine wpList_load_whole rfl 95 (.tmp 1) rfl g1 rfl 95 _ _ (HD.out.at_ 2 rfl) Tryz.underlying95 rfl (by kernel_rfl) ?_)
    | (refine wpList_load_whole rfl 95 (.tmp 1) rfl g1 rfl 95 _ _ (HD.out.at_ 2 rfl) Tryz.underlying95 rfl (by kernel_rfl) ?_)
    | (refine wpList_made 11 rfl rfl 97 2 #[.string ⟨#[102, 108, 117, 116, 101]⟩, .int .i64 2, .int .i64 8, .int .i64 1, .int .i64 36, .int .i64 37, .string ⟨#[114, 101, 101, 100]⟩, .int .i64 4, .int .i64 8, .int .i64 1, .int .i64 36, .int .i64 13] (fun _ => by kernel_rfl) ?_; rintro w7 gr zg zm zs zb; replace HD : Sl _ := ⟨HD.out.new zg zm zb⟩; clear zg zm zs zb)
    | (refine wpList_load_whole rfl 95 (.tmp 1) rfl g1 rfl 95 _ _ (HD.out.at_ 3 rfl) Tryz.underlying95 rfl (by kernel_rfl) ?_)
    | (refine wpList_made 14 rfl rfl 124 1 #[.int .i64 0, .int .i64 0, .int .i64 36, .int .i64 60] (fun _ => by kernel_rfl) ?_; rintro w8 p1 zg zm zs zb; replace HD : Sl _ := ⟨HD.out.new zg zm zb⟩; clear zg zm zs zb)
    | (refine wpList_load_whole rfl 95 (.tmp 2) rfl g2 rfl 95 _ _ (HD.out.at_ 3 rfl) Tryz.underlying95 rfl (by kernel_rfl) ?_)
    | (refine wpList_made 18 rfl rfl 124 1 #[.int .i64 0, .int .i64 12, .int .i64 36, .int .i64 60] (fun _ => by kernel_rfl) ?_; rintro w9 p2 zg zm zs zb; replace HD : Sl _ := ⟨HD.out.new zg zm zb⟩; clear zg zm zs zb)
    | (refine wpList_load_whole rfl 95 (.tmp 1) rfl g1 rfl 95 _ _ (HD.out.at_ 5 rfl) Tryz.underlying95 rfl (by kernel_rfl) ?_)
    | (refine wpList_made 22 rfl rfl 124 1 #[.int .i64 1, .int .i64 0, .int .i64 36, .int .i64 48] (fun _ => by kernel_rfl) ?_; rintro w10 p3 zg zm zs zb; replace HD : Sl _ := ⟨HD.out.new zg zm zb⟩; clear zg zm zs zb)
    | (refine wpList_made 24 rfl rfl 100 3 #[.string ⟨#[102, 108, 117, 116, 101, 56]⟩, .int .i64 0, .int .i64 8, .int .i64 1, .slice (some ⟨p1, 0, none⟩) 1 1, .string ⟨#[102, 108, 117, 116, 101, 52]⟩, .int .i64 0, .int .i64 4, .int .i64 1, .slice (some ⟨p2, 0, none⟩) 1 1, .string ⟨#[98, 97, 115, 115]⟩, .int .i64 0, .int .i64 8, .int .i64 1, .slice (some ⟨p3, 0, none⟩) 1 1] (fun _ => by kernel_rfl) ?_; rintro w11 gs zg zm zs zb; replace HD : Sl _ := ⟨HD.out.new zg zm zb⟩; clear zg zm zs zb)
    | (refine wpList_made 26 rfl rfl 102 1 #[.string ⟨#[111, 99, 116, 97, 118, 101]⟩, .int .i64 0, .int .i64 0, .int .i64 12, .int .i64 0, .bool false] (fun _ => by kernel_rfl) ?_; rintro w12 gc zg zm zs zb; replace HD : Sl _ := ⟨HD.out.new zg zm zb⟩; clear zg zm zs zb)
    | (refine wpList_store_whole rfl 27 (.tmp 0) (.tmp 27) rfl g0 #[.slice (some ⟨gd, 0, none⟩) 1 1, .slice (some ⟨gr, 0, none⟩) 2 2, .slice (some ⟨gs, 0, none⟩) 3 3, .slice (some ⟨gc, 0, none⟩) 1 1] rfl rfl 27 _ (HD.out.at_ 9 rfl) rfl (by kernel_rfl) (by simp [Value.oneCell']) ?_; rintro w13 zm zs zb; replace HD : Sl _ := ⟨HD.out.set 9 rfl zm zb⟩; clear zm zs zb))
  refine bodyPost_ret (results_row1c rfl _ _ g0 _ _ _ rfl (HD.out.at_ 9 rfl) Tryz.underlying27 rfl (by kernel_rfl)) rfl ?_; refine ⟨⟨some ⟨gd, 0, none⟩, some ⟨gr, 0, none⟩, some ⟨gs, 0, none⟩, some ⟨gc, 0, none⟩, some ⟨p1, 0, none⟩, some ⟨p2, 0, none⟩, some ⟨p3, 0, none⟩, rfl, ?_⟩, HD.out.bl⟩; refine ⟨.of_blk (HD.out.at_ 6 rfl) (fun _ => rfl) rfl rfl, .of_blk (HD.out.at_ 5 rfl) (fun _ => rfl) rfl rfl, .of_blk (HD.out.at_ 1 rfl) (fun _ => rfl) rfl rfl, .of_blk (HD.out.at_ 0 rfl) (fun _ => rfl) rfl rfl, fun y hy => ?_⟩; simp only [exO, List.mem_cons, List.not_mem_nil, or_false] at hy; rcases hy with rfl | rfl | rfl
  · exact .of_blk (HD.out.at_ 4 rfl) (fun _ => rfl) rfl rfl
  · exact .of_blk (HD.out.at_ 3 rfl) (fun _ => rfl) rfl rfl
  · exact .of_blk (HD.out.at_ 2 rfl) (fun _ => rfl) rfl rfl
def tbL (a b c d : Option Addr) : List RgV := [⟨a, 1, 1, [0], none, 0, 0, []⟩, ⟨b, 1, 1, [2], c, 1, 1, [0]⟩, ⟨d, 1, 1, [1], none, 0, 0, []⟩]
theorem II.of_blk {w : World} {g n : Nat} {t : TypeId} {cs : Array Value} {l : List Int} (h : Blk w g t cs) (hl : l.length = n) (hc : cs.toList = l.map iv) : II w (some ⟨g, 0, none⟩) n l := by
  refine ⟨hl, by rw [List.length_map, hl, Nat.mul_one], fun _ => ⟨_, rfl, h.lt, fun j u hu => ?_⟩⟩; rw [← hc] at hu; rw [show (⟨g, 0, none⟩ : Addr).add j = ⟨g, j, none⟩ by unfold Addr.add; split <;> simp_all]; have := h.cell j; rw [this, ← Array.getElem?_toList]; exact hu
set_option maxHeartbeats 6400000 in
set_option maxRecDepth 100000 in
theorem table_any (w : World) : Calls Tryz.prog 31 #[] w fun e w' =>
    (∃ T a b c d, e = .returned (.agg #[.slice T 3 3]) ∧ TbM w' T 3 3 (tbL a b c d)) ∧ Below w.heap.size w w' := by
  have HD : Sl (Lg w w []) := ⟨Lg.nil w⟩; go_enter Tryz.func31, Tryz.ntmps31
  go_wp2_with ((with_reducible show wpList _ _ _ _ _ _); first
    | (refine wpList_alloc_new 0 rfl rfl 30 rfl #[.slice none 0 0] alloc_cre ?_; rintro w1 g0 zg zm zs zb; replace HD : Sl _ := ⟨HD.out.new zg zm zb⟩; clear zg zm zs zb)
    | (refine wpList_made 1 rfl rfl 3 1 #[.int .i64 0] (fun _ => by kernel_rfl) ?_; rintro w2 a zg zm zs zb; replace HD : Sl _ := ⟨HD.out.new zg zm zb⟩; clear zg zm zs zb)
    | (refine wpList_made 3 rfl rfl 3 1 #[.int .i64 2] (fun _ => by kernel_rfl) ?_; rintro w3 b zg zm zs zb; replace HD : Sl _ := ⟨HD.out.new zg zm zb⟩; clear zg zm zs zb)
    | (refine wpList_made 4 rfl rfl 3 1 #[.int .i64 0] (fun _ => by kernel_rfl) ?_; rintro w4 c zg zm zs zb; replace HD : Sl _ := ⟨HD.out.new zg zm zb⟩; clear zg zm zs zb)
    | (refine wpList_made 6 rfl rfl 3 1 #[.int .i64 1] (fun _ => by kernel_rfl) ?_; rintro w5 d zg zm zs zb; replace HD : Sl _ := ⟨HD.out.new zg zm zb⟩; clear zg zm zs zb)
    | (refine wpList_made 8 rfl rfl 33 3 #[.slice (some ⟨a, 0, none⟩) 1 1, .slice none 0 0, .slice (some ⟨b, 0, none⟩) 1 1, .slice (some ⟨c, 0, none⟩) 1 1, .slice (some ⟨d, 0, none⟩) 1 1, .slice none 0 0] (fun _ => by kernel_rfl) ?_; rintro w6 gt zg zm zs zb; replace HD : Sl _ := ⟨HD.out.new zg zm zb⟩; clear zg zm zs zb)
    | (refine wpList_store_whole rfl 30 (.tmp 0) (.tmp 9) rfl g0 #[.slice (some ⟨gt, 0, none⟩) 3 3] rfl rfl 30 _ (HD.out.at_ 5 rfl) rfl (by kernel_rfl) (by simp [Value.oneCell']) ?_; rintro w7 zm zs zb; replace HD : Sl _ := ⟨HD.out.set 5 rfl zm zb⟩; clear zm zs zb))
  refine bodyPost_ret (results_row1c rfl _ _ g0 _ _ _ rfl (HD.out.at_ 5 rfl) Tryz.underlying30 rfl (by kernel_rfl)) rfl ?_; refine ⟨⟨some ⟨gt, 0, none⟩, some ⟨a, 0, none⟩, some ⟨b, 0, none⟩, some ⟨c, 0, none⟩, some ⟨d, 0, none⟩, rfl, ?_⟩, HD.out.bl⟩; refine ⟨.of_blk (HD.out.at_ 0 rfl) (fun _ => rfl) rfl rfl, ⟨Nat.le_refl _, by decide⟩, fun y hy => ?_⟩; simp only [tbL, List.mem_cons, List.not_mem_nil, or_false] at hy; rcases hy with rfl | rfl | rfl
  · exact ⟨.of_blk (HD.out.at_ 4 rfl) rfl rfl, II.nil _ _, ⟨Nat.le_refl _, by show 1 ≤ maxLen; decide⟩, ⟨Nat.le_refl _, Nat.zero_le _⟩⟩
  · exact ⟨.of_blk (HD.out.at_ 3 rfl) rfl rfl, .of_blk (HD.out.at_ 2 rfl) rfl rfl, ⟨Nat.le_refl _, by show 1 ≤ maxLen; decide⟩, ⟨Nat.le_refl _, by show 1 ≤ maxLen; decide⟩⟩
  · exact ⟨.of_blk (HD.out.at_ 1 rfl) rfl rfl, II.nil _ _, ⟨Nat.le_refl _, by show 1 ≤ maxLen; decide⟩, ⟨Nat.le_refl _, Nat.zero_le _⟩⟩
end Go.Proofs.YtbaojmfkjpnfhaaGreatDoor
namespace Go.Proofs.YtbaojmfkjpnfhaaGreatDoor
set_option linter.unusedSimpArgs false
open Go.RowKit
set_option linter.unusedVariables false
set_option maxHeartbeats 3200000 in
set_option maxRecDepth 100000 in
theorem sameI_any (A B : Option Addr) (n c d : Nat) (l : List Int) (w : World) (h1 : II w A n l) (h2 : II w B n l) (hn : n ≤ 1000000) :
    Calls Tryz.prog 59 #[.slice A n c, .slice B n d] w fun e w' => e = .returned (.bool true) ∧ Below w.heap.size w w' := by
  have H1 : Sl _ := ⟨h1⟩; have H2 : Sl _ := ⟨h2⟩; have HB : Sl _ := ⟨Below.refl w.heap.size w⟩; have hne : ((n : Int) != (n : Int)) = false := (by simp); clear h1 h2; go_enter Tryz.func59, Tryz.ntmps59; go_wp2_with fail
  go_loopw [5] (fun s5 wv => ∃ k : Nat, k ≤ n ∧ s5 = .int .i64 k ∧ Sl (Below w.heap.size w wv)) (fun s5 _ => n - (RowKit.intOf s5).toNat)
  case atStart => exact ⟨0, Nat.zero_le _, rfl, HB⟩
  case round =>
    clear HB; obtain ⟨k, hk, rfl, HB⟩ := hrel
    by_cases hkn : k < n
    · have hkI : decide ((k : Int) < (n : Int)) = true := decide_eq_true (by omega); have hkI2 : (k : Int) < (n : Int) := (by omega); obtain ⟨a1, e1, hb1, c1⟩ := (H1.out.below HB.out).cell (j := k) hkn; obtain ⟨a2, e2, hb2, c2⟩ := (H2.out.below HB.out).cell (j := k) hkn; rw [e1, e2]; clear e1 e2; obtain ⟨z, hz⟩ : ∃ z, gt l k = z := ⟨_, rfl⟩; rw [hz] at c1 c2; have hzz : (z != z) = false := (by simp); go_wp2_with fail
      go_quiet (fail)
      go_wp2_with fail; exact ⟨⟨k + 1, by omega, by go_num, ⟨below_drewN HB.out _⟩⟩, by simp [RowKit.intOf]; omega⟩
    · obtain rfl : k = n := (by omega); go_wp2_with fail; go_ret; exact ⟨rfl, HB.out⟩
structure GG (w : World) (A : Option Addr) (n : Nat) (L : List SlV) : Prop where
  len : L.length = n
  rd : Reads w w.heap.size 1 A n (L.map SlV.val)
  all : ∀ s ∈ L, II w s.A s.n s.l
theorem GG.below {w w' : World} {A : Option Addr} {n : Nat} {L : List SlV} (h : GG w A n L) (hb : Below w.heap.size w w') : GG w' A n L := ⟨h.len, (h.rd.below hb).more hb.size, fun s hs => (h.all s hs).below hb⟩
theorem GG.cell {w : World} {A : Option Addr} {n : Nat} {L : List SlV} (h : GG w A n L) {j : Nat} (hj : j < n) : ∃ ad s, A = some ad ∧ ad.block < w.heap.size ∧ L[j]? = some s ∧ w.cell? (ad.add j) = some s.val ∧ II w s.A s.n s.l := by
  have hl := h.len; obtain ⟨ad, e, hb, hc⟩ := h.rd.2 (by omega); refine ⟨ad, L[j], e, hb, List.getElem?_eq_getElem (by omega), hc j _ ?_, h.all _ (List.getElem_mem _)⟩; rw [List.getElem?_map, List.getElem?_eq_getElem (by omega)]; rfl
theorem GG.of_og {w : World} {base : Nat} {A : Option Addr} {n c : Nat} {L : List SlV} (h : OG w base A n c L) : GG w A n L := ⟨h.len, Reads.of_own h.row, fun s hs => (h.all s hs).ii⟩
theorem GG.of_blk {w : World} {g n : Nat} {t : TypeId} {cs : Array Value} {L : List SlV} (h : Blk w g t cs) (hl : L.length = n) (hc : cs.toList = L.map SlV.val) (ha : ∀ s ∈ L, II w s.A s.n s.l) : GG w (some ⟨g, 0, none⟩) n L := by
  refine ⟨hl, ⟨by rw [List.length_map, hl, Nat.mul_one], fun _ => ⟨_, rfl, h.lt, fun j u hu => ?_⟩⟩, ha⟩; rw [← hc] at hu; rw [show (⟨g, 0, none⟩ : Addr).add j = ⟨g, j, none⟩ by unfold Addr.add; split <;> simp_all]; have := h.cell j; rw [this, ← Array.getElem?_toList]; exact hu
set_option maxHeartbeats 3200000 in
set_option maxRecDepth 100000 in
theorem groups_any (A B : Option Addr) (n c d : Nat) (L M : List SlV) (w : World) (h1 : GG w A n L) (h2 : GG w B n M) (hn : n ≤ 1000000) (he : L.map SlV.l = M.map SlV.l) (hL : ∀ s ∈ L, s.n ≤ 1000000) :
    Calls Tryz.prog 33 #[.slice A n c, .slice B n d] w fun e w' => e = .returned (.bool true) ∧ Below w.heap.size w w' := by
  have H1 : Sl _ := ⟨h1⟩; have H2 : Sl _ := ⟨h2⟩; have HE : Sl _ := ⟨he⟩; have HL : Sl _ := ⟨hL⟩; have HB : Sl _ := ⟨Below.refl w.heap.size w⟩; have hne : ((n : Int) != (n : Int)) = false := (by simp); clear h1 h2 he hL; go_enter Tryz.func33, Tryz.ntmps33; go_wp2_with fail
  go_loopw [5] (fun s5 wv => ∃ k : Nat, k ≤ n ∧ s5 = .int .i64 k ∧ Sl (Below w.heap.size w wv)) (fun s5 _ => n - (RowKit.intOf s5).toNat)
  case atStart => exact ⟨0, Nat.zero_le _, rfl, HB⟩
  case round =>
    clear HB; obtain ⟨k, hk, rfl, HB⟩ := hrel
    by_cases hkn : k < n
    · have hkI : decide ((k : Int) < (n : Int)) = true := decide_eq_true (by omega); have hkI2 : (k : Int) < (n : Int) := (by omega); have hk0 : (0 : Int) ≤ (k : Int) := (by omega); obtain ⟨a1, x, e1, hb1, hx, c1, i1⟩ := (H1.out.below HB.out).cell (j := k) hkn; obtain ⟨a2, y, e2, hb2, hy, c2, i2⟩ := (H2.out.below HB.out).cell (j := k) hkn
      have hxy : y.l = x.l := by
        have := congrArg (fun l => l[k]?) HE.out; simp only [List.getElem?_map, hx, hy, Option.map_some, Option.some.injEq] at this; exact this.symm
      have hnn : y.n = x.n := (by rw [← i1.1, ← i2.1, hxy]); rw [hxy, hnn] at i2; have HX : Sl (∀ W, Below wr.heap.size wr W → Calls Tryz.prog 59 #[.slice x.A x.n x.c, .slice y.A x.n y.c] W fun e w' => e = .returned (.bool true) ∧ Below W.heap.size W w') := ⟨fun W hW => sameI_any x.A y.A x.n x.c y.c x.l W (i1.below hW) (i2.below hW) (HL.out x (List.mem_of_getElem? hx))⟩; have HC1 : Sl (∀ W, Below wr.heap.size wr W → W.cell? (a1.add k) = some (.slice x.A x.n x.c)) := ⟨fun W hW => (hW.cell (by rw [block_of_add]; exact hb1)).trans c1⟩; have HC2 : Sl (∀ W, Below wr.heap.size wr W → W.cell? (a2.add k) = some (.slice y.A x.n y.c)) := ⟨fun W hW => by rw [← hnn]; exact (hW.cell (by rw [block_of_add]; exact hb2)).trans c2⟩; rw [e1, e2]; clear e1 e2 c1 c2 i1 i2 hx hy hxy hnn; have hS0 : Below wr.heap.size wr wr.drew := below_drewN (Below.refl _ _) 1; have hSR := hS0; go_wp2_with fail; have hm := hS0; refine wp_region_held_drew (S := fun w' => Below wr.heap.size wr w') (by kernel_rfl) hm (fun hHeld => ?_); clear hm; refine wpAnyH_pure 0 (v := .slice (some a1) n c) rfl (by kernel_rfl) (by kernel_rfl) (by kernel_rfl) (fun _ _ _ h => h) rfl (fun _ => rfl) (by assumption) ?_; simp only [Act.put, sS0, sS1, sS2]; refine wpAnyH_pure 1 (v := .int .i64 (k : Int)) rfl (by kernel_rfl) (by kernel_rfl) (by kernel_rfl) (fun _ _ _ h => h) rfl (fun _ => rfl) (by assumption) ?_; simp only [Act.put, sS0, sS1, sS2]; refine wpAnyH_pure 2 (v := .pointer (some (a1.add k))) rfl (by kernel_rfl) (by kernel_rfl) (by kernel_rfl) (fun _ _ _ h => h) rfl (fun _ => by go_simp) (by assumption) ?_; simp only [Act.put, sS0, sS1, sS2]
      refine wpAnyH_cell 3 (v := .slice x.A x.n x.c) rfl rfl (fun w' h => by
        have hc := HC1.out w' h
        go_simp) (by kernel_rfl) (by kernel_rfl) (by kernel_rfl) (fun _ _ _ h => h) (by assumption) ?_
      simp only [Act.put, sS0, sS1, sS2]; refine wpAnyH_pure 4 (v := .slice (some a2) n d) rfl (by kernel_rfl) (by kernel_rfl) (by kernel_rfl) (fun _ _ _ h => h) rfl (fun _ => rfl) (by assumption) ?_; simp only [Act.put, sS0, sS1, sS2]; refine wpAnyH_pure 5 (v := .int .i64 (k : Int)) rfl (by kernel_rfl) (by kernel_rfl) (by kernel_rfl) (fun _ _ _ h => h) rfl (fun _ => rfl) (by assumption) ?_; simp only [Act.put, sS0, sS1, sS2]; refine wpAnyH_pure 6 (v := .pointer (some (a2.add k))) rfl (by kernel_rfl) (by kernel_rfl) (by kernel_rfl) (fun _ _ _ h => h) rfl (fun _ => by go_simp) (by assumption) ?_; simp only [Act.put, sS0, sS1, sS2]
      refine wpAnyH_cell 7 (v := .slice y.A x.n y.c) rfl rfl (fun w' h => by
        have hc := HC2.out w' h
        go_simp) (by kernel_rfl) (by kernel_rfl) (by kernel_rfl) (fun _ _ _ h => h) (by assumption) ?_
      simp only [Act.put, sS0, sS1, sS2]; refine wpAnyH_one 8 rfl (by kernel_rfl) rfl (fun K hK => ?_); go_simp; go_at_call 59
      (with_reducible refine (HX.out _ hSR).mono ?_)
      rintro e w6 ⟨rfl, hb⟩; have hW6 : Below wr.heap.size wr w6 := hSR.trans (hb.mono hSR.size); refine hK.out _ _ hW6 (fun hHeld => ?_); clear hK K
      (try simp only [Act.put, sS0, sS1, sS2])
      refine wpAnyH_pure 9 (v := .bool false) rfl (by kernel_rfl) (by kernel_rfl) (by kernel_rfl) (fun _ _ _ h => h) rfl (fun _ => by go_simp) (by assumption) ?_; simp only [Act.put, sS0, sS1, sS2]; refine wpAnyH_done (by kernel_rfl) ?_ _; go_wp2_with fail; exact ⟨⟨k + 1, by omega, by go_num, ⟨HB.out.trans (hW6.mono HB.out.size)⟩⟩, by simp [RowKit.intOf]; omega⟩
    · obtain rfl : k = n := (by omega); go_wp2_with fail; go_ret; exact ⟨rfl, HB.out⟩
set_option maxHeartbeats 3200000 in
set_option maxRecDepth 100000 in
theorem sameR_any (r s : RgV) (w : World) (hr : RgM w r) (hs : RgM w s) (h1 : s.l = r.l) (h2 : s.k = r.k) (hn : r.n ≤ 1000000) (hm : r.m ≤ 1000000) :
    Calls Tryz.prog 21 #[.agg #[.slice r.A r.n r.c, .slice r.B r.m r.d], .agg #[.slice s.A s.n s.c, .slice s.B s.m s.d]] w fun e w' => e = .returned (.bool true) ∧ Below w.heap.size w w' := by
  have e1 : s.n = r.n := (by rw [← hs.s.1, ← hr.s.1, h1]); have e2 : s.m = r.m := (by rw [← hs.c.1, ← hr.c.1, h2]); have i1 := hs.s; have i2 := hs.c; rw [e1, h1] at i1; rw [e2, h2] at i2; rw [e1, e2]; have H1 : Sl _ := ⟨fun W (hW : Below w.heap.size w W) => sameI_any r.A s.A r.n r.c s.c r.l W (hr.s.below hW) (i1.below hW) hn⟩; have H2 : Sl _ := ⟨fun W (hW : Below w.heap.size w W) => sameI_any r.B s.B r.m r.d s.d r.k W (hr.c.below hW) (i2.below hW) hm⟩; have HD : Sl (Lg w w []) := ⟨Lg.nil w⟩; clear e1 e2 i1 i2 h1 h2 hr hs; go_enter Tryz.func21, Tryz.ntmps21
  go_upto_region 1 with ((with_reducible show wpList _ _ _ _ _ _); first
    | (refine wpList_box_new 2 rfl rfl 33 (.tmp 0) rfl #[.slice r.A r.n r.c, .slice r.B r.m r.d] rfl (fun _ => by kernel_rfl) ?_; rintro w1 g1 zg zm zs zb; replace HD : Sl _ := ⟨HD.out.new zg zm zb⟩; clear zg zm zs zb)
    | (refine wpList_box_new 3 rfl rfl 33 (.tmp 1) rfl #[.slice s.A r.n s.c, .slice s.B r.m s.d] rfl (fun _ => by kernel_rfl) ?_; rintro w2 g2 zg zm zs zb; replace HD : Sl _ := ⟨HD.out.new zg zm zb⟩; clear zg zm zs zb))
  have s0 := (HD.out.at_ 1 rfl).cell 0; have s1 := (HD.out.at_ 1 rfl).cell 1; have t0 := (HD.out.at_ 0 rfl).cell 0; have t1 := (HD.out.at_ 0 rfl).cell 1; simp at s0 s1 t0 t1; go_wp2_with fail; refine (H1.out _ HD.out.bl).mono ?_; rintro e w3 ⟨rfl, hb⟩; replace HD : Sl _ := ⟨HD.out.below hb⟩; clear hb s0 s1 t0 t1; have s1 := (HD.out.at_ 1 rfl).cell 1; have t1 := (HD.out.at_ 0 rfl).cell 1; simp at s1 t1; go_wp2_with fail; refine (H2.out _ HD.out.bl).mono ?_; rintro e w4 ⟨rfl, hb⟩; replace HD : Sl _ := ⟨HD.out.below hb⟩; go_wp2_with fail; go_ret; exact ⟨rfl, HD.out.bl⟩
end Go.Proofs.YtbaojmfkjpnfhaaGreatDoor
namespace Go.Proofs.YtbaojmfkjpnfhaaGreatDoor
set_option linter.unusedSimpArgs false
open Go.RowKit
set_option linter.unusedVariables false
section
variable {P : Program} {ops : Array Oper} {Q : Exit → Act → World → Prop} {md : Region.Mode} {S : World → Prop}
theorem wpAnyH_threem (i j k : Nat) {oi oj ok : Oper} {fuel : Nat} {listed : Array Bool} {a : Act} {w : World} (hi0 : ops.toList[i]? = some oi) (hj0 : ops.toList[j]? = some oj) (hk0 : ops.toList[k]? = some ok) (hr : Region.ready md ops listed = [i, j, k]) (hgi : oi.guard = none) (hgj : oj.guard = none) (hgk : ok.guard = none)
    (h1 : ∀ K' : Act → World → Prop, Shut (∀ a w, S w → (S w → wpAnyH P md ops Q S fuel (listed.setIfInBounds i true) a w) → K' a w) → Oper.wp P oi a w K' Q)
    (h2 : ∀ K' : Act → World → Prop, Shut (∀ a w, S w → (S w → wpAnyH P md ops Q S fuel (listed.setIfInBounds j true) a w) → K' a w) → Oper.wp P oj a w K' Q)
    (h3 : ∀ K' : Act → World → Prop, Shut (∀ a w, S w → (S w → wpAnyH P md ops Q S fuel (listed.setIfInBounds k true) a w) → K' a w) → Oper.wp P ok a w K' Q) : wpAnyH P md ops Q S (fuel + 1) listed a w :=
  have hi : ops[i]? = some oi := (by rw [← Array.getElem?_toList]; exact hi0); have hj : ops[j]? = some oj := (by rw [← Array.getElem?_toList]; exact hj0); have hk : ops[k]? = some ok := (by rw [← Array.getElem?_toList]; exact hk0)
  wpAnyH_ready hr (by simp) (AllReadyH.cons hi (fun K' hK => by
    have hw : Region.wanted oi (yielded ops a.tmps) = true := (by simp [Region.wanted, hgi]); rw [if_pos hw]
    exact h1 K' hK) (AllReadyH.cons hj (fun K' hK => by
    have hw : Region.wanted oj (yielded ops a.tmps) = true := (by simp [Region.wanted, hgj]); rw [if_pos hw]
    exact h2 K' hK) (AllReadyH.cons hk (fun K' hK => by
    have hw : Region.wanted ok (yielded ops a.tmps) = true := (by simp [Region.wanted, hgk]); rw [if_pos hw]
    exact h3 K' hK) AllReadyH.nil)))
end
theorem wp_newblk {P : Program} {Q : Exit → Act → World → Prop} {op : Oper} {a : Act} {w : World} {K : Act → World → Prop} (mk : Nat → Value) (ty : TypeId) (cells : Array Value)
    (hr : ∀ w : World, (execOp a.eval op).run P w = .ok (.value (mk w.heap.size)) (w.alloc (.cells cells ty)))
    (h : ∀ w' g, g = w.heap.size → Mv w.heap.size w w' → Below w.heap.size w w' → Blk w' g ty cells → K (a.put op.dst (mk g)) w') : Oper.wp P op a w K Q := by
  unfold Oper.wp; rw [hr w, Oper.upon_value]; exact h _ _ rfl (Mv.of_below ((Below.refl _ _).alloc (Nat.le_refl _) _)) ((Below.refl _ _).alloc (Nat.le_refl _) _) (Blk.new w ty cells)
section
variable (A1 A2 A3 A4 P1 P2 P3 a b c d e f : Option Addr)
theorem shE1 : atE (exO A1 A2 A3 A4 P1 P2 P3) (tbL a b c d) ⟨e, 1, 1, [1], none, 0, 0, []⟩ 2 = 0 := by kernel_rfl
theorem shL1 : atL (exO A1 A2 A3 A4 P1 P2 P3) (tbL a b c d) ⟨e, 1, 1, [1], none, 0, 0, []⟩ 2 RgV.l = [0, 1, 2] := by
  unfold atL; rw [if_pos (shE1 ..)]; show uniI [1, 0, 2] = [0, 1, 2]
  have hs : srtI [1, 0, 2] = [0, 1, 2] := by
    simp [srtI, List.mergeSort, List.MergeSort.Internal.splitInTwo, List.merge]
  have hc : Lib.compact ([0, 1, 2] : List Int) = [0, 1, 2] := (by kernel_rfl); unfold uniI; rw [hs, hc]
theorem shK1 : atL (exO A1 A2 A3 A4 P1 P2 P3) (tbL a b c d) ⟨e, 1, 1, [1], none, 0, 0, []⟩ 2 RgV.k = [0] := by kernel_rfl
theorem shN : neeF (exO A1 A2 A3 A4 P1 P2 P3) (tbL a b c d) ⟨e, 1, 1, [0], f, 1, 1, [0]⟩ = (2, 0) := by kernel_rfl
theorem shPE : planE [5, 1, 3, 4, 2] 2 = 0 := by kernel_rfl
theorem shPS : planS [5, 1, 3, 4, 2] 2 = 9 := by kernel_rfl
theorem shPG : planG [5, 1, 3, 4, 2] 2 = [[1, 4, 2], [3, 0]] := by kernel_rfl
theorem shTE : printE (exO A1 A2 A3 A4 P1 P2 P3) [⟨a, 2, 2, [0, 2], b, 1, 1, [0]⟩, ⟨none, 0, 0, [], none, 0, 0, []⟩] = 0 := by kernel_rfl
theorem shTX : printX (exO A1 A2 A3 A4 P1 P2 P3) [⟨a, 2, 2, [0, 2], b, 1, 1, [0]⟩, ⟨none, 0, 0, [], none, 0, 0, []⟩] = ⟨#[102, 114, 97, 109, 101, 32, 102, 108, 117, 116, 101, 56, 64, 103, 114, 101, 97, 116, 32, 98, 97, 115, 115, 64, 103, 114, 101, 97, 116, 32, 43, 111, 99, 116, 97, 118, 101, 10, 102, 114, 97, 109, 101, 10]⟩ := by kernel_rfl
end
theorem shAt (A1 A2 A3 A4 P1 P2 P3 : Option Addr) (T a b c d : Option Addr) (ga : Nat) (w : World) (hM : SpM w (exO A1 A2 A3 A4 P1 P2 P3)) (hT : TbM w T 3 3 (tbL a b c d)) (hB : Blk w ga 3 #[.int .i64 1]) :
    Calls Tryz.prog 15 #[.agg #[.slice A1 1 1, .slice A2 2 2, .slice A3 3 3, .slice A4 1 1], .agg #[.slice T 3 3], .int .i64 2, .agg #[.slice (some ⟨ga, 0, none⟩) 1 1, .slice none 0 0]] w fun e w' =>
      (∃ A n c B m d, e = .returned (.tuple #[.agg #[.slice A n c, .slice B m d], .int .i64 0]) ∧ RgM w' ⟨A, n, c, [0, 1, 2], B, m, d, [0]⟩) ∧ Below w.heap.size w w' := by
  refine (At_any (exO A1 A2 A3 A4 P1 P2 P3) T 3 3 (tbL a b c d) 2 ⟨some ⟨ga, 0, none⟩, 1, 1, [1], none, 0, 0, []⟩ w hM (exO_F ..) hT ⟨.of_blk hB rfl rfl, II.nil _ _, ⟨Nat.le_refl _, by show 1 ≤ maxLen; decide⟩, ⟨Nat.le_refl _, Nat.zero_le _⟩⟩ (by decide)).mono ?_; rintro e w' ⟨⟨A, n, c', B, m, d', h1, h2⟩, hb⟩; rw [shE1] at h1; rw [shL1, shK1] at h2; exact ⟨⟨A, n, c', B, m, d', h1, h2⟩, hb⟩
theorem shNeeded (A1 A2 A3 A4 P1 P2 P3 : Option Addr) (T a b c d : Option Addr) (ga gb : Nat) (w : World) (hM : SpM w (exO A1 A2 A3 A4 P1 P2 P3)) (hT : TbM w T 3 3 (tbL a b c d)) (hB : Blk w ga 3 #[.int .i64 0]) (hC : Blk w gb 3 #[.int .i64 0]) :
    Calls Tryz.prog 17 #[.agg #[.slice A1 1 1, .slice A2 2 2, .slice A3 3 3, .slice A4 1 1], .agg #[.slice T 3 3], .agg #[.slice (some ⟨ga, 0, none⟩) 1 1, .slice (some ⟨gb, 0, none⟩) 1 1]] w fun e w' =>
      e = .returned (.tuple #[.int .i64 2, .int .i64 0]) ∧ Below w.heap.size w w' := by
  refine (Needed_any (exO A1 A2 A3 A4 P1 P2 P3) T 3 3 (tbL a b c d) ⟨some ⟨ga, 0, none⟩, 1, 1, [0], some ⟨gb, 0, none⟩, 1, 1, [0]⟩ w hM (exO_F ..) hT ⟨.of_blk hB rfl rfl, .of_blk hC rfl rfl, ⟨Nat.le_refl _, by show 1 ≤ maxLen; decide⟩, ⟨Nat.le_refl _, by show 1 ≤ maxLen; decide⟩⟩).mono ?_; rintro e w' ⟨h1, hb⟩; rw [shN] at h1; exact ⟨h1, hb⟩
theorem shPlan (g : Nat) (w : World) (hB : Blk w g 2 #[.int .i64 5, .int .i64 1, .int .i64 3, .int .i64 4, .int .i64 2]) :
    Calls Tryz.prog 32 #[.slice (some ⟨g, 0, none⟩) 5 5, .int .i64 2] w fun e w' =>
      (∃ A c L, e = .returned (.tuple #[.slice A 2 c, .int .i64 9, .int .i64 0]) ∧ GG w' A 2 L ∧ L.map SlV.l = [[1, 4, 2], [3, 0]]) ∧ Below w.heap.size w w' := by
  refine (crPlan_any (some ⟨g, 0, none⟩) 5 5 [5, 1, 3, 4, 2] 2 w (.of_blk hB rfl rfl) (by decide) (by decide)).mono ?_; rintro e w' ⟨⟨A, k, c, L, h1, h2, h3⟩, hb⟩; rw [shPG] at h3; rw [shPS, shPE] at h1; have hk : k = 2 := (by rw [← h2.len]; have := congrArg List.length h3; rw [List.length_map] at this; exact this); subst hk; exact ⟨⟨A, c, L, h1, .of_og h2, h3⟩, hb⟩
theorem shPrint (A1 A2 A3 A4 P1 P2 P3 : Option Addr) (gt ga gb : Nat) (w : World) (hM : SpM w (exO A1 A2 A3 A4 P1 P2 P3)) (hB : Blk w ga 3 #[.int .i64 0, .int .i64 2]) (hC : Blk w gb 3 #[.int .i64 0]) (hT : Blk w gt 33 #[.slice (some ⟨ga, 0, none⟩) 2 2, .slice (some ⟨gb, 0, none⟩) 1 1, .slice none 0 0, .slice none 0 0]) :
    Calls Tryz.prog 43 #[.agg #[.slice A1 1 1, .slice A2 2 2, .slice A3 3 3, .slice A4 1 1], .slice (some ⟨gt, 0, none⟩) 2 2] w fun e w' =>
      e = .returned (.tuple #[.string ⟨#[102, 114, 97, 109, 101, 32, 102, 108, 117, 116, 101, 56, 64, 103, 114, 101, 97, 116, 32, 98, 97, 115, 115, 64, 103, 114, 101, 97, 116, 32, 43, 111, 99, 116, 97, 118, 101, 10, 102, 114, 97, 109, 101, 10]⟩, .int .i64 0]) ∧ Below w.heap.size w w' := by
  refine (crPrint_any (exO A1 A2 A3 A4 P1 P2 P3) (some ⟨gt, 0, none⟩) 2 2 [⟨some ⟨ga, 0, none⟩, 2, 2, [0, 2], some ⟨gb, 0, none⟩, 1, 1, [0]⟩, ⟨none, 0, 0, [], none, 0, 0, []⟩] w hM (exO_F ..) ⟨.of_blk hT (fun _ => rfl) rfl rfl, ⟨Nat.le_refl _, by decide⟩, fun y hy => ?_⟩).mono ?_
  · simp only [List.mem_cons, List.not_mem_nil, or_false] at hy; rcases hy with rfl | rfl
    · exact ⟨.of_blk hB rfl rfl, .of_blk hC rfl rfl, ⟨Nat.le_refl _, by show 2 ≤ maxLen; decide⟩, ⟨Nat.le_refl _, by show 1 ≤ maxLen; decide⟩⟩
    · exact ⟨II.nil _ _, II.nil _ _, ⟨Nat.le_refl _, Nat.zero_le _⟩, ⟨Nat.le_refl _, Nat.zero_le _⟩⟩
  · rintro e w' ⟨h1, hb⟩; rw [shTX, shTE] at h1; exact ⟨h1, hb⟩
end Go.Proofs.YtbaojmfkjpnfhaaGreatDoor
namespace Go.Proofs.YtbaojmfkjpnfhaaGreatDoor
set_option linter.unusedSimpArgs false
open Go.RowKit
set_option linter.unusedVariables false
def risK (l : List Int) (lo hi bad : Int) (k : Nat) : Int := if gt l k < lo ∨ hi < gt l k then bad else if 0 < k ∧ gt l k ≤ gt l (k - 1) then 8 else 0
def risE (l : List Int) (lo hi bad : Int) : Int := fstE (risK l lo hi bad) l.length 0
theorem risE_drw (l : List Int) (many : Int) : risE l 0 (many - 1) 4 = drwE l many := by
  unfold risE drwE; congr 1; funext k; unfold risK drwK; have : (gt l k < 0 ∨ many - 1 < gt l k) ↔ (gt l k < 0 ∨ many ≤ gt l k) := (by omega); simp only [this]
set_option maxHeartbeats 3200000 in
set_option maxRecDepth 100000 in
theorem rising_any (A : Option Addr) (n c : Nat) (l : List Int) (lo hi bad : Int) (w : World) (hl : II w A n l) (hn : n ≤ maxLen) (hbad : bad ≠ 0) :
    Calls Tryz.prog 120 #[.slice A n c, .int .i64 lo, .int .i64 hi, .int .i64 bad] w fun e w' => e = .returned (.int .i64 (risE l lo hi bad)) ∧ Below w.heap.size w w' := by
  have HL : Sl _ := ⟨hl⟩; obtain ⟨X, hX⟩ : ∃ X, risE l lo hi bad = X := ⟨_, rfl⟩; have HX : Sl (fstE (risK l lo hi bad) n 0 = X) := ⟨by rw [← hl.1]; exact hX⟩; rw [hX]; unfold maxLen at hn; have HBAD : Sl (bad ≠ 0) := ⟨hbad⟩; clear hbad; clear hl hX; go_enter Tryz.func120, Tryz.ntmps120; go_wp2_with fail
  go_loopw [9] (fun s9 wv => ∃ k : Nat, k ≤ n ∧ s9 = .int .i64 (k : Int) ∧ Sl (Below w.heap.size w wv) ∧ Sl (fstE (risK l lo hi bad) (n - k) k = X)) (fun s9 _ => n - (RowKit.intOf s9).toNat)
  case atStart => exact ⟨0, Nat.zero_le _, rfl, ⟨Below.refl _ _⟩, HX⟩
  case round =>
    obtain ⟨k, hk, rfl, HB, HK⟩ := hrel; have hn63 : (n : Int) ≤ 9223372036854775807 := (by omega)
    by_cases hkn : k < n
    · have hkI : decide ((k : Int) < (n : Int)) = true := decide_eq_true (by omega); have hkI2 : (k : Int) < (n : Int) := (by omega); have hk0 : (0 : Int) ≤ (k : Int) := (by omega); obtain ⟨ad, hA, hab, c1⟩ := (HL.out.below HB.out).cell (j := k) hkn; have hSU := fstE_succ (risK l lo hi bad) hkn; rw [HK.out] at hSU; have HS2 : Sl _ := ⟨hSU⟩; have HRK : Sl (risK l lo hi bad k = if gt l k < lo ∨ hi < gt l k then bad else if 0 < k ∧ gt l k ≤ gt l (k - 1) then 8 else 0) := ⟨rfl⟩; obtain ⟨z, hz⟩ : ∃ z, gt l k = z := ⟨_, rfl⟩; rw [hz] at c1 HRK; have HZ : Sl _ := ⟨hz⟩; rw [hA]; have HA : Sl _ := ⟨hA⟩; have HKN : Sl (k < n) := ⟨hkn⟩; clear hz hA hSU hkn
      by_cases p1 : z < lo
      · have p1d : decide (z < lo) = true := decide_eq_true p1
        have HV : Sl (X = bad) := ⟨by
          have hr : risK l lo hi bad k = bad := (by rw [HRK.out, if_pos (.inl p1)])
          rw [HS2.out, hr, if_neg HBAD.out]⟩
        go_wp2_with fail; go_ret; exact ⟨by first | (rw [HV.out]; rfl) | rw [HV.out], HB.out⟩
      · have p1d : decide (z < lo) = false := decide_eq_false p1
        by_cases p2 : hi < z
        · have p2d : decide (hi < z) = true := decide_eq_true p2
          have HV : Sl (X = bad) := ⟨by
            have hr : risK l lo hi bad k = bad := (by rw [HRK.out, if_pos (.inr p2)])
            rw [HS2.out, hr, if_neg HBAD.out]⟩
          go_wp2_with fail; go_ret; exact ⟨by first | (rw [HV.out]; rfl) | rw [HV.out], HB.out⟩
        · have p2d : decide (hi < z) = false := decide_eq_false p2; replace HRK : Sl (risK l lo hi bad k = if 0 < k ∧ z ≤ gt l (k - 1) then 8 else 0) := ⟨by rw [HRK.out, if_neg (by omega)]⟩; have hS0 : Below wr.heap.size wr wr.drew := below_drewN (Below.refl _ _) 1; go_wp2_with fail
          by_cases hk00 : k = 0
          · have HR : Sl (risK l lo hi bad k = 0) := ⟨by rw [HRK.out, if_neg (by omega)]⟩; rw [HR.out, if_pos rfl] at HS2; have HS3 : Sl _ := ⟨HS2.out.symm⟩; have hkz : decide ((0 : Int) < (k : Int)) = false := decide_eq_false (by omega); have HKZ : Sl (k = 0) := ⟨hk00⟩; clear hk00; have hm := hS0; refine wp_region_held_drew (S := fun w' => Below wr.heap.size wr w') (by kernel_rfl) hm (fun hHeld => ?_); clear hm; refine wpAnyH_pure 0 (v := .int .i64 (k : Int)) rfl (by kernel_rfl) (by kernel_rfl) (by kernel_rfl) (fun _ _ _ h => h) rfl (fun _ => rfl) (by assumption) ?_; simp only [Act.put, sS0, sS1, sS2]; refine wpAnyH_pure 1 (v := .bool false) rfl (by kernel_rfl) (by kernel_rfl) (by kernel_rfl) (fun _ _ _ h => h) rfl (fun _ => by go_simp; (try (have := HKZ.out; omega))) (by assumption) ?_; simp only [Act.put, sS0, sS1, sS2]; refine wpAnyH_pure 2 (v := .bool false) rfl (by kernel_rfl) (by kernel_rfl) (by kernel_rfl) (fun _ _ _ h => h) rfl (fun _ => rfl) (by assumption) ?_; simp only [Act.put, sS0, sS1, sS2]; refine wpAnyH_no 3 rfl (by kernel_rfl) (by kernel_rfl) (by kernel_rfl) (fun _ _ _ h => h) (by rfl) (by assumption) ?_; simp only [Act.put, sS0, sS1, sS2]; refine wpAnyH_no 4 rfl (by kernel_rfl) (by kernel_rfl) (by kernel_rfl) (fun _ _ _ h => h) (by rfl) (by assumption) ?_; simp only [Act.put, sS0, sS1, sS2]; refine wpAnyH_no 5 rfl (by kernel_rfl) (by kernel_rfl) (by kernel_rfl) (fun _ _ _ h => h) (by rfl) (by assumption) ?_; simp only [Act.put, sS0, sS1, sS2]; refine wpAnyH_no 6 rfl (by kernel_rfl) (by kernel_rfl) (by kernel_rfl) (fun _ _ _ h => h) (by rfl) (by assumption) ?_; simp only [Act.put, sS0, sS1, sS2]; refine wpAnyH_no 7 rfl (by kernel_rfl) (by kernel_rfl) (by kernel_rfl) (fun _ _ _ h => h) (by rfl) (by assumption) ?_; simp only [Act.put, sS0, sS1, sS2]; refine wpAnyH_no 8 rfl (by kernel_rfl) (by kernel_rfl) (by kernel_rfl) (fun _ _ _ h => h) (by rfl) (by assumption) ?_; simp only [Act.put, sS0, sS1, sS2]; refine wpAnyH_no 9 rfl (by kernel_rfl) (by kernel_rfl) (by kernel_rfl) (fun _ _ _ h => h) (by rfl) (by assumption) ?_; simp only [Act.put, sS0, sS1, sS2]; refine wpAnyH_no 10 rfl (by kernel_rfl) (by kernel_rfl) (by kernel_rfl) (fun _ _ _ h => h) (by rfl) (by assumption) ?_; simp only [Act.put, sS0, sS1, sS2]; refine wpAnyH_no 11 rfl (by kernel_rfl) (by kernel_rfl) (by kernel_rfl) (fun _ _ _ h => h) (by rfl) (by assumption) ?_; simp only [Act.put, sS0, sS1, sS2]; refine wpAnyH_no 12 rfl (by kernel_rfl) (by kernel_rfl) (by kernel_rfl) (fun _ _ _ h => h) (by rfl) (by assumption) ?_; simp only [Act.put, sS0, sS1, sS2]; refine wpAnyH_pure 13 (v := .bool false) rfl (by kernel_rfl) (by kernel_rfl) (by kernel_rfl) (fun _ _ _ h => h) rfl (fun _ => by go_simp) (by assumption) ?_; simp only [Act.put, sS0, sS1, sS2]; refine wpAnyH_done (by kernel_rfl) ?_ _; clear hHeld; go_wp2_with fail; exact ⟨⟨k + 1, HKN.out, by go_num, ⟨below_drewN HB.out 1⟩, HS3⟩, by have := HKN.out; simp [RowKit.intOf]; omega⟩
          · obtain ⟨J, hJ⟩ : ∃ J, k = J + 1 := ⟨k - 1, by omega⟩; obtain ⟨ad2, hA2, hab2, c2⟩ := (HL.out.below HB.out).cell (j := J) (by have := HKN.out; omega); rw [HA.out] at hA2; injection hA2 with hA2
            subst hA2; rw [show k - 1 = J by omega] at HRK; obtain ⟨u, hu⟩ : ∃ u, gt l J = u := ⟨_, rfl⟩; rw [hu] at c2 HRK; have HQ : Sl (∀ W, Below wr.heap.size wr W → W.cell? (ad.add k) = some (.int .i64 z) ∧ W.cell? (ad.add J) = some (.int .i64 u)) := ⟨fun W hW => ⟨(hW.cell (by rw [block_of_add]; exact hab)).trans c1, (hW.cell (by rw [block_of_add]; exact hab)).trans c2⟩⟩; have hJ0 : decide ((0 : Int) < (k : Int)) = true := decide_eq_true (by omega); have hJ1 : (0 : Int) < (k : Int) := (by omega); have hJ3 : (0 : Int) ≤ (J : Int) := (by omega); have hJ4 : (J : Int) < (n : Int) := (by have := HKN.out; omega); have hJw : IntKind.i64.wrap ((k : Int) - 1) = (J : Int) := (by rw [IntKind.wrap_i64]; omega); have HKP : Sl (0 < k) := ⟨by omega⟩; clear hu c2 hab2 hk00 hJ
            by_cases hzu : z ≤ u
            · have hzd : decide (z ≤ u) = true := decide_eq_true hzu
              have HV : Sl (X = 8) := ⟨by
                have hr : risK l lo hi bad k = 8 := (by rw [HRK.out, if_pos ⟨HKP.out, hzu⟩])
                rw [HS2.out, hr, if_neg (by decide)]⟩
              have hm := hS0; refine wp_region_held_drew (S := fun w' => Below wr.heap.size wr w') (by kernel_rfl) hm (fun hHeld => ?_); clear hm; refine wpAnyH_pure 0 (v := .int .i64 (k : Int)) rfl (by kernel_rfl) (by kernel_rfl) (by kernel_rfl) (fun _ _ _ h => h) rfl (fun _ => rfl) (by assumption) ?_; simp only [Act.put, sS0, sS1, sS2]; refine wpAnyH_pure 1 (v := .bool true) rfl (by kernel_rfl) (by kernel_rfl) (by kernel_rfl) (fun _ _ _ h => h) rfl (fun _ => by go_simp; (try (have := HKP.out; omega))) (by assumption) ?_; simp only [Act.put, sS0, sS1, sS2]; refine wpAnyH_pure 2 (v := .bool true) rfl (by kernel_rfl) (by kernel_rfl) (by kernel_rfl) (fun _ _ _ h => h) rfl (fun _ => rfl) (by assumption) ?_; simp only [Act.put, sS0, sS1, sS2]; refine wpAnyH_pureg 3 (v := .slice (some ad) n c) rfl (by kernel_rfl) (by kernel_rfl) (by kernel_rfl) (fun _ _ _ h => h) (by rfl) (fun _ => rfl) (by assumption) ?_; simp only [Act.put, sS0, sS1, sS2]; refine wpAnyH_pureg 4 (v := .int .i64 (k : Int)) rfl (by kernel_rfl) (by kernel_rfl) (by kernel_rfl) (fun _ _ _ h => h) (by rfl) (fun _ => by go_simp) (by assumption) ?_; simp only [Act.put, sS0, sS1, sS2]; refine wpAnyH_pureg 5 (v := .pointer (some (ad.add k))) rfl (by kernel_rfl) (by kernel_rfl) (by kernel_rfl) (fun _ _ _ h => h) (by rfl) (fun _ => by go_simp) (by assumption) ?_; simp only [Act.put, sS0, sS1, sS2]
              refine wpAnyH_cellg 6 (v := .int .i64 z) rfl (by rfl) (fun w' h => by
                have hc := (HQ.out w' h).1
                go_simp) (by kernel_rfl) (by kernel_rfl) (by kernel_rfl) (fun _ _ _ h => h) (by assumption) ?_
              simp only [Act.put, sS0, sS1, sS2]; refine wpAnyH_pureg 7 (v := .slice (some ad) n c) rfl (by kernel_rfl) (by kernel_rfl) (by kernel_rfl) (fun _ _ _ h => h) (by rfl) (fun _ => rfl) (by assumption) ?_; simp only [Act.put, sS0, sS1, sS2]; refine wpAnyH_pureg 8 (v := .int .i64 (k : Int)) rfl (by kernel_rfl) (by kernel_rfl) (by kernel_rfl) (fun _ _ _ h => h) (by rfl) (fun _ => by go_simp) (by assumption) ?_; simp only [Act.put, sS0, sS1, sS2]; refine wpAnyH_pureg 9 (v := .int .i64 (J : Int)) rfl (by kernel_rfl) (by kernel_rfl) (by kernel_rfl) (fun _ _ _ h => h) (by rfl) (fun _ => by go_simp) (by assumption) ?_; simp only [Act.put, sS0, sS1, sS2]; refine wpAnyH_pureg 10 (v := .pointer (some (ad.add J))) rfl (by kernel_rfl) (by kernel_rfl) (by kernel_rfl) (fun _ _ _ h => h) (by rfl) (fun _ => by go_simp) (by assumption) ?_; simp only [Act.put, sS0, sS1, sS2]
              refine wpAnyH_cellg 11 (v := .int .i64 u) rfl (by rfl) (fun w' h => by
                have hc := (HQ.out w' h).2
                go_simp) (by kernel_rfl) (by kernel_rfl) (by kernel_rfl) (fun _ _ _ h => h) (by assumption) ?_
              simp only [Act.put, sS0, sS1, sS2]; refine wpAnyH_pureg 12 (v := .bool true) rfl (by kernel_rfl) (by kernel_rfl) (by kernel_rfl) (fun _ _ _ h => h) (by rfl) (fun _ => by go_simp) (by assumption) ?_; simp only [Act.put, sS0, sS1, sS2]; refine wpAnyH_pure 13 (v := .bool true) rfl (by kernel_rfl) (by kernel_rfl) (by kernel_rfl) (fun _ _ _ h => h) rfl (fun _ => by go_simp) (by assumption) ?_; simp only [Act.put, sS0, sS1, sS2]; refine wpAnyH_done (by kernel_rfl) ?_ _; clear hHeld; go_wp2_with fail; go_ret; exact ⟨by first | (rw [HV.out]; rfl) | rw [HV.out], below_drewN HB.out 1⟩
            · have hzd : decide (z ≤ u) = false := decide_eq_false hzu; have HR : Sl (risK l lo hi bad k = 0) := ⟨by rw [HRK.out, if_neg (fun h => hzu h.2)]⟩; rw [HR.out, if_pos rfl] at HS2; have HS3 : Sl _ := ⟨HS2.out.symm⟩; have hm := hS0; refine wp_region_held_drew (S := fun w' => Below wr.heap.size wr w') (by kernel_rfl) hm (fun hHeld => ?_); clear hm; refine wpAnyH_pure 0 (v := .int .i64 (k : Int)) rfl (by kernel_rfl) (by kernel_rfl) (by kernel_rfl) (fun _ _ _ h => h) rfl (fun _ => rfl) (by assumption) ?_; simp only [Act.put, sS0, sS1, sS2]; refine wpAnyH_pure 1 (v := .bool true) rfl (by kernel_rfl) (by kernel_rfl) (by kernel_rfl) (fun _ _ _ h => h) rfl (fun _ => by go_simp; (try (have := HKP.out; omega))) (by assumption) ?_; simp only [Act.put, sS0, sS1, sS2]; refine wpAnyH_pure 2 (v := .bool true) rfl (by kernel_rfl) (by kernel_rfl) (by kernel_rfl) (fun _ _ _ h => h) rfl (fun _ => rfl) (by assumption) ?_; simp only [Act.put, sS0, sS1, sS2]; refine wpAnyH_pureg 3 (v := .slice (some ad) n c) rfl (by kernel_rfl) (by kernel_rfl) (by kernel_rfl) (fun _ _ _ h => h) (by rfl) (fun _ => rfl) (by assumption) ?_; simp only [Act.put, sS0, sS1, sS2]; refine wpAnyH_pureg 4 (v := .int .i64 (k : Int)) rfl (by kernel_rfl) (by kernel_rfl) (by kernel_rfl) (fun _ _ _ h => h) (by rfl) (fun _ => by go_simp) (by assumption) ?_; simp only [Act.put, sS0, sS1, sS2]; refine wpAnyH_pureg 5 (v := .pointer (some (ad.add k))) rfl (by kernel_rfl) (by kernel_rfl) (by kernel_rfl) (fun _ _ _ h => h) (by rfl) (fun _ => by go_simp) (by assumption) ?_; simp only [Act.put, sS0, sS1, sS2]
              refine wpAnyH_cellg 6 (v := .int .i64 z) rfl (by rfl) (fun w' h => by
                have hc := (HQ.out w' h).1
                go_simp) (by kernel_rfl) (by kernel_rfl) (by kernel_rfl) (fun _ _ _ h => h) (by assumption) ?_
              simp only [Act.put, sS0, sS1, sS2]; refine wpAnyH_pureg 7 (v := .slice (some ad) n c) rfl (by kernel_rfl) (by kernel_rfl) (by kernel_rfl) (fun _ _ _ h => h) (by rfl) (fun _ => rfl) (by assumption) ?_; simp only [Act.put, sS0, sS1, sS2]; refine wpAnyH_pureg 8 (v := .int .i64 (k : Int)) rfl (by kernel_rfl) (by kernel_rfl) (by kernel_rfl) (fun _ _ _ h => h) (by rfl) (fun _ => by go_simp) (by assumption) ?_; simp only [Act.put, sS0, sS1, sS2]; refine wpAnyH_pureg 9 (v := .int .i64 (J : Int)) rfl (by kernel_rfl) (by kernel_rfl) (by kernel_rfl) (fun _ _ _ h => h) (by rfl) (fun _ => by go_simp) (by assumption) ?_; simp only [Act.put, sS0, sS1, sS2]; refine wpAnyH_pureg 10 (v := .pointer (some (ad.add J))) rfl (by kernel_rfl) (by kernel_rfl) (by kernel_rfl) (fun _ _ _ h => h) (by rfl) (fun _ => by go_simp) (by assumption) ?_; simp only [Act.put, sS0, sS1, sS2]
              refine wpAnyH_cellg 11 (v := .int .i64 u) rfl (by rfl) (fun w' h => by
                have hc := (HQ.out w' h).2
                go_simp) (by kernel_rfl) (by kernel_rfl) (by kernel_rfl) (fun _ _ _ h => h) (by assumption) ?_
              simp only [Act.put, sS0, sS1, sS2]; refine wpAnyH_pureg 12 (v := .bool false) rfl (by kernel_rfl) (by kernel_rfl) (by kernel_rfl) (fun _ _ _ h => h) (by rfl) (fun _ => by go_simp) (by assumption) ?_; simp only [Act.put, sS0, sS1, sS2]; refine wpAnyH_pure 13 (v := .bool false) rfl (by kernel_rfl) (by kernel_rfl) (by kernel_rfl) (fun _ _ _ h => h) rfl (fun _ => by go_simp) (by assumption) ?_; simp only [Act.put, sS0, sS1, sS2]; refine wpAnyH_done (by kernel_rfl) ?_ _; clear hHeld; go_wp2_with fail; exact ⟨⟨k + 1, HKN.out, by go_num, ⟨below_drewN HB.out 1⟩, HS3⟩, by have := HKN.out; simp [RowKit.intOf]; omega⟩
    · obtain rfl : n = k := (by omega); have hkI : decide ((n : Int) < (n : Int)) = false := (by simp); have HV : Sl (X = 0) := ⟨by rw [← HK.out, Nat.sub_self]; rfl⟩; go_wp2_with fail; go_ret; exact ⟨by rw [HV.out]; rfl, HB.out⟩
set_option maxHeartbeats 3200000 in
set_option maxRecDepth 100000 in
theorem rcheck12_any (o : SpO) (r : RgV) (gk : Nat) (w : World) (hM : SpM w o) (hF : SpF o) (hr : RgM w r) (hk : ∀ j, j < o.n1 → w.cell? ⟨gk, j, none⟩ = some (.slice none 0 0)) (hgk : gk < w.heap.size) :
    Calls Tryz.prog 60 #[.agg #[.slice o.A1 o.n1 o.c1, .slice o.A2 o.n2 o.c2, .slice o.A3 o.n3 o.c3, .slice o.A4 o.n4 o.c4], .agg #[.slice (some ⟨gk, 0, none⟩) o.n1 o.n1, .slice r.A r.n r.c, .slice r.B r.m r.d]] w fun e w' => e = .returned (.int .i64 (if specE o = 0 then regE o r else specE o)) ∧ Below w.heap.size w w' := by
  have HD : Sl (Lg w w []) := ⟨Lg.nil w⟩; have HM : Sl _ := ⟨hM⟩; have HF : Sl _ := ⟨hF⟩; have HR : Sl _ := ⟨hr⟩; have HK : Sl _ := ⟨hk⟩; have HGK : Sl _ := ⟨hgk⟩; obtain ⟨X, hX⟩ : ∃ X, (if specE o = 0 then regE o r else specE o) = X := ⟨_, rfl⟩; have HX : Sl _ := ⟨hX⟩; rw [hX]; clear hM hF hr hk hgk hX; go_enter Tryz.func60, Tryz.ntmps60
  go_wp2_with ((with_reducible show wpList _ _ _ _ _ _); first
    | (refine wpList_box_new 2 rfl rfl 27 (.tmp 0) rfl #[.slice o.A1 o.n1 o.c1, .slice o.A2 o.n2 o.c2, .slice o.A3 o.n3 o.c3, .slice o.A4 o.n4 o.c4] rfl (fun _ => by kernel_rfl) ?_; rintro w1 g2 zg zm zs zb; replace HD : Sl _ := ⟨HD.out.new zg zm zb⟩; clear zg zm zs zb)
    | (refine wpList_box_new 3 rfl rfl 115 (.tmp 1) rfl #[.slice (some ⟨gk, 0, none⟩) o.n1 o.n1, .slice r.A r.n r.c, .slice r.B r.m r.d] rfl (fun _ => by kernel_rfl) ?_; rintro w2 g3 zg zm zs zb; replace HD : Sl _ := ⟨HD.out.new zg zm zb⟩; clear zg zm zs zb)
    | (refine wpList_load_whole rfl 27 (.tmp 2) rfl g2 rfl 27 _ _ (HD.out.at_ 1 rfl) Tryz.underlying27 rfl (by kernel_rfl) ?_))
  refine (rcheck_any o _ (HM.out.below HD.out.bl) HF.out).mono ?_; rintro e w4 ⟨⟨a, b, c, rfl⟩, hb4⟩; replace HD : Sl _ := ⟨HD.out.below hb4⟩; clear hb4; have HSB : Sl (specE o = 0 → o.n1 ≤ 6 ∧ o.n2 ≤ 40 ∧ o.n3 ≤ 80 ∧ o.n4 ≤ 24) := ⟨specE_bd⟩; obtain ⟨z, hz⟩ : ∃ z, specE o = z := ⟨_, rfl⟩; rw [hz] at HX HSB ⊢; clear hz
  by_cases hz0 : z = 0
  · subst hz0; rw [if_pos rfl] at HX; have hzz : ((0 : Int) != 0) = false := (by decide); have HN : Sl _ := ⟨HSB.out rfl⟩; clear HSB
    go_upto_region 2 with ((with_reducible show wpList _ _ _ _ _ _); first
      | (refine wpList_alloc_new 5 rfl rfl 80 rfl #[.int .i64 0, .int .i64 0, .int .i64 0] (fun _ => by kernel_rfl) ?_; rintro w5 g5 zg zm zs zb; replace HD : Sl _ := ⟨HD.out.new zg zm zb⟩; clear zg zm zs zb)
      | (refine wpList_store_whole rfl 80 (.tmp 5) (.tmp 13) rfl g5 #[.int .i64 a, .int .i64 b, .int .i64 c] rfl rfl 80 _ (HD.out.at_ 0 rfl) rfl (by kernel_rfl) (by simp [Value.oneCell']) ?_; rintro w6 zm zs zb; replace HD : Sl _ := ⟨HD.out.upd zm zb⟩; clear zm zs zb))
    have c0 : w6.cell? ⟨g3, 0, none⟩ = some (.slice (some ⟨gk, 0, none⟩) o.n1 o.n1) := (HD.out.at_ 1 rfl).cell 0; have c1 : w6.cell? ⟨g2, 0, none⟩ = some (.slice o.A1 o.n1 o.c1) := (HD.out.at_ 2 rfl).cell 0; have hnn : ((o.n1 : Int) != (o.n1 : Int)) = false := (by simp); go_wp2_with fail; clear c0 c1 hnn
    go_loopw [7] (fun s7 wv => ∃ k : Nat, k ≤ o.n1 ∧ s7 = .int .i64 (k : Int) ∧ Sl (Lg w wv [(g5, 80, #[.int .i64 a, .int .i64 b, .int .i64 c]), (g3, 115, #[.slice (some ⟨gk, 0, none⟩) o.n1 o.n1, .slice r.A r.n r.c, .slice r.B r.m r.d]), (g2, 27, #[.slice o.A1 o.n1 o.c1, .slice o.A2 o.n2 o.c2, .slice o.A3 o.n3 o.c3, .slice o.A4 o.n4 o.c4])])) (fun s7 _ => o.n1 - (RowKit.intOf s7).toNat)
    case atStart => exact ⟨0, Nat.zero_le _, rfl, HD⟩
    case round =>
      clear HD; obtain ⟨k, hk, rfl, HD⟩ := hrel; have c0 : wr.cell? ⟨g3, 0, none⟩ = some (.slice (some ⟨gk, 0, none⟩) o.n1 o.n1) := (HD.out.at_ 1 rfl).cell 0
      by_cases hkn : k < o.n1
      · have hkI : decide ((k : Int) < (o.n1 : Int)) = true := decide_eq_true (by omega); have hkI2 : (k : Int) < (o.n1 : Int) := (by omega); have hk0 : (0 : Int) ≤ (k : Int) := (by omega); have HKN : Sl (k < o.n1 ∧ o.n1 ≤ 6) := ⟨hkn, HN.out.1⟩; obtain ⟨gd, od, hA, hgd, hall⟩ := HM.out.d.all_ (by decide) (show 0 < o.n1 by omega); obtain ⟨d, hd, _⟩ := hall w (Below.refl _ _) k hkn; have HA : Sl _ := ⟨hA⟩
        have HDR : Sl (∀ W, Below w.heap.size w W → W.cell? ⟨gd, od + k * 3 + 1, none⟩ = some (.int .i64 d.lo) ∧ W.cell? ⟨gd, od + k * 3 + 2, none⟩ = some (.int .i64 d.hi)) := ⟨fun W hW => by
          obtain ⟨x2, hx2, h2⟩ := hall W hW k HKN.out.1; rw [hd] at hx2; injection hx2 with hx2
          subst hx2
          exact ⟨h2 1 _ rfl, h2 2 _ rfl⟩⟩
        have HQ : Sl (∀ W, Below wr.heap.size wr W → Lg w W [(g5, 80, #[.int .i64 a, .int .i64 b, .int .i64 c]), (g3, 115, #[.slice (some ⟨gk, 0, none⟩) o.n1 o.n1, .slice r.A r.n r.c, .slice r.B r.m r.d]), (g2, 27, #[.slice o.A1 o.n1 o.c1, .slice o.A2 o.n2 o.c2, .slice o.A3 o.n3 o.c3, .slice o.A4 o.n4 o.c4])]) := ⟨fun W hW => HD.out.below hW⟩; have hS0 : Below wr.heap.size wr wr.drew := below_drewN (Below.refl _ _) 1; have HS0 : Sl _ := ⟨hS0⟩; clear hA hgd hall hd hkn; go_wp2_with fail; clear c0; have hm := hS0; refine wp_region_held_drew (S := fun w' => Below wr.heap.size wr w') (by kernel_rfl) hm (fun hHeld => ?_); clear hm; refine wpAnyH_pure 0 (v := .pointer (some ⟨g3, 0, none⟩)) rfl (by kernel_rfl) (by kernel_rfl) (by kernel_rfl) (fun _ _ _ h => h) rfl (fun _ => by go_simp) (by assumption) ?_; simp only [Act.put, sS0, sS1, sS2]
        refine wpAnyH_cell 1 (v := .slice (some ⟨gk, 0, none⟩) o.n1 o.n1) rfl rfl (fun w' h => by
          have hc := ((HQ.out w' h).at_ 1 rfl).cell 0
          go_simp) (by kernel_rfl) (by kernel_rfl) (by kernel_rfl) (fun _ _ _ h => h) (by assumption) ?_
        simp only [Act.put, sS0, sS1, sS2]; refine wpAnyH_pure 2 (v := .int .i64 (k : Int)) rfl (by kernel_rfl) (by kernel_rfl) (by kernel_rfl) (fun _ _ _ h => h) rfl (fun _ => rfl) (by assumption) ?_; simp only [Act.put, sS0, sS1, sS2]; refine wpAnyH_pure 3 (v := .pointer (some ⟨gk, k, none⟩)) rfl (by kernel_rfl) (by kernel_rfl) (by kernel_rfl) (fun _ _ _ h => h) rfl (fun _ => by go_simp) (by assumption) ?_; simp only [Act.put, sS0, sS1, sS2]
        refine wpAnyH_cell 4 (v := .slice none 0 0) rfl rfl (fun w' h => by
          have hc := ((HQ.out w' h).bl.cell (p := ⟨gk, k, none⟩) HGK.out).trans (HK.out k HKN.out.1)
          go_simp) (by kernel_rfl) (by kernel_rfl) (by kernel_rfl) (fun _ _ _ h => h) (by assumption) ?_
        simp only [Act.put, sS0, sS1, sS2]; refine wpAnyH_pure 5 (v := .pointer (some ⟨g2, 0, none⟩)) rfl (by kernel_rfl) (by kernel_rfl) (by kernel_rfl) (fun _ _ _ h => h) rfl (fun _ => by go_simp) (by assumption) ?_; simp only [Act.put, sS0, sS1, sS2]
        refine wpAnyH_cell 6 (v := .slice (some ⟨gd, od, none⟩) o.n1 o.c1) rfl rfl (fun w' h => by
          have hc := (((HQ.out w' h).at_ 2 rfl).cell 0).trans (show _ = some (.slice (some ⟨gd, od, none⟩) o.n1 o.c1) by rw [← HA.out]; rfl)
          go_simp) (by kernel_rfl) (by kernel_rfl) (by kernel_rfl) (fun _ _ _ h => h) (by assumption) ?_
        simp only [Act.put, sS0, sS1, sS2]; refine wpAnyH_pure 7 (v := .int .i64 (k : Int)) rfl (by kernel_rfl) (by kernel_rfl) (by kernel_rfl) (fun _ _ _ h => h) rfl (fun _ => rfl) (by assumption) ?_; simp only [Act.put, sS0, sS1, sS2]; refine wpAnyH_pure 8 (v := .pointer (some ⟨gd, od + k * 3, none⟩)) rfl (by kernel_rfl) (by kernel_rfl) (by kernel_rfl) (fun _ _ _ h => h) rfl (fun _ => by go_simp) (by assumption) ?_; simp only [Act.put, sS0, sS1, sS2]; refine wpAnyH_pure 9 (v := .pointer (some ⟨gd, od + k * 3 + 1, none⟩)) rfl (by kernel_rfl) (by kernel_rfl) (by kernel_rfl) (fun _ _ _ h => h) rfl (fun _ => by go_simp) (by assumption) ?_; simp only [Act.put, sS0, sS1, sS2]
        refine wpAnyH_cell 10 (v := .int .i64 d.lo) rfl rfl (fun w' h => by
          have hc := (HDR.out w' (HQ.out w' h).bl).1
          go_simp) (by kernel_rfl) (by kernel_rfl) (by kernel_rfl) (fun _ _ _ h => h) (by assumption) ?_
        simp only [Act.put, sS0, sS1, sS2]; refine wpAnyH_pure 11 (v := .pointer (some ⟨g2, 0, none⟩)) rfl (by kernel_rfl) (by kernel_rfl) (by kernel_rfl) (fun _ _ _ h => h) rfl (fun _ => by go_simp) (by assumption) ?_; simp only [Act.put, sS0, sS1, sS2]
        refine wpAnyH_cell 12 (v := .slice (some ⟨gd, od, none⟩) o.n1 o.c1) rfl rfl (fun w' h => by
          have hc := (((HQ.out w' h).at_ 2 rfl).cell 0).trans (show _ = some (.slice (some ⟨gd, od, none⟩) o.n1 o.c1) by rw [← HA.out]; rfl)
          go_simp) (by kernel_rfl) (by kernel_rfl) (by kernel_rfl) (fun _ _ _ h => h) (by assumption) ?_
        simp only [Act.put, sS0, sS1, sS2]; refine wpAnyH_pure 13 (v := .int .i64 (k : Int)) rfl (by kernel_rfl) (by kernel_rfl) (by kernel_rfl) (fun _ _ _ h => h) rfl (fun _ => rfl) (by assumption) ?_; simp only [Act.put, sS0, sS1, sS2]; refine wpAnyH_pure 14 (v := .pointer (some ⟨gd, od + k * 3, none⟩)) rfl (by kernel_rfl) (by kernel_rfl) (by kernel_rfl) (fun _ _ _ h => h) rfl (fun _ => by go_simp) (by assumption) ?_; simp only [Act.put, sS0, sS1, sS2]; refine wpAnyH_pure 15 (v := .pointer (some ⟨gd, od + k * 3 + 2, none⟩)) rfl (by kernel_rfl) (by kernel_rfl) (by kernel_rfl) (fun _ _ _ h => h) rfl (fun _ => by go_simp) (by assumption) ?_; simp only [Act.put, sS0, sS1, sS2]
        refine wpAnyH_cell 16 (v := .int .i64 d.hi) rfl rfl (fun w' h => by
          have hc := (HDR.out w' (HQ.out w' h).bl).2
          go_simp) (by kernel_rfl) (by kernel_rfl) (by kernel_rfl) (fun _ _ _ h => h) (by assumption) ?_
        simp only [Act.put, sS0, sS1, sS2]; refine wpAnyH_one 17 rfl (by kernel_rfl) rfl (fun K hK => ?_); go_simp; go_at_call 120
        (with_reducible refine (rising_any none 0 0 [] d.lo d.hi 7 _ (II.nil _ _) (Nat.zero_le _) (by decide)).mono ?_)
        rintro e4 w7 ⟨rfl, hb4⟩; have hb5 : Below wr.heap.size wr w7 := HS0.out.trans (hb4.mono HS0.out.size); have HB5 : Sl _ := ⟨hb5⟩; clear hb4 hb5; rw [show risE [] d.lo d.hi 7 = 0 from rfl]; refine hK.out _ _ HB5.out (fun hHeld => ?_); clear hK K
        (try simp only [Act.put, sS0, sS1, sS2])
        refine wpAnyH_pure 18 (v := .int .i64 0) rfl (by kernel_rfl) (by kernel_rfl) (by kernel_rfl) (fun _ _ _ h => h) rfl (fun _ => rfl) (by assumption) ?_; simp only [Act.put, sS0, sS1, sS2]; refine wpAnyH_done (by kernel_rfl) ?_ _; clear hHeld; have hzz : ((0 : Int) != 0) = false := (by decide); have hn6 : (o.n1 : Int) ≤ 6 := (by have := HKN.out; omega); go_wp2_with fail; exact ⟨⟨k + 1, HKN.out.1, by go_num, ⟨HQ.out _ HB5.out⟩⟩, by have := HKN.out; simp [RowKit.intOf]; omega⟩
      · obtain rfl : o.n1 = k := (by omega); have hkI : decide ((o.n1 : Int) < (o.n1 : Int)) = false := (by simp); have c1 : wr.cell? ⟨g3, 1, none⟩ = some (.slice r.A r.n r.c) := (HD.out.at_ 1 rfl).cell 1; have c2 : wr.cell? ⟨g3, 2, none⟩ = some (.slice r.B r.m r.d) := (HD.out.at_ 1 rfl).cell 2; have c3 : wr.cell? ⟨g2, 2, none⟩ = some (.slice o.A3 o.n3 o.c3) := (HD.out.at_ 2 rfl).cell 2; have c4 : wr.cell? ⟨g2, 3, none⟩ = some (.slice o.A4 o.n4 o.c4) := (HD.out.at_ 2 rfl).cell 3; have hw3 : IntKind.i64.wrap ((o.n3 : Int) - 1) = (o.n3 : Int) - 1 := (by have := HN.out; rw [IntKind.wrap_i64]; omega); have hw4 : IntKind.i64.wrap ((o.n4 : Int) - 1) = (o.n4 : Int) - 1 := (by have := HN.out; rw [IntKind.wrap_i64]; omega); have HRE : Sl (regE o r = if drwE r.l (o.n3 : Int) = 0 then drwE r.k (o.n4 : Int) else drwE r.l (o.n3 : Int)) := ⟨rfl⟩; rw [HRE.out] at HX; clear HRE hkn hk; go_wp2_with fail; refine (rising_any r.A r.n r.c r.l 0 ((o.n3 : Int) - 1) 4 _ (HR.out.below HD.out.bl).s (Nat.le_trans HR.out.sc.1 HR.out.sc.2) (by decide)).mono ?_; rintro e w7 ⟨rfl, hb7⟩; rw [risE_drw]; replace HD : Sl _ := ⟨HD.out.below hb7⟩; clear hb7 c0 c1 c2 c3 c4 hw3; obtain ⟨y, hy⟩ : ∃ y, drwE r.l (o.n3 : Int) = y := ⟨_, rfl⟩; rw [hy] at HX ⊢; clear hy
        by_cases hy0 : y = 0
        · subst hy0; rw [if_pos rfl] at HX; have hyy : ((0 : Int) == 0) = true := (by decide); have c2 : w7.cell? ⟨g3, 2, none⟩ = some (.slice r.B r.m r.d) := (HD.out.at_ 1 rfl).cell 2; have c4 : w7.cell? ⟨g2, 3, none⟩ = some (.slice o.A4 o.n4 o.c4) := (HD.out.at_ 2 rfl).cell 3; go_wp2_with fail; refine (rising_any r.B r.m r.d r.k 0 ((o.n4 : Int) - 1) 4 _ (HR.out.below HD.out.bl).c (Nat.le_trans HR.out.cc.1 HR.out.cc.2) (by decide)).mono ?_; rintro e w8 ⟨rfl, hb8⟩; rw [risE_drw]; replace HD : Sl _ := ⟨HD.out.below hb8⟩; clear hb8 c2 c4; rw [HX.out]; go_wp2_with fail; go_ret; exact ⟨rfl, HD.out.bl⟩
        · rw [if_neg hy0] at HX; have hyy : (y == 0) = false := (by simpa using hy0); rw [HX.out]; rw [HX.out] at hyy; go_wp2_with fail; go_ret; exact ⟨rfl, HD.out.bl⟩
  · rw [if_neg hz0] at HX; have hzz : (z != 0) = true := (by simpa using hz0); clear hz0 HSB
    go_wp2_with ((with_reducible show wpList _ _ _ _ _ _); first
      | (refine wpList_alloc_new 5 rfl rfl 80 rfl #[.int .i64 0, .int .i64 0, .int .i64 0] (fun _ => by kernel_rfl) ?_; rintro w5 g5 zg zm zs zb; replace HD : Sl _ := ⟨HD.out.new zg zm zb⟩; clear zg zm zs zb)
      | (refine wpList_store_whole rfl 80 (.tmp 5) (.tmp 13) rfl g5 #[.int .i64 a, .int .i64 b, .int .i64 c] rfl rfl 80 _ (HD.out.at_ 0 rfl) rfl (by kernel_rfl) (by simp [Value.oneCell']) ?_; rintro w6 zm zs zb; replace HD : Sl _ := ⟨HD.out.upd zm zb⟩; clear zm zs zb))
    go_ret; exact ⟨by first | (rw [HX.out]; rfl) | rw [HX.out], HD.out.bl⟩
theorem make_irows (n : Nat) (hn : n ≤ 1000000) (W : World) : (Instr.makeSlice 67 (.int .i64 (n : Int)) (.int .i64 (n : Int))).run Tryz.prog W = .ok (.slice (some ⟨W.heap.size, 0, none⟩) n n) (W.alloc (.cells (madeCells #[.slice none 0 0] n) 31)) := by
  obtain ⟨i, h1, h2, h3, h4⟩ := infoSl; have h := run_make (P := Tryz.prog) W 67 31 i _ Tryz.underlying67 h1 h2 .i64 .i64 (n : Int) (n : Int) (by omega) (Int.le_refl _) (by rw [h4]; omega) (by omega); rw [h3] at h; simpa [Value.cells] using h
theorem madeR {z : Value} {n j : Nat} (hj : j < n) : (madeCells #[z] n)[j]? = some z := by
  unfold madeCells; simp [hj, Nat.mod_one]
set_option maxHeartbeats 3200000 in
set_option maxRecDepth 100000 in
theorem rreg_any (o : SpO) (r : RgV) (w : World) (hM : SpM w o) (hF : SpF o) (hr : RgM w r) (hn1 : o.n1 ≤ 1000) :
    Calls Tryz.prog 22 #[.agg #[.slice o.A1 o.n1 o.c1, .slice o.A2 o.n2 o.c2, .slice o.A3 o.n3 o.c3, .slice o.A4 o.n4 o.c4], .agg #[.slice r.A r.n r.c, .slice r.B r.m r.d]] w fun e w' => e = .returned (.int .i64 (if specE o = 0 then regE o r else specE o)) ∧ Below w.heap.size w w' := by
  have HD : Sl (Lg w w []) := ⟨Lg.nil w⟩; have HM : Sl _ := ⟨hM⟩; have HF : Sl _ := ⟨hF⟩; have HR : Sl _ := ⟨hr⟩; have HN1 : Sl _ := ⟨hn1⟩; obtain ⟨X, hX⟩ : ∃ X, (if specE o = 0 then regE o r else specE o) = X := ⟨_, rfl⟩; have HX : Sl _ := ⟨hX⟩; rw [hX]; clear hM hF hr hX hn1; go_enter Tryz.func22, Tryz.ntmps22
  go_wp2_with ((with_reducible show wpList _ _ _ _ _ _); first
    | (refine wpList_box_new 2 rfl rfl 27 (.tmp 0) rfl #[.slice o.A1 o.n1 o.c1, .slice o.A2 o.n2 o.c2, .slice o.A3 o.n3 o.c3, .slice o.A4 o.n4 o.c4] rfl (fun _ => by kernel_rfl) ?_; rintro w1 g2 zg zm zs zb; replace HD : Sl _ := ⟨HD.out.new zg zm zb⟩; clear zg zm zs zb)
    | (refine wpList_box_new 3 rfl rfl 33 (.tmp 1) rfl #[.slice r.A r.n r.c, .slice r.B r.m r.d] rfl (fun _ => by kernel_rfl) ?_; rintro w2 g3 zg zm zs zb; replace HD : Sl _ := ⟨HD.out.new zg zm zb⟩; clear zg zm zs zb))
  have hS0 : Below w2.heap.size w2 w2.drew := below_drewN (Below.refl _ _) 1; have HS0 : Sl _ := ⟨hS0⟩; have HQ : Sl (∀ W, Below w2.heap.size w2 W → Lg w W [(g3, 33, #[.slice r.A r.n r.c, .slice r.B r.m r.d]), (g2, 27, #[.slice o.A1 o.n1 o.c1, .slice o.A2 o.n2 o.c2, .slice o.A3 o.n3 o.c3, .slice o.A4 o.n4 o.c4])]) := ⟨fun W hW => HD.out.below hW⟩; have hm := hS0; refine wp_region_held_drew (S := fun w' => Below w2.heap.size w2 w') (by kernel_rfl) hm (fun hHeld => ?_); clear hm
  refine wpAnyH_load 0 27 (.tmp 2) rfl rfl rfl g2 0 rfl #[.slice o.A1 o.n1 o.c1, .slice o.A2 o.n2 o.c2, .slice o.A3 o.n3 o.c3, .slice o.A4 o.n4 o.c4] _ (fun w' h => by
    have := World.rangeAt_of_block ((HQ.out w' h).at_ 1 rfl) 0 4
    exact this) Tryz.underlying27 rfl (by kernel_rfl) (by kernel_rfl) (by kernel_rfl) (by kernel_rfl) (fun _ _ _ h => h) (by assumption) ?_
  simp only [Act.put, sS0, sS1, sS2]; refine wpAnyH_pure 1 (v := .pointer (some ⟨g2, 0, none⟩)) rfl (by kernel_rfl) (by kernel_rfl) (by kernel_rfl) (fun _ _ _ h => h) rfl (fun _ => by go_simp) (by assumption) ?_; simp only [Act.put, sS0, sS1, sS2]
  refine wpAnyH_cell 2 (v := .slice o.A1 o.n1 o.c1) rfl rfl (fun w' h => by
    have hc := ((HQ.out w' h).at_ 1 rfl).cell 0
    go_simp) (by kernel_rfl) (by kernel_rfl) (by kernel_rfl) (fun _ _ _ h => h) (by assumption) ?_
  simp only [Act.put, sS0, sS1, sS2]; refine wpAnyH_pure 3 (v := .int .i64 (o.n1 : Int)) rfl (by kernel_rfl) (by kernel_rfl) (by kernel_rfl) (fun _ _ _ h => h) rfl (fun _ => by go_simp) (by assumption) ?_; simp only [Act.put, sS0, sS1, sS2]; refine wpAnyH_pure 5 (v := .pointer (some ⟨g3, 0, none⟩)) rfl (by kernel_rfl) (by kernel_rfl) (by kernel_rfl) (fun _ _ _ h => h) rfl (fun _ => by go_simp) (by assumption) ?_; simp only [Act.put, sS0, sS1, sS2]
  refine wpAnyH_cell 6 (v := .slice r.A r.n r.c) rfl rfl (fun w' h => by
    have hc := ((HQ.out w' h).at_ 0 rfl).cell 0
    go_simp) (by kernel_rfl) (by kernel_rfl) (by kernel_rfl) (fun _ _ _ h => h) (by assumption) ?_
  simp only [Act.put, sS0, sS1, sS2]; refine wpAnyH_pure 7 (v := .pointer (some ⟨g3, 1, none⟩)) rfl (by kernel_rfl) (by kernel_rfl) (by kernel_rfl) (fun _ _ _ h => h) rfl (fun _ => by go_simp) (by assumption) ?_; simp only [Act.put, sS0, sS1, sS2]
  refine wpAnyH_cell 8 (v := .slice r.B r.m r.d) rfl rfl (fun w' h => by
    have hc := ((HQ.out w' h).at_ 0 rfl).cell 1
    go_simp) (by kernel_rfl) (by kernel_rfl) (by kernel_rfl) (fun _ _ _ h => h) (by assumption) ?_
  simp only [Act.put, sS0, sS1, sS2]; refine wpAnyH_one 4 rfl (by kernel_rfl) rfl (fun K hK => ?_)
  refine wp_newblk (fun g => .slice (some ⟨g, 0, none⟩) o.n1 o.n1) 31 (madeCells #[.slice none 0 0] o.n1) (fun W => by
    have := make_irows o.n1 (by have := HN1.out; omega) W
    go_simp) ?_
  rintro w5 gk zg zm zb zB; have hb5 : Below w2.heap.size w2 w5 := HS0.out.trans (zb.mono HS0.out.size); have HB5 : Sl _ := ⟨hb5⟩; have HBK : Sl _ := ⟨zB⟩; clear zg zm zb zB hb5; refine hK.out _ _ HB5.out (fun hHeld => ?_); clear hK K
  (try simp only [Act.put, sS0, sS1, sS2])
  refine wpAnyH_pure 9 (v := .agg #[.slice (some ⟨gk, 0, none⟩) o.n1 o.n1, .slice r.A r.n r.c, .slice r.B r.m r.d]) rfl (by kernel_rfl) (by kernel_rfl) (by kernel_rfl) (fun _ _ _ h => h) rfl (fun _ => by go_simp) (by assumption) ?_; simp only [Act.put, sS0, sS1, sS2]; refine wpAnyH_one 10 rfl (by kernel_rfl) rfl (fun K hK => ?_); go_simp; go_at_call 60
  (with_reducible refine (rcheck12_any o r gk _ (HM.out.below (HQ.out _ HB5.out).bl) HF.out (HR.out.below (HQ.out _ HB5.out).bl) (fun j hj => (HBK.out.cell j).trans (madeR hj)) HBK.out.lt).mono ?_)
  rintro e4 w7 ⟨rfl, hb4⟩; have hb6 : Below w2.heap.size w2 w7 := HB5.out.trans (hb4.mono HB5.out.size); have HB6 : Sl _ := ⟨hb6⟩; clear hb4 hb6; rw [HX.out]; refine hK.out _ _ HB6.out (fun hHeld => ?_); clear hK K
  (try simp only [Act.put, sS0, sS1, sS2])
  refine wpAnyH_pure 11 (v := .int .i64 X) rfl (by kernel_rfl) (by kernel_rfl) (by kernel_rfl) (fun _ _ _ h => h) rfl (fun _ => rfl) (by assumption) ?_; simp only [Act.put, sS0, sS1, sS2]; refine wpAnyH_done (by kernel_rfl) ?_ _; clear hHeld; go_wp2_with fail; go_ret; exact ⟨rfl, (HQ.out _ HB6.out).bl⟩
end Go.Proofs.YtbaojmfkjpnfhaaGreatDoor
namespace Go.Proofs.YtbaojmfkjpnfhaaGreatDoor
set_option linter.unusedSimpArgs false
open Go.RowKit
set_option linter.unusedVariables false
def BoolR (e : Ending) : Prop := ∃ b : Bool, e = .returned (.bool b)
def wideC (r : RgV) : Bool := decide (100 < r.n) || decide (100 < r.m)
set_option maxHeartbeats 6400000 in
set_option maxRecDepth 100000 in
theorem wideC_any (r : RgV) (w : World) : Calls Tryz.prog 13 #[.agg #[.slice r.A r.n r.c, .slice r.B r.m r.d]] w fun e w' => e = .returned (.bool (wideC r)) ∧ Below w.heap.size w w' := by
  have HD : Sl (Lg w w []) := ⟨Lg.nil w⟩; go_enter Tryz.func13, Tryz.ntmps13
  go_upto_region 1 with ((with_reducible show wpList _ _ _ _ _ _); first
    | (refine wpList_box_new 1 rfl rfl 33 (.tmp 0) rfl #[.slice r.A r.n r.c, .slice r.B r.m r.d] rfl (fun _ => by kernel_rfl) ?_; rintro w1 g1 zg zm zs zb; replace HD : Sl _ := ⟨HD.out.new zg zm zb⟩; clear zg zm zs zb))
  have c0 := (HD.out.at_ 0 rfl).cell 0; have c1 := (HD.out.at_ 0 rfl).cell 1; simp at c0 c1
  by_cases h1 : 100 < r.n
  · have p1 : decide ((100 : Int) < (r.n : Int)) = true := decide_eq_true (by omega); have p2 : (100 : Int) < (r.n : Int) := (by omega); have HW : Sl (wideC r = true) := ⟨by unfold wideC; rw [decide_eq_true h1]; rfl⟩; clear h1; go_wp2_with fail; go_ret; exact ⟨by rw [HW.out]; rfl, HD.out.bl⟩
  · have p1 : decide ((100 : Int) < (r.n : Int)) = false := decide_eq_false (by omega); have p2 : ¬ (100 : Int) < (r.n : Int) := (by omega); have HW : Sl (wideC r = decide (100 < r.m)) := ⟨by unfold wideC; rw [decide_eq_false h1]; rfl⟩
    have HW2 : Sl (decide ((100 : Int) < (r.m : Int)) = decide (100 < r.m)) := ⟨by
      by_cases h : 100 < r.m
      · rw [decide_eq_true h, decide_eq_true (by omega)]
      · rw [decide_eq_false h, decide_eq_false (by omega)]⟩
    clear h1; go_wp2_with fail
    all_goals go_ret
    all_goals exact ⟨by rw [HW.out, ← HW2.out]; rfl, HD.out.bl⟩
set_option maxHeartbeats 3200000 in
set_option maxRecDepth 100000 in
theorem lFar_any (o : SpO) (w : World) (hM : SpM w o) : Calls Tryz.prog 11 #[.agg #[.slice o.A1 o.n1 o.c1, .slice o.A2 o.n2 o.c2, .slice o.A3 o.n3 o.c3, .slice o.A4 o.n4 o.c4]] w fun e w' => BoolR e ∧ Below w.heap.size w w' := by
  have HD : Sl (Lg w w []) := ⟨Lg.nil w⟩; have HM : Sl _ := ⟨hM⟩; clear hM; go_enter Tryz.func11, Tryz.ntmps11
  go_upto_region 1 with ((with_reducible show wpList _ _ _ _ _ _); (refine wpList_box_new 1 rfl rfl 27 (.tmp 0) rfl #[.slice o.A1 o.n1 o.c1, .slice o.A2 o.n2 o.c2, .slice o.A3 o.n3 o.c3, .slice o.A4 o.n4 o.c4] rfl (fun _ => by kernel_rfl) ?_; rintro w1 g1 zg zm zs zb; replace HD : Sl _ := ⟨HD.out.new zg zm zb⟩; clear zg zm zs zb))
  have c0 : w1.cell? ⟨g1, 0, none⟩ = some (.slice o.A1 o.n1 o.c1) := (HD.out.at_ 0 rfl).cell 0; have c1 : w1.cell? ⟨g1, 1, none⟩ = some (.slice o.A2 o.n2 o.c2) := (HD.out.at_ 0 rfl).cell 1; have c2 : w1.cell? ⟨g1, 2, none⟩ = some (.slice o.A3 o.n3 o.c3) := (HD.out.at_ 0 rfl).cell 2; have c3 : w1.cell? ⟨g1, 3, none⟩ = some (.slice o.A4 o.n4 o.c4) := (HD.out.at_ 0 rfl).cell 3
  by_cases b0 : 10 < o.n1
  · have p0 : (10 : Int) < (o.n1 : Int) := (by omega); have p0d : decide ((10 : Int) < (o.n1 : Int)) = true := decide_eq_true p0; clear b0; go_wp2_with fail; go_ret; exact ⟨⟨_, rfl⟩, HD.out.bl⟩
  have p0 : ¬ (10 : Int) < (o.n1 : Int) := (by omega); have p0d : decide ((10 : Int) < (o.n1 : Int)) = false := decide_eq_false p0
  by_cases b1 : 50 < o.n2
  · have p1 : (50 : Int) < (o.n2 : Int) := (by omega); have p1d : decide ((50 : Int) < (o.n2 : Int)) = true := decide_eq_true p1; clear b1; go_wp2_with fail; go_ret; exact ⟨⟨_, rfl⟩, HD.out.bl⟩
  have p1 : ¬ (50 : Int) < (o.n2 : Int) := (by omega); have p1d : decide ((50 : Int) < (o.n2 : Int)) = false := decide_eq_false p1
  by_cases b2 : 100 < o.n3
  · have p2 : (100 : Int) < (o.n3 : Int) := (by omega); have p2d : decide ((100 : Int) < (o.n3 : Int)) = true := decide_eq_true p2; clear b2; go_wp2_with fail; go_ret; exact ⟨⟨_, rfl⟩, HD.out.bl⟩
  have p2 : ¬ (100 : Int) < (o.n3 : Int) := (by omega); have p2d : decide ((100 : Int) < (o.n3 : Int)) = false := decide_eq_false p2
  by_cases b3 : 40 < o.n4
  · have p3 : (40 : Int) < (o.n4 : Int) := (by omega); have p3d : decide ((40 : Int) < (o.n4 : Int)) = true := decide_eq_true p3; clear b3; go_wp2_with fail; go_ret; exact ⟨⟨_, rfl⟩, HD.out.bl⟩
  have p3 : ¬ (40 : Int) < (o.n4 : Int) := (by omega); have p3d : decide ((40 : Int) < (o.n4 : Int)) = false := decide_eq_false p3; have HN : Sl (o.n1 ≤ 10 ∧ o.n2 ≤ 50 ∧ o.n3 ≤ 100 ∧ o.n4 ≤ 40) := ⟨by omega⟩; clear b0 b1 b2 b3
  go_upto_region 4 with fail
  clear c0 c1 c2 c3 p0 p1 p2 p3 p0d p1d p2d p3d; go_wp2_with fail
  go_loopw [3, 4] (fun s3 s wv => ∃ (b : Bool) (k : Nat), k ≤ o.n1 ∧ s3 = .bool b ∧ s = .int .i64 (k : Int) ∧ Sl (Lg w wv [(g1, 27, #[.slice o.A1 o.n1 o.c1, .slice o.A2 o.n2 o.c2, .slice o.A3 o.n3 o.c3, .slice o.A4 o.n4 o.c4])])) (fun _ s _ => o.n1 - (RowKit.intOf s).toNat)
  case atStart => exact ⟨_, 0, Nat.zero_le _, rfl, rfl, HD⟩
  case round =>
    clear HD; obtain ⟨b, k, hk, rfl, rfl, HD⟩ := hrel; have c0 : wr.cell? ⟨g1, 0, none⟩ = some (.slice o.A1 o.n1 o.c1) := (HD.out.at_ 0 rfl).cell 0; have hn100 : (o.n1 : Int) ≤ 100 := (by have := HN.out; omega)
    by_cases hkn : k < o.n1
    · have hkI : decide ((k : Int) < (o.n1 : Int)) = true := decide_eq_true (by omega); have hkI2 : (k : Int) < (o.n1 : Int) := (by omega); have hk0 : (0 : Int) ≤ (k : Int) := (by omega); have HKN : Sl (k < o.n1) := ⟨hkn⟩; obtain ⟨gb, oo, hA, hgb, hall⟩ := HM.out.d.all_ (by decide) (show 0 < o.n1 by omega); obtain ⟨x, hx, hra⟩ := hall _ HD.out.bl k hkn; have q1 : wr.cell? ⟨gb, oo + k * 3, none⟩ = some (.string x.nm) := hra 0 _ rfl; have c1 : wr.cell? ⟨g1, 0, none⟩ = some (.slice (some ⟨gb, oo, none⟩) o.n1 o.c1) := (by rw [← hA]; exact c0); clear c0 hra hall hgb hA hkn hx
      cases b with
      | true =>
        go_wp2_with fail; exact ⟨⟨_, k + 1, HKN.out, rfl, by go_num, HD⟩, by have := HKN.out; simp [RowKit.intOf]; omega⟩
      | false =>
        go_wp2_with fail; exact ⟨⟨_, k + 1, HKN.out, rfl, by go_num, HD⟩, by have := HKN.out; simp [RowKit.intOf]; omega⟩
    · obtain rfl : o.n1 = k := (by omega); have hkI : decide ((o.n1 : Int) < (o.n1 : Int)) = false := (by simp); clear hkn hk; go_wp2_with fail
      go_loopw [3, 5] (fun s3 s wv => ∃ (b : Bool) (k : Nat), k ≤ o.n2 ∧ s3 = .bool b ∧ s = .int .i64 (k : Int) ∧ Sl (Lg w wv [(g1, 27, #[.slice o.A1 o.n1 o.c1, .slice o.A2 o.n2 o.c2, .slice o.A3 o.n3 o.c3, .slice o.A4 o.n4 o.c4])])) (fun _ s _ => o.n2 - (RowKit.intOf s).toNat)
      case atStart => exact ⟨_, 0, Nat.zero_le _, rfl, rfl, HD⟩
      case round =>
        clear HD; obtain ⟨b, k, hk, rfl, rfl, HD⟩ := hrel; have c0 : wr.cell? ⟨g1, 1, none⟩ = some (.slice o.A2 o.n2 o.c2) := (HD.out.at_ 0 rfl).cell 1; have hn100 : (o.n2 : Int) ≤ 100 := (by have := HN.out; omega)
        by_cases hkn : k < o.n2
        · have hkI : decide ((k : Int) < (o.n2 : Int)) = true := decide_eq_true (by omega); have hkI2 : (k : Int) < (o.n2 : Int) := (by omega); have hk0 : (0 : Int) ≤ (k : Int) := (by omega); have HKN : Sl (k < o.n2) := ⟨hkn⟩; obtain ⟨gb, oo, hA, hgb, hall⟩ := HM.out.r.all_ (by decide) (show 0 < o.n2 by omega); obtain ⟨x, hx, hra⟩ := hall _ HD.out.bl k hkn; have q1 : wr.cell? ⟨gb, oo + k * 6, none⟩ = some (.string x.nm) := hra 0 _ rfl; have c1 : wr.cell? ⟨g1, 1, none⟩ = some (.slice (some ⟨gb, oo, none⟩) o.n2 o.c2) := (by rw [← hA]; exact c0); clear c0 hra hall hgb hA hkn hx
          cases b with
          | true =>
            go_wp2_with fail; exact ⟨⟨_, k + 1, HKN.out, rfl, by go_num, HD⟩, by have := HKN.out; simp [RowKit.intOf]; omega⟩
          | false =>
            go_wp2_with fail; exact ⟨⟨_, k + 1, HKN.out, rfl, by go_num, HD⟩, by have := HKN.out; simp [RowKit.intOf]; omega⟩
        · obtain rfl : o.n2 = k := (by omega); have hkI : decide ((o.n2 : Int) < (o.n2 : Int)) = false := (by simp); clear hkn hk; go_wp2_with fail
          go_loopw [3, 6] (fun s3 s wv => ∃ (b : Bool) (k : Nat), k ≤ o.n3 ∧ s3 = .bool b ∧ s = .int .i64 (k : Int) ∧ Sl (Lg w wv [(g1, 27, #[.slice o.A1 o.n1 o.c1, .slice o.A2 o.n2 o.c2, .slice o.A3 o.n3 o.c3, .slice o.A4 o.n4 o.c4])])) (fun _ s _ => o.n3 - (RowKit.intOf s).toNat)
          case atStart => exact ⟨_, 0, Nat.zero_le _, rfl, rfl, HD⟩
          case round =>
            clear HD; obtain ⟨b, k, hk, rfl, rfl, HD⟩ := hrel; have c0 : wr.cell? ⟨g1, 2, none⟩ = some (.slice o.A3 o.n3 o.c3) := (HD.out.at_ 0 rfl).cell 2; have hn100 : (o.n3 : Int) ≤ 100 := (by have := HN.out; omega)
            by_cases hkn : k < o.n3
            · have hkI : decide ((k : Int) < (o.n3 : Int)) = true := decide_eq_true (by omega); have hkI2 : (k : Int) < (o.n3 : Int) := (by omega); have hk0 : (0 : Int) ≤ (k : Int) := (by omega); have HKN : Sl (k < o.n3) := ⟨hkn⟩; obtain ⟨gb, oo, hA, hgb, hall⟩ := HM.out.s.all_ (by decide) (show 0 < o.n3 by omega); obtain ⟨x, hx, hra⟩ := hall _ HD.out.bl k hkn; have q1 : wr.cell? ⟨gb, oo + k * 5, none⟩ = some (.string x.nm) := hra 0 _ rfl; have c1 : wr.cell? ⟨g1, 2, none⟩ = some (.slice (some ⟨gb, oo, none⟩) o.n3 o.c3) := (by rw [← hA]; exact c0); have q2 : wr.cell? ⟨gb, oo + k * 5 + 4, none⟩ = some (.slice x.A x.n x.c) := hra 4 _ rfl; clear c0 hra hall hgb hA hkn hx
              cases b with
              | true =>
                go_wp2_with fail; exact ⟨⟨_, k + 1, HKN.out, rfl, by go_num, HD⟩, by have := HKN.out; simp [RowKit.intOf]; omega⟩
              | false =>
                by_cases p : 100 < x.nm.size
                · have pd : decide ((100 : Int) < (x.nm.size : Int)) = true := decide_eq_true (by omega); go_wp2_with fail; exact ⟨⟨_, k + 1, HKN.out, rfl, by go_num, HD⟩, by have := HKN.out; simp [RowKit.intOf]; omega⟩
                · have pd : decide ((100 : Int) < (x.nm.size : Int)) = false := decide_eq_false (by omega); go_wp2_with fail; exact ⟨⟨_, k + 1, HKN.out, rfl, by go_num, HD⟩, by have := HKN.out; simp [RowKit.intOf]; omega⟩
            · obtain rfl : o.n3 = k := (by omega); have hkI : decide ((o.n3 : Int) < (o.n3 : Int)) = false := (by simp); clear hkn hk; go_wp2_with fail
              go_loopw [3, 7] (fun s3 s wv => ∃ (b : Bool) (k : Nat), k ≤ o.n4 ∧ s3 = .bool b ∧ s = .int .i64 (k : Int) ∧ Sl (Lg w wv [(g1, 27, #[.slice o.A1 o.n1 o.c1, .slice o.A2 o.n2 o.c2, .slice o.A3 o.n3 o.c3, .slice o.A4 o.n4 o.c4])])) (fun _ s _ => o.n4 - (RowKit.intOf s).toNat)
              case atStart => exact ⟨_, 0, Nat.zero_le _, rfl, rfl, HD⟩
              case round =>
                clear HD; obtain ⟨b, k, hk, rfl, rfl, HD⟩ := hrel; have c0 : wr.cell? ⟨g1, 3, none⟩ = some (.slice o.A4 o.n4 o.c4) := (HD.out.at_ 0 rfl).cell 3; have hn100 : (o.n4 : Int) ≤ 100 := (by have := HN.out; omega)
                by_cases hkn : k < o.n4
                · have hkI : decide ((k : Int) < (o.n4 : Int)) = true := decide_eq_true (by omega); have hkI2 : (k : Int) < (o.n4 : Int) := (by omega); have hk0 : (0 : Int) ≤ (k : Int) := (by omega); have HKN : Sl (k < o.n4) := ⟨hkn⟩; obtain ⟨gb, oo, hA, hgb, hall⟩ := HM.out.c.all_ (by decide) (show 0 < o.n4 by omega); obtain ⟨x, hx, hra⟩ := hall _ HD.out.bl k hkn; have q1 : wr.cell? ⟨gb, oo + k * 6, none⟩ = some (.string x.nm) := hra 0 _ rfl; have c1 : wr.cell? ⟨g1, 3, none⟩ = some (.slice (some ⟨gb, oo, none⟩) o.n4 o.c4) := (by rw [← hA]; exact c0); clear c0 hra hall hgb hA hkn hx
                  cases b with
                  | true =>
                    go_wp2_with fail; exact ⟨⟨_, k + 1, HKN.out, rfl, by go_num, HD⟩, by have := HKN.out; simp [RowKit.intOf]; omega⟩
                  | false =>
                    go_wp2_with fail; exact ⟨⟨_, k + 1, HKN.out, rfl, by go_num, HD⟩, by have := HKN.out; simp [RowKit.intOf]; omega⟩
                · obtain rfl : o.n4 = k := (by omega); have hkI : decide ((o.n4 : Int) < (o.n4 : Int)) = false := (by simp); clear hkn hk; go_wp2_with fail; go_ret; exact ⟨⟨_, rfl⟩, HD.out.bl⟩
set_option maxHeartbeats 3200000 in
set_option maxRecDepth 100000 in
theorem lfar_any (A : Option Addr) (n c : Nat) (L : List RgV) (most : Int) (w : World) (hT : TbM w A n c L) : Calls Tryz.prog 12 #[.slice A n c, .int .i64 most] w fun e w' => BoolR e ∧ Below w.heap.size w w' := by
  have HT : Sl _ := ⟨hT⟩; have hnc : n ≤ 9223372036854775807 := (by have := hT.cap; unfold maxLen at this; omega); clear hT; go_enter Tryz.func12, Tryz.ntmps12
  by_cases h : most < (n : Int)
  · have hd : decide (most < (n : Int)) = true := decide_eq_true h; go_wp2_with fail; go_ret; exact ⟨⟨_, rfl⟩, Below.refl _ _⟩
  · have hd : decide (most < (n : Int)) = false := decide_eq_false h; go_wp2_with fail; clear h hd
    go_loopw [5, 6] (fun s5 s6 wv => ∃ (z : Int) (k : Nat), k ≤ n ∧ s5 = .int .i64 z ∧ s6 = .int .i64 (k : Int) ∧ Sl (Below w.heap.size w wv)) (fun _ s6 _ => n - (RowKit.intOf s6).toNat)
    case atStart => exact ⟨0, 0, Nat.zero_le _, rfl, rfl, ⟨Below.refl _ _⟩⟩
    case round =>
      obtain ⟨z, k, hk, rfl, rfl, HB⟩ := hrel
      by_cases hkn : k < n
      · have hkI : decide ((k : Int) < (n : Int)) = true := decide_eq_true (by omega); have hkI2 : (k : Int) < (n : Int) := (by omega); have hk0 : (0 : Int) ≤ (k : Int) := (by omega); have HKN : Sl (k < n) := ⟨hkn⟩; have hn63 : (n : Int) ≤ 9223372036854775807 := (by omega); obtain ⟨gb, oo, r, hA, hgb, hr, k1, k2⟩ := (HT.out.below HB.out).at_ hkn; subst hA; have HGB : Sl (gb < wr.heap.size) := ⟨hgb⟩; have HK1 : Sl (∀ W, Below wr.heap.size wr W → W.cell? ⟨gb, oo + k * 2, none⟩ = some (.slice r.A r.n r.c) ∧ W.cell? ⟨gb, oo + k * 2 + 1, none⟩ = some (.slice r.B r.m r.d)) := ⟨fun W hW => ⟨(hW.cell hgb).trans k1, (hW.cell hgb).trans k2⟩⟩; clear hkn hr hgb; go_wp2_with fail; refine (wideC_any r _).mono ?_; rintro e w5 ⟨rfl, hb5⟩; have HB5 : Sl (Below w.heap.size w w5) := ⟨HB.out.trans (hb5.mono HB.out.size)⟩; have hkk := HK1.out _ hb5; have q1 := hkk.1; have q2 := hkk.2; clear hkk hb5 k1 k2; generalize wideC r = b
        cases b with
        | true =>
          go_wp2_with fail; go_ret; exact ⟨⟨_, rfl⟩, HB5.out⟩
        | false =>
          go_wp2_with fail
          go_quiet (fail)
          go_wp2_with fail; exact ⟨⟨_, k + 1, HKN.out, rfl, by go_num, ⟨below_drewN HB5.out nq⟩⟩, by have := HKN.out; simp [RowKit.intOf]; omega⟩
      · obtain rfl : n = k := (by omega); have hkI : decide ((n : Int) < (n : Int)) = false := (by simp); go_wp2_with fail; go_ret; exact ⟨⟨_, rfl⟩, HB.out⟩
end Go.Proofs.YtbaojmfkjpnfhaaGreatDoor
namespace Go.Proofs.YtbaojmfkjpnfhaaGreatDoor
set_option linter.unusedSimpArgs false
open Go.RowKit
set_option linter.unusedVariables false
theorem in_gt {l : List Int} {z : Int} : z ∈ l ↔ ∃ j, j < l.length ∧ gt l j = z := by
  constructor
  · intro h; obtain ⟨j, hj⟩ := List.mem_iff_getElem?.1 h; have hl := (List.getElem?_eq_some_iff.1 hj).1; refine ⟨j, hl, ?_⟩; unfold gt; rw [hj]; rfl
  · rintro ⟨j, hj, rfl⟩; exact List.mem_of_getElem? (gt_at hj)
set_option maxHeartbeats 3200000 in
set_option maxRecDepth 100000 in
theorem in22_any (A : Option Addr) (n c : Nat) (l : List Int) (z : Int) (w : World) (h : II w A n l) (hn : n ≤ maxLen) :
    Calls Tryz.prog 55 #[.slice A n c, .int .i64 z] w fun e w' => e = .returned (.bool (decide (z ∈ l))) ∧ Below w.heap.size w w' := by
  have H : Sl _ := ⟨h⟩; have HB : Sl _ := ⟨Below.refl w.heap.size w⟩; unfold maxLen at hn; obtain ⟨X, hX⟩ : ∃ X, decide (z ∈ l) = X := ⟨_, rfl⟩; have HX : Sl _ := ⟨hX⟩; rw [hX]; clear h hX; go_enter Tryz.func55, Tryz.ntmps55; go_wp2_with fail
  go_loopw [5] (fun s5 wv => ∃ k : Nat, k ≤ n ∧ s5 = .int .i64 (k : Int) ∧ Sl (Below w.heap.size w wv) ∧ Sl (∀ j, j < k → gt l j ≠ z)) (fun s5 _ => n - (RowKit.intOf s5).toNat)
  case atStart => exact ⟨0, Nat.zero_le _, rfl, HB, ⟨fun j hj => absurd hj (Nat.not_lt_zero _)⟩⟩
  case round =>
    clear HB; obtain ⟨k, hk, rfl, HB, HN⟩ := hrel; have hn63 : (n : Int) ≤ 9223372036854775807 := (by omega)
    by_cases hkn : k < n
    · have hkI : decide ((k : Int) < (n : Int)) = true := decide_eq_true (by omega); have hkI2 : (k : Int) < (n : Int) := (by omega); have hk0 : (0 : Int) ≤ (k : Int) := (by omega); obtain ⟨a1, e1, hb1, c1⟩ := (H.out.below HB.out).cell (j := k) hkn; rw [e1]; clear e1; have HKN : Sl (k < n) := ⟨hkn⟩; obtain ⟨y, hy⟩ : ∃ y, gt l k = y := ⟨_, rfl⟩; rw [hy] at c1; have HY : Sl _ := ⟨hy⟩; clear hy hkn
      by_cases hyz : y = z
      · have hd : (y == z) = true := (by simp [hyz])
        have HV : Sl (X = true) := ⟨by
          rw [← HX.out]
          exact decide_eq_true (in_gt.2 ⟨k, by have := HKN.out; have := H.out.1; omega, by rw [HY.out, hyz]⟩)⟩
        subst hyz; go_wp2_with fail; go_ret; exact ⟨by first | (rw [HV.out]; rfl) | rw [HV.out], HB.out⟩
      · have hd : (y == z) = false := (by simp [hyz])
        have HYZ : Sl (∀ j, j < k + 1 → gt l j ≠ z) := ⟨fun j hj => by
          rcases Nat.lt_or_ge j k with h1 | h1
          · exact HN.out j h1
          · obtain rfl : j = k := (by omega)
            rw [HY.out]; exact hyz⟩
        clear hyz; go_wp2_with fail; exact ⟨⟨k + 1, HKN.out, by go_num, HB, HYZ⟩, by have := HKN.out; simp [RowKit.intOf]; omega⟩
    · obtain rfl : n = k := (by omega); have hkI : decide ((n : Int) < (n : Int)) = false := (by simp); clear hkn hk
      have HV : Sl (X = false) := ⟨by
        rw [← HX.out]; refine decide_eq_false fun hm => ?_
        obtain ⟨j, hj, e⟩ := in_gt.1 hm
        exact HN.out j (by have := H.out.1; omega) e⟩
      go_wp2_with fail; go_ret; exact ⟨by first | (rw [HV.out]; rfl) | rw [HV.out], HB.out⟩
set_option maxHeartbeats 3200000 in
set_option maxRecDepth 100000 in
theorem meet_any (A B : Option Addr) (n c m d : Nat) (l k : List Int) (w : World) (h1 : II w A n l) (h2 : II w B m k) (hn : n ≤ maxLen) (hm : m ≤ maxLen) :
    Calls Tryz.prog 58 #[.slice A n c, .slice B m d] w fun e w' => e = .returned (.bool (meB l k)) ∧ Below w.heap.size w w' := by
  have H1 : Sl _ := ⟨h1⟩; have H2 : Sl _ := ⟨h2⟩; have HB : Sl _ := ⟨Below.refl w.heap.size w⟩; have HM : Sl _ := ⟨hm⟩; unfold maxLen at hn; obtain ⟨X, hX⟩ : ∃ X, meB l k = X := ⟨_, rfl⟩; have HX : Sl _ := ⟨hX⟩; rw [hX]; clear h1 h2 hX hm; go_enter Tryz.func58, Tryz.ntmps58; go_wp2_with fail
  go_loopw [5] (fun s5 wv => ∃ i : Nat, i ≤ n ∧ s5 = .int .i64 (i : Int) ∧ Sl (Below w.heap.size w wv) ∧ Sl (∀ j, j < i → ¬ gt l j ∈ k)) (fun s5 _ => n - (RowKit.intOf s5).toNat)
  case atStart => exact ⟨0, Nat.zero_le _, rfl, HB, ⟨fun j hj => absurd hj (Nat.not_lt_zero _)⟩⟩
  case round =>
    clear HB; obtain ⟨i, hi, rfl, HB, HN⟩ := hrel; have hn63 : (n : Int) ≤ 9223372036854775807 := (by omega)
    by_cases hin : i < n
    · have hkI : decide ((i : Int) < (n : Int)) = true := decide_eq_true (by omega); have hkI2 : (i : Int) < (n : Int) := (by omega); have hk0 : (0 : Int) ≤ (i : Int) := (by omega); obtain ⟨a1, e1, hb1, c1⟩ := (H1.out.below HB.out).cell (j := i) hin; rw [e1]; clear e1; have HKN : Sl (i < n) := ⟨hin⟩; obtain ⟨y, hy⟩ : ∃ y, gt l i = y := ⟨_, rfl⟩; rw [hy] at c1; have HY : Sl _ := ⟨hy⟩; clear hy hin; go_wp2_with fail; refine (in22_any B m d k y _ (H2.out.below HB.out) HM.out).mono ?_; rintro e w1 ⟨rfl, hb⟩; replace HB : Sl _ := ⟨HB.out.trans (hb.mono HB.out.size)⟩; clear hb c1
      by_cases hyz : y ∈ k
      · have hd : decide (y ∈ k) = true := decide_eq_true hyz; rw [hd]
        have HV : Sl (X = true) := ⟨by
          rw [← HX.out]
          exact meB_iff.2 ⟨y, in_gt.2 ⟨i, by have := HKN.out; have := H1.out.1; omega, HY.out⟩, hyz⟩⟩
        clear hyz hd; go_wp2_with fail; go_ret; exact ⟨by first | (rw [HV.out]; rfl) | rw [HV.out], HB.out⟩
      · have hd : decide (y ∈ k) = false := decide_eq_false hyz; rw [hd]
        have HYZ : Sl (∀ j, j < i + 1 → ¬ gt l j ∈ k) := ⟨fun j hj => by
          rcases Nat.lt_or_ge j i with h1 | h1
          · exact HN.out j h1
          · obtain rfl : j = i := (by omega)
            rw [HY.out]; exact hyz⟩
        clear hyz hd; go_wp2_with fail; exact ⟨⟨i + 1, HKN.out, by go_num, HB, HYZ⟩, by have := HKN.out; simp [RowKit.intOf]; omega⟩
    · obtain rfl : n = i := (by omega); have hkI : decide ((n : Int) < (n : Int)) = false := (by simp); clear hin hi
      have HV : Sl (X = false) := ⟨by
        rw [← HX.out]
        by_cases hh : meB l k = true
        · obtain ⟨x, hx1, hx2⟩ := meB_iff.1 hh; obtain ⟨j, hj, e⟩ := in_gt.1 hx1; exact absurd (e ▸ hx2) (HN.out j (by have := H1.out.1; omega))
        · simpa using hh⟩
      go_wp2_with fail; go_ret; exact ⟨by first | (rw [HV.out]; rfl) | rw [HV.out], HB.out⟩
end Go.Proofs.YtbaojmfkjpnfhaaGreatDoor
namespace Go.Proofs.YtbaojmfkjpnfhaaGreatDoor
set_option linter.unusedSimpArgs false
open Go.RowKit
set_option linter.unusedVariables false
set_option maxHeartbeats 6400000 in
set_option maxRecDepth 100000 in
theorem r22Check_any (o : SpO) (T : Option Addr) (n c : Nat) (L : List RgV) (w : World) (hM : SpM w o) (hF : SpF o) (hT : TbM w T n c L) :
    Calls Tryz.prog 20 #[.agg #[.slice o.A1 o.n1 o.c1, .slice o.A2 o.n2 o.c2, .slice o.A3 o.n3 o.c3, .slice o.A4 o.n4 o.c4], .agg #[.slice T n c]] w fun e w' => e = .returned (.int .i64 (tabE o L)) ∧ Below w.heap.size w w' := by
  have HE : Sl (tabE o L = if specE o = 0 then (if 60 < n then 3 else fstE (rtK o L) n 0) else specE o) := ⟨by rw [rtab_eq, hT.row.len]⟩; obtain ⟨r, hr⟩ : ∃ r, tabE o L = r := ⟨_, rfl⟩; rw [hr] at HE ⊢; have HM : Sl _ := ⟨hM⟩; have HF : Sl _ := ⟨hF⟩; have HT : Sl _ := ⟨hT⟩; have HD : Sl (Lg w w []) := ⟨Lg.nil w⟩; have HSC : Sl _ := ⟨fun (W : World) (hW : Below w.heap.size w W) => rcheck_any o W (hM.below hW) hF⟩; obtain ⟨s, hs⟩ : ∃ s, specE o = s := ⟨_, rfl⟩; have HBD : Sl (s = 0 → o.n1 ≤ 6 ∧ o.n2 ≤ 40 ∧ o.n3 ≤ 80 ∧ o.n4 ≤ 24) := ⟨fun h => specE_bd (by rw [hs, h])⟩; have HS0 : Sl _ := ⟨hs⟩; unfold SpecR at HSC; rw [hs] at HE HSC; have hcap := hT.cap; unfold maxLen at hcap; have HCAP : Sl _ := ⟨hcap⟩; clear hM hF hT hr hs hcap; go_enter Tryz.func20, Tryz.ntmps20
  go_upto_region 1 with ((with_reducible show wpList _ _ _ _ _ _); first
    | (refine wpList_box_new 2 rfl rfl 27 (.tmp 0) rfl #[.slice o.A1 o.n1 o.c1, .slice o.A2 o.n2 o.c2, .slice o.A3 o.n3 o.c3, .slice o.A4 o.n4 o.c4] rfl (fun _ => by kernel_rfl) ?_; rintro ws gs zg zm zs zb; replace HD : Sl _ := ⟨HD.out.new zg zm zb⟩; clear zg zm zs zb)
    | (refine wpList_box_new 3 rfl rfl 30 (.tmp 1) rfl #[.slice T n c] rfl (fun _ => by kernel_rfl) ?_; rintro wt gtb zg zm zs zb; replace HD : Sl _ := ⟨HD.out.new zg zm zb⟩; clear zg zm zs zb))
  have s0 := (HD.out.at_ 1 rfl).cell 0; have s1 := (HD.out.at_ 1 rfl).cell 1; have s2 := (HD.out.at_ 1 rfl).cell 2; have s3 := (HD.out.at_ 1 rfl).cell 3; simp at s0 s1 s2 s3; go_wp2_with fail; refine (HSC.out _ HD.out.bl).mono ?_; rintro e w1 ⟨⟨a1, a2, a3, rfl⟩, hb⟩; replace HD : Sl _ := ⟨HD.out.below hb⟩; clear HSC hb s0 s1 s2 s3
  go_upto_region 2 with ((with_reducible show wpList _ _ _ _ _ _); first
    | (refine wpList_alloc_new 5 rfl rfl 80 rfl #[.int .i64 0, .int .i64 0, .int .i64 0] alloc_fault ?_; rintro w2 gf zg zm zs zb; replace HD : Sl _ := ⟨HD.out.new zg zm zb⟩; clear zg zm zs zb)
    | (refine wpList_store_whole rfl 80 (.tmp 5) (.tmp 13) rfl gf #[.int .i64 a1, .int .i64 a2, .int .i64 a3] rfl rfl 80 _ (HD.out.at_ 0 rfl) rfl (by kernel_rfl) (by simp [Value.oneCell']) ?_; rintro w3 zm zs zb; replace HD : Sl _ := ⟨HD.out.upd zm zb⟩; clear zm zs zb))
  replace HD : Sl _ := ⟨HD.out.drop⟩
  by_cases hs0 : s = 0
  · subst hs0; rw [if_pos rfl] at HE; have HN := HBD.out rfl; have HNB : Sl _ := ⟨HN⟩; clear HN; have t0 := (HD.out.at_ 0 rfl).cell 0; simp at t0
    by_cases h60 : 60 < n
    · have q1 : decide ((60 : Int) < (n : Int)) = true := decide_eq_true (by omega); have q2 : (60 : Int) < (n : Int) := (by omega); have HR : Sl (r = 3) := ⟨by rw [HE.out, if_pos h60]⟩; clear h60; go_wp2_with fail; go_ret; exact ⟨by rw [HR.out]; rfl, HD.out.bl⟩
    · have q1 : decide ((60 : Int) < (n : Int)) = false := decide_eq_false (by omega); have q2 : ¬ (60 : Int) < (n : Int) := (by omega); rw [if_neg h60] at HE; have HN60 : Sl (n ≤ 60) := ⟨by omega⟩; clear h60; go_wp2_with fail; clear q1 q2 t0
      go_loopw [7] (fun s7 wr => ∃ (k : Nat), k ≤ n ∧ s7 = .int .i64 k ∧ Sl (Lg w wr [(gtb, 30, #[.slice T n c]), (gs, 27, #[.slice o.A1 o.n1 o.c1, .slice o.A2 o.n2 o.c2, .slice o.A3 o.n3 o.c3, .slice o.A4 o.n4 o.c4])]) ∧ Sl (∀ j, j < k → regE o (L[j]?.getD rg0) = 0) ∧ Sl (fstE (rtK o L) (n - k) k = r)) (fun s7 _ => n - (RowKit.intOf s7).toNat)
      case atStart => exact ⟨0, Nat.zero_le _, rfl, HD, ⟨fun j hj => absurd hj (Nat.not_lt_zero _)⟩, ⟨HE.out.symm⟩⟩
      case round =>
        clear HD HE; obtain ⟨k, hk, rfl, HD, HJ, HK⟩ := hrel; have t0 : wr.cell? ⟨gtb, 0, none⟩ = some (.slice T n c) := (HD.out.at_ 0 rfl).cell 0
        by_cases hkn : k < n
        · have hkI : decide ((k : Int) < (n : Int)) = true := decide_eq_true (by omega); have hkI2 : (k : Int) < (n : Int) := (by omega); have hk0 : (0 : Int) ≤ (k : Int) := (by omega); have hk60 : (k : Int) ≤ 60 := (by have := HN60.out; omega); have hn60 : (n : Int) ≤ 60 := (by have := HN60.out; omega); have HST : Sl (r = if rtK o L k = 0 then fstE (rtK o L) (n - (k + 1)) (k + 1) else rtK o L k) := ⟨by rw [← HK.out, show n - k = (n - (k + 1)) + 1 by omega]; rfl⟩; obtain ⟨gb, oo, x, hA, hgb, hx, x0, x1⟩ := (HT.out.below HD.out.bl).at_ hkn; have HTK : Sl (rtK o L k = if regE o x = 0 then (if twS L x k = true then 8 else 0) else regE o x) := ⟨by unfold rtK; rw [hx]; rfl⟩; have HXR : Sl (L[k]?.getD rg0 = x) := ⟨by rw [hx]; rfl⟩; have HXM : Sl (∀ W, Below w.heap.size w W → RgM W x) := ⟨fun W hW => (HT.out.all x (List.mem_of_getElem? hx)).below hW⟩
          have HRG : Sl (∀ W, Below w.heap.size w W → Calls Tryz.prog 22 #[.agg #[.slice o.A1 o.n1 o.c1, .slice o.A2 o.n2 o.c2, .slice o.A3 o.n3 o.c3, .slice o.A4 o.n4 o.c4], .agg #[.slice x.A x.n x.c, .slice x.B x.m x.d]] W fun e w' => e = .returned (.int .i64 (regE o x)) ∧ Below W.heap.size W w') := ⟨fun W hW => by
            have h := rreg_any o x W (HM.out.below hW) HF.out (HXM.out W hW) (by have := HNB.out; omega); rw [HS0.out, if_pos rfl] at h
            exact h⟩
          obtain ⟨e1, he1⟩ : ∃ e1, regE o x = e1 := ⟨_, rfl⟩; rw [he1] at HTK HRG; have HE1 : Sl _ := ⟨he1⟩; have HKN : Sl (k < n) := ⟨hkn⟩; rw [hA] at t0; have HA : Sl _ := ⟨hA⟩; have HGB : Sl (gb < wr.heap.size) := ⟨hgb⟩; have HX01 : Sl (∀ W, Below wr.heap.size wr W → W.cell? ⟨gb, oo + k * 2, none⟩ = some (.slice x.A x.n x.c) ∧ W.cell? ⟨gb, oo + k * 2 + 1, none⟩ = some (.slice x.B x.m x.d)) := ⟨fun W hW => ⟨(hW.cell hgb).trans x0, (hW.cell hgb).trans x1⟩⟩
          have HRA : Sl (∀ W, Below wr.heap.size wr W → W.rangeAt gb (oo + k * 2) [.slice x.A x.n x.c, .slice x.B x.m x.d]) := ⟨fun W hW => by
            obtain ⟨y0, y1⟩ := HX01.out W hW; intro j v hv; rcases j with _ | _ | j
            · injection hv with hv; subst hv; exact y0
            · injection hv with hv; subst hv; exact y1
            · cases hv⟩
          have HWX : Sl (L[k]? = some x) := ⟨hx⟩; clear hA hx he1 HK hkn hgb x0 x1; go_wp2_with fail; clear t0; have HDd : Sl (Lg w wr.drew [(gtb, 30, #[.slice T n c]), (gs, 27, #[.slice o.A1 o.n1 o.c1, .slice o.A2 o.n2 o.c2, .slice o.A3 o.n3 o.c3, .slice o.A4 o.n4 o.c4])]) := ⟨HD.out.below (below_drewN (Below.refl _ _) 1)⟩; have HBd : Sl (Below wr.heap.size wr wr.drew) := ⟨below_drewN (Below.refl _ _) 1⟩; have HQ : Sl (∀ W, Below wr.heap.size wr W → Lg w W [(gtb, 30, #[.slice T n c]), (gs, 27, #[.slice o.A1 o.n1 o.c1, .slice o.A2 o.n2 o.c2, .slice o.A3 o.n3 o.c3, .slice o.A4 o.n4 o.c4])]) := ⟨fun W hW => HD.out.below hW⟩; have hm := HBd.out; refine wp_region_held_drew (S := fun w' => Below wr.heap.size wr w') (by kernel_rfl) hm (fun hHeld => ?_); clear hm; refine wpAnyH_load 0 27 (.tmp 2) rfl rfl rfl gs 0 rfl #[.slice o.A1 o.n1 o.c1, .slice o.A2 o.n2 o.c2, .slice o.A3 o.n3 o.c3, .slice o.A4 o.n4 o.c4] _ (fun w' h => by have := World.rangeAt_of_block ((HQ.out w' h).at_ 1 rfl) 0 4; exact this) Tryz.underlying27 rfl (by kernel_rfl) (by kernel_rfl) (by kernel_rfl) (by kernel_rfl) (fun _ _ _ h => h) (by assumption) ?_; simp only [Act.put, sS0, sS1, sS2]; refine wpAnyH_pure 1 (v := .pointer (some ⟨gtb, 0, none⟩)) rfl (by kernel_rfl) (by kernel_rfl) (by kernel_rfl) (fun _ _ _ h => h) rfl (fun _ => by go_simp) (by assumption) ?_; simp only [Act.put, sS0, sS1, sS2]
          refine wpAnyH_cell 2 (v := .slice (some ⟨gb, oo, none⟩) n c) rfl rfl (fun w' h => by
            have hc := (((HQ.out w' h).at_ 0 rfl).cell 0).trans (show _ = some (.slice (some ⟨gb, oo, none⟩) n c) by rw [← HA.out]; rfl)
            go_simp) (by kernel_rfl) (by kernel_rfl) (by kernel_rfl) (fun _ _ _ h => h) (by assumption) ?_
          simp only [Act.put, sS0, sS1, sS2]; refine wpAnyH_pure 3 (v := .int .i64 (k : Int)) rfl (by kernel_rfl) (by kernel_rfl) (by kernel_rfl) (fun _ _ _ h => h) rfl (fun _ => rfl) (by assumption) ?_; simp only [Act.put, sS0, sS1, sS2]; refine wpAnyH_pure 4 (v := .pointer (some ⟨gb, oo + k * 2, none⟩)) rfl (by kernel_rfl) (by kernel_rfl) (by kernel_rfl) (fun _ _ _ h => h) rfl (fun _ => by go_simp) (by assumption) ?_; simp only [Act.put, sS0, sS1, sS2]; refine wpAnyH_load 5 33 (.tmp 33) rfl rfl rfl gb (oo + k * 2) rfl #[.slice x.A x.n x.c, .slice x.B x.m x.d] _ (fun w' h => HRA.out w' h) Tryz.underlying33 rfl (by kernel_rfl) (by kernel_rfl) (by kernel_rfl) (by kernel_rfl) (fun _ _ _ h => h) (by assumption) ?_; simp only [Act.put, sS0, sS1, sS2]; refine wpAnyH_one 6 rfl (by kernel_rfl) rfl (fun K hK => ?_); go_simp; go_at_call 22
          (with_reducible refine (HRG.out _ HDd.out.bl).mono ?_)
          rintro e w6 ⟨rfl, hb⟩; have HW6 : Sl (Below wr.heap.size wr w6) := ⟨HBd.out.trans (hb.mono HBd.out.size)⟩; clear hb; refine hK.out _ _ HW6.out (fun hHeld => ?_); clear hK K
          (try simp only [Act.put, sS0, sS1, sS2])
          refine wpAnyH_pure 7 (v := .int .i64 e1) rfl (by kernel_rfl) (by kernel_rfl) (by kernel_rfl) (fun _ _ _ h => h) rfl (fun _ => by go_simp) (by assumption) ?_; simp only [Act.put, sS0, sS1, sS2]; refine wpAnyH_done (by kernel_rfl) ?_ _; have HD6 : Sl (Lg w w6 [(gtb, 30, #[.slice T n c]), (gs, 27, #[.slice o.A1 o.n1 o.c1, .slice o.A2 o.n2 o.c2, .slice o.A3 o.n3 o.c3, .slice o.A4 o.n4 o.c4])]) := ⟨HQ.out w6 HW6.out⟩; replace HX01 : Sl (∀ W, Below w6.heap.size w6 W → W.cell? ⟨gb, oo + k * 2, none⟩ = some (.slice x.A x.n x.c) ∧ W.cell? ⟨gb, oo + k * 2 + 1, none⟩ = some (.slice x.B x.m x.d)) := ⟨fun W hW => HX01.out W (HW6.out.trans (hW.mono HW6.out.size))⟩; clear HD HDd HBd HQ HRA HRG HGB hHeld; clear HW6
          by_cases he0 : e1 = 0
          · subst he0; rw [if_pos rfl] at HTK
            have HJ2 : Sl (∀ j, j < k + 1 → regE o (L[j]?.getD rg0) = 0) := ⟨fun j hj => by
              rcases Nat.lt_or_ge j k with h1 | h1
              · exact HJ.out j h1
              · obtain rfl : j = k := (by omega)
                rw [HXR.out]; exact HE1.out⟩
            have HLN : Sl (∀ j y, j < k + 1 → L[j]? = some y → y.n ≤ maxLen ∧ y.m ≤ maxLen) := ⟨fun j y hj hy => by
              have hr0 := HJ2.out j hj; rw [hy, Option.getD_some] at hr0; obtain ⟨r1, r2⟩ := regE_ok hr0; have hrg := HT.out.all y (List.mem_of_getElem? hy); have l1 := drwE_len r1; have l2 := drwE_len r2; have hs1 := hrg.s.1; have hs2 := hrg.c.1; have hbd := HNB.out; unfold maxLen
              omega⟩
            clear HE1 HJ; go_wp2_with fail
            go_loopw [9] (fun s9 wv => ∃ (j : Nat), j ≤ k ∧ s9 = .int .i64 j ∧ Sl (Lg w wv [(gtb, 30, #[.slice T n c]), (gs, 27, #[.slice o.A1 o.n1 o.c1, .slice o.A2 o.n2 o.c2, .slice o.A3 o.n3 o.c3, .slice o.A4 o.n4 o.c4])]) ∧ Sl (Below w6.heap.size w6 wv) ∧ Sl (twS L x j = false)) (fun s9 _ => k - (RowKit.intOf s9).toNat)
            case atStart => exact ⟨0, Nat.zero_le _, rfl, HD6, ⟨Below.refl _ _⟩, ⟨rfl⟩⟩
            case round =>
              clear HD6; obtain ⟨j, hj, rfl, HD, HB6, HW⟩ := hrel
              by_cases hjk : j < k
              · have hjI : decide ((j : Int) < (k : Int)) = true := decide_eq_true (by omega); have hjI2 : (j : Int) < (k : Int) := (by omega); have hj0 : (0 : Int) ≤ (j : Int) := (by omega); have hjn2 : (j : Int) < (n : Int) := (by omega); obtain ⟨gb2, oo2, y, hA2, hgb2, hy, y0, y1⟩ := (HT.out.below HD.out.bl).at_ (show j < n by have := HKN.out; omega); rw [HA.out] at hA2; injection hA2 with hA2
                injection hA2 with ea eb _
                subst ea eb; have HY01 : Sl (∀ W, Below wr.heap.size wr W → W.cell? ⟨gb, oo + j * 2, none⟩ = some (.slice y.A y.n y.c) ∧ W.cell? ⟨gb, oo + j * 2 + 1, none⟩ = some (.slice y.B y.m y.d)) := ⟨fun W hW => ⟨(hW.cell hgb2).trans y0, (hW.cell hgb2).trans y1⟩⟩; have HX2 : Sl (∀ W, Below wr.heap.size wr W → W.cell? ⟨gb, oo + k * 2, none⟩ = some (.slice x.A x.n x.c) ∧ W.cell? ⟨gb, oo + k * 2 + 1, none⟩ = some (.slice x.B x.m x.d)) := ⟨fun W hW => HX01.out W (HB6.out.trans (hW.mono HB6.out.size))⟩; have HTS : Sl (twS L x (j + 1) = (meB x.l y.l || meB x.k y.k)) := ⟨by rw [twS_succ hy, HW.out]; rfl⟩; have HM1 : Sl (∀ W, Below w.heap.size w W → Calls Tryz.prog 58 #[.slice x.A x.n x.c, .slice y.A y.n y.c] W fun e w' => e = .returned (.bool (meB x.l y.l)) ∧ Below W.heap.size W w') := ⟨fun W hW => meet_any _ _ _ _ _ _ _ _ W (HXM.out W hW).s ((HT.out.all y (List.mem_of_getElem? hy)).below hW).s (HLN.out k x (by omega) HWX.out).1 (HLN.out j y (by omega) hy).1⟩; have HM2 : Sl (∀ W, Below w.heap.size w W → Calls Tryz.prog 58 #[.slice x.B x.m x.d, .slice y.B y.m y.d] W fun e w' => e = .returned (.bool (meB x.k y.k)) ∧ Below W.heap.size W w') := ⟨fun W hW => meet_any _ _ _ _ _ _ _ _ W (HXM.out W hW).c ((HT.out.all y (List.mem_of_getElem? hy)).below hW).c (HLN.out k x (by omega) HWX.out).2 (HLN.out j y (by omega) hy).2⟩; have HJK : Sl (j < k) := ⟨hjk⟩; obtain ⟨b1, hb1⟩ : ∃ b1, meB x.l y.l = b1 := ⟨_, rfl⟩; obtain ⟨b2, hb2⟩ : ∃ b2, meB x.k y.k = b2 := ⟨_, rfl⟩; rw [hb1] at HTS HM1; rw [hb2] at HTS HM2; clear hb1 hb2 hy y0 y1 hgb2 HW hjk; go_wp2_with fail; have HDd : Sl (Lg w wr.drew [(gtb, 30, #[.slice T n c]), (gs, 27, #[.slice o.A1 o.n1 o.c1, .slice o.A2 o.n2 o.c2, .slice o.A3 o.n3 o.c3, .slice o.A4 o.n4 o.c4])]) := ⟨HD.out.below (below_drewN (Below.refl _ _) 1)⟩; have HBd : Sl (Below wr.heap.size wr wr.drew) := ⟨below_drewN (Below.refl _ _) 1⟩; have HQ : Sl (∀ W, Below wr.heap.size wr W → Lg w W [(gtb, 30, #[.slice T n c]), (gs, 27, #[.slice o.A1 o.n1 o.c1, .slice o.A2 o.n2 o.c2, .slice o.A3 o.n3 o.c3, .slice o.A4 o.n4 o.c4])]) := ⟨fun W hW => HD.out.below hW⟩; have hm := HBd.out; refine wp_region_held_drew (S := fun w' => Below wr.heap.size wr w') (by kernel_rfl) hm (fun hHeld => ?_); clear hm; refine wpAnyH_pure 0 (v := .pointer (some ⟨gtb, 0, none⟩)) rfl (by kernel_rfl) (by kernel_rfl) (by kernel_rfl) (fun _ _ _ h => h) rfl (fun _ => by go_simp) (by assumption) ?_; simp only [Act.put, sS0, sS1, sS2]
                refine wpAnyH_cell 1 (v := .slice (some ⟨gb, oo, none⟩) n c) rfl rfl (fun w' h => by
                  have hc := (((HQ.out w' h).at_ 0 rfl).cell 0).trans (show _ = some (.slice (some ⟨gb, oo, none⟩) n c) by rw [← HA.out]; rfl)
                  go_simp) (by kernel_rfl) (by kernel_rfl) (by kernel_rfl) (fun _ _ _ h => h) (by assumption) ?_
                simp only [Act.put, sS0, sS1, sS2]; refine wpAnyH_pure 2 (v := .int .i64 (k : Int)) rfl (by kernel_rfl) (by kernel_rfl) (by kernel_rfl) (fun _ _ _ h => h) rfl (fun _ => rfl) (by assumption) ?_; simp only [Act.put, sS0, sS1, sS2]; refine wpAnyH_pure 3 (v := .pointer (some ⟨gb, oo + k * 2, none⟩)) rfl (by kernel_rfl) (by kernel_rfl) (by kernel_rfl) (fun _ _ _ h => h) rfl (fun _ => by go_simp) (by assumption) ?_; simp only [Act.put, sS0, sS1, sS2]; refine wpAnyH_pure 4 (v := .pointer (some ⟨gb, oo + k * 2, none⟩)) rfl (by kernel_rfl) (by kernel_rfl) (by kernel_rfl) (fun _ _ _ h => h) rfl (fun _ => by go_simp) (by assumption) ?_; simp only [Act.put, sS0, sS1, sS2]
                refine wpAnyH_cell 5 (v := .slice x.A x.n x.c) rfl rfl (fun w' h => by
                  have hc := (HX2.out w' h).1
                  go_simp) (by kernel_rfl) (by kernel_rfl) (by kernel_rfl) (fun _ _ _ h => h) (by assumption) ?_
                simp only [Act.put, sS0, sS1, sS2]; refine wpAnyH_pure 6 (v := .pointer (some ⟨gtb, 0, none⟩)) rfl (by kernel_rfl) (by kernel_rfl) (by kernel_rfl) (fun _ _ _ h => h) rfl (fun _ => by go_simp) (by assumption) ?_; simp only [Act.put, sS0, sS1, sS2]
                refine wpAnyH_cell 7 (v := .slice (some ⟨gb, oo, none⟩) n c) rfl rfl (fun w' h => by
                  have hc := (((HQ.out w' h).at_ 0 rfl).cell 0).trans (show _ = some (.slice (some ⟨gb, oo, none⟩) n c) by rw [← HA.out]; rfl)
                  go_simp) (by kernel_rfl) (by kernel_rfl) (by kernel_rfl) (fun _ _ _ h => h) (by assumption) ?_
                simp only [Act.put, sS0, sS1, sS2]; refine wpAnyH_pure 8 (v := .int .i64 (j : Int)) rfl (by kernel_rfl) (by kernel_rfl) (by kernel_rfl) (fun _ _ _ h => h) rfl (fun _ => rfl) (by assumption) ?_; simp only [Act.put, sS0, sS1, sS2]; refine wpAnyH_pure 9 (v := .pointer (some ⟨gb, oo + j * 2, none⟩)) rfl (by kernel_rfl) (by kernel_rfl) (by kernel_rfl) (fun _ _ _ h => h) rfl (fun _ => by go_simp) (by assumption) ?_; simp only [Act.put, sS0, sS1, sS2]; refine wpAnyH_pure 10 (v := .pointer (some ⟨gb, oo + j * 2, none⟩)) rfl (by kernel_rfl) (by kernel_rfl) (by kernel_rfl) (fun _ _ _ h => h) rfl (fun _ => by go_simp) (by assumption) ?_; simp only [Act.put, sS0, sS1, sS2]
                refine wpAnyH_cell 11 (v := .slice y.A y.n y.c) rfl rfl (fun w' h => by
                  have hc := (HY01.out w' h).1
                  go_simp) (by kernel_rfl) (by kernel_rfl) (by kernel_rfl) (fun _ _ _ h => h) (by assumption) ?_
                simp only [Act.put, sS0, sS1, sS2]; refine wpAnyH_one 12 rfl (by kernel_rfl) rfl (fun K hK => ?_); go_simp; go_at_call 58
                (with_reducible refine (HM1.out _ HDd.out.bl).mono ?_)
                rintro e w7 ⟨rfl, hb⟩; have HW7 : Sl (Below wr.heap.size wr w7) := ⟨HBd.out.trans (hb.mono HBd.out.size)⟩; have hw7 := HW7.out; clear hb; refine hK.out _ _ HW7.out (fun hHeld => ?_); clear hK K
                (try simp only [Act.put, sS0, sS1, sS2])
                cases b1 with
                | true =>
                  refine wpAnyH_pure 13 (v := .bool true) rfl (by kernel_rfl) (by kernel_rfl) (by kernel_rfl) (fun _ _ _ h => h) rfl (fun _ => rfl) (by assumption) ?_; simp only [Act.put, sS0, sS1, sS2]; refine wpAnyH_no 14 rfl (by kernel_rfl) (by kernel_rfl) (by kernel_rfl) (fun _ _ _ h => h) (by rfl) (by assumption) ?_; simp only [Act.put, sS0, sS1, sS2]; refine wpAnyH_no 15 rfl (by kernel_rfl) (by kernel_rfl) (by kernel_rfl) (fun _ _ _ h => h) (by rfl) (by assumption) ?_; simp only [Act.put, sS0, sS1, sS2]; refine wpAnyH_no 16 rfl (by kernel_rfl) (by kernel_rfl) (by kernel_rfl) (fun _ _ _ h => h) (by rfl) (by assumption) ?_; simp only [Act.put, sS0, sS1, sS2]; refine wpAnyH_no 17 rfl (by kernel_rfl) (by kernel_rfl) (by kernel_rfl) (fun _ _ _ h => h) (by rfl) (by assumption) ?_; simp only [Act.put, sS0, sS1, sS2]; refine wpAnyH_no 18 rfl (by kernel_rfl) (by kernel_rfl) (by kernel_rfl) (fun _ _ _ h => h) (by rfl) (by assumption) ?_; simp only [Act.put, sS0, sS1, sS2]; refine wpAnyH_no 19 rfl (by kernel_rfl) (by kernel_rfl) (by kernel_rfl) (fun _ _ _ h => h) (by rfl) (by assumption) ?_; simp only [Act.put, sS0, sS1, sS2]; refine wpAnyH_no 20 rfl (by kernel_rfl) (by kernel_rfl) (by kernel_rfl) (fun _ _ _ h => h) (by rfl) (by assumption) ?_; simp only [Act.put, sS0, sS1, sS2]; refine wpAnyH_no 21 rfl (by kernel_rfl) (by kernel_rfl) (by kernel_rfl) (fun _ _ _ h => h) (by rfl) (by assumption) ?_; simp only [Act.put, sS0, sS1, sS2]; refine wpAnyH_no 22 rfl (by kernel_rfl) (by kernel_rfl) (by kernel_rfl) (fun _ _ _ h => h) (by rfl) (by assumption) ?_; simp only [Act.put, sS0, sS1, sS2]; refine wpAnyH_no 23 rfl (by kernel_rfl) (by kernel_rfl) (by kernel_rfl) (fun _ _ _ h => h) (by rfl) (by assumption) ?_; simp only [Act.put, sS0, sS1, sS2]; refine wpAnyH_no 24 rfl (by kernel_rfl) (by kernel_rfl) (by kernel_rfl) (fun _ _ _ h => h) (by rfl) (by assumption) ?_; simp only [Act.put, sS0, sS1, sS2]; refine wpAnyH_no 25 rfl (by kernel_rfl) (by kernel_rfl) (by kernel_rfl) (fun _ _ _ h => h) (by rfl) (by assumption) ?_; simp only [Act.put, sS0, sS1, sS2]; refine wpAnyH_no 26 rfl (by kernel_rfl) (by kernel_rfl) (by kernel_rfl) (fun _ _ _ h => h) (by rfl) (by assumption) ?_; simp only [Act.put, sS0, sS1, sS2]; refine wpAnyH_pure 27 (v := .bool true) rfl (by kernel_rfl) (by kernel_rfl) (by kernel_rfl) (fun _ _ _ h => h) rfl (fun _ => by go_simp) (by assumption) ?_; simp only [Act.put, sS0, sS1, sS2]; refine wpAnyH_done (by kernel_rfl) ?_ _; clear hHeld
                  have HV : Sl (r = 8) := ⟨by
                    have h1 : rtK o L k = 8 := (by rw [HTK.out, if_pos (twS_mono (by rw [HTS.out]; rfl) (show j + 1 ≤ k from HJK.out))])
                    rw [HST.out, h1]; rfl⟩
                  have HDe : Sl (Lg w w7 [(gtb, 30, #[.slice T n c]), (gs, 27, #[.slice o.A1 o.n1 o.c1, .slice o.A2 o.n2 o.c2, .slice o.A3 o.n3 o.c3, .slice o.A4 o.n4 o.c4])]) := ⟨HQ.out w7 HW7.out⟩; clear HD HDd HBd HQ HW7 hw7; go_wp2_with fail; go_ret; exact ⟨by first | (rw [HV.out]; rfl) | rw [HV.out], HDe.out.bl⟩
                | false =>
                  refine wpAnyH_pure 13 (v := .bool false) rfl (by kernel_rfl) (by kernel_rfl) (by kernel_rfl) (fun _ _ _ h => h) rfl (fun _ => rfl) (by assumption) ?_; simp only [Act.put, sS0, sS1, sS2]; refine wpAnyH_pureg 14 (v := .pointer (some ⟨gtb, 0, none⟩)) rfl (by kernel_rfl) (by kernel_rfl) (by kernel_rfl) (fun _ _ _ h => h) (by rfl) (fun _ => by go_simp) (by assumption) ?_; simp only [Act.put, sS0, sS1, sS2]
                  refine wpAnyH_cellg 15 (v := .slice (some ⟨gb, oo, none⟩) n c) rfl (by rfl) (fun w' h => by
                    have hc := (((HQ.out w' h).at_ 0 rfl).cell 0).trans (show _ = some (.slice (some ⟨gb, oo, none⟩) n c) by rw [← HA.out]; rfl)
                    go_simp) (by kernel_rfl) (by kernel_rfl) (by kernel_rfl) (fun _ _ _ h => h) (by assumption) ?_
                  simp only [Act.put, sS0, sS1, sS2]; refine wpAnyH_pureg 16 (v := .int .i64 (k : Int)) rfl (by kernel_rfl) (by kernel_rfl) (by kernel_rfl) (fun _ _ _ h => h) (by rfl) (fun _ => rfl) (by assumption) ?_; simp only [Act.put, sS0, sS1, sS2]; refine wpAnyH_pureg 17 (v := .pointer (some ⟨gb, oo + k * 2, none⟩)) rfl (by kernel_rfl) (by kernel_rfl) (by kernel_rfl) (fun _ _ _ h => h) (by rfl) (fun _ => by go_simp) (by assumption) ?_; simp only [Act.put, sS0, sS1, sS2]; refine wpAnyH_pureg 18 (v := .pointer (some ⟨gb, oo + k * 2 + 1, none⟩)) rfl (by kernel_rfl) (by kernel_rfl) (by kernel_rfl) (fun _ _ _ h => h) (by rfl) (fun _ => by go_simp) (by assumption) ?_; simp only [Act.put, sS0, sS1, sS2]
                  refine wpAnyH_cellg 19 (v := .slice x.B x.m x.d) rfl (by rfl) (fun w' h => by
                    have hc := (HX2.out w' h).2
                    go_simp) (by kernel_rfl) (by kernel_rfl) (by kernel_rfl) (fun _ _ _ h => h) (by assumption) ?_
                  simp only [Act.put, sS0, sS1, sS2]; refine wpAnyH_pureg 20 (v := .pointer (some ⟨gtb, 0, none⟩)) rfl (by kernel_rfl) (by kernel_rfl) (by kernel_rfl) (fun _ _ _ h => h) (by rfl) (fun _ => by go_simp) (by assumption) ?_; simp only [Act.put, sS0, sS1, sS2]
                  refine wpAnyH_cellg 21 (v := .slice (some ⟨gb, oo, none⟩) n c) rfl (by rfl) (fun w' h => by
                    have hc := (((HQ.out w' h).at_ 0 rfl).cell 0).trans (show _ = some (.slice (some ⟨gb, oo, none⟩) n c) by rw [← HA.out]; rfl)
                    go_simp) (by kernel_rfl) (by kernel_rfl) (by kernel_rfl) (fun _ _ _ h => h) (by assumption) ?_
                  simp only [Act.put, sS0, sS1, sS2]; refine wpAnyH_pureg 22 (v := .int .i64 (j : Int)) rfl (by kernel_rfl) (by kernel_rfl) (by kernel_rfl) (fun _ _ _ h => h) (by rfl) (fun _ => rfl) (by assumption) ?_; simp only [Act.put, sS0, sS1, sS2]; refine wpAnyH_pureg 23 (v := .pointer (some ⟨gb, oo + j * 2, none⟩)) rfl (by kernel_rfl) (by kernel_rfl) (by kernel_rfl) (fun _ _ _ h => h) (by rfl) (fun _ => by go_simp) (by assumption) ?_; simp only [Act.put, sS0, sS1, sS2]; refine wpAnyH_pureg 24 (v := .pointer (some ⟨gb, oo + j * 2 + 1, none⟩)) rfl (by kernel_rfl) (by kernel_rfl) (by kernel_rfl) (fun _ _ _ h => h) (by rfl) (fun _ => by go_simp) (by assumption) ?_; simp only [Act.put, sS0, sS1, sS2]
                  refine wpAnyH_cellg 25 (v := .slice y.B y.m y.d) rfl (by rfl) (fun w' h => by
                    have hc := (HY01.out w' h).2
                    go_simp) (by kernel_rfl) (by kernel_rfl) (by kernel_rfl) (fun _ _ _ h => h) (by assumption) ?_
                  simp only [Act.put, sS0, sS1, sS2]; refine wpAnyH_onew 26 rfl (by kernel_rfl) (by rfl) (fun K hK => ?_); go_simp; go_at_call 58
                  (with_reducible refine (HM2.out _ (HQ.out _ HW7.out).bl).mono ?_)
                  rintro e w8 ⟨rfl, hb⟩; have HW8 : Sl (Below wr.heap.size wr w8) := ⟨HW7.out.trans (hb.mono HW7.out.size)⟩; have hw8 := HW8.out; clear hb; refine hK.out _ _ HW8.out (fun hHeld => ?_); clear hK K
                  (try simp only [Act.put, sS0, sS1, sS2])
                  refine wpAnyH_pure 27 (v := .bool b2) rfl (by kernel_rfl) (by kernel_rfl) (by kernel_rfl) (fun _ _ _ h => h) rfl (fun _ => by go_simp) (by assumption) ?_; simp only [Act.put, sS0, sS1, sS2]; refine wpAnyH_done (by kernel_rfl) ?_ _; clear hHeld; have HDe : Sl (Lg w w8 [(gtb, 30, #[.slice T n c]), (gs, 27, #[.slice o.A1 o.n1 o.c1, .slice o.A2 o.n2 o.c2, .slice o.A3 o.n3 o.c3, .slice o.A4 o.n4 o.c4])]) := ⟨HQ.out w8 HW8.out⟩; have HBe : Sl (Below w6.heap.size w6 w8) := ⟨HB6.out.trans (HW8.out.mono HB6.out.size)⟩; clear HD HDd HBd HQ HW7 hw7 HW8 hw8 HX2 HY01 HM1 HM2
                  cases b2 with
                  | true =>
                    have HV : Sl (r = 8) := ⟨by
                      have h1 : rtK o L k = 8 := (by rw [HTK.out, if_pos (twS_mono (by rw [HTS.out]; rfl) (show j + 1 ≤ k from HJK.out))])
                      rw [HST.out, h1]; rfl⟩
                    go_wp2_with fail; go_ret; exact ⟨by first | (rw [HV.out]; rfl) | rw [HV.out], HDe.out.bl⟩
                  | false =>
                    go_wp2_with fail; exact ⟨⟨j + 1, HJK.out, by go_num, HDe, HBe, HTS⟩, by have := HJK.out; simp [RowKit.intOf]; omega⟩
              · obtain rfl : k = j := (by omega); have hjI : decide ((k : Int) < (k : Int)) = false := (by simp); clear hjk hj
                have HR0 : Sl (fstE (rtK o L) (n - (k + 1)) (k + 1) = r) := ⟨by
                  have h1 : rtK o L k = 0 := (by rw [HTK.out, HW.out]; rfl)
                  rw [HST.out, h1]; rfl⟩
                go_wp2_with fail; exact ⟨⟨k + 1, HKN.out, by go_num, HD, HJ2, HR0⟩, by have := HKN.out; simp [RowKit.intOf]; omega⟩
          · have he0b : (e1 == 0) = false := (by simp [he0]); have he0n : (e1 != 0) = true := (by simp [he0])
            have HV : Sl (r = e1) := ⟨by
              have h1 : rtK o L k = e1 := (by rw [HTK.out, if_neg he0])
              rw [HST.out, h1, if_neg he0]⟩
            go_wp2_with fail; go_ret; exact ⟨by first | (rw [HV.out]; rfl) | rw [HV.out], HD6.out.bl⟩
        · obtain rfl : n = k := (by omega); have hkI : decide ((n : Int) < (n : Int)) = false := (by simp); have hn60 : (n : Int) ≤ 60 := (by have := HN60.out; omega); have HV : Sl (r = 0) := ⟨by rw [← HK.out, Nat.sub_self]; rfl⟩; clear hkn hk; go_wp2_with fail; go_ret; exact ⟨by first | (rw [HV.out]; rfl) | rw [HV.out], HD.out.bl⟩
  · have hs0n : (s != 0) = true := (by simp [hs0]); rw [if_neg hs0] at HE; go_wp2_with fail; go_ret; exact ⟨by first | (rw [HE.out]; rfl) | rw [HE.out], HD.out.bl⟩
end Go.Proofs.YtbaojmfkjpnfhaaGreatDoor
namespace Go.Proofs.YtbaojmfkjpnfhaaGreatDoor
set_option linter.unusedSimpArgs false
open Go.RowKit
set_option linter.unusedVariables false
theorem ne_int_cre : 3 ≠ 30 := by decide
theorem ne_int_spec : 3 ≠ 27 := by decide
theorem any_take {α : Type} {L : List α} {g : α → Bool} {k : Nat} {s : α} (h : L[k]? = some s) : (L.take (k + 1)).any g = ((L.take k).any g || g s) := by
  rw [List.take_add_one, h, List.any_append]; simp
def AddR (o : SpO) (L : List RgV) (p : Nat) (r : RgV) (e : Ending) (w' : World) : Prop :=
  ∃ A n c B m d, e = .returned (.agg #[.slice A n c, .slice B m d]) ∧ RgM w' ⟨A, n, c, addL o.n3 L p r RgV.l o.n3, B, m, d, addL o.n4 L p r RgV.k o.n4⟩
set_option maxHeartbeats 6400000 in
set_option maxRecDepth 100000 in
theorem added_any (o : SpO) (T : Option Addr) (n c : Nat) (L : List RgV) (p : Nat) (r : RgV) (w : World) (hM : SpM w o) (hT : TbM w T n c L) (hr : RgM w r) (hp : p ≤ n) (hn : n ≤ 60) (h3 : o.n3 ≤ 1000) (h4 : o.n4 ≤ 1000) :
    Calls Tryz.prog 51 #[.agg #[.slice o.A1 o.n1 o.c1, .slice o.A2 o.n2 o.c2, .slice o.A3 o.n3 o.c3, .slice o.A4 o.n4 o.c4], .agg #[.slice T n c], .int .i64 (p : Int), .agg #[.slice r.A r.n r.c, .slice r.B r.m r.d]] w fun e w' => AddR o L p r e w' ∧ Below w.heap.size w w' := by
  have HT : Sl _ := ⟨hT⟩; have HR : Sl _ := ⟨hr⟩; have HD : Sl (Lg w w []) := ⟨Lg.nil w⟩; have HPN : Sl (p ≤ n ∧ n ≤ 60 ∧ o.n3 ≤ 1000 ∧ o.n4 ≤ 1000) := ⟨⟨hp, hn, h3, h4⟩⟩; have HRC : Sl (r.n ≤ maxLen ∧ r.m ≤ maxLen) := ⟨by have := hr.sc; have := hr.cc; omega⟩; have HLC : Sl (∀ x ∈ L, x.n ≤ maxLen ∧ x.m ≤ maxLen) := ⟨fun x hx => by have := (hT.all x hx).sc; have := (hT.all x hx).cc; omega⟩; clear hM hT hr hp hn h3 h4; go_enter Tryz.func51, Tryz.ntmps51
  go_upto_region 1 with ((with_reducible show wpList _ _ _ _ _ _); first
    | (refine wpList_box_new 4 rfl rfl 27 (.tmp 0) rfl #[.slice o.A1 o.n1 o.c1, .slice o.A2 o.n2 o.c2, .slice o.A3 o.n3 o.c3, .slice o.A4 o.n4 o.c4] rfl (fun _ => by kernel_rfl) ?_; rintro w1 g4 zg zm zs zb; replace HD : Sl _ := ⟨HD.out.new zg zm zb⟩; clear zg zm zs zb)
    | (refine wpList_box_new 5 rfl rfl 30 (.tmp 1) rfl #[.slice T n c] rfl (fun _ => by kernel_rfl) ?_; rintro w2 g5 zg zm zs zb; replace HD : Sl _ := ⟨HD.out.new zg zm zb⟩; clear zg zm zs zb)
    | (refine wpList_box_new 7 rfl rfl 33 (.tmp 3) rfl #[.slice r.A r.n r.c, .slice r.B r.m r.d] rfl (fun _ => by kernel_rfl) ?_; rintro w3 g7 zg zm zs zb; replace HD : Sl _ := ⟨HD.out.new zg zm zb⟩; clear zg zm zs zb)
    | (refine wpList_alloc_new 8 rfl rfl 33 rfl #[.slice none 0 0, .slice none 0 0] alloc_reg ?_; rintro w4 g8 zg zm zs zb; replace HD : Sl _ := ⟨HD.out.new zg zm zb⟩; clear zg zm zs zb))
  go_upto_region 2 with ((with_reducible show wpList _ _ _ _ _ _); first
    | (refine wpList_alloc_new 9 rfl rfl 33 rfl #[.slice none 0 0, .slice none 0 0] alloc_reg ?_; rintro w5 g9 zg zm zs zb; replace HD : Sl _ := ⟨HD.out.new zg zm zb⟩; clear zg zm zs zb))
  have HRO : Sl (RgO w5 w.heap.size ⟨none, 0, 0, [], none, 0, 0, []⟩) := ⟨⟨OI.nil _ _, OI.nil _ _, fun g h => by cases h⟩⟩; go_wp2_with fail
  go_loopw [10] (fun s wv => ∃ (i : Nat) (A : Option Addr) (na ca : Nat), i ≤ o.n3 ∧ s = .int .i64 (i : Int) ∧ na ≤ i ∧ Sl (Lg w wv [(g9, 33, #[.slice A na ca, .slice none 0 0]), (g8, 33, #[.slice none 0 0, .slice none 0 0]), (g7, 33, #[.slice r.A r.n r.c, .slice r.B r.m r.d]), (g5, 30, #[.slice T n c]), (g4, 27, #[.slice o.A1 o.n1 o.c1, .slice o.A2 o.n2 o.c2, .slice o.A3 o.n3 o.c3, .slice o.A4 o.n4 o.c4])]) ∧ Sl (RgO wv w.heap.size ⟨A, na, ca, addL o.n3 L p r RgV.l i, none, 0, 0, []⟩)) (fun s _ => o.n3 - (RowKit.intOf s).toNat)
  case atStart => exact ⟨0, none, 0, 0, Nat.zero_le _, rfl, Nat.le_refl _, HD, HRO⟩
  case round =>
    clear HD HRO; obtain ⟨i, A, na, ca, hi, rfl, hna, HD, HRO⟩ := hrel; have c4 : wr.cell? ⟨g4, 2, none⟩ = some (.slice o.A3 o.n3 o.c3) := (HD.out.at_ 4 rfl).cell 2; have hI1 : (o.n3 : Int) ≤ 1000 := (by have := HPN.out; omega)
    by_cases hin : i < o.n3
    · have hiI : decide ((i : Int) < (o.n3 : Int)) = true := decide_eq_true (by omega); have hiI2 : (i : Int) < (o.n3 : Int) := (by omega); have HIN : Sl (i < o.n3 ∧ na ≤ i) := ⟨hin, hna⟩; have c7 : wr.cell? ⟨g7, 0, none⟩ = some (.slice r.A r.n r.c) := (HD.out.at_ 2 rfl).cell 0; obtain ⟨X2, hX2⟩ : ∃ X2, addL o.n3 L p r RgV.l i = X2 := ⟨_, rfl⟩; have HAS : Sl (addL o.n3 L p r RgV.l (i + 1) = X2 ++ (if (decide ((i : Int) ∈ RgV.l r) || (L.take p).any fun s => decide ((i : Int) ∈ RgV.l s)) = true then [(i : Int)] else [])) := ⟨by rw [← hX2]; rfl⟩; rw [hX2] at HRO; clear hX2 hin hi hna; go_wp2_with fail; refine (in22_any _ _ _ _ (i : Int) _ (HR.out.below HD.out.bl).s HRC.out.1).mono ?_; rintro e w6 ⟨rfl, hb⟩; replace HD : Sl _ := ⟨HD.out.below hb⟩; replace HRO : Sl _ := ⟨HRO.out.below hb⟩; clear hb c4 c7; obtain ⟨b0, hb0⟩ : ∃ b0, decide ((i : Int) ∈ RgV.l r) = b0 := ⟨_, rfl⟩; rw [hb0] at HAS; rw [show decide ((i : Int) ∈ r.l) = b0 from hb0]; clear hb0; go_wp2_with fail
      go_loopw [11, 12] (fun sb sk wv => ∃ (b : Bool) (k : Nat), k ≤ p ∧ sb = .bool b ∧ sk = .int .i64 (k : Int) ∧ Sl (b = (b0 || (L.take k).any fun s => decide ((i : Int) ∈ RgV.l s))) ∧ Sl (Lg w wv [(g9, 33, #[.slice A na ca, .slice none 0 0]), (g8, 33, #[.slice none 0 0, .slice none 0 0]), (g7, 33, #[.slice r.A r.n r.c, .slice r.B r.m r.d]), (g5, 30, #[.slice T n c]), (g4, 27, #[.slice o.A1 o.n1 o.c1, .slice o.A2 o.n2 o.c2, .slice o.A3 o.n3 o.c3, .slice o.A4 o.n4 o.c4])]) ∧ Sl (RgO wv w.heap.size ⟨A, na, ca, X2, none, 0, 0, []⟩)) (fun _ sk _ => p - (RowKit.intOf sk).toNat)
      case atStart => exact ⟨b0, 0, Nat.zero_le _, rfl, rfl, ⟨by simp⟩, HD, HRO⟩
      case round =>
        clear HD HRO; obtain ⟨b, k, hk, rfl, rfl, HBV, HD, HRO⟩ := hrel; have hp60 : (p : Int) ≤ 60 := (by have := HPN.out; omega)
        by_cases hkp : k < p
        · have hkI : decide ((k : Int) < (p : Int)) = true := decide_eq_true (by omega); have hkI2 : (k : Int) < (p : Int) := (by omega); have hk0 : (0 : Int) ≤ (k : Int) := (by omega); have hkn : (k : Int) < (n : Int) := (by have := HPN.out; omega); have HKP : Sl (k < p) := ⟨hkp⟩; obtain ⟨gb, oo, x, hA, hgb, hx, x0, x1⟩ := (HT.out.below HD.out.bl).at_ (show k < n by have := HPN.out; omega); have HXX : Sl (L[k]? = some x) := ⟨hx⟩; have c5 : wr.cell? ⟨g5, 0, none⟩ = some (.slice (some ⟨gb, oo, none⟩) n c) := (by rw [← hA]; exact (HD.out.at_ 3 rfl).cell 0); clear hA hgb hx hkp hk x1
          cases b with
          | true =>
            have HB2 : Sl (true = (b0 || (L.take (k + 1)).any fun s => decide ((i : Int) ∈ RgV.l s))) := ⟨by rw [any_take HXX.out, ← Bool.or_assoc, ← HBV.out]; rfl⟩; go_wp2_with fail; exact ⟨⟨true, k + 1, HKP.out, rfl, by go_num, HB2, HD, HRO⟩, by have := HKP.out; simp [RowKit.intOf]; omega⟩
          | false =>
            go_wp2_with fail; refine (in22_any _ _ _ _ (i : Int) _ ((HT.out.all x (List.mem_of_getElem? HXX.out)).below HD.out.bl).s (HLC.out x (List.mem_of_getElem? HXX.out)).1).mono ?_; rintro e w7 ⟨rfl, hb⟩; replace HD : Sl _ := ⟨HD.out.below hb⟩; replace HRO : Sl _ := ⟨HRO.out.below hb⟩; clear hb c5 x0; have HB2 : Sl (decide ((i : Int) ∈ RgV.l x) = (b0 || (L.take (k + 1)).any fun s => decide ((i : Int) ∈ RgV.l s))) := ⟨by rw [any_take HXX.out, ← Bool.or_assoc, ← HBV.out]; rfl⟩; obtain ⟨b1, hb1⟩ : ∃ b1, decide ((i : Int) ∈ RgV.l x) = b1 := ⟨_, rfl⟩; rw [hb1] at HB2; rw [show decide ((i : Int) ∈ x.l) = b1 from hb1]; clear hb1; go_wp2_with fail; exact ⟨⟨b1, k + 1, HKP.out, rfl, by go_num, HB2, HD, HRO⟩, by have := HKP.out; simp [RowKit.intOf]; omega⟩
        · obtain rfl : p = k := (by omega); have hkI : decide ((p : Int) < (p : Int)) = false := (by simp); rw [← HBV.out] at HAS; clear hkp hk HBV
          cases b with
          | false =>
            have HAE : Sl (addL o.n3 L p r RgV.l (i + 1) = X2) := ⟨by rw [HAS.out, if_neg (by decide), List.append_nil]⟩; clear HAS; go_wp2_with fail; exact ⟨⟨i + 1, A, na, ca, HIN.out.1, by go_num, Nat.le_succ_of_le HIN.out.2, HD, by rw [HAE.out]; exact HRO⟩, by have := HIN.out; simp [RowKit.intOf]; omega⟩
          | true =>
            have HAE : Sl (addL o.n3 L p r RgV.l (i + 1) = X2 ++ [(i : Int)]) := ⟨by rw [HAS.out, if_pos rfl]⟩; clear HAS; have c9 : wr.cell? ⟨g9, 0, none⟩ = some (.slice A na ca) := (HD.out.at_ 0 rfl).cell 0
            go_wp2_with ((with_reducible show wpList _ _ _ _ _ _); first
              | (at_builtin; go_loud (refine wpList_append_oi rfl (.tmp 45) (.tmp 47) rfl w.heap.size A na ca X2 rfl (HRO.out.s.alloc _) (some ⟨wr.heap.size, 0, none⟩) 1 1 [(i : Int)] rfl (II.made _ _ _) (by have := HIN.out; have := HPN.out; omega) (Nat.le_trans HD.out.bl.size (by simp)) ?_); rintro A2 c2 w7 zo zg zt; replace HD : Sl _ := ⟨(HD.out.below ((Below.refl _ _).alloc (Nat.le_refl _) _)).app (HRO.out.s.alloc _) zg (by intro q hq; simp only [List.mem_cons, List.not_mem_nil, or_false] at hq; rcases hq with rfl | rfl | rfl | rfl | rfl <;> first | exact ne_int_reg | exact ne_int_cre | exact ne_int_spec)⟩; replace HRO : Sl (RgO w7 w.heap.size ⟨A2, na + 1, c2, X2 ++ [(i : Int)], none, 0, 0, []⟩) := ⟨(HRO.out.below ((Below.refl _ _).alloc (Nat.le_refl _) _)).app1 zo zg zt⟩; clear zo zg zt c9)
              | (refine wpList_store_cell rfl 31 (.tmp 49) (.tmp 48) rfl g9 0 (.slice A2 (na + 1) c2) rfl rfl 33 _ _ (HD.out.at_ 0 rfl) (by simp) rfl (by kernel_rfl) rfl rfl ?_; rintro w8 zm zs zb zw; replace HRO : Sl _ := ⟨HRO.out.mv (HD.out.at_ 0 rfl) (by decide) zm⟩; replace HD : Sl (Lg w w8 [(g9, 33, #[.slice A2 (na + 1) c2, .slice none 0 0]), (g8, 33, #[.slice none 0 0, .slice none 0 0]), (g7, 33, #[.slice r.A r.n r.c, .slice r.B r.m r.d]), (g5, 30, #[.slice T n c]), (g4, 27, #[.slice o.A1 o.n1 o.c1, .slice o.A2 o.n2 o.c2, .slice o.A3 o.n3 o.c3, .slice o.A4 o.n4 o.c4])]) := ⟨HD.out.set 0 rfl zm zb⟩; clear zm zs zb zw))
            exact ⟨⟨i + 1, A2, na + 1, c2, HIN.out.1, by go_num, Nat.succ_le_succ HIN.out.2, HD, by rw [HAE.out]; exact HRO⟩, by have := HIN.out; simp [RowKit.intOf]; omega⟩
    · obtain rfl : i = o.n3 := (by omega); have hiI : decide ((o.n3 : Int) < (o.n3 : Int)) = false := (by simp); obtain ⟨X, hX⟩ : ∃ X, addL o.n3 L p r RgV.l o.n3 = X := ⟨_, rfl⟩; rw [hX] at HRO; have HX : Sl _ := ⟨hX⟩; clear hX hin hi hna; go_wp2_with fail; clear c4 hI1 hiI
      go_loopw [13] (fun s wv => ∃ (i : Nat) (B : Option Addr) (mb db : Nat), i ≤ o.n4 ∧ s = .int .i64 (i : Int) ∧ mb ≤ i ∧ Sl (Lg w wv [(g9, 33, #[.slice A na ca, .slice B mb db]), (g8, 33, #[.slice none 0 0, .slice none 0 0]), (g7, 33, #[.slice r.A r.n r.c, .slice r.B r.m r.d]), (g5, 30, #[.slice T n c]), (g4, 27, #[.slice o.A1 o.n1 o.c1, .slice o.A2 o.n2 o.c2, .slice o.A3 o.n3 o.c3, .slice o.A4 o.n4 o.c4])]) ∧ Sl (RgO wv w.heap.size ⟨A, na, ca, X, B, mb, db, addL o.n4 L p r RgV.k i⟩)) (fun s _ => o.n4 - (RowKit.intOf s).toNat)
      case atStart => exact ⟨0, none, 0, 0, Nat.zero_le _, rfl, Nat.le_refl _, HD, HRO⟩
      case round =>
        clear HD HRO; obtain ⟨i, B, mb, db, hi, rfl, hna, HD, HRO⟩ := hrel; have c4 : wr.cell? ⟨g4, 3, none⟩ = some (.slice o.A4 o.n4 o.c4) := (HD.out.at_ 4 rfl).cell 3; have hI1 : (o.n4 : Int) ≤ 1000 := (by have := HPN.out; omega)
        by_cases hin : i < o.n4
        · have hiI : decide ((i : Int) < (o.n4 : Int)) = true := decide_eq_true (by omega); have hiI2 : (i : Int) < (o.n4 : Int) := (by omega); have HIN : Sl (i < o.n4 ∧ mb ≤ i) := ⟨hin, hna⟩; have c7 : wr.cell? ⟨g7, 1, none⟩ = some (.slice r.B r.m r.d) := (HD.out.at_ 2 rfl).cell 1; obtain ⟨X2, hX2⟩ : ∃ X2, addL o.n4 L p r RgV.k i = X2 := ⟨_, rfl⟩; have HAS : Sl (addL o.n4 L p r RgV.k (i + 1) = X2 ++ (if (decide ((i : Int) ∈ RgV.k r) || (L.take p).any fun s => decide ((i : Int) ∈ RgV.k s)) = true then [(i : Int)] else [])) := ⟨by rw [← hX2]; rfl⟩; rw [hX2] at HRO; clear hX2 hin hi hna; go_wp2_with fail; refine (in22_any _ _ _ _ (i : Int) _ (HR.out.below HD.out.bl).c HRC.out.2).mono ?_; rintro e w6 ⟨rfl, hb⟩; replace HD : Sl _ := ⟨HD.out.below hb⟩; replace HRO : Sl _ := ⟨HRO.out.below hb⟩; clear hb c4 c7; obtain ⟨b0, hb0⟩ : ∃ b0, decide ((i : Int) ∈ RgV.k r) = b0 := ⟨_, rfl⟩; rw [hb0] at HAS; rw [show decide ((i : Int) ∈ r.k) = b0 from hb0]; clear hb0; go_wp2_with fail
          go_loopw [14, 15] (fun sb sk wv => ∃ (b : Bool) (k : Nat), k ≤ p ∧ sb = .bool b ∧ sk = .int .i64 (k : Int) ∧ Sl (b = (b0 || (L.take k).any fun s => decide ((i : Int) ∈ RgV.k s))) ∧ Sl (Lg w wv [(g9, 33, #[.slice A na ca, .slice B mb db]), (g8, 33, #[.slice none 0 0, .slice none 0 0]), (g7, 33, #[.slice r.A r.n r.c, .slice r.B r.m r.d]), (g5, 30, #[.slice T n c]), (g4, 27, #[.slice o.A1 o.n1 o.c1, .slice o.A2 o.n2 o.c2, .slice o.A3 o.n3 o.c3, .slice o.A4 o.n4 o.c4])]) ∧ Sl (RgO wv w.heap.size ⟨A, na, ca, X, B, mb, db, X2⟩)) (fun _ sk _ => p - (RowKit.intOf sk).toNat)
          case atStart => exact ⟨b0, 0, Nat.zero_le _, rfl, rfl, ⟨by simp⟩, HD, HRO⟩
          case round =>
            clear HD HRO; obtain ⟨b, k, hk, rfl, rfl, HBV, HD, HRO⟩ := hrel; have hp60 : (p : Int) ≤ 60 := (by have := HPN.out; omega)
            by_cases hkp : k < p
            · have hkI : decide ((k : Int) < (p : Int)) = true := decide_eq_true (by omega); have hkI2 : (k : Int) < (p : Int) := (by omega); have hk0 : (0 : Int) ≤ (k : Int) := (by omega); have hkn : (k : Int) < (n : Int) := (by have := HPN.out; omega); have HKP : Sl (k < p) := ⟨hkp⟩; obtain ⟨gb, oo, x, hA, hgb, hx, x0, x1⟩ := (HT.out.below HD.out.bl).at_ (show k < n by have := HPN.out; omega); have HXX : Sl (L[k]? = some x) := ⟨hx⟩; have c5 : wr.cell? ⟨g5, 0, none⟩ = some (.slice (some ⟨gb, oo, none⟩) n c) := (by rw [← hA]; exact (HD.out.at_ 3 rfl).cell 0); clear hA hgb hx hkp hk x0
              cases b with
              | true =>
                have HB2 : Sl (true = (b0 || (L.take (k + 1)).any fun s => decide ((i : Int) ∈ RgV.k s))) := ⟨by rw [any_take HXX.out, ← Bool.or_assoc, ← HBV.out]; rfl⟩; go_wp2_with fail; exact ⟨⟨true, k + 1, HKP.out, rfl, by go_num, HB2, HD, HRO⟩, by have := HKP.out; simp [RowKit.intOf]; omega⟩
              | false =>
                go_wp2_with fail; refine (in22_any _ _ _ _ (i : Int) _ ((HT.out.all x (List.mem_of_getElem? HXX.out)).below HD.out.bl).c (HLC.out x (List.mem_of_getElem? HXX.out)).2).mono ?_; rintro e w7 ⟨rfl, hb⟩; replace HD : Sl _ := ⟨HD.out.below hb⟩; replace HRO : Sl _ := ⟨HRO.out.below hb⟩; clear hb c5 x1; have HB2 : Sl (decide ((i : Int) ∈ RgV.k x) = (b0 || (L.take (k + 1)).any fun s => decide ((i : Int) ∈ RgV.k s))) := ⟨by rw [any_take HXX.out, ← Bool.or_assoc, ← HBV.out]; rfl⟩; obtain ⟨b1, hb1⟩ : ∃ b1, decide ((i : Int) ∈ RgV.k x) = b1 := ⟨_, rfl⟩; rw [hb1] at HB2; rw [show decide ((i : Int) ∈ x.k) = b1 from hb1]; clear hb1; go_wp2_with fail; exact ⟨⟨b1, k + 1, HKP.out, rfl, by go_num, HB2, HD, HRO⟩, by have := HKP.out; simp [RowKit.intOf]; omega⟩
            · obtain rfl : p = k := (by omega); have hkI : decide ((p : Int) < (p : Int)) = false := (by simp); rw [← HBV.out] at HAS; clear hkp hk HBV
              cases b with
              | false =>
                have HAE : Sl (addL o.n4 L p r RgV.k (i + 1) = X2) := ⟨by rw [HAS.out, if_neg (by decide), List.append_nil]⟩; clear HAS; go_wp2_with fail; exact ⟨⟨i + 1, B, mb, db, HIN.out.1, by go_num, Nat.le_succ_of_le HIN.out.2, HD, by rw [HAE.out]; exact HRO⟩, by have := HIN.out; simp [RowKit.intOf]; omega⟩
              | true =>
                have HAE : Sl (addL o.n4 L p r RgV.k (i + 1) = X2 ++ [(i : Int)]) := ⟨by rw [HAS.out, if_pos rfl]⟩; clear HAS; have c9 : wr.cell? ⟨g9, 1, none⟩ = some (.slice B mb db) := (HD.out.at_ 0 rfl).cell 1
                go_wp2_with ((with_reducible show wpList _ _ _ _ _ _); first
                  | (at_builtin; go_loud (refine wpList_append_oi rfl (.tmp 79) (.tmp 81) rfl w.heap.size B mb db X2 rfl (HRO.out.c.alloc _) (some ⟨wr.heap.size, 0, none⟩) 1 1 [(i : Int)] rfl (II.made _ _ _) (by have := HIN.out; have := HPN.out; omega) (Nat.le_trans HD.out.bl.size (by simp)) ?_); rintro A2 c2 w7 zo zg zt; replace HD : Sl _ := ⟨(HD.out.below ((Below.refl _ _).alloc (Nat.le_refl _) _)).app (HRO.out.c.alloc _) zg (by intro q hq; simp only [List.mem_cons, List.not_mem_nil, or_false] at hq; rcases hq with rfl | rfl | rfl | rfl | rfl <;> first | exact ne_int_reg | exact ne_int_cre | exact ne_int_spec)⟩; replace HRO : Sl (RgO w7 w.heap.size ⟨A, na, ca, X, A2, mb + 1, c2, X2 ++ [(i : Int)]⟩) := ⟨(HRO.out.below ((Below.refl _ _).alloc (Nat.le_refl _) _)).app2 zo zg zt⟩; clear zo zg zt c9)
                  | (refine wpList_store_cell rfl 31 (.tmp 83) (.tmp 82) rfl g9 1 (.slice A2 (mb + 1) c2) rfl rfl 33 _ _ (HD.out.at_ 0 rfl) (by simp) rfl (by kernel_rfl) rfl rfl ?_; rintro w8 zm zs zb zw; replace HRO : Sl _ := ⟨HRO.out.mv (HD.out.at_ 0 rfl) (by decide) zm⟩; replace HD : Sl (Lg w w8 [(g9, 33, #[.slice A na ca, .slice A2 (mb + 1) c2]), (g8, 33, #[.slice none 0 0, .slice none 0 0]), (g7, 33, #[.slice r.A r.n r.c, .slice r.B r.m r.d]), (g5, 30, #[.slice T n c]), (g4, 27, #[.slice o.A1 o.n1 o.c1, .slice o.A2 o.n2 o.c2, .slice o.A3 o.n3 o.c3, .slice o.A4 o.n4 o.c4])]) := ⟨HD.out.set 0 rfl zm zb⟩; clear zm zs zb zw))
                exact ⟨⟨i + 1, A2, mb + 1, c2, HIN.out.1, by go_num, Nat.succ_le_succ HIN.out.2, HD, by rw [HAE.out]; exact HRO⟩, by have := HIN.out; simp [RowKit.intOf]; omega⟩
        · obtain rfl : i = o.n4 := (by omega); have hiI : decide ((o.n4 : Int) < (o.n4 : Int)) = false := (by simp); obtain ⟨Y, hY⟩ : ∃ Y, addL o.n4 L p r RgV.k o.n4 = Y := ⟨_, rfl⟩; rw [hY] at HRO; have HY : Sl _ := ⟨hY⟩; clear hY hin hi hna; have c90 : wr.cell? ⟨g9, 0, none⟩ = some (.slice A na ca) := (HD.out.at_ 0 rfl).cell 0; have c91 : wr.cell? ⟨g9, 1, none⟩ = some (.slice B mb db) := (HD.out.at_ 0 rfl).cell 1
          go_wp2_with ((with_reducible show wpList _ _ _ _ _ _); first
            | (refine wpList_store_whole rfl 33 (.tmp 8) (.tmp 84) rfl g8 #[.slice A na ca, .slice B mb db] rfl rfl 33 _ (HD.out.at_ 1 rfl) rfl (by kernel_rfl) (by simp [Value.oneCell']) ?_; rintro w9 zm zs zb; replace HRO : Sl _ := ⟨HRO.out.mv (HD.out.at_ 1 rfl) (by decide) zm⟩; replace HD : Sl (Lg w w9 [(g9, 33, #[.slice A na ca, .slice B mb db]), (g8, 33, #[.slice A na ca, .slice B mb db]), (g7, 33, #[.slice r.A r.n r.c, .slice r.B r.m r.d]), (g5, 30, #[.slice T n c]), (g4, 27, #[.slice o.A1 o.n1 o.c1, .slice o.A2 o.n2 o.c2, .slice o.A3 o.n3 o.c3, .slice o.A4 o.n4 o.c4])]) := ⟨HD.out.set 1 rfl zm zb⟩; clear zm zs zb))
          refine bodyPost_ret (results_row1c rfl _ _ g8 _ _ _ rfl (HD.out.at_ 1 rfl) Tryz.underlying33 rfl (by kernel_rfl)) rfl ?_; exact ⟨⟨A, na, ca, B, mb, db, rfl, by rw [HX.out, HY.out]; exact HRO.out.rg⟩, HD.out.bl⟩
end Go.Proofs.YtbaojmfkjpnfhaaGreatDoor
namespace Go.Proofs.YtbaojmfkjpnfhaaGreatDoor
set_option linter.unusedSimpArgs false
open Go.RowKit
set_option linter.unusedVariables false
theorem Lg.two {b w : World} {l : List (Nat × TypeId × Array Value)} (h : Lg b w l) (i j : Nat) {p q : Nat × TypeId × Array Value} (hp : l[i]? = some p) (hq : l[j]? = some q) (hij : i ≠ j) : Lg b w [p, q] := by
  have h1 := List.mem_of_getElem? hp; have h2 := List.mem_of_getElem? hq; refine ⟨⟨h.bl, fun r hr => ?_, fun r hr => ?_⟩, ?_⟩
  · simp only [List.mem_cons, List.not_mem_nil, or_false] at hr; rcases hr with rfl | rfl
    · exact h.ld.all _ h1
    · exact h.ld.all _ h2
  · simp only [List.mem_cons, List.not_mem_nil, or_false] at hr; rcases hr with rfl | rfl
    · exact h.ld.ge _ h1
    · exact h.ld.ge _ h2
  · have hne : p.1 ≠ q.1 := fun e => hij ((List.getElem?_inj (l := l.map Prod.fst) (by rw [List.length_map]; exact (List.getElem?_eq_some_iff.1 hp).1) h.nd).1 (by rw [List.getElem?_map, List.getElem?_map, hp, hq]; exact congrArg some e))
    simp [hne]
theorem two_rows (w : World) (t u : TypeId) (cs ds : Array Value) : Blk ((w.alloc (.cells cs t)).alloc (.cells ds u)) w.heap.size t cs ∧ Blk ((w.alloc (.cells cs t)).alloc (.cells ds u)) (w.heap.size + 1) u ds ∧ Below w.heap.size w ((w.alloc (.cells cs t)).alloc (.cells ds u)) := by
  have b1 : Below w.heap.size w (w.alloc (.cells cs t)) := (Below.refl _ _).alloc (Nat.le_refl _) _; have b2 : Below (w.alloc (.cells cs t)).heap.size (w.alloc (.cells cs t)) ((w.alloc (.cells cs t)).alloc (.cells ds u)) := (Below.refl _ _).alloc (Nat.le_refl _) _; have h2 := Blk.new (w.alloc (.cells cs t)) u ds; have e : (w.alloc (.cells cs t)).heap.size = w.heap.size + 1 := (by simp); rw [e] at h2; have h1 := Blk.new w t cs; exact ⟨h1.below b2 h1.lt, h2, b1.trans (b2.mono b1.size)⟩
theorem three_rows (w : World) (t u v : TypeId) (cs ds es : Array Value) : Blk (((w.alloc (.cells cs t)).alloc (.cells ds u)).alloc (.cells es v)) w.heap.size t cs ∧ Blk (((w.alloc (.cells cs t)).alloc (.cells ds u)).alloc (.cells es v)) (w.heap.size + 1) u ds ∧ Blk (((w.alloc (.cells cs t)).alloc (.cells ds u)).alloc (.cells es v)) (w.heap.size + 2) v es ∧ Below w.heap.size w (((w.alloc (.cells cs t)).alloc (.cells ds u)).alloc (.cells es v)) := by
  obtain ⟨h1, h2, h3⟩ := two_rows w t u cs ds; have b2 : Below ((w.alloc (.cells cs t)).alloc (.cells ds u)).heap.size ((w.alloc (.cells cs t)).alloc (.cells ds u)) (((w.alloc (.cells cs t)).alloc (.cells ds u)).alloc (.cells es v)) := (Below.refl _ _).alloc (Nat.le_refl _) _; have h4 := Blk.new ((w.alloc (.cells cs t)).alloc (.cells ds u)) v es; have e : ((w.alloc (.cells cs t)).alloc (.cells ds u)).heap.size = w.heap.size + 2 := (by simp); rw [e] at h4; exact ⟨h1.below b2 h1.lt, h2.below b2 h2.lt, h4, h3.trans (b2.mono h3.size)⟩
theorem II.mvR {w w' : World} {A : Option Addr} {n g : Nat} {l : List Int} {t : TypeId} {cs : Array Value} (h : II w A n l) (hB : Blk w g t cs) (hc : ∀ (j : Nat) (z : Int), cs[j]? ≠ some (.int .i64 z)) (hm : Mv g w w') : II w' A n l := by
  refine ⟨h.1, h.2.1, fun hn => ?_⟩; obtain ⟨ad, e, h1, h2⟩ := h.2.2 hn
  have hne : ad.block ≠ g := fun hg => by
    have hl : 0 < l.length := (by rw [h.1]; exact hn); have h3 := h2 0 (iv l[0]) (by rw [List.getElem?_map, List.getElem?_eq_getElem hl]; rfl); unfold World.cell? at h3; rw [block_of_add, hg, show w.heap[g]? = some (.cells cs t (0, 0)) from hB] at h3; simp only [] at h3
    split at h3
    · cases h3
    · exact hc _ _ h3
  refine ⟨ad, e, Nat.lt_of_lt_of_le h1 hm.size, fun j u hu => ?_⟩; rw [← h2 j u hu]; exact World.cell?_of_block (by rw [block_of_add]; exact hm.block _ h1 hne)
theorem RgM.mvR {w w' : World} {g : Nat} {r : RgV} {t : TypeId} (h : RgM w r) (hB : Blk w g t #[.slice none 0 0, .slice none 0 0]) (hm : Mv g w w') : RgM w' r := by
  have hc : ∀ (j : Nat) (z : Int), (#[.slice none 0 0, .slice none 0 0] : Array Value)[j]? ≠ some (.int .i64 z) := by
    intro j z e; rcases j with _ | _ | j
    · cases e
    · cases e
    · cases e
  exact ⟨h.s.mvR hB hc hm, h.c.mvR hB hc hm, h.sc, h.cc⟩
set_option maxHeartbeats 12800000 in
set_option maxRecDepth 100000 in
theorem shown_any (w : World) : Calls Tryz.prog 14 #[] w fun e w' => e = .returned (.bool true) ∧ Below w.heap.size w w' := by
  go_enter Tryz.func14, Tryz.ntmps14; go_wp2_with fail; refine (example_any _).mono ?_; rintro e wE ⟨⟨A1, A2, A3, A4, P1, P2, P3, rfl, hm⟩, hb⟩; have HBE : Sl (Below w.heap.size w wE) := ⟨hb⟩; have HM : Sl _ := ⟨hm⟩; have HD : Sl (Lg wE wE []) := ⟨Lg.nil wE⟩; clear hm hb
  go_upto_region 2 with ((with_reducible show wpList _ _ _ _ _ _); first
    | (refine wpList_alloc_new 1 rfl rfl 27 rfl #[.slice none 0 0, .slice none 0 0, .slice none 0 0, .slice none 0 0] alloc_spec ?_; rintro w1 g1 zg zm zs zb; replace HD : Sl _ := ⟨HD.out.new zg zm zb⟩; clear zg zm zs zb)
    | (refine wpList_store_whole rfl 27 (.tmp 1) (.tmp 11) rfl g1 #[.slice A1 1 1, .slice A2 2 2, .slice A3 3 3, .slice A4 1 1] rfl rfl 27 _ (HD.out.at_ 0 rfl) rfl (by kernel_rfl) (by simp [Value.oneCell']) ?_; rintro w2 zm zs zb; replace HD : Sl _ := ⟨HD.out.upd zm zb⟩; clear zm zs zb))
  simp only [Act.put, sS0, sS1, sS2]
  go_cut [2, 3] from 13 to 19 (fun s2 s3 wx => ∃ (g2 : Nat) (A B : Option Addr) (n c m d : Nat), s2 = .pointer (some ⟨g2, 0, none⟩) ∧ s3 = .int .i64 0 ∧ Sl (Lg wE wx [(g2, 33, #[.slice A n c, .slice B m d]), (g1, 27, #[.slice A1 1 1, .slice A2 2 2, .slice A3 3 3, .slice A4 1 1])] ∧ RgM wx ⟨A, n, c, [0, 1, 2], B, m, d, [0]⟩))
  case first =>
    have hS0 : Below wE.heap.size wE w2.drew ∧ Blk w2.drew g1 27 #[.slice A1 1 1, .slice A2 2 2, .slice A3 3 3, .slice A4 1 1] := ⟨HD.out.bl.trans ((below_drewN (Below.refl _ _) 1).mono HD.out.bl.size), HD.out.at_ 0 rfl⟩; replace HD : Sl (Lg wE w2.drew [(g1, 27, #[.slice A1 1 1, .slice A2 2 2, .slice A3 3 3, .slice A4 1 1])]) := ⟨HD.out.below (below_drewN (Below.refl _ _) 1)⟩; have hm := hS0; refine wp_region_held_drew (S := fun w' => Below wE.heap.size wE w' ∧ Blk w' g1 27 #[.slice A1 1 1, .slice A2 2 2, .slice A3 3 3, .slice A4 1 1]) (by kernel_rfl) hm (fun hHeld => ?_); clear hm; refine wpAnyH_load 0 27 (.tmp 1) rfl rfl rfl g1 0 rfl #[.slice A1 1 1, .slice A2 2 2, .slice A3 3 3, .slice A4 1 1] _ (fun w' h => by have := World.rangeAt_of_block h.2 0 4; exact this) Tryz.underlying27 rfl (by kernel_rfl) (by kernel_rfl) (by kernel_rfl) (by kernel_rfl) (fun _ _ _ h => h) (by assumption) ?_; simp only [Act.put, sS0, sS1, sS2]; refine wpAnyH_threem 1 2 8 rfl rfl rfl (by kernel_rfl) rfl rfl rfl (fun K hK => ?_) (fun K hK => ?_) (fun K hK => ?_) 
    · skip; go_simp; go_at_call 31
      (with_reducible refine (table_any _).mono ?_)
      rintro e w10 ⟨⟨T, a, b, c, d, rfl, ht⟩, hb⟩; replace HD : Sl _ := ⟨HD.out.below hb⟩; have HT : Sl _ := ⟨ht⟩; clear hb ht; refine hK.out _ _ ⟨HD.out.bl, HD.out.at_ 0 rfl⟩ (fun hHeld => ?_); clear hK K
      (try simp only [Act.put, sS0, sS1, sS2])
      refine wpAnyH_twom 2 8 rfl rfl (by kernel_rfl) rfl rfl (fun K hK => ?_) (fun K hK => ?_) 
      · skip; refine wp_newblk (fun g => .slice (some ⟨g, 0, none⟩) 1 1) 3 #[.int .i64 1] (fun _ => by kernel_rfl) ?_; rintro w11 ga zg zm zw zb; replace HD : Sl _ := ⟨HD.out.new zg zm zb⟩; replace HT : Sl _ := ⟨HT.out.below zw⟩; clear zg zm zw zb; refine hK.out _ _ ⟨HD.out.bl, HD.out.at_ 1 rfl⟩ (fun hHeld => ?_); clear hK K
        (try simp only [Act.put, sS0, sS1, sS2])
        refine wpAnyH_pure 3 (v := .agg #[.slice (some ⟨ga, 0, none⟩) 1 1, .slice none 0 0]) rfl (by kernel_rfl) (by kernel_rfl) (by kernel_rfl) (fun _ _ _ h => h) rfl (fun _ => by go_simp) (by assumption) ?_; simp only [Act.put, sS0, sS1, sS2]; refine wpAnyH_twom 4 8 rfl rfl (by kernel_rfl) rfl rfl (fun K hK => ?_) (fun K hK => ?_) 
        · skip; go_simp; go_at_call 15
          (with_reducible refine (shAt A1 A2 A3 A4 P1 P2 P3 T a b c d ga _ (HM.out.below HD.out.bl) HT.out (HD.out.at_ 0 rfl)).mono ?_)
          rintro e w12 ⟨⟨A, n, c, B, m, d', rfl, hr⟩, hb⟩; replace HD : Sl _ := ⟨HD.out.below hb⟩; have HR : Sl _ := ⟨hr⟩; clear hb hr HT; refine hK.out _ _ ⟨HD.out.bl, HD.out.at_ 1 rfl⟩ (fun hHeld => ?_); clear hK K
          (try simp only [Act.put, sS0, sS1, sS2])
          refine wpAnyH_pure 5 (v := .tuple #[.agg #[.slice A n c, .slice B m d'], .int .i64 0]) rfl (by kernel_rfl) (by kernel_rfl) (by kernel_rfl) (fun _ _ _ h => h) rfl (fun _ => rfl) (by assumption) ?_; simp only [Act.put, sS0, sS1, sS2]; refine wpAnyH_pure 6 (v := .agg #[.slice A n c, .slice B m d']) rfl (by kernel_rfl) (by kernel_rfl) (by kernel_rfl) (fun _ _ _ h => h) rfl (fun _ => by go_simp) (by assumption) ?_; simp only [Act.put, sS0, sS1, sS2]; refine wpAnyH_pure 7 (v := .int .i64 0) rfl (by kernel_rfl) (by kernel_rfl) (by kernel_rfl) (fun _ _ _ h => h) rfl (fun _ => by go_simp) (by assumption) ?_; simp only [Act.put, sS0, sS1, sS2]; refine wpAnyH_one 8 rfl (by kernel_rfl) rfl (fun K hK => ?_); refine wp_newblk (fun g => .pointer (some ⟨g, 0, none⟩)) 33 #[.slice none 0 0, .slice none 0 0] (fun _ => by kernel_rfl) ?_; rintro w13 g2 zg zm zw zb; replace HD : Sl _ := ⟨HD.out.new zg zm zb⟩; replace HR : Sl _ := ⟨HR.out.below zw⟩; clear zg zm zw zb; refine hK.out _ _ ⟨HD.out.bl, HD.out.at_ 2 rfl⟩ (fun hHeld => ?_); clear hK K
          (try simp only [Act.put, sS0, sS1, sS2])
          refine wpAnyH_one 9 rfl (by kernel_rfl) rfl (fun K hK => ?_); refine wp_store_partm 33 (.tmp 2) (.tmp 18) rfl g2 0 #[.slice A n c, .slice B m d'] rfl rfl 33 _ #[.slice A n c, .slice B m d'] (HD.out.at_ 0 rfl) (by simp) (putA_all _ _ rfl) (by kernel_rfl) (by simp [Value.oneCell']) ?_; rintro w14 zm zs zb; replace HR : Sl _ := ⟨HR.out.mvR (HD.out.at_ 0 rfl) zm⟩; replace HD : Sl _ := ⟨HD.out.set 0 rfl zm zb⟩; clear zm zs zb; refine hK.out _ _ ⟨HD.out.bl, HD.out.at_ 2 rfl⟩ (fun hHeld => ?_); clear hK K
          (try simp only [Act.put, sS0, sS1, sS2])
          refine wpAnyH_pure 10 (v := .int .i64 0) rfl (by kernel_rfl) (by kernel_rfl) (by kernel_rfl) (fun _ _ _ h => h) rfl (fun _ => rfl) (by assumption) ?_; simp only [Act.put, sS0, sS1, sS2]; refine wpAnyH_done (by kernel_rfl) ?_ _
          (try go_wp2_with fail)
          go_meet
          exact ⟨g2, A, B, n, c, m, d', rfl, rfl, ⟨HD.out.two 0 2 rfl rfl (by decide), HR.out⟩⟩
        · skip; refine wp_newblk (fun g => .pointer (some ⟨g, 0, none⟩)) 33 #[.slice none 0 0, .slice none 0 0] (fun _ => by kernel_rfl) ?_; rintro w15 g2 zg zm zw zb; replace HD : Sl _ := ⟨HD.out.new zg zm zb⟩; replace HT : Sl _ := ⟨HT.out.below zw⟩; clear zg zm zw zb; refine hK.out _ _ ⟨HD.out.bl, HD.out.at_ 2 rfl⟩ (fun hHeld => ?_); clear hK K
          (try simp only [Act.put, sS0, sS1, sS2])
          refine wpAnyH_one 4 rfl (by kernel_rfl) rfl (fun K hK => ?_); go_simp; go_at_call 15
          (with_reducible refine (shAt A1 A2 A3 A4 P1 P2 P3 T a b c d ga _ (HM.out.below HD.out.bl) HT.out (HD.out.at_ 1 rfl)).mono ?_)
          rintro e w16 ⟨⟨A, n, c, B, m, d', rfl, hr⟩, hb⟩; replace HD : Sl _ := ⟨HD.out.below hb⟩; have HR : Sl _ := ⟨hr⟩; clear hb hr HT; refine hK.out _ _ ⟨HD.out.bl, HD.out.at_ 2 rfl⟩ (fun hHeld => ?_); clear hK K
          (try simp only [Act.put, sS0, sS1, sS2])
          refine wpAnyH_pure 5 (v := .tuple #[.agg #[.slice A n c, .slice B m d'], .int .i64 0]) rfl (by kernel_rfl) (by kernel_rfl) (by kernel_rfl) (fun _ _ _ h => h) rfl (fun _ => rfl) (by assumption) ?_; simp only [Act.put, sS0, sS1, sS2]; refine wpAnyH_pure 6 (v := .agg #[.slice A n c, .slice B m d']) rfl (by kernel_rfl) (by kernel_rfl) (by kernel_rfl) (fun _ _ _ h => h) rfl (fun _ => by go_simp) (by assumption) ?_; simp only [Act.put, sS0, sS1, sS2]; refine wpAnyH_pure 7 (v := .int .i64 0) rfl (by kernel_rfl) (by kernel_rfl) (by kernel_rfl) (fun _ _ _ h => h) rfl (fun _ => by go_simp) (by assumption) ?_; simp only [Act.put, sS0, sS1, sS2]; refine wpAnyH_one 9 rfl (by kernel_rfl) rfl (fun K hK => ?_); refine wp_store_partm 33 (.tmp 2) (.tmp 18) rfl g2 0 #[.slice A n c, .slice B m d'] rfl rfl 33 _ #[.slice A n c, .slice B m d'] (HD.out.at_ 0 rfl) (by simp) (putA_all _ _ rfl) (by kernel_rfl) (by simp [Value.oneCell']) ?_; rintro w17 zm zs zb; replace HR : Sl _ := ⟨HR.out.mvR (HD.out.at_ 0 rfl) zm⟩; replace HD : Sl _ := ⟨HD.out.set 0 rfl zm zb⟩; clear zm zs zb; refine hK.out _ _ ⟨HD.out.bl, HD.out.at_ 2 rfl⟩ (fun hHeld => ?_); clear hK K
          (try simp only [Act.put, sS0, sS1, sS2])
          refine wpAnyH_pure 10 (v := .int .i64 0) rfl (by kernel_rfl) (by kernel_rfl) (by kernel_rfl) (fun _ _ _ h => h) rfl (fun _ => rfl) (by assumption) ?_; simp only [Act.put, sS0, sS1, sS2]; refine wpAnyH_done (by kernel_rfl) ?_ _
          (try go_wp2_with fail)
          go_meet
          exact ⟨g2, A, B, n, c, m, d', rfl, rfl, ⟨HD.out.two 0 2 rfl rfl (by decide), HR.out⟩⟩
      · skip; refine wp_newblk (fun g => .pointer (some ⟨g, 0, none⟩)) 33 #[.slice none 0 0, .slice none 0 0] (fun _ => by kernel_rfl) ?_; rintro w18 g2 zg zm zw zb; replace HD : Sl _ := ⟨HD.out.new zg zm zb⟩; replace HT : Sl _ := ⟨HT.out.below zw⟩; clear zg zm zw zb; refine hK.out _ _ ⟨HD.out.bl, HD.out.at_ 1 rfl⟩ (fun hHeld => ?_); clear hK K
        (try simp only [Act.put, sS0, sS1, sS2])
        refine wpAnyH_one 2 rfl (by kernel_rfl) rfl (fun K hK => ?_); refine wp_newblk (fun g => .slice (some ⟨g, 0, none⟩) 1 1) 3 #[.int .i64 1] (fun _ => by kernel_rfl) ?_; rintro w19 ga zg zm zw zb; replace HD : Sl _ := ⟨HD.out.new zg zm zb⟩; replace HT : Sl _ := ⟨HT.out.below zw⟩; clear zg zm zw zb; refine hK.out _ _ ⟨HD.out.bl, HD.out.at_ 2 rfl⟩ (fun hHeld => ?_); clear hK K
        (try simp only [Act.put, sS0, sS1, sS2])
        refine wpAnyH_pure 3 (v := .agg #[.slice (some ⟨ga, 0, none⟩) 1 1, .slice none 0 0]) rfl (by kernel_rfl) (by kernel_rfl) (by kernel_rfl) (fun _ _ _ h => h) rfl (fun _ => by go_simp) (by assumption) ?_; simp only [Act.put, sS0, sS1, sS2]; refine wpAnyH_one 4 rfl (by kernel_rfl) rfl (fun K hK => ?_); go_simp; go_at_call 15
        (with_reducible refine (shAt A1 A2 A3 A4 P1 P2 P3 T a b c d ga _ (HM.out.below HD.out.bl) HT.out (HD.out.at_ 0 rfl)).mono ?_)
        rintro e w20 ⟨⟨A, n, c, B, m, d', rfl, hr⟩, hb⟩; replace HD : Sl _ := ⟨HD.out.below hb⟩; have HR : Sl _ := ⟨hr⟩; clear hb hr HT; refine hK.out _ _ ⟨HD.out.bl, HD.out.at_ 2 rfl⟩ (fun hHeld => ?_); clear hK K
        (try simp only [Act.put, sS0, sS1, sS2])
        refine wpAnyH_pure 5 (v := .tuple #[.agg #[.slice A n c, .slice B m d'], .int .i64 0]) rfl (by kernel_rfl) (by kernel_rfl) (by kernel_rfl) (fun _ _ _ h => h) rfl (fun _ => rfl) (by assumption) ?_; simp only [Act.put, sS0, sS1, sS2]; refine wpAnyH_pure 6 (v := .agg #[.slice A n c, .slice B m d']) rfl (by kernel_rfl) (by kernel_rfl) (by kernel_rfl) (fun _ _ _ h => h) rfl (fun _ => by go_simp) (by assumption) ?_; simp only [Act.put, sS0, sS1, sS2]; refine wpAnyH_pure 7 (v := .int .i64 0) rfl (by kernel_rfl) (by kernel_rfl) (by kernel_rfl) (fun _ _ _ h => h) rfl (fun _ => by go_simp) (by assumption) ?_; simp only [Act.put, sS0, sS1, sS2]; refine wpAnyH_one 9 rfl (by kernel_rfl) rfl (fun K hK => ?_); refine wp_store_partm 33 (.tmp 2) (.tmp 18) rfl g2 0 #[.slice A n c, .slice B m d'] rfl rfl 33 _ #[.slice A n c, .slice B m d'] (HD.out.at_ 1 rfl) (by simp) (putA_all _ _ rfl) (by kernel_rfl) (by simp [Value.oneCell']) ?_; rintro w21 zm zs zb; replace HR : Sl _ := ⟨HR.out.mvR (HD.out.at_ 1 rfl) zm⟩; replace HD : Sl _ := ⟨HD.out.set 1 rfl zm zb⟩; clear zm zs zb; refine hK.out _ _ ⟨HD.out.bl, HD.out.at_ 2 rfl⟩ (fun hHeld => ?_); clear hK K
        (try simp only [Act.put, sS0, sS1, sS2])
        refine wpAnyH_pure 10 (v := .int .i64 0) rfl (by kernel_rfl) (by kernel_rfl) (by kernel_rfl) (fun _ _ _ h => h) rfl (fun _ => rfl) (by assumption) ?_; simp only [Act.put, sS0, sS1, sS2]; refine wpAnyH_done (by kernel_rfl) ?_ _
        (try go_wp2_with fail)
        go_meet
        exact ⟨g2, A, B, n, c, m, d', rfl, rfl, ⟨HD.out.two 1 2 rfl rfl (by decide), HR.out⟩⟩
    · skip; refine wp_newblk (fun g => .slice (some ⟨g, 0, none⟩) 1 1) 3 #[.int .i64 1] (fun _ => by kernel_rfl) ?_; rintro w22 ga zg zm zw zb; replace HD : Sl _ := ⟨HD.out.new zg zm zb⟩; clear zg zm zw zb; refine hK.out _ _ ⟨HD.out.bl, HD.out.at_ 1 rfl⟩ (fun hHeld => ?_); clear hK K
      (try simp only [Act.put, sS0, sS1, sS2])
      refine wpAnyH_pure 3 (v := .agg #[.slice (some ⟨ga, 0, none⟩) 1 1, .slice none 0 0]) rfl (by kernel_rfl) (by kernel_rfl) (by kernel_rfl) (fun _ _ _ h => h) rfl (fun _ => by go_simp) (by assumption) ?_; simp only [Act.put, sS0, sS1, sS2]; refine wpAnyH_twom 1 8 rfl rfl (by kernel_rfl) rfl rfl (fun K hK => ?_) (fun K hK => ?_) 
      · skip; go_simp; go_at_call 31
        (with_reducible refine (table_any _).mono ?_)
        rintro e w23 ⟨⟨T, a, b, c, d, rfl, ht⟩, hb⟩; replace HD : Sl _ := ⟨HD.out.below hb⟩; have HT : Sl _ := ⟨ht⟩; clear hb ht; refine hK.out _ _ ⟨HD.out.bl, HD.out.at_ 1 rfl⟩ (fun hHeld => ?_); clear hK K
        (try simp only [Act.put, sS0, sS1, sS2])
        refine wpAnyH_twom 4 8 rfl rfl (by kernel_rfl) rfl rfl (fun K hK => ?_) (fun K hK => ?_) 
        · skip; go_simp; go_at_call 15
          (with_reducible refine (shAt A1 A2 A3 A4 P1 P2 P3 T a b c d ga _ (HM.out.below HD.out.bl) HT.out (HD.out.at_ 0 rfl)).mono ?_)
          rintro e w24 ⟨⟨A, n, c, B, m, d', rfl, hr⟩, hb⟩; replace HD : Sl _ := ⟨HD.out.below hb⟩; have HR : Sl _ := ⟨hr⟩; clear hb hr HT; refine hK.out _ _ ⟨HD.out.bl, HD.out.at_ 1 rfl⟩ (fun hHeld => ?_); clear hK K
          (try simp only [Act.put, sS0, sS1, sS2])
          refine wpAnyH_pure 5 (v := .tuple #[.agg #[.slice A n c, .slice B m d'], .int .i64 0]) rfl (by kernel_rfl) (by kernel_rfl) (by kernel_rfl) (fun _ _ _ h => h) rfl (fun _ => rfl) (by assumption) ?_; simp only [Act.put, sS0, sS1, sS2]; refine wpAnyH_pure 6 (v := .agg #[.slice A n c, .slice B m d']) rfl (by kernel_rfl) (by kernel_rfl) (by kernel_rfl) (fun _ _ _ h => h) rfl (fun _ => by go_simp) (by assumption) ?_; simp only [Act.put, sS0, sS1, sS2]; refine wpAnyH_pure 7 (v := .int .i64 0) rfl (by kernel_rfl) (by kernel_rfl) (by kernel_rfl) (fun _ _ _ h => h) rfl (fun _ => by go_simp) (by assumption) ?_; simp only [Act.put, sS0, sS1, sS2]; refine wpAnyH_one 8 rfl (by kernel_rfl) rfl (fun K hK => ?_); refine wp_newblk (fun g => .pointer (some ⟨g, 0, none⟩)) 33 #[.slice none 0 0, .slice none 0 0] (fun _ => by kernel_rfl) ?_; rintro w25 g2 zg zm zw zb; replace HD : Sl _ := ⟨HD.out.new zg zm zb⟩; replace HR : Sl _ := ⟨HR.out.below zw⟩; clear zg zm zw zb; refine hK.out _ _ ⟨HD.out.bl, HD.out.at_ 2 rfl⟩ (fun hHeld => ?_); clear hK K
          (try simp only [Act.put, sS0, sS1, sS2])
          refine wpAnyH_one 9 rfl (by kernel_rfl) rfl (fun K hK => ?_); refine wp_store_partm 33 (.tmp 2) (.tmp 18) rfl g2 0 #[.slice A n c, .slice B m d'] rfl rfl 33 _ #[.slice A n c, .slice B m d'] (HD.out.at_ 0 rfl) (by simp) (putA_all _ _ rfl) (by kernel_rfl) (by simp [Value.oneCell']) ?_; rintro w26 zm zs zb; replace HR : Sl _ := ⟨HR.out.mvR (HD.out.at_ 0 rfl) zm⟩; replace HD : Sl _ := ⟨HD.out.set 0 rfl zm zb⟩; clear zm zs zb; refine hK.out _ _ ⟨HD.out.bl, HD.out.at_ 2 rfl⟩ (fun hHeld => ?_); clear hK K
          (try simp only [Act.put, sS0, sS1, sS2])
          refine wpAnyH_pure 10 (v := .int .i64 0) rfl (by kernel_rfl) (by kernel_rfl) (by kernel_rfl) (fun _ _ _ h => h) rfl (fun _ => rfl) (by assumption) ?_; simp only [Act.put, sS0, sS1, sS2]; refine wpAnyH_done (by kernel_rfl) ?_ _
          (try go_wp2_with fail)
          go_meet
          exact ⟨g2, A, B, n, c, m, d', rfl, rfl, ⟨HD.out.two 0 2 rfl rfl (by decide), HR.out⟩⟩
        · skip; refine wp_newblk (fun g => .pointer (some ⟨g, 0, none⟩)) 33 #[.slice none 0 0, .slice none 0 0] (fun _ => by kernel_rfl) ?_; rintro w27 g2 zg zm zw zb; replace HD : Sl _ := ⟨HD.out.new zg zm zb⟩; replace HT : Sl _ := ⟨HT.out.below zw⟩; clear zg zm zw zb; refine hK.out _ _ ⟨HD.out.bl, HD.out.at_ 2 rfl⟩ (fun hHeld => ?_); clear hK K
          (try simp only [Act.put, sS0, sS1, sS2])
          refine wpAnyH_one 4 rfl (by kernel_rfl) rfl (fun K hK => ?_); go_simp; go_at_call 15
          (with_reducible refine (shAt A1 A2 A3 A4 P1 P2 P3 T a b c d ga _ (HM.out.below HD.out.bl) HT.out (HD.out.at_ 1 rfl)).mono ?_)
          rintro e w28 ⟨⟨A, n, c, B, m, d', rfl, hr⟩, hb⟩; replace HD : Sl _ := ⟨HD.out.below hb⟩; have HR : Sl _ := ⟨hr⟩; clear hb hr HT; refine hK.out _ _ ⟨HD.out.bl, HD.out.at_ 2 rfl⟩ (fun hHeld => ?_); clear hK K
          (try simp only [Act.put, sS0, sS1, sS2])
          refine wpAnyH_pure 5 (v := .tuple #[.agg #[.slice A n c, .slice B m d'], .int .i64 0]) rfl (by kernel_rfl) (by kernel_rfl) (by kernel_rfl) (fun _ _ _ h => h) rfl (fun _ => rfl) (by assumption) ?_; simp only [Act.put, sS0, sS1, sS2]; refine wpAnyH_pure 6 (v := .agg #[.slice A n c, .slice B m d']) rfl (by kernel_rfl) (by kernel_rfl) (by kernel_rfl) (fun _ _ _ h => h) rfl (fun _ => by go_simp) (by assumption) ?_; simp only [Act.put, sS0, sS1, sS2]; refine wpAnyH_pure 7 (v := .int .i64 0) rfl (by kernel_rfl) (by kernel_rfl) (by kernel_rfl) (fun _ _ _ h => h) rfl (fun _ => by go_simp) (by assumption) ?_; simp only [Act.put, sS0, sS1, sS2]; refine wpAnyH_one 9 rfl (by kernel_rfl) rfl (fun K hK => ?_); refine wp_store_partm 33 (.tmp 2) (.tmp 18) rfl g2 0 #[.slice A n c, .slice B m d'] rfl rfl 33 _ #[.slice A n c, .slice B m d'] (HD.out.at_ 0 rfl) (by simp) (putA_all _ _ rfl) (by kernel_rfl) (by simp [Value.oneCell']) ?_; rintro w29 zm zs zb; replace HR : Sl _ := ⟨HR.out.mvR (HD.out.at_ 0 rfl) zm⟩; replace HD : Sl _ := ⟨HD.out.set 0 rfl zm zb⟩; clear zm zs zb; refine hK.out _ _ ⟨HD.out.bl, HD.out.at_ 2 rfl⟩ (fun hHeld => ?_); clear hK K
          (try simp only [Act.put, sS0, sS1, sS2])
          refine wpAnyH_pure 10 (v := .int .i64 0) rfl (by kernel_rfl) (by kernel_rfl) (by kernel_rfl) (fun _ _ _ h => h) rfl (fun _ => rfl) (by assumption) ?_; simp only [Act.put, sS0, sS1, sS2]; refine wpAnyH_done (by kernel_rfl) ?_ _
          (try go_wp2_with fail)
          go_meet
          exact ⟨g2, A, B, n, c, m, d', rfl, rfl, ⟨HD.out.two 0 2 rfl rfl (by decide), HR.out⟩⟩
      · skip; refine wp_newblk (fun g => .pointer (some ⟨g, 0, none⟩)) 33 #[.slice none 0 0, .slice none 0 0] (fun _ => by kernel_rfl) ?_; rintro w30 g2 zg zm zw zb; replace HD : Sl _ := ⟨HD.out.new zg zm zb⟩; clear zg zm zw zb; refine hK.out _ _ ⟨HD.out.bl, HD.out.at_ 2 rfl⟩ (fun hHeld => ?_); clear hK K
        (try simp only [Act.put, sS0, sS1, sS2])
        refine wpAnyH_one 1 rfl (by kernel_rfl) rfl (fun K hK => ?_); go_simp; go_at_call 31
        (with_reducible refine (table_any _).mono ?_)
        rintro e w31 ⟨⟨T, a, b, c, d, rfl, ht⟩, hb⟩; replace HD : Sl _ := ⟨HD.out.below hb⟩; have HT : Sl _ := ⟨ht⟩; clear hb ht; refine hK.out _ _ ⟨HD.out.bl, HD.out.at_ 2 rfl⟩ (fun hHeld => ?_); clear hK K
        (try simp only [Act.put, sS0, sS1, sS2])
        refine wpAnyH_one 4 rfl (by kernel_rfl) rfl (fun K hK => ?_); go_simp; go_at_call 15
        (with_reducible refine (shAt A1 A2 A3 A4 P1 P2 P3 T a b c d ga _ (HM.out.below HD.out.bl) HT.out (HD.out.at_ 1 rfl)).mono ?_)
        rintro e w32 ⟨⟨A, n, c, B, m, d', rfl, hr⟩, hb⟩; replace HD : Sl _ := ⟨HD.out.below hb⟩; have HR : Sl _ := ⟨hr⟩; clear hb hr HT; refine hK.out _ _ ⟨HD.out.bl, HD.out.at_ 2 rfl⟩ (fun hHeld => ?_); clear hK K
        (try simp only [Act.put, sS0, sS1, sS2])
        refine wpAnyH_pure 5 (v := .tuple #[.agg #[.slice A n c, .slice B m d'], .int .i64 0]) rfl (by kernel_rfl) (by kernel_rfl) (by kernel_rfl) (fun _ _ _ h => h) rfl (fun _ => rfl) (by assumption) ?_; simp only [Act.put, sS0, sS1, sS2]; refine wpAnyH_pure 6 (v := .agg #[.slice A n c, .slice B m d']) rfl (by kernel_rfl) (by kernel_rfl) (by kernel_rfl) (fun _ _ _ h => h) rfl (fun _ => by go_simp) (by assumption) ?_; simp only [Act.put, sS0, sS1, sS2]; refine wpAnyH_pure 7 (v := .int .i64 0) rfl (by kernel_rfl) (by kernel_rfl) (by kernel_rfl) (fun _ _ _ h => h) rfl (fun _ => by go_simp) (by assumption) ?_; simp only [Act.put, sS0, sS1, sS2]; refine wpAnyH_one 9 rfl (by kernel_rfl) rfl (fun K hK => ?_); refine wp_store_partm 33 (.tmp 2) (.tmp 18) rfl g2 0 #[.slice A n c, .slice B m d'] rfl rfl 33 _ #[.slice A n c, .slice B m d'] (HD.out.at_ 0 rfl) (by simp) (putA_all _ _ rfl) (by kernel_rfl) (by simp [Value.oneCell']) ?_; rintro w33 zm zs zb; replace HR : Sl _ := ⟨HR.out.mvR (HD.out.at_ 0 rfl) zm⟩; replace HD : Sl _ := ⟨HD.out.set 0 rfl zm zb⟩; clear zm zs zb; refine hK.out _ _ ⟨HD.out.bl, HD.out.at_ 2 rfl⟩ (fun hHeld => ?_); clear hK K
        (try simp only [Act.put, sS0, sS1, sS2])
        refine wpAnyH_pure 10 (v := .int .i64 0) rfl (by kernel_rfl) (by kernel_rfl) (by kernel_rfl) (fun _ _ _ h => h) rfl (fun _ => rfl) (by assumption) ?_; simp only [Act.put, sS0, sS1, sS2]; refine wpAnyH_done (by kernel_rfl) ?_ _
        (try go_wp2_with fail)
        go_meet
        exact ⟨g2, A, B, n, c, m, d', rfl, rfl, ⟨HD.out.two 0 2 rfl rfl (by decide), HR.out⟩⟩
    · skip; refine wp_newblk (fun g => .pointer (some ⟨g, 0, none⟩)) 33 #[.slice none 0 0, .slice none 0 0] (fun _ => by kernel_rfl) ?_; rintro w34 g2 zg zm zw zb; replace HD : Sl _ := ⟨HD.out.new zg zm zb⟩; clear zg zm zw zb; refine hK.out _ _ ⟨HD.out.bl, HD.out.at_ 1 rfl⟩ (fun hHeld => ?_); clear hK K
      (try simp only [Act.put, sS0, sS1, sS2])
      refine wpAnyH_twom 1 2 rfl rfl (by kernel_rfl) rfl rfl (fun K hK => ?_) (fun K hK => ?_) 
      · skip; go_simp; go_at_call 31
        (with_reducible refine (table_any _).mono ?_)
        rintro e w35 ⟨⟨T, a, b, c, d, rfl, ht⟩, hb⟩; replace HD : Sl _ := ⟨HD.out.below hb⟩; have HT : Sl _ := ⟨ht⟩; clear hb ht; refine hK.out _ _ ⟨HD.out.bl, HD.out.at_ 1 rfl⟩ (fun hHeld => ?_); clear hK K
        (try simp only [Act.put, sS0, sS1, sS2])
        refine wpAnyH_one 2 rfl (by kernel_rfl) rfl (fun K hK => ?_); refine wp_newblk (fun g => .slice (some ⟨g, 0, none⟩) 1 1) 3 #[.int .i64 1] (fun _ => by kernel_rfl) ?_; rintro w36 ga zg zm zw zb; replace HD : Sl _ := ⟨HD.out.new zg zm zb⟩; replace HT : Sl _ := ⟨HT.out.below zw⟩; clear zg zm zw zb; refine hK.out _ _ ⟨HD.out.bl, HD.out.at_ 2 rfl⟩ (fun hHeld => ?_); clear hK K
        (try simp only [Act.put, sS0, sS1, sS2])
        refine wpAnyH_pure 3 (v := .agg #[.slice (some ⟨ga, 0, none⟩) 1 1, .slice none 0 0]) rfl (by kernel_rfl) (by kernel_rfl) (by kernel_rfl) (fun _ _ _ h => h) rfl (fun _ => by go_simp) (by assumption) ?_; simp only [Act.put, sS0, sS1, sS2]; refine wpAnyH_one 4 rfl (by kernel_rfl) rfl (fun K hK => ?_); go_simp; go_at_call 15
        (with_reducible refine (shAt A1 A2 A3 A4 P1 P2 P3 T a b c d ga _ (HM.out.below HD.out.bl) HT.out (HD.out.at_ 0 rfl)).mono ?_)
        rintro e w37 ⟨⟨A, n, c, B, m, d', rfl, hr⟩, hb⟩; replace HD : Sl _ := ⟨HD.out.below hb⟩; have HR : Sl _ := ⟨hr⟩; clear hb hr HT; refine hK.out _ _ ⟨HD.out.bl, HD.out.at_ 2 rfl⟩ (fun hHeld => ?_); clear hK K
        (try simp only [Act.put, sS0, sS1, sS2])
        refine wpAnyH_pure 5 (v := .tuple #[.agg #[.slice A n c, .slice B m d'], .int .i64 0]) rfl (by kernel_rfl) (by kernel_rfl) (by kernel_rfl) (fun _ _ _ h => h) rfl (fun _ => rfl) (by assumption) ?_; simp only [Act.put, sS0, sS1, sS2]; refine wpAnyH_pure 6 (v := .agg #[.slice A n c, .slice B m d']) rfl (by kernel_rfl) (by kernel_rfl) (by kernel_rfl) (fun _ _ _ h => h) rfl (fun _ => by go_simp) (by assumption) ?_; simp only [Act.put, sS0, sS1, sS2]; refine wpAnyH_pure 7 (v := .int .i64 0) rfl (by kernel_rfl) (by kernel_rfl) (by kernel_rfl) (fun _ _ _ h => h) rfl (fun _ => by go_simp) (by assumption) ?_; simp only [Act.put, sS0, sS1, sS2]; refine wpAnyH_one 9 rfl (by kernel_rfl) rfl (fun K hK => ?_); refine wp_store_partm 33 (.tmp 2) (.tmp 18) rfl g2 0 #[.slice A n c, .slice B m d'] rfl rfl 33 _ #[.slice A n c, .slice B m d'] (HD.out.at_ 1 rfl) (by simp) (putA_all _ _ rfl) (by kernel_rfl) (by simp [Value.oneCell']) ?_; rintro w38 zm zs zb; replace HR : Sl _ := ⟨HR.out.mvR (HD.out.at_ 1 rfl) zm⟩; replace HD : Sl _ := ⟨HD.out.set 1 rfl zm zb⟩; clear zm zs zb; refine hK.out _ _ ⟨HD.out.bl, HD.out.at_ 2 rfl⟩ (fun hHeld => ?_); clear hK K
        (try simp only [Act.put, sS0, sS1, sS2])
        refine wpAnyH_pure 10 (v := .int .i64 0) rfl (by kernel_rfl) (by kernel_rfl) (by kernel_rfl) (fun _ _ _ h => h) rfl (fun _ => rfl) (by assumption) ?_; simp only [Act.put, sS0, sS1, sS2]; refine wpAnyH_done (by kernel_rfl) ?_ _
        (try go_wp2_with fail)
        go_meet
        exact ⟨g2, A, B, n, c, m, d', rfl, rfl, ⟨HD.out.two 1 2 rfl rfl (by decide), HR.out⟩⟩
      · skip; refine wp_newblk (fun g => .slice (some ⟨g, 0, none⟩) 1 1) 3 #[.int .i64 1] (fun _ => by kernel_rfl) ?_; rintro w39 ga zg zm zw zb; replace HD : Sl _ := ⟨HD.out.new zg zm zb⟩; clear zg zm zw zb; refine hK.out _ _ ⟨HD.out.bl, HD.out.at_ 2 rfl⟩ (fun hHeld => ?_); clear hK K
        (try simp only [Act.put, sS0, sS1, sS2])
        refine wpAnyH_pure 3 (v := .agg #[.slice (some ⟨ga, 0, none⟩) 1 1, .slice none 0 0]) rfl (by kernel_rfl) (by kernel_rfl) (by kernel_rfl) (fun _ _ _ h => h) rfl (fun _ => by go_simp) (by assumption) ?_; simp only [Act.put, sS0, sS1, sS2]; refine wpAnyH_one 1 rfl (by kernel_rfl) rfl (fun K hK => ?_); go_simp; go_at_call 31
        (with_reducible refine (table_any _).mono ?_)
        rintro e w40 ⟨⟨T, a, b, c, d, rfl, ht⟩, hb⟩; replace HD : Sl _ := ⟨HD.out.below hb⟩; have HT : Sl _ := ⟨ht⟩; clear hb ht; refine hK.out _ _ ⟨HD.out.bl, HD.out.at_ 2 rfl⟩ (fun hHeld => ?_); clear hK K
        (try simp only [Act.put, sS0, sS1, sS2])
        refine wpAnyH_one 4 rfl (by kernel_rfl) rfl (fun K hK => ?_); go_simp; go_at_call 15
        (with_reducible refine (shAt A1 A2 A3 A4 P1 P2 P3 T a b c d ga _ (HM.out.below HD.out.bl) HT.out (HD.out.at_ 0 rfl)).mono ?_)
        rintro e w41 ⟨⟨A, n, c, B, m, d', rfl, hr⟩, hb⟩; replace HD : Sl _ := ⟨HD.out.below hb⟩; have HR : Sl _ := ⟨hr⟩; clear hb hr HT; refine hK.out _ _ ⟨HD.out.bl, HD.out.at_ 2 rfl⟩ (fun hHeld => ?_); clear hK K
        (try simp only [Act.put, sS0, sS1, sS2])
        refine wpAnyH_pure 5 (v := .tuple #[.agg #[.slice A n c, .slice B m d'], .int .i64 0]) rfl (by kernel_rfl) (by kernel_rfl) (by kernel_rfl) (fun _ _ _ h => h) rfl (fun _ => rfl) (by assumption) ?_; simp only [Act.put, sS0, sS1, sS2]; refine wpAnyH_pure 6 (v := .agg #[.slice A n c, .slice B m d']) rfl (by kernel_rfl) (by kernel_rfl) (by kernel_rfl) (fun _ _ _ h => h) rfl (fun _ => by go_simp) (by assumption) ?_; simp only [Act.put, sS0, sS1, sS2]; refine wpAnyH_pure 7 (v := .int .i64 0) rfl (by kernel_rfl) (by kernel_rfl) (by kernel_rfl) (fun _ _ _ h => h) rfl (fun _ => by go_simp) (by assumption) ?_; simp only [Act.put, sS0, sS1, sS2]; refine wpAnyH_one 9 rfl (by kernel_rfl) rfl (fun K hK => ?_); refine wp_store_partm 33 (.tmp 2) (.tmp 18) rfl g2 0 #[.slice A n c, .slice B m d'] rfl rfl 33 _ #[.slice A n c, .slice B m d'] (HD.out.at_ 1 rfl) (by simp) (putA_all _ _ rfl) (by kernel_rfl) (by simp [Value.oneCell']) ?_; rintro w42 zm zs zb; replace HR : Sl _ := ⟨HR.out.mvR (HD.out.at_ 1 rfl) zm⟩; replace HD : Sl _ := ⟨HD.out.set 1 rfl zm zb⟩; clear zm zs zb; refine hK.out _ _ ⟨HD.out.bl, HD.out.at_ 2 rfl⟩ (fun hHeld => ?_); clear hK K
        (try simp only [Act.put, sS0, sS1, sS2])
        refine wpAnyH_pure 10 (v := .int .i64 0) rfl (by kernel_rfl) (by kernel_rfl) (by kernel_rfl) (fun _ _ _ h => h) rfl (fun _ => rfl) (by assumption) ?_; simp only [Act.put, sS0, sS1, sS2]; refine wpAnyH_done (by kernel_rfl) ?_ _
        (try go_wp2_with fail)
        go_meet
        exact ⟨g2, A, B, n, c, m, d', rfl, rfl, ⟨HD.out.two 1 2 rfl rfl (by decide), HR.out⟩⟩
  case rest =>
    clear HD; obtain ⟨g2, A, B, n, c, m, d, rfl, rfl, HX⟩ := hcut; have HR : Sl _ := ⟨HX.out.2⟩; have HD : Sl _ := ⟨HX.out.1⟩; clear HX; have hn3 : n = 3 := HR.out.s.1.symm; have hm1 : m = 1 := HR.out.c.1.symm; subst hn3 hm1
    rename World => wx
    go_upto_region 3 with fail
    go_cut [4, 5] from 20 to 28 (fun s4 s5 wy => s4 = .int .i64 2 ∧ s5 = .int .i64 0 ∧ Sl (Below wx.heap.size wx wy))
    case first =>
      have HB : Sl (∀ W, Below wx.heap.size wx W → Blk W g1 27 #[.slice A1 1 1, .slice A2 2 2, .slice A3 3 3, .slice A4 1 1]) := ⟨fun W h => (HD.out.at_ 1 rfl).below h (HD.out.at_ 1 rfl).lt⟩; have HM2 : Sl (∀ W, Below wx.heap.size wx W → SpM W (exO A1 A2 A3 A4 P1 P2 P3)) := ⟨fun W h => HM.out.below (HD.out.bl.trans (h.mono HD.out.bl.size))⟩; have hS0 : Below wx.heap.size wx wx.drew := below_drewN (Below.refl _ _) 1; have HL : Sl (Lg wx wx.drew []) := ⟨(Lg.nil wx).below hS0⟩; clear HD; have HD : Sl _ := ⟨HL.out⟩; clear HL; have hm := hS0; refine wp_region_held_drew (S := fun w' => Below wx.heap.size wx w') (by kernel_rfl) hm (fun hHeld => ?_); clear hm; refine wpAnyH_load 0 27 (.tmp 1) rfl rfl rfl g1 0 rfl #[.slice A1 1 1, .slice A2 2 2, .slice A3 3 3, .slice A4 1 1] _ (fun w' h => by have := World.rangeAt_of_block (HB.out w' h) 0 4; exact this) Tryz.underlying27 rfl (by kernel_rfl) (by kernel_rfl) (by kernel_rfl) (by kernel_rfl) (fun _ _ _ h => h) (by assumption) ?_; simp only [Act.put, sS0, sS1, sS2]; refine wpAnyH_threem 1 2 3 rfl rfl rfl (by kernel_rfl) rfl rfl rfl (fun K hK => ?_) (fun K hK => ?_) (fun K hK => ?_) 
      · skip; go_simp; go_at_call 31
        (with_reducible refine (table_any _).mono ?_)
        rintro e w43 ⟨⟨T, a, b, c', d', rfl, ht⟩, hb⟩; replace HD : Sl _ := ⟨HD.out.below hb⟩; have HT : Sl _ := ⟨ht⟩; clear hb ht; refine hK.out _ _ HD.out.bl (fun hHeld => ?_); clear hK K
        (try simp only [Act.put, sS0, sS1, sS2])
        refine wpAnyH_twom 2 3 rfl rfl (by kernel_rfl) rfl rfl (fun K hK => ?_) (fun K hK => ?_) 
        · skip; refine wp_newblk (fun g => .slice (some ⟨g, 0, none⟩) 1 1) 3 #[.int .i64 0] (fun _ => by kernel_rfl) ?_; rintro w44 ga zg zm zw zb; replace HD : Sl _ := ⟨HD.out.new zg zm zb⟩; replace HT : Sl _ := ⟨HT.out.below zw⟩; clear zg zm zw zb; refine hK.out _ _ HD.out.bl (fun hHeld => ?_); clear hK K
          (try simp only [Act.put, sS0, sS1, sS2])
          refine wpAnyH_one 3 rfl (by kernel_rfl) rfl (fun K hK => ?_); refine wp_newblk (fun g => .slice (some ⟨g, 0, none⟩) 1 1) 3 #[.int .i64 0] (fun _ => by kernel_rfl) ?_; rintro w45 gb zg zm zw zb; replace HD : Sl _ := ⟨HD.out.new zg zm zb⟩; replace HT : Sl _ := ⟨HT.out.below zw⟩; clear zg zm zw zb; refine hK.out _ _ HD.out.bl (fun hHeld => ?_); clear hK K
          (try simp only [Act.put, sS0, sS1, sS2])
          refine wpAnyH_pure 4 (v := .agg #[.slice (some ⟨ga, 0, none⟩) 1 1, .slice (some ⟨gb, 0, none⟩) 1 1]) rfl (by kernel_rfl) (by kernel_rfl) (by kernel_rfl) (fun _ _ _ h => h) rfl (fun _ => by go_simp) (by assumption) ?_; simp only [Act.put, sS0, sS1, sS2]; refine wpAnyH_one 5 rfl (by kernel_rfl) rfl (fun K hK => ?_); go_simp; go_at_call 17
          (with_reducible refine (shNeeded A1 A2 A3 A4 P1 P2 P3 T a b c' d' ga gb _ (HM2.out _ HD.out.bl) HT.out (HD.out.at_ 1 rfl) (HD.out.at_ 0 rfl)).mono ?_)
          rintro e w46 ⟨rfl, hb⟩; replace HD : Sl _ := ⟨HD.out.below hb⟩; clear hb; refine hK.out _ _ HD.out.bl (fun hHeld => ?_); clear hK K
          (try simp only [Act.put, sS0, sS1, sS2])
          clear HT; refine wpAnyH_pure 6 (v := .tuple #[.int .i64 2, .int .i64 0]) rfl (by kernel_rfl) (by kernel_rfl) (by kernel_rfl) (fun _ _ _ h => h) rfl (fun _ => rfl) (by assumption) ?_; simp only [Act.put, sS0, sS1, sS2]; refine wpAnyH_pure 7 (v := .int .i64 2) rfl (by kernel_rfl) (by kernel_rfl) (by kernel_rfl) (fun _ _ _ h => h) rfl (fun _ => by go_simp) (by assumption) ?_; simp only [Act.put, sS0, sS1, sS2]; refine wpAnyH_pure 8 (v := .int .i64 0) rfl (by kernel_rfl) (by kernel_rfl) (by kernel_rfl) (fun _ _ _ h => h) rfl (fun _ => by go_simp) (by assumption) ?_; simp only [Act.put, sS0, sS1, sS2]; refine wpAnyH_pure 9 (v := .int .i64 2) rfl (by kernel_rfl) (by kernel_rfl) (by kernel_rfl) (fun _ _ _ h => h) rfl (fun _ => rfl) (by assumption) ?_; simp only [Act.put, sS0, sS1, sS2]; refine wpAnyH_pure 10 (v := .int .i64 0) rfl (by kernel_rfl) (by kernel_rfl) (by kernel_rfl) (fun _ _ _ h => h) rfl (fun _ => rfl) (by assumption) ?_; simp only [Act.put, sS0, sS1, sS2]; refine wpAnyH_done (by kernel_rfl) ?_ _
          (try go_wp2_with fail)
          go_meet
          exact ⟨rfl, rfl, ⟨HD.out.bl⟩⟩
        · skip; refine wp_newblk (fun g => .slice (some ⟨g, 0, none⟩) 1 1) 3 #[.int .i64 0] (fun _ => by kernel_rfl) ?_; rintro w47 gb zg zm zw zb; replace HD : Sl _ := ⟨HD.out.new zg zm zb⟩; replace HT : Sl _ := ⟨HT.out.below zw⟩; clear zg zm zw zb; refine hK.out _ _ HD.out.bl (fun hHeld => ?_); clear hK K
          (try simp only [Act.put, sS0, sS1, sS2])
          refine wpAnyH_one 2 rfl (by kernel_rfl) rfl (fun K hK => ?_); refine wp_newblk (fun g => .slice (some ⟨g, 0, none⟩) 1 1) 3 #[.int .i64 0] (fun _ => by kernel_rfl) ?_; rintro w48 ga zg zm zw zb; replace HD : Sl _ := ⟨HD.out.new zg zm zb⟩; replace HT : Sl _ := ⟨HT.out.below zw⟩; clear zg zm zw zb; refine hK.out _ _ HD.out.bl (fun hHeld => ?_); clear hK K
          (try simp only [Act.put, sS0, sS1, sS2])
          refine wpAnyH_pure 4 (v := .agg #[.slice (some ⟨ga, 0, none⟩) 1 1, .slice (some ⟨gb, 0, none⟩) 1 1]) rfl (by kernel_rfl) (by kernel_rfl) (by kernel_rfl) (fun _ _ _ h => h) rfl (fun _ => by go_simp) (by assumption) ?_; simp only [Act.put, sS0, sS1, sS2]; refine wpAnyH_one 5 rfl (by kernel_rfl) rfl (fun K hK => ?_); go_simp; go_at_call 17
          (with_reducible refine (shNeeded A1 A2 A3 A4 P1 P2 P3 T a b c' d' ga gb _ (HM2.out _ HD.out.bl) HT.out (HD.out.at_ 0 rfl) (HD.out.at_ 1 rfl)).mono ?_)
          rintro e w49 ⟨rfl, hb⟩; replace HD : Sl _ := ⟨HD.out.below hb⟩; clear hb; refine hK.out _ _ HD.out.bl (fun hHeld => ?_); clear hK K
          (try simp only [Act.put, sS0, sS1, sS2])
          clear HT; refine wpAnyH_pure 6 (v := .tuple #[.int .i64 2, .int .i64 0]) rfl (by kernel_rfl) (by kernel_rfl) (by kernel_rfl) (fun _ _ _ h => h) rfl (fun _ => rfl) (by assumption) ?_; simp only [Act.put, sS0, sS1, sS2]; refine wpAnyH_pure 7 (v := .int .i64 2) rfl (by kernel_rfl) (by kernel_rfl) (by kernel_rfl) (fun _ _ _ h => h) rfl (fun _ => by go_simp) (by assumption) ?_; simp only [Act.put, sS0, sS1, sS2]; refine wpAnyH_pure 8 (v := .int .i64 0) rfl (by kernel_rfl) (by kernel_rfl) (by kernel_rfl) (fun _ _ _ h => h) rfl (fun _ => by go_simp) (by assumption) ?_; simp only [Act.put, sS0, sS1, sS2]; refine wpAnyH_pure 9 (v := .int .i64 2) rfl (by kernel_rfl) (by kernel_rfl) (by kernel_rfl) (fun _ _ _ h => h) rfl (fun _ => rfl) (by assumption) ?_; simp only [Act.put, sS0, sS1, sS2]; refine wpAnyH_pure 10 (v := .int .i64 0) rfl (by kernel_rfl) (by kernel_rfl) (by kernel_rfl) (fun _ _ _ h => h) rfl (fun _ => rfl) (by assumption) ?_; simp only [Act.put, sS0, sS1, sS2]; refine wpAnyH_done (by kernel_rfl) ?_ _
          (try go_wp2_with fail)
          go_meet
          exact ⟨rfl, rfl, ⟨HD.out.bl⟩⟩
      · skip; refine wp_newblk (fun g => .slice (some ⟨g, 0, none⟩) 1 1) 3 #[.int .i64 0] (fun _ => by kernel_rfl) ?_; rintro w50 ga zg zm zw zb; replace HD : Sl _ := ⟨HD.out.new zg zm zb⟩; clear zg zm zw zb; refine hK.out _ _ HD.out.bl (fun hHeld => ?_); clear hK K
        (try simp only [Act.put, sS0, sS1, sS2])
        refine wpAnyH_twom 1 3 rfl rfl (by kernel_rfl) rfl rfl (fun K hK => ?_) (fun K hK => ?_) 
        · skip; go_simp; go_at_call 31
          (with_reducible refine (table_any _).mono ?_)
          rintro e w51 ⟨⟨T, a, b, c', d', rfl, ht⟩, hb⟩; replace HD : Sl _ := ⟨HD.out.below hb⟩; have HT : Sl _ := ⟨ht⟩; clear hb ht; refine hK.out _ _ HD.out.bl (fun hHeld => ?_); clear hK K
          (try simp only [Act.put, sS0, sS1, sS2])
          refine wpAnyH_one 3 rfl (by kernel_rfl) rfl (fun K hK => ?_); refine wp_newblk (fun g => .slice (some ⟨g, 0, none⟩) 1 1) 3 #[.int .i64 0] (fun _ => by kernel_rfl) ?_; rintro w52 gb zg zm zw zb; replace HD : Sl _ := ⟨HD.out.new zg zm zb⟩; replace HT : Sl _ := ⟨HT.out.below zw⟩; clear zg zm zw zb; refine hK.out _ _ HD.out.bl (fun hHeld => ?_); clear hK K
          (try simp only [Act.put, sS0, sS1, sS2])
          refine wpAnyH_pure 4 (v := .agg #[.slice (some ⟨ga, 0, none⟩) 1 1, .slice (some ⟨gb, 0, none⟩) 1 1]) rfl (by kernel_rfl) (by kernel_rfl) (by kernel_rfl) (fun _ _ _ h => h) rfl (fun _ => by go_simp) (by assumption) ?_; simp only [Act.put, sS0, sS1, sS2]; refine wpAnyH_one 5 rfl (by kernel_rfl) rfl (fun K hK => ?_); go_simp; go_at_call 17
          (with_reducible refine (shNeeded A1 A2 A3 A4 P1 P2 P3 T a b c' d' ga gb _ (HM2.out _ HD.out.bl) HT.out (HD.out.at_ 1 rfl) (HD.out.at_ 0 rfl)).mono ?_)
          rintro e w53 ⟨rfl, hb⟩; replace HD : Sl _ := ⟨HD.out.below hb⟩; clear hb; refine hK.out _ _ HD.out.bl (fun hHeld => ?_); clear hK K
          (try simp only [Act.put, sS0, sS1, sS2])
          clear HT; refine wpAnyH_pure 6 (v := .tuple #[.int .i64 2, .int .i64 0]) rfl (by kernel_rfl) (by kernel_rfl) (by kernel_rfl) (fun _ _ _ h => h) rfl (fun _ => rfl) (by assumption) ?_; simp only [Act.put, sS0, sS1, sS2]; refine wpAnyH_pure 7 (v := .int .i64 2) rfl (by kernel_rfl) (by kernel_rfl) (by kernel_rfl) (fun _ _ _ h => h) rfl (fun _ => by go_simp) (by assumption) ?_; simp only [Act.put, sS0, sS1, sS2]; refine wpAnyH_pure 8 (v := .int .i64 0) rfl (by kernel_rfl) (by kernel_rfl) (by kernel_rfl) (fun _ _ _ h => h) rfl (fun _ => by go_simp) (by assumption) ?_; simp only [Act.put, sS0, sS1, sS2]; refine wpAnyH_pure 9 (v := .int .i64 2) rfl (by kernel_rfl) (by kernel_rfl) (by kernel_rfl) (fun _ _ _ h => h) rfl (fun _ => rfl) (by assumption) ?_; simp only [Act.put, sS0, sS1, sS2]; refine wpAnyH_pure 10 (v := .int .i64 0) rfl (by kernel_rfl) (by kernel_rfl) (by kernel_rfl) (fun _ _ _ h => h) rfl (fun _ => rfl) (by assumption) ?_; simp only [Act.put, sS0, sS1, sS2]; refine wpAnyH_done (by kernel_rfl) ?_ _
          (try go_wp2_with fail)
          go_meet
          exact ⟨rfl, rfl, ⟨HD.out.bl⟩⟩
        · skip; refine wp_newblk (fun g => .slice (some ⟨g, 0, none⟩) 1 1) 3 #[.int .i64 0] (fun _ => by kernel_rfl) ?_; rintro w54 gb zg zm zw zb; replace HD : Sl _ := ⟨HD.out.new zg zm zb⟩; clear zg zm zw zb; refine hK.out _ _ HD.out.bl (fun hHeld => ?_); clear hK K
          (try simp only [Act.put, sS0, sS1, sS2])
          refine wpAnyH_pure 4 (v := .agg #[.slice (some ⟨ga, 0, none⟩) 1 1, .slice (some ⟨gb, 0, none⟩) 1 1]) rfl (by kernel_rfl) (by kernel_rfl) (by kernel_rfl) (fun _ _ _ h => h) rfl (fun _ => by go_simp) (by assumption) ?_; simp only [Act.put, sS0, sS1, sS2]; refine wpAnyH_one 1 rfl (by kernel_rfl) rfl (fun K hK => ?_); go_simp; go_at_call 31
          (with_reducible refine (table_any _).mono ?_)
          rintro e w55 ⟨⟨T, a, b, c', d', rfl, ht⟩, hb⟩; replace HD : Sl _ := ⟨HD.out.below hb⟩; have HT : Sl _ := ⟨ht⟩; clear hb ht; refine hK.out _ _ HD.out.bl (fun hHeld => ?_); clear hK K
          (try simp only [Act.put, sS0, sS1, sS2])
          refine wpAnyH_one 5 rfl (by kernel_rfl) rfl (fun K hK => ?_); go_simp; go_at_call 17
          (with_reducible refine (shNeeded A1 A2 A3 A4 P1 P2 P3 T a b c' d' ga gb _ (HM2.out _ HD.out.bl) HT.out (HD.out.at_ 1 rfl) (HD.out.at_ 0 rfl)).mono ?_)
          rintro e w56 ⟨rfl, hb⟩; replace HD : Sl _ := ⟨HD.out.below hb⟩; clear hb; refine hK.out _ _ HD.out.bl (fun hHeld => ?_); clear hK K
          (try simp only [Act.put, sS0, sS1, sS2])
          clear HT; refine wpAnyH_pure 6 (v := .tuple #[.int .i64 2, .int .i64 0]) rfl (by kernel_rfl) (by kernel_rfl) (by kernel_rfl) (fun _ _ _ h => h) rfl (fun _ => rfl) (by assumption) ?_; simp only [Act.put, sS0, sS1, sS2]; refine wpAnyH_pure 7 (v := .int .i64 2) rfl (by kernel_rfl) (by kernel_rfl) (by kernel_rfl) (fun _ _ _ h => h) rfl (fun _ => by go_simp) (by assumption) ?_; simp only [Act.put, sS0, sS1, sS2]; refine wpAnyH_pure 8 (v := .int .i64 0) rfl (by kernel_rfl) (by kernel_rfl) (by kernel_rfl) (fun _ _ _ h => h) rfl (fun _ => by go_simp) (by assumption) ?_; simp only [Act.put, sS0, sS1, sS2]; refine wpAnyH_pure 9 (v := .int .i64 2) rfl (by kernel_rfl) (by kernel_rfl) (by kernel_rfl) (fun _ _ _ h => h) rfl (fun _ => rfl) (by assumption) ?_; simp only [Act.put, sS0, sS1, sS2]; refine wpAnyH_pure 10 (v := .int .i64 0) rfl (by kernel_rfl) (by kernel_rfl) (by kernel_rfl) (fun _ _ _ h => h) rfl (fun _ => rfl) (by assumption) ?_; simp only [Act.put, sS0, sS1, sS2]; refine wpAnyH_done (by kernel_rfl) ?_ _
          (try go_wp2_with fail)
          go_meet
          exact ⟨rfl, rfl, ⟨HD.out.bl⟩⟩
      · skip; refine wp_newblk (fun g => .slice (some ⟨g, 0, none⟩) 1 1) 3 #[.int .i64 0] (fun _ => by kernel_rfl) ?_; rintro w57 gb zg zm zw zb; replace HD : Sl _ := ⟨HD.out.new zg zm zb⟩; clear zg zm zw zb; refine hK.out _ _ HD.out.bl (fun hHeld => ?_); clear hK K
        (try simp only [Act.put, sS0, sS1, sS2])
        refine wpAnyH_twom 1 2 rfl rfl (by kernel_rfl) rfl rfl (fun K hK => ?_) (fun K hK => ?_) 
        · skip; go_simp; go_at_call 31
          (with_reducible refine (table_any _).mono ?_)
          rintro e w58 ⟨⟨T, a, b, c', d', rfl, ht⟩, hb⟩; replace HD : Sl _ := ⟨HD.out.below hb⟩; have HT : Sl _ := ⟨ht⟩; clear hb ht; refine hK.out _ _ HD.out.bl (fun hHeld => ?_); clear hK K
          (try simp only [Act.put, sS0, sS1, sS2])
          refine wpAnyH_one 2 rfl (by kernel_rfl) rfl (fun K hK => ?_); refine wp_newblk (fun g => .slice (some ⟨g, 0, none⟩) 1 1) 3 #[.int .i64 0] (fun _ => by kernel_rfl) ?_; rintro w59 ga zg zm zw zb; replace HD : Sl _ := ⟨HD.out.new zg zm zb⟩; replace HT : Sl _ := ⟨HT.out.below zw⟩; clear zg zm zw zb; refine hK.out _ _ HD.out.bl (fun hHeld => ?_); clear hK K
          (try simp only [Act.put, sS0, sS1, sS2])
          refine wpAnyH_pure 4 (v := .agg #[.slice (some ⟨ga, 0, none⟩) 1 1, .slice (some ⟨gb, 0, none⟩) 1 1]) rfl (by kernel_rfl) (by kernel_rfl) (by kernel_rfl) (fun _ _ _ h => h) rfl (fun _ => by go_simp) (by assumption) ?_; simp only [Act.put, sS0, sS1, sS2]; refine wpAnyH_one 5 rfl (by kernel_rfl) rfl (fun K hK => ?_); go_simp; go_at_call 17
          (with_reducible refine (shNeeded A1 A2 A3 A4 P1 P2 P3 T a b c' d' ga gb _ (HM2.out _ HD.out.bl) HT.out (HD.out.at_ 0 rfl) (HD.out.at_ 1 rfl)).mono ?_)
          rintro e w60 ⟨rfl, hb⟩; replace HD : Sl _ := ⟨HD.out.below hb⟩; clear hb; refine hK.out _ _ HD.out.bl (fun hHeld => ?_); clear hK K
          (try simp only [Act.put, sS0, sS1, sS2])
          clear HT; refine wpAnyH_pure 6 (v := .tuple #[.int .i64 2, .int .i64 0]) rfl (by kernel_rfl) (by kernel_rfl) (by kernel_rfl) (fun _ _ _ h => h) rfl (fun _ => rfl) (by assumption) ?_; simp only [Act.put, sS0, sS1, sS2]; refine wpAnyH_pure 7 (v := .int .i64 2) rfl (by kernel_rfl) (by kernel_rfl) (by kernel_rfl) (fun _ _ _ h => h) rfl (fun _ => by go_simp) (by assumption) ?_; simp only [Act.put, sS0, sS1, sS2]; refine wpAnyH_pure 8 (v := .int .i64 0) rfl (by kernel_rfl) (by kernel_rfl) (by kernel_rfl) (fun _ _ _ h => h) rfl (fun _ => by go_simp) (by assumption) ?_; simp only [Act.put, sS0, sS1, sS2]; refine wpAnyH_pure 9 (v := .int .i64 2) rfl (by kernel_rfl) (by kernel_rfl) (by kernel_rfl) (fun _ _ _ h => h) rfl (fun _ => rfl) (by assumption) ?_; simp only [Act.put, sS0, sS1, sS2]; refine wpAnyH_pure 10 (v := .int .i64 0) rfl (by kernel_rfl) (by kernel_rfl) (by kernel_rfl) (fun _ _ _ h => h) rfl (fun _ => rfl) (by assumption) ?_; simp only [Act.put, sS0, sS1, sS2]; refine wpAnyH_done (by kernel_rfl) ?_ _
          (try go_wp2_with fail)
          go_meet
          exact ⟨rfl, rfl, ⟨HD.out.bl⟩⟩
        · skip; refine wp_newblk (fun g => .slice (some ⟨g, 0, none⟩) 1 1) 3 #[.int .i64 0] (fun _ => by kernel_rfl) ?_; rintro w61 ga zg zm zw zb; replace HD : Sl _ := ⟨HD.out.new zg zm zb⟩; clear zg zm zw zb; refine hK.out _ _ HD.out.bl (fun hHeld => ?_); clear hK K
          (try simp only [Act.put, sS0, sS1, sS2])
          refine wpAnyH_pure 4 (v := .agg #[.slice (some ⟨ga, 0, none⟩) 1 1, .slice (some ⟨gb, 0, none⟩) 1 1]) rfl (by kernel_rfl) (by kernel_rfl) (by kernel_rfl) (fun _ _ _ h => h) rfl (fun _ => by go_simp) (by assumption) ?_; simp only [Act.put, sS0, sS1, sS2]; refine wpAnyH_one 1 rfl (by kernel_rfl) rfl (fun K hK => ?_); go_simp; go_at_call 31
          (with_reducible refine (table_any _).mono ?_)
          rintro e w62 ⟨⟨T, a, b, c', d', rfl, ht⟩, hb⟩; replace HD : Sl _ := ⟨HD.out.below hb⟩; have HT : Sl _ := ⟨ht⟩; clear hb ht; refine hK.out _ _ HD.out.bl (fun hHeld => ?_); clear hK K
          (try simp only [Act.put, sS0, sS1, sS2])
          refine wpAnyH_one 5 rfl (by kernel_rfl) rfl (fun K hK => ?_); go_simp; go_at_call 17
          (with_reducible refine (shNeeded A1 A2 A3 A4 P1 P2 P3 T a b c' d' ga gb _ (HM2.out _ HD.out.bl) HT.out (HD.out.at_ 0 rfl) (HD.out.at_ 1 rfl)).mono ?_)
          rintro e w63 ⟨rfl, hb⟩; replace HD : Sl _ := ⟨HD.out.below hb⟩; clear hb; refine hK.out _ _ HD.out.bl (fun hHeld => ?_); clear hK K
          (try simp only [Act.put, sS0, sS1, sS2])
          clear HT; refine wpAnyH_pure 6 (v := .tuple #[.int .i64 2, .int .i64 0]) rfl (by kernel_rfl) (by kernel_rfl) (by kernel_rfl) (fun _ _ _ h => h) rfl (fun _ => rfl) (by assumption) ?_; simp only [Act.put, sS0, sS1, sS2]; refine wpAnyH_pure 7 (v := .int .i64 2) rfl (by kernel_rfl) (by kernel_rfl) (by kernel_rfl) (fun _ _ _ h => h) rfl (fun _ => by go_simp) (by assumption) ?_; simp only [Act.put, sS0, sS1, sS2]; refine wpAnyH_pure 8 (v := .int .i64 0) rfl (by kernel_rfl) (by kernel_rfl) (by kernel_rfl) (fun _ _ _ h => h) rfl (fun _ => by go_simp) (by assumption) ?_; simp only [Act.put, sS0, sS1, sS2]; refine wpAnyH_pure 9 (v := .int .i64 2) rfl (by kernel_rfl) (by kernel_rfl) (by kernel_rfl) (fun _ _ _ h => h) rfl (fun _ => rfl) (by assumption) ?_; simp only [Act.put, sS0, sS1, sS2]; refine wpAnyH_pure 10 (v := .int .i64 0) rfl (by kernel_rfl) (by kernel_rfl) (by kernel_rfl) (fun _ _ _ h => h) rfl (fun _ => rfl) (by assumption) ?_; simp only [Act.put, sS0, sS1, sS2]; refine wpAnyH_done (by kernel_rfl) ?_ _
          (try go_wp2_with fail)
          go_meet
          exact ⟨rfl, rfl, ⟨HD.out.bl⟩⟩
    case rest =>
      obtain ⟨rfl, rfl, HY⟩ := hcut; replace HD : Sl _ := ⟨HD.out.below HY.out⟩; replace HR : Sl _ := ⟨HR.out.below HY.out⟩; clear HY
      go_wp2_with ((with_reducible show wpList _ _ _ _ _ _); first
        | (refine wpList_made 30 rfl rfl 2 5 #[.int .i64 5, .int .i64 1, .int .i64 3, .int .i64 4, .int .i64 2] (fun _ => by kernel_rfl) ?_; rintro w50 g30 zg zm zs zb; replace HD : Sl _ := ⟨HD.out.new zg zm zb⟩; replace HR : Sl _ := ⟨HR.out.below (below_mv (Below.refl _ _) zm (Nat.le_refl _) (Nat.le_refl _))⟩; clear zg zm zs zb))
      refine (shPlan g30 _ (HD.out.at_ 0 rfl)).mono ?_; rintro e wp ⟨⟨AP, cP, L, rfl, hg, hl⟩, hb⟩; have HO : Sl _ := ⟨HD.out.below hb⟩; replace HR : Sl _ := ⟨HR.out.below hb⟩; have HG : Sl _ := ⟨hg⟩; have HGL : Sl _ := ⟨hl⟩; clear HD hb hg hl; have HD : Sl (Lg wp wp []) := ⟨Lg.nil wp⟩
      go_wp2_with ((with_reducible show wpList _ _ _ _ _ _); first
        | (refine wpList_load_whole rfl 27 (.tmp 1) rfl g1 rfl 27 _ _ ((HO.out.below HD.out.bl).at_ 2 rfl) Tryz.underlying27 rfl (by kernel_rfl) ?_)
        | (refine wpList_made 37 rfl rfl 3 2 #[.int .i64 0, .int .i64 2] (fun _ => by kernel_rfl) ?_; rintro w51 g37 zg zm zs zb; replace HD : Sl _ := ⟨HD.out.new zg zm zb⟩; clear zg zm zs zb)
        | (refine wpList_made 38 rfl rfl 3 1 #[.int .i64 0] (fun _ => by kernel_rfl) ?_; rintro w52 g38 zg zm zs zb; replace HD : Sl _ := ⟨HD.out.new zg zm zb⟩; clear zg zm zs zb)
        | (refine wpList_made 41 rfl rfl 33 2 #[.slice (some ⟨g37, 0, none⟩) 2 2, .slice (some ⟨g38, 0, none⟩) 1 1, .slice none 0 0, .slice none 0 0] (fun _ => by kernel_rfl) ?_; rintro w53 g41 zg zm zs zb; replace HD : Sl _ := ⟨HD.out.new zg zm zb⟩; clear zg zm zs zb))
      refine (shPrint A1 A2 A3 A4 P1 P2 P3 g41 g37 g38 _ (HM.out.below (HO.out.bl.trans (HD.out.bl.mono HO.out.bl.size))) (HD.out.at_ 2 rfl) (HD.out.at_ 1 rfl) (HD.out.at_ 0 rfl)).mono ?_; rintro e wq ⟨rfl, hb⟩; replace HD : Sl _ := ⟨HD.out.below hb⟩; have HW : Sl (Below wp.heap.size wp wq) := ⟨HD.out.bl⟩; clear HD hb; have r0 := ((HO.out.below HW.out).at_ 1 rfl).cell 0; have r1 := ((HO.out.below HW.out).at_ 1 rfl).cell 1; simp at r0 r1; go_wp2_with fail; have H2 : Sl _ := ⟨two_rows wq 3 3 #[.int .i64 0, .int .i64 1, .int .i64 2] #[.int .i64 0]⟩; refine (sameR_any ⟨A, 3, c, [0, 1, 2], B, 1, d, [0]⟩ ⟨some ⟨wq.heap.size, 0, none⟩, 3, 3, [0, 1, 2], some ⟨wq.heap.size + 1, 0, none⟩, 1, 1, [0]⟩ _ (HR.out.below (HW.out.trans (H2.out.2.2.mono HW.out.size))) ⟨.of_blk H2.out.1 rfl rfl, .of_blk H2.out.2.1 rfl rfl, ⟨Nat.le_refl _, by show 3 ≤ maxLen; decide⟩, ⟨Nat.le_refl _, by show 1 ≤ maxLen; decide⟩⟩ rfl rfl (by show 3 ≤ 1000000; decide) (by show 1 ≤ 1000000; decide)).mono ?_; rintro e wr ⟨rfl, hb⟩; have HV : Sl (Below wp.heap.size wp wr) := ⟨(HW.out.trans (H2.out.2.2.mono HW.out.size)).trans (hb.mono (Nat.le_trans HW.out.size H2.out.2.2.size))⟩; clear HW H2 hb r0 r1; go_wp2_with fail; have H3 : Sl _ := ⟨three_rows wr 3 3 31 #[.int .i64 1, .int .i64 4, .int .i64 2] #[.int .i64 3, .int .i64 0] #[.slice (some ⟨wr.heap.size, 0, none⟩) 3 3, .slice (some ⟨wr.heap.size + 1, 0, none⟩) 2 2]⟩
      have HLE : Sl (∀ s ∈ L, s.n ≤ 1000000) := ⟨fun s hs => by
        have h1 := (HG.out.all s hs).1; have h2 : s.l ∈ L.map SlV.l := List.mem_map.2 ⟨s, hs, rfl⟩; rw [HGL.out] at h2; simp only [List.mem_cons, List.not_mem_nil, or_false] at h2; rcases h2 with h2 | h2
        · rw [h2] at h1; simp at h1; omega
        · rw [h2] at h1; simp at h1; omega⟩
      refine (groups_any AP (some ⟨wr.heap.size + 2, 0, none⟩) 2 cP 2 L [⟨some ⟨wr.heap.size, 0, none⟩, 3, 3, [1, 4, 2]⟩, ⟨some ⟨wr.heap.size + 1, 0, none⟩, 2, 2, [3, 0]⟩] _ (HG.out.below (HV.out.trans (H3.out.2.2.2.mono HV.out.size))) (.of_blk H3.out.2.2.1 rfl rfl (fun s hs => ?_)) (by decide) HGL.out HLE.out).mono ?_
      · simp only [List.mem_cons, List.not_mem_nil, or_false] at hs; rcases hs with rfl | rfl
        · exact .of_blk H3.out.1 rfl rfl
        · exact .of_blk H3.out.2.1 rfl rfl
      rintro e wt ⟨rfl, hb⟩; have HU : Sl (Below w.heap.size w wt) := ⟨HBE.out.trans ((HO.out.bl.trans (((HV.out.trans (H3.out.2.2.2.mono HV.out.size)).trans (hb.mono (Nat.le_trans HV.out.size H3.out.2.2.2.size))).mono HO.out.bl.size)).mono HBE.out.size)⟩; clear HV H3 hb HLE; go_wp2_with fail; go_ret; exact ⟨rfl, HU.out⟩
end Go.Proofs.YtbaojmfkjpnfhaaGreatDoor
namespace Go.Proofs.YtbaojmfkjpnfhaaGreatDoor
set_option linter.unusedSimpArgs false
open Go.RowKit
set_option linter.unusedVariables false
theorem blwMv {w w' : World} (h : Mv w.heap.size w w') : Below w.heap.size w w' := ⟨h.os, h.tape, h.output, h.size, fun k hk => h.block k hk (by omega)⟩
theorem RgM.mvT {w w' : World} {g : Nat} {r : RgV} {t : TypeId} {a b : Option Addr} {n c m d : Nat} (h : RgM w r) (hB : Blk w g t #[.slice a n c, .slice b m d]) (hm : Mv g w w') : RgM w' r := by
  have hc : ∀ (j : Nat) (z : Int), (#[Value.slice a n c, Value.slice b m d] : Array Value)[j]? ≠ some (.int .i64 z) := fun j z => by
    rcases j with _ | _ | j
    · intro h; cases h
    · intro h; cases h
    · intro h; cases h
  exact ⟨h.s.mvR hB hc hm, h.c.mvR hB hc hm, h.sc, h.cc⟩
theorem rg0M (w : World) : RgM w rg0 := ⟨II.nil _ _, II.nil _ _, ⟨Nat.le_refl _, Nat.zero_le _⟩, ⟨Nat.le_refl _, Nat.zero_le _⟩⟩
def alB (l m : List Int) (k : Nat) : Bool := (l.take k).all fun z => decide (z ∈ m)
theorem alB_succ {l m : List Int} {k : Nat} (h : k < l.length) : alB l m (k + 1) = (alB l m k && decide (gt l k ∈ m)) := by
  unfold alB; rw [List.take_add_one, gt_at h, List.all_append]; simp
theorem alB_all {l m : List Int} : alB l m l.length = true ↔ ∀ z ∈ l, z ∈ m := by
  unfold alB; rw [List.take_length, List.all_eq_true]; exact ⟨fun h z hz => of_decide_eq_true (h z hz), fun h z hz => decide_eq_true (h z hz)⟩
theorem all_alone {o : SpO} {L : List RgV} {r : RgV} {p : Nat} (h : botE o L r = 0) : ((∀ z ∈ r.l, z ∈ addL o.n3 L p rg0 RgV.l o.n3) ∧ ∀ z ∈ r.k, z ∈ addL o.n4 L p rg0 RgV.k o.n4) ↔ AllIn L r p := by
  obtain ⟨h1, h2⟩ := botE_ok h; obtain ⟨r1, r2⟩ := regE_ok h2; have b1 := (drw_asc r1).2; have b2 := (drw_asc r2).2; unfold AllIn; constructor
  · rintro ⟨x, y⟩; exact ⟨fun z hz => (((addL_mem _ z).1 (x z hz)).2).elim (fun e => (by cases e)) id, fun z hz => (((addL_mem _ z).1 (y z hz)).2).elim (fun e => (by cases e)) id⟩
  · rintro ⟨x, y⟩; exact ⟨fun z hz => (addL_mem _ z).2 ⟨b1 z hz, .inr (x z hz)⟩, fun z hz => (addL_mem _ z).2 ⟨b2 z hz, .inr (y z hz)⟩⟩
theorem nee_at {o : SpO} {L : List RgV} {r : RgV} {p : Nat} (h : botE o L r = 0) (hp : AllIn L r p) (hn : ∀ j, j < p → ¬ AllIn L r j) : neeF o L r = ((p : Int), 0) := by
  rcases nee_spec h with ⟨e, q, e1, _, h1, h2⟩ | ⟨e, h1⟩
  · obtain rfl : q = p := by
      rcases Nat.lt_trichotomy q p with h3 | h3 | h3
      · exact absurd h1 (hn q h3)
      · exact h3
      · exact absurd hp (h2 p h3)
    rw [← e, ← e1]
  · exact absurd hp (h1 p)
theorem nee_no {o : SpO} {L : List RgV} {r : RgV} (h : botE o L r = 0) (hn : ∀ j, j < L.length + 1 → ¬ AllIn L r j) : neeF o L r = (0, 4) := by
  rcases nee_spec h with ⟨e, q, e1, h0, h1, h2⟩ | ⟨e, h1⟩
  · exact absurd h1 (hn q (by omega))
  · exact e
set_option maxHeartbeats 6400000 in
set_option maxRecDepth 100000 in
theorem r22At_any (o : SpO) (T : Option Addr) (n c : Nat) (L : List RgV) (pos : Int) (r : RgV) (w : World) (hM : SpM w o) (hF : SpF o) (hT : TbM w T n c L) (hr : RgM w r) (hp : i64 pos) :
    Calls Tryz.prog 16 #[.agg #[.slice o.A1 o.n1 o.c1, .slice o.A2 o.n2 o.c2, .slice o.A3 o.n3 o.c3, .slice o.A4 o.n4 o.c4], .agg #[.slice T n c], .int .i64 pos, .agg #[.slice r.A r.n r.c, .slice r.B r.m r.d]] w fun e w' => AtR o L r pos e w' ∧ Below w.heap.size w w' := by
  have HM : Sl _ := ⟨hM⟩; have HF : Sl _ := ⟨hF⟩; have HT : Sl _ := ⟨hT⟩; have HR : Sl _ := ⟨hr⟩; have HD : Sl (Lg w w []) := ⟨Lg.nil w⟩; have HTE : Sl (botE o L r = if tabE o L = 0 then regE o r else tabE o L) := ⟨rfl⟩; have HSP : Sl (tabE o L = 0 → specE o = 0) := ⟨fun h => (tabE_ok2 h).1⟩; obtain ⟨b, hb⟩ : ∃ b, botE o L r = b := ⟨_, rfl⟩; obtain ⟨t, ht⟩ : ∃ t, tabE o L = t := ⟨_, rfl⟩; have HBB : Sl _ := ⟨hb⟩; have HTT : Sl _ := ⟨ht⟩; rw [hb, ht] at HTE; rw [ht] at HSP; have HE : Sl (atE o L r pos = if b = 0 then (if pos < 0 ∨ (n : Int) < pos then 7 else 0) else b) := ⟨by unfold atE; rw [hb, hT.row.len]⟩; clear hM hF hT hr hb ht; go_enter Tryz.func16, Tryz.ntmps16
  go_upto_region 1 with ((with_reducible show wpList _ _ _ _ _ _); first
    | (refine wpList_box_new 4 rfl rfl 27 (.tmp 0) rfl #[.slice o.A1 o.n1 o.c1, .slice o.A2 o.n2 o.c2, .slice o.A3 o.n3 o.c3, .slice o.A4 o.n4 o.c4] rfl (fun _ => by kernel_rfl) ?_; rintro w1 g4 zg zm zs zb; replace HD : Sl _ := ⟨HD.out.new zg zm zb⟩; clear zg zm zs zb)
    | (refine wpList_box_new 5 rfl rfl 30 (.tmp 1) rfl #[.slice T n c] rfl (fun _ => by kernel_rfl) ?_; rintro w2 g5 zg zm zs zb; replace HD : Sl _ := ⟨HD.out.new zg zm zb⟩; clear zg zm zs zb)
    | (refine wpList_box_new 7 rfl rfl 33 (.tmp 3) rfl #[.slice r.A r.n r.c, .slice r.B r.m r.d] rfl (fun _ => by kernel_rfl) ?_; rintro w3 g7 zg zm zs zb; replace HD : Sl _ := ⟨HD.out.new zg zm zb⟩; clear zg zm zs zb)
    | (refine wpList_alloc_new 8 rfl rfl 33 rfl #[.slice none 0 0, .slice none 0 0] alloc_reg ?_; rintro w4 g8 zg zm zs zb; replace HD : Sl _ := ⟨HD.out.new zg zm zb⟩; clear zg zm zs zb))
  have c40 : w4.cell? ⟨g4, 0, none⟩ = some (.slice o.A1 o.n1 o.c1) := (HD.out.at_ 3 rfl).cell 0; have c41 : w4.cell? ⟨g4, 1, none⟩ = some (.slice o.A2 o.n2 o.c2) := (HD.out.at_ 3 rfl).cell 1; have c42 : w4.cell? ⟨g4, 2, none⟩ = some (.slice o.A3 o.n3 o.c3) := (HD.out.at_ 3 rfl).cell 2; have c43 : w4.cell? ⟨g4, 3, none⟩ = some (.slice o.A4 o.n4 o.c4) := (HD.out.at_ 3 rfl).cell 3; have c50 : w4.cell? ⟨g5, 0, none⟩ = some (.slice T n c) := (HD.out.at_ 2 rfl).cell 0; go_wp2_with fail; refine (r22Check_any o T n c L _ (HM.out.below HD.out.bl) HF.out (HT.out.below HD.out.bl)).mono ?_; rintro e w5 ⟨rfl, hb⟩; rw [HTT.out]; replace HD : Sl _ := ⟨HD.out.below hb⟩; clear hb; clear c40 c41 c42 c43 c50
  by_cases ht0 : t = 0
  · subst ht0; rw [if_pos rfl] at HTE; have HS0 : Sl _ := ⟨HSP.out rfl⟩; have HBD : Sl _ := ⟨specE_bd HS0.out⟩; have HNN : Sl (n ≤ 60) := ⟨by rw [← HT.out.row.len]; exact (tabE_ok HTT.out).2.1⟩
    have HRG : Sl (∀ W, Below w.heap.size w W → Calls Tryz.prog 22 #[.agg #[.slice o.A1 o.n1 o.c1, .slice o.A2 o.n2 o.c2, .slice o.A3 o.n3 o.c3, .slice o.A4 o.n4 o.c4], .agg #[.slice r.A r.n r.c, .slice r.B r.m r.d]] W fun e w' => e = .returned (.int .i64 b) ∧ Below W.heap.size W w') := ⟨fun W hW => by
      have h := rreg_any o r W (HM.out.below hW) HF.out (HR.out.below hW) (by have := HBD.out; omega); rw [HS0.out, if_pos rfl, ← HTE.out] at h
      exact h⟩
    have c40 : w5.cell? ⟨g4, 0, none⟩ = some (.slice o.A1 o.n1 o.c1) := (HD.out.at_ 3 rfl).cell 0; have c41 : w5.cell? ⟨g4, 1, none⟩ = some (.slice o.A2 o.n2 o.c2) := (HD.out.at_ 3 rfl).cell 1; have c42 : w5.cell? ⟨g4, 2, none⟩ = some (.slice o.A3 o.n3 o.c3) := (HD.out.at_ 3 rfl).cell 2; have c43 : w5.cell? ⟨g4, 3, none⟩ = some (.slice o.A4 o.n4 o.c4) := (HD.out.at_ 3 rfl).cell 3; have c70 : w5.cell? ⟨g7, 0, none⟩ = some (.slice r.A r.n r.c) := (HD.out.at_ 1 rfl).cell 0; have c71 : w5.cell? ⟨g7, 1, none⟩ = some (.slice r.B r.m r.d) := (HD.out.at_ 1 rfl).cell 1; go_wp2_with fail; refine (HRG.out _ HD.out.bl).mono ?_; rintro e w6 ⟨rfl, hb⟩; replace HD : Sl _ := ⟨HD.out.below hb⟩; clear hb HRG; clear c40 c41 c42 c43 c70 c71
    by_cases hb0 : b = 0
    · subst hb0; rw [if_pos rfl] at HE; have c50 : w6.cell? ⟨g5, 0, none⟩ = some (.slice T n c) := (HD.out.at_ 2 rfl).cell 0
      by_cases p1 : pos < 0
      · have p1d : decide (pos < 0) = true := decide_eq_true p1; have HV : Sl (atE o L r pos = 7) := ⟨by rw [HE.out]; exact if_pos (.inl p1)⟩
        go_wp2_with ((with_reducible show wpList _ _ _ _ _ _); first
          | (refine wpList_store_whole rfl 33 (.tmp 8) (.tmp 32) rfl g8 #[.slice none 0 0, .slice none 0 0] rfl rfl 33 _ (HD.out.at_ 0 rfl) rfl (by kernel_rfl) (by simp [Value.oneCell']) ?_; rintro w7 zm zs zb; replace HD : Sl _ := ⟨HD.out.upd zm zb⟩; clear zm zs zb))
        refine bodyPost_ret (results_row2c rfl _ _ g8 _ _ _ rfl (HD.out.at_ 0 rfl) Tryz.underlying33 rfl (by kernel_rfl)) rfl ?_; exact ⟨AtR.no HV.out (by decide), HD.out.bl⟩
      · have p1d : decide (pos < 0) = false := decide_eq_false p1
        by_cases p2 : (n : Int) < pos
        · have p2d : decide ((n : Int) < pos) = true := decide_eq_true p2; have HV : Sl (atE o L r pos = 7) := ⟨by rw [HE.out]; exact if_pos (.inr p2)⟩
          go_wp2_with ((with_reducible show wpList _ _ _ _ _ _); first
            | (refine wpList_store_whole rfl 33 (.tmp 8) (.tmp 32) rfl g8 #[.slice none 0 0, .slice none 0 0] rfl rfl 33 _ (HD.out.at_ 0 rfl) rfl (by kernel_rfl) (by simp [Value.oneCell']) ?_; rintro w7 zm zs zb; replace HD : Sl _ := ⟨HD.out.upd zm zb⟩; clear zm zs zb))
          refine bodyPost_ret (results_row2c rfl _ _ g8 _ _ _ rfl (HD.out.at_ 0 rfl) Tryz.underlying33 rfl (by kernel_rfl)) rfl ?_; exact ⟨AtR.no HV.out (by decide), HD.out.bl⟩
        · have p2d : decide ((n : Int) < pos) = false := decide_eq_false p2; have HV : Sl (atE o L r pos = 0) := ⟨by rw [HE.out, if_neg (by omega)]⟩; obtain ⟨p, rfl⟩ := Int.eq_ofNat_of_zero_le (show 0 ≤ pos by omega); have HPN : Sl (p ≤ n) := ⟨by omega⟩; have c40 : w6.cell? ⟨g4, 0, none⟩ = some (.slice o.A1 o.n1 o.c1) := (HD.out.at_ 3 rfl).cell 0; have c41 : w6.cell? ⟨g4, 1, none⟩ = some (.slice o.A2 o.n2 o.c2) := (HD.out.at_ 3 rfl).cell 1; have c42 : w6.cell? ⟨g4, 2, none⟩ = some (.slice o.A3 o.n3 o.c3) := (HD.out.at_ 3 rfl).cell 2; have c43 : w6.cell? ⟨g4, 3, none⟩ = some (.slice o.A4 o.n4 o.c4) := (HD.out.at_ 3 rfl).cell 3; have c70 : w6.cell? ⟨g7, 0, none⟩ = some (.slice r.A r.n r.c) := (HD.out.at_ 1 rfl).cell 0; have c71 : w6.cell? ⟨g7, 1, none⟩ = some (.slice r.B r.m r.d) := (HD.out.at_ 1 rfl).cell 1; go_wp2_with fail; refine (added_any o T n c L p r _ (HM.out.below HD.out.bl) (HT.out.below HD.out.bl) (HR.out.below HD.out.bl) HPN.out HNN.out (by have := HBD.out; omega) (by have := HBD.out; omega)).mono ?_; rintro e w7 ⟨⟨A, na, ca, B, mb, db, rfl, hg⟩, hb⟩; have HAE : Sl _ := ⟨add_eq (o := o) (L := L) (r := r) (p := p) HBB.out (by rw [HT.out.row.len]; exact HPN.out)⟩; rw [HAE.out.1, HAE.out.2] at hg; have HG : Sl _ := ⟨hg⟩; replace HD : Sl _ := ⟨HD.out.below hb⟩; clear hb hg HAE; clear c40 c41 c42 c43 c70 c71; clear c50
          go_wp2_with ((with_reducible show wpList _ _ _ _ _ _); first
            | (refine wpList_store_whole rfl 33 (.tmp 8) (.tmp 37) rfl g8 #[.slice A na ca, .slice B mb db] rfl rfl 33 _ (HD.out.at_ 0 rfl) rfl (by kernel_rfl) (by simp [Value.oneCell']) ?_; rintro w8 zm zs zb; replace HG : Sl _ := ⟨HG.out.mvT (HD.out.at_ 0 rfl) zm⟩; replace HD : Sl _ := ⟨HD.out.upd zm zb⟩; clear zm zs zb))
          refine bodyPost_ret (results_row2c rfl _ _ g8 _ _ _ rfl (HD.out.at_ 0 rfl) Tryz.underlying33 rfl (by kernel_rfl)) rfl ?_; exact ⟨⟨A, na, ca, B, mb, db, by rw [HV.out]; rfl, HG.out⟩, HD.out.bl⟩
    · have hb1 : (b != 0) = true := (by simp [hb0]); have HV : Sl (atE o L r pos = b) := ⟨by rw [HE.out, if_neg hb0]⟩
      go_wp2_with ((with_reducible show wpList _ _ _ _ _ _); first
        | (refine wpList_store_whole rfl 33 (.tmp 8) (.tmp 21) rfl g8 #[.slice none 0 0, .slice none 0 0] rfl rfl 33 _ (HD.out.at_ 0 rfl) rfl (by kernel_rfl) (by simp [Value.oneCell']) ?_; rintro w7 zm zs zb; replace HD : Sl _ := ⟨HD.out.upd zm zb⟩; clear zm zs zb))
      refine bodyPost_ret (results_row2c rfl _ _ g8 _ _ _ rfl (HD.out.at_ 0 rfl) Tryz.underlying33 rfl (by kernel_rfl)) rfl ?_; exact ⟨AtR.no HV.out (by assumption), HD.out.bl⟩
  · have ht1 : (t == 0) = false := (by simp [ht0]); have ht2 : (t != 0) = true := (by simp [ht0]); rw [if_neg ht0] at HTE; have hbt := HTE.out; subst hbt; have HV : Sl (atE o L r pos = b) := ⟨by rw [HE.out, if_neg ht0]⟩
    go_wp2_with ((with_reducible show wpList _ _ _ _ _ _); first
      | (refine wpList_store_whole rfl 33 (.tmp 8) (.tmp 21) rfl g8 #[.slice none 0 0, .slice none 0 0] rfl rfl 33 _ (HD.out.at_ 0 rfl) rfl (by kernel_rfl) (by simp [Value.oneCell']) ?_; rintro w7 zm zs zb; replace HD : Sl _ := ⟨HD.out.upd zm zb⟩; clear zm zs zb))
    refine bodyPost_ret (results_row2c rfl _ _ g8 _ _ _ rfl (HD.out.at_ 0 rfl) Tryz.underlying33 rfl (by kernel_rfl)) rfl ?_; exact ⟨AtR.no HV.out (by assumption), HD.out.bl⟩
set_option maxHeartbeats 6400000 in
set_option maxRecDepth 100000 in
theorem r22Needed_any (o : SpO) (T : Option Addr) (n c : Nat) (L : List RgV) (r : RgV) (w : World) (hM : SpM w o) (hF : SpF o) (hT : TbM w T n c L) (hr : RgM w r) :
    Calls Tryz.prog 18 #[.agg #[.slice o.A1 o.n1 o.c1, .slice o.A2 o.n2 o.c2, .slice o.A3 o.n3 o.c3, .slice o.A4 o.n4 o.c4], .agg #[.slice T n c], .agg #[.slice r.A r.n r.c, .slice r.B r.m r.d]] w fun e w' => e = .returned (.tuple #[.int .i64 (neeF o L r).1, .int .i64 (neeF o L r).2]) ∧ Below w.heap.size w w' := by
  have HM : Sl _ := ⟨hM⟩; have HF : Sl _ := ⟨hF⟩; have HT : Sl _ := ⟨hT⟩; have HR : Sl _ := ⟨hr⟩; have HD : Sl (Lg w w []) := ⟨Lg.nil w⟩; have HTE : Sl (botE o L r = if tabE o L = 0 then regE o r else tabE o L) := ⟨rfl⟩; have HSP : Sl (tabE o L = 0 → specE o = 0) := ⟨fun h => (tabE_ok2 h).1⟩; obtain ⟨b, hb⟩ : ∃ b, botE o L r = b := ⟨_, rfl⟩; obtain ⟨t, ht⟩ : ∃ t, tabE o L = t := ⟨_, rfl⟩; have HBB : Sl _ := ⟨hb⟩; have HTT : Sl _ := ⟨ht⟩; rw [hb, ht] at HTE; rw [ht] at HSP; obtain ⟨N, hN⟩ : ∃ N, neeF o L r = N := ⟨_, rfl⟩; have HN : Sl _ := ⟨hN⟩; have HNE : Sl (b ≠ 0 → N = (0, b)) := ⟨fun h => by rw [← hN]; unfold neeF; rw [hb, if_neg h]⟩; rw [hN]; clear hM hF hT hr hb ht hN; go_enter Tryz.func18, Tryz.ntmps18
  go_upto_region 1 with ((with_reducible show wpList _ _ _ _ _ _); first
    | (refine wpList_box_new 3 rfl rfl 27 (.tmp 0) rfl #[.slice o.A1 o.n1 o.c1, .slice o.A2 o.n2 o.c2, .slice o.A3 o.n3 o.c3, .slice o.A4 o.n4 o.c4] rfl (fun _ => by kernel_rfl) ?_; rintro w1 g3 zg zm zs zb; replace HD : Sl _ := ⟨HD.out.new zg zm zb⟩; clear zg zm zs zb)
    | (refine wpList_box_new 4 rfl rfl 30 (.tmp 1) rfl #[.slice T n c] rfl (fun _ => by kernel_rfl) ?_; rintro w2 g4 zg zm zs zb; replace HD : Sl _ := ⟨HD.out.new zg zm zb⟩; clear zg zm zs zb)
    | (refine wpList_box_new 5 rfl rfl 33 (.tmp 2) rfl #[.slice r.A r.n r.c, .slice r.B r.m r.d] rfl (fun _ => by kernel_rfl) ?_; rintro w3 g5 zg zm zs zb; replace HD : Sl _ := ⟨HD.out.new zg zm zb⟩; clear zg zm zs zb))
  have c30 : w3.cell? ⟨g3, 0, none⟩ = some (.slice o.A1 o.n1 o.c1) := (HD.out.at_ 2 rfl).cell 0; have c31 : w3.cell? ⟨g3, 1, none⟩ = some (.slice o.A2 o.n2 o.c2) := (HD.out.at_ 2 rfl).cell 1; have c32 : w3.cell? ⟨g3, 2, none⟩ = some (.slice o.A3 o.n3 o.c3) := (HD.out.at_ 2 rfl).cell 2; have c33 : w3.cell? ⟨g3, 3, none⟩ = some (.slice o.A4 o.n4 o.c4) := (HD.out.at_ 2 rfl).cell 3; have c40 : w3.cell? ⟨g4, 0, none⟩ = some (.slice T n c) := (HD.out.at_ 1 rfl).cell 0; go_wp2_with fail; refine (r22Check_any o T n c L _ (HM.out.below HD.out.bl) HF.out (HT.out.below HD.out.bl)).mono ?_; rintro e w5 ⟨rfl, hb⟩; rw [HTT.out]; replace HD : Sl _ := ⟨HD.out.below hb⟩; clear hb; clear c30 c31 c32 c33 c40
  by_cases ht0 : t = 0
  · subst ht0; rw [if_pos rfl] at HTE; have HS0 : Sl _ := ⟨HSP.out rfl⟩; have HBD : Sl _ := ⟨specE_bd HS0.out⟩; have HNN : Sl (n ≤ 60) := ⟨by rw [← HT.out.row.len]; exact (tabE_ok HTT.out).2.1⟩
    have HRG : Sl (∀ W, Below w.heap.size w W → Calls Tryz.prog 22 #[.agg #[.slice o.A1 o.n1 o.c1, .slice o.A2 o.n2 o.c2, .slice o.A3 o.n3 o.c3, .slice o.A4 o.n4 o.c4], .agg #[.slice r.A r.n r.c, .slice r.B r.m r.d]] W fun e w' => e = .returned (.int .i64 b) ∧ Below W.heap.size W w') := ⟨fun W hW => by
      have h := rreg_any o r W (HM.out.below hW) HF.out (HR.out.below hW) (by have := HBD.out; omega); rw [HS0.out, if_pos rfl, ← HTE.out] at h
      exact h⟩
    have c30 : w5.cell? ⟨g3, 0, none⟩ = some (.slice o.A1 o.n1 o.c1) := (HD.out.at_ 2 rfl).cell 0; have c31 : w5.cell? ⟨g3, 1, none⟩ = some (.slice o.A2 o.n2 o.c2) := (HD.out.at_ 2 rfl).cell 1; have c32 : w5.cell? ⟨g3, 2, none⟩ = some (.slice o.A3 o.n3 o.c3) := (HD.out.at_ 2 rfl).cell 2; have c33 : w5.cell? ⟨g3, 3, none⟩ = some (.slice o.A4 o.n4 o.c4) := (HD.out.at_ 2 rfl).cell 3; have c50 : w5.cell? ⟨g5, 0, none⟩ = some (.slice r.A r.n r.c) := (HD.out.at_ 0 rfl).cell 0; have c51 : w5.cell? ⟨g5, 1, none⟩ = some (.slice r.B r.m r.d) := (HD.out.at_ 0 rfl).cell 1; go_wp2_with fail; refine (HRG.out _ HD.out.bl).mono ?_; rintro e w6 ⟨rfl, hb⟩; replace HD : Sl _ := ⟨HD.out.below hb⟩; clear hb HRG; clear c30 c31 c32 c33 c50 c51
    by_cases hb0 : b = 0
    · subst hb0; have HL : Sl (L.length = n) := ⟨HT.out.row.len⟩; go_wp2_with fail
      go_loopw [9] (fun s9 wv => ∃ (p : Nat), p ≤ n + 1 ∧ s9 = .int .i64 (p : Int) ∧ Sl (Lg w wv [(g5, 33, #[.slice r.A r.n r.c, .slice r.B r.m r.d]), (g4, 30, #[.slice T n c]), (g3, 27, #[.slice o.A1 o.n1 o.c1, .slice o.A2 o.n2 o.c2, .slice o.A3 o.n3 o.c3, .slice o.A4 o.n4 o.c4])]) ∧ Sl (∀ j, j < p → ¬ AllIn L r j)) (fun s9 _ => n + 1 - (RowKit.intOf s9).toNat)
      case atStart => exact ⟨0, Nat.zero_le _, rfl, HD, ⟨fun j hj => absurd hj (Nat.not_lt_zero _)⟩⟩
      case round =>
        clear HD; obtain ⟨p, hp, rfl, HD, HJ⟩ := hrel; have c30 : wr.cell? ⟨g3, 0, none⟩ = some (.slice o.A1 o.n1 o.c1) := (HD.out.at_ 2 rfl).cell 0; have c31 : wr.cell? ⟨g3, 1, none⟩ = some (.slice o.A2 o.n2 o.c2) := (HD.out.at_ 2 rfl).cell 1; have c32 : wr.cell? ⟨g3, 2, none⟩ = some (.slice o.A3 o.n3 o.c3) := (HD.out.at_ 2 rfl).cell 2; have c33 : wr.cell? ⟨g3, 3, none⟩ = some (.slice o.A4 o.n4 o.c4) := (HD.out.at_ 2 rfl).cell 3; have c40 : wr.cell? ⟨g4, 0, none⟩ = some (.slice T n c) := (HD.out.at_ 1 rfl).cell 0; have hn60 : (n : Int) ≤ 60 := (by have := HNN.out; omega)
        by_cases hpn : p ≤ n
        · have hpI : decide ((p : Int) ≤ (n : Int)) = true := decide_eq_true (by omega); have hpI2 : (p : Int) ≤ (n : Int) := (by omega); have HPN : Sl (p ≤ n) := ⟨hpn⟩; clear hpn hp; go_wp2_with fail; refine (added_any o T n c L p rg0 _ (HM.out.below HD.out.bl) (HT.out.below HD.out.bl) (rg0M _) HPN.out HNN.out (by have := HBD.out; omega) (by have := HBD.out; omega)).mono ?_; rintro e w7 ⟨⟨A, na, ca, B, mb, db, rfl, hg⟩, hb⟩; have HG : Sl _ := ⟨hg⟩; replace HD : Sl _ := ⟨HD.out.below hb⟩; clear hb hg; clear c30 c31 c32 c33 c40; have HALL : Sl (((∀ z ∈ r.l, z ∈ addL o.n3 L p rg0 RgV.l o.n3) ∧ ∀ z ∈ r.k, z ∈ addL o.n4 L p rg0 RgV.k o.n4) ↔ AllIn L r p) := ⟨all_alone HBB.out⟩; obtain ⟨X, hX⟩ : ∃ X, addL o.n3 L p rg0 RgV.l o.n3 = X := ⟨_, rfl⟩; obtain ⟨Y, hY⟩ : ∃ Y, addL o.n4 L p rg0 RgV.k o.n4 = Y := ⟨_, rfl⟩; rw [hX, hY] at HALL HG; clear hX hY
          go_upto_region 10 with ((with_reducible show wpList _ _ _ _ _ _); first
            | (refine wpList_alloc_new 10 rfl rfl 33 rfl #[.slice none 0 0, .slice none 0 0] alloc_reg ?_; rintro w8 gx zg zm zs zb; replace HG : Sl _ := ⟨HG.out.below (blwMv zm)⟩; replace HD : Sl _ := ⟨HD.out.new zg zm zb⟩; clear zg zm zs zb)
            | (refine wpList_store_whole rfl 33 (.tmp 10) (.tmp 36) rfl gx #[.slice A na ca, .slice B mb db] rfl rfl 33 _ (HD.out.at_ 0 rfl) rfl (by kernel_rfl) (by simp [Value.oneCell']) ?_; rintro w9 zm zs zb; replace HG : Sl _ := ⟨HG.out.mvT (HD.out.at_ 0 rfl) zm⟩; replace HD : Sl _ := ⟨HD.out.upd zm zb⟩; clear zm zs zb))
          have HGB : Sl _ := ⟨HD.out.bl⟩; have HGX : Sl (∀ W, Below w9.heap.size w9 W → RgM W ⟨A, na, ca, X, B, mb, db, Y⟩) := ⟨fun W hW => HG.out.below hW⟩
          have HRL : Sl (r.l.length = r.n ∧ r.k.length = r.m ∧ r.n ≤ 1000 ∧ r.m ≤ 1000 ∧ na ≤ maxLen ∧ mb ≤ maxLen) := ⟨by
            obtain ⟨r1, r2⟩ := regE_ok (botE_ok HBB.out).2; have l1 := drwE_len r1; have l2 := drwE_len r2; have hs1 := HR.out.s.1; have hs2 := HR.out.c.1; have hbd := HBD.out; have h3 := HG.out.sc; have h4 := HG.out.cc; simp only [] at h3 h4
            exact ⟨hs1, hs2, by omega, by omega, by omega, by omega⟩⟩
          clear HG; go_wp2_with fail
          go_loopw [11, 12] (fun sb sk wv => ∃ (b : Bool) (k : Nat), k ≤ r.n ∧ sb = .bool b ∧ sk = .int .i64 (k : Int) ∧ Sl (b = (alB r.l X k)) ∧ Sl (Lg w wv [(gx, 33, #[.slice A na ca, .slice B mb db]), (g5, 33, #[.slice r.A r.n r.c, .slice r.B r.m r.d]), (g4, 30, #[.slice T n c]), (g3, 27, #[.slice o.A1 o.n1 o.c1, .slice o.A2 o.n2 o.c2, .slice o.A3 o.n3 o.c3, .slice o.A4 o.n4 o.c4])]) ∧ Sl (Below w9.heap.size w9 wv)) (fun _ sk _ => r.n - (RowKit.intOf sk).toNat)
          case atStart => exact ⟨_, 0, Nat.zero_le _, rfl, rfl, ⟨rfl⟩, HD, ⟨Below.refl _ _⟩⟩
          case round =>
            clear HD; obtain ⟨b1, k, hk, rfl, rfl, HBV, HD, HB9⟩ := hrel; have c5 : wr.cell? ⟨g5, 0, none⟩ = some (.slice r.A r.n r.c) := (HD.out.at_ 1 rfl).cell 0; have hn1000 : (r.n : Int) ≤ 1000 := (by have := HRL.out; omega)
            by_cases hkn : k < r.n
            · have hkI : decide ((k : Int) < (r.n : Int)) = true := decide_eq_true (by omega); have hkI2 : (k : Int) < (r.n : Int) := (by omega); have hk0 : (0 : Int) ≤ (k : Int) := (by omega); obtain ⟨ad, hA, hab, c1⟩ := ((HR.out.below (HGB.out.trans (HB9.out.mono HGB.out.size))).s).cell (j := k) hkn; obtain ⟨z, hz⟩ : ∃ z, gt r.l k = z := ⟨_, rfl⟩; rw [hz] at c1; have HS : Sl (alB r.l X (k + 1) = (alB r.l X k && decide (z ∈ X))) := ⟨by rw [← hz]; exact alB_succ (by rw [HRL.out.1]; exact hkn)⟩; have HZC : Sl (∀ W, Below wr.heap.size wr W → W.cell? (ad.add k) = some (.int .i64 z)) := ⟨fun W hW => (hW.cell (by rw [block_of_add]; exact hab)).trans c1⟩; have HA : Sl _ := ⟨hA⟩; have HKN : Sl (k < r.n) := ⟨hkn⟩; have HX : Sl (∀ W, Below w9.heap.size w9 W → Calls Tryz.prog 55 #[.slice A na ca, .int .i64 z] W fun e w' => e = .returned (.bool (decide (z ∈ X))) ∧ Below W.heap.size W w') := ⟨fun W hW => in22_any _ _ _ _ _ W (HGX.out W hW).s HRL.out.2.2.2.2.1⟩; obtain ⟨bz, hbz⟩ : ∃ bz, decide (z ∈ X) = bz := ⟨_, rfl⟩; rw [hbz] at HX HS; clear hbz hz hA hab c1 hkn hk; go_wp2_with fail; clear c5; have HBd : Sl (Below wr.heap.size wr wr.drew) := ⟨below_drewN (Below.refl _ _) 1⟩; have HQ : Sl (∀ W, Below wr.heap.size wr W → Lg w W [(gx, 33, #[.slice A na ca, .slice B mb db]), (g5, 33, #[.slice r.A r.n r.c, .slice r.B r.m r.d]), (g4, 30, #[.slice T n c]), (g3, 27, #[.slice o.A1 o.n1 o.c1, .slice o.A2 o.n2 o.c2, .slice o.A3 o.n3 o.c3, .slice o.A4 o.n4 o.c4])]) := ⟨fun W hW => HD.out.below hW⟩; have HBQ : Sl (∀ W, Below wr.heap.size wr W → Below w9.heap.size w9 W) := ⟨fun W hW => HB9.out.trans (hW.mono HB9.out.size)⟩
              cases b1 with
              | true =>
                have hm := HBd.out; refine wp_region_held_drew (S := fun w' => Below wr.heap.size wr w') (by kernel_rfl) hm (fun hHeld => ?_); clear hm; refine wpAnyH_pure 0 (v := .bool true) rfl (by kernel_rfl) (by kernel_rfl) (by kernel_rfl) (fun _ _ _ h => h) rfl (fun _ => rfl) (by assumption) ?_; simp only [Act.put, sS0, sS1, sS2]; refine wpAnyH_pure 1 (v := .bool true) rfl (by kernel_rfl) (by kernel_rfl) (by kernel_rfl) (fun _ _ _ h => h) rfl (fun _ => rfl) (by assumption) ?_; simp only [Act.put, sS0, sS1, sS2]; refine wpAnyH_pureg 2 (v := .pointer (some ⟨gx, 0, none⟩)) rfl (by kernel_rfl) (by kernel_rfl) (by kernel_rfl) (fun _ _ _ h => h) (by rfl) (fun _ => by go_simp) (by assumption) ?_; simp only [Act.put, sS0, sS1, sS2]
                refine wpAnyH_cellg 3 (v := .slice A na ca) rfl (by rfl) (fun w' h => by
                  have hc := ((HQ.out w' h).at_ 0 rfl).cell 0
                  go_simp) (by kernel_rfl) (by kernel_rfl) (by kernel_rfl) (fun _ _ _ h => h) (by assumption) ?_
                simp only [Act.put, sS0, sS1, sS2]; refine wpAnyH_pureg 4 (v := .pointer (some ⟨g5, 0, none⟩)) rfl (by kernel_rfl) (by kernel_rfl) (by kernel_rfl) (fun _ _ _ h => h) (by rfl) (fun _ => by go_simp) (by assumption) ?_; simp only [Act.put, sS0, sS1, sS2]
                refine wpAnyH_cellg 5 (v := .slice (some ad) r.n r.c) rfl (by rfl) (fun w' h => by
                  have hc := (((HQ.out w' h).at_ 1 rfl).cell 0).trans (show _ = some (.slice (some ad) r.n r.c) by rw [← HA.out]; rfl)
                  go_simp) (by kernel_rfl) (by kernel_rfl) (by kernel_rfl) (fun _ _ _ h => h) (by assumption) ?_
                simp only [Act.put, sS0, sS1, sS2]; refine wpAnyH_pureg 6 (v := .int .i64 (k : Int)) rfl (by kernel_rfl) (by kernel_rfl) (by kernel_rfl) (fun _ _ _ h => h) (by rfl) (fun _ => rfl) (by assumption) ?_; simp only [Act.put, sS0, sS1, sS2]; refine wpAnyH_pureg 7 (v := .pointer (some (ad.add k))) rfl (by kernel_rfl) (by kernel_rfl) (by kernel_rfl) (fun _ _ _ h => h) (by rfl) (fun _ => by go_simp) (by assumption) ?_; simp only [Act.put, sS0, sS1, sS2]
                refine wpAnyH_cellg 8 (v := .int .i64 z) rfl (by rfl) (fun w' h => by
                  have hc := HZC.out w' h
                  go_simp) (by kernel_rfl) (by kernel_rfl) (by kernel_rfl) (fun _ _ _ h => h) (by assumption) ?_
                simp only [Act.put, sS0, sS1, sS2]; refine wpAnyH_onew 9 rfl (by kernel_rfl) (by rfl) (fun K hK => ?_); go_simp; go_at_call 55
                (with_reducible refine (HX.out _ (HBQ.out _ HBd.out)).mono ?_)
                rintro e w10 ⟨rfl, hb⟩; have HW : Sl (Below wr.heap.size wr w10) := ⟨HBd.out.trans (hb.mono HBd.out.size)⟩; have hw := HW.out; clear hb; refine hK.out _ _ HW.out (fun hHeld => ?_); clear hK K
                (try simp only [Act.put, sS0, sS1, sS2])
                refine wpAnyH_pure 10 (v := .bool bz) rfl (by kernel_rfl) (by kernel_rfl) (by kernel_rfl) (fun _ _ _ h => h) rfl (fun _ => by go_simp) (by assumption) ?_; simp only [Act.put, sS0, sS1, sS2]; refine wpAnyH_pure 11 (v := .bool bz) rfl (by kernel_rfl) (by kernel_rfl) (by kernel_rfl) (fun _ _ _ h => h) rfl (fun _ => by go_simp) (by assumption) ?_; simp only [Act.put, sS0, sS1, sS2]; refine wpAnyH_done (by kernel_rfl) ?_ _; clear hHeld; have HDe : Sl (Lg w w10 [(gx, 33, #[.slice A na ca, .slice B mb db]), (g5, 33, #[.slice r.A r.n r.c, .slice r.B r.m r.d]), (g4, 30, #[.slice T n c]), (g3, 27, #[.slice o.A1 o.n1 o.c1, .slice o.A2 o.n2 o.c2, .slice o.A3 o.n3 o.c3, .slice o.A4 o.n4 o.c4])]) := ⟨HQ.out w10 HW.out⟩; have HBe : Sl _ := ⟨HBQ.out w10 HW.out⟩; have HVe : Sl (bz = (alB r.l X (k + 1))) := ⟨by rw [HS.out, ← HBV.out]; rfl⟩; clear hw HW HD HB9 HBd HQ HBQ; go_wp2_with fail; exact ⟨⟨bz, k + 1, HKN.out, rfl, by go_num, HVe, HDe, HBe⟩, by have := HKN.out; simp [RowKit.intOf]; omega⟩
              | false =>
                have hm := HBd.out; refine wp_region_held_drew (S := fun w' => Below wr.heap.size wr w') (by kernel_rfl) hm (fun hHeld => ?_); clear hm; refine wpAnyH_pure 0 (v := .bool false) rfl (by kernel_rfl) (by kernel_rfl) (by kernel_rfl) (fun _ _ _ h => h) rfl (fun _ => rfl) (by assumption) ?_; simp only [Act.put, sS0, sS1, sS2]; refine wpAnyH_pure 1 (v := .bool false) rfl (by kernel_rfl) (by kernel_rfl) (by kernel_rfl) (fun _ _ _ h => h) rfl (fun _ => rfl) (by assumption) ?_; simp only [Act.put, sS0, sS1, sS2]; refine wpAnyH_no 2 rfl (by kernel_rfl) (by kernel_rfl) (by kernel_rfl) (fun _ _ _ h => h) (by rfl) (by assumption) ?_; simp only [Act.put, sS0, sS1, sS2]; refine wpAnyH_no 3 rfl (by kernel_rfl) (by kernel_rfl) (by kernel_rfl) (fun _ _ _ h => h) (by rfl) (by assumption) ?_; simp only [Act.put, sS0, sS1, sS2]; refine wpAnyH_no 4 rfl (by kernel_rfl) (by kernel_rfl) (by kernel_rfl) (fun _ _ _ h => h) (by rfl) (by assumption) ?_; simp only [Act.put, sS0, sS1, sS2]; refine wpAnyH_no 5 rfl (by kernel_rfl) (by kernel_rfl) (by kernel_rfl) (fun _ _ _ h => h) (by rfl) (by assumption) ?_; simp only [Act.put, sS0, sS1, sS2]; refine wpAnyH_no 6 rfl (by kernel_rfl) (by kernel_rfl) (by kernel_rfl) (fun _ _ _ h => h) (by rfl) (by assumption) ?_; simp only [Act.put, sS0, sS1, sS2]; refine wpAnyH_no 7 rfl (by kernel_rfl) (by kernel_rfl) (by kernel_rfl) (fun _ _ _ h => h) (by rfl) (by assumption) ?_; simp only [Act.put, sS0, sS1, sS2]; refine wpAnyH_no 8 rfl (by kernel_rfl) (by kernel_rfl) (by kernel_rfl) (fun _ _ _ h => h) (by rfl) (by assumption) ?_; simp only [Act.put, sS0, sS1, sS2]; refine wpAnyH_no 9 rfl (by kernel_rfl) (by kernel_rfl) (by kernel_rfl) (fun _ _ _ h => h) (by rfl) (by assumption) ?_; simp only [Act.put, sS0, sS1, sS2]; refine wpAnyH_pure 10 (v := .bool false) rfl (by kernel_rfl) (by kernel_rfl) (by kernel_rfl) (fun _ _ _ h => h) rfl (fun _ => by go_simp) (by assumption) ?_; simp only [Act.put, sS0, sS1, sS2]; refine wpAnyH_pure 11 (v := .bool false) rfl (by kernel_rfl) (by kernel_rfl) (by kernel_rfl) (fun _ _ _ h => h) rfl (fun _ => by go_simp) (by assumption) ?_; simp only [Act.put, sS0, sS1, sS2]; refine wpAnyH_done (by kernel_rfl) ?_ _; clear hHeld; have HDe : Sl (Lg w wr.drew [(gx, 33, #[.slice A na ca, .slice B mb db]), (g5, 33, #[.slice r.A r.n r.c, .slice r.B r.m r.d]), (g4, 30, #[.slice T n c]), (g3, 27, #[.slice o.A1 o.n1 o.c1, .slice o.A2 o.n2 o.c2, .slice o.A3 o.n3 o.c3, .slice o.A4 o.n4 o.c4])]) := ⟨HQ.out _ HBd.out⟩; have HBe : Sl _ := ⟨HBQ.out _ HBd.out⟩; have HVe : Sl (false = (alB r.l X (k + 1))) := ⟨by rw [HS.out, ← HBV.out]; rfl⟩; clear HD HB9 HBd HQ HBQ; go_wp2_with fail; exact ⟨⟨false, k + 1, HKN.out, rfl, by go_num, HVe, HDe, HBe⟩, by have := HKN.out; simp [RowKit.intOf]; omega⟩
            · obtain rfl : k = r.n := (by omega); have hkI : decide ((r.n : Int) < (r.n : Int)) = false := (by simp); clear hkn hk; go_wp2_with fail; have HB1 : Sl _ := ⟨HBV.out⟩; clear HBV c5 hn1000 hkI
              go_loopw [11, 13] (fun sb sk wv => ∃ (b : Bool) (k : Nat), k ≤ r.m ∧ sb = .bool b ∧ sk = .int .i64 (k : Int) ∧ Sl (b = (b1 && alB r.k Y k)) ∧ Sl (Lg w wv [(gx, 33, #[.slice A na ca, .slice B mb db]), (g5, 33, #[.slice r.A r.n r.c, .slice r.B r.m r.d]), (g4, 30, #[.slice T n c]), (g3, 27, #[.slice o.A1 o.n1 o.c1, .slice o.A2 o.n2 o.c2, .slice o.A3 o.n3 o.c3, .slice o.A4 o.n4 o.c4])]) ∧ Sl (Below w9.heap.size w9 wv)) (fun _ sk _ => r.m - (RowKit.intOf sk).toNat)
              case atStart => exact ⟨_, 0, Nat.zero_le _, rfl, rfl, ⟨by unfold alB; rw [List.take_zero]; simp⟩, HD, HB9⟩
              case round =>
                clear HD HB9; obtain ⟨b2, k, hk, rfl, rfl, HBV, HD, HB9⟩ := hrel; have c5 : wr.cell? ⟨g5, 1, none⟩ = some (.slice r.B r.m r.d) := (HD.out.at_ 1 rfl).cell 1; have hn1000 : (r.m : Int) ≤ 1000 := (by have := HRL.out; omega)
                by_cases hkn : k < r.m
                · have hkI : decide ((k : Int) < (r.m : Int)) = true := decide_eq_true (by omega); have hkI2 : (k : Int) < (r.m : Int) := (by omega); have hk0 : (0 : Int) ≤ (k : Int) := (by omega); obtain ⟨ad, hA, hab, c1⟩ := ((HR.out.below (HGB.out.trans (HB9.out.mono HGB.out.size))).c).cell (j := k) hkn; obtain ⟨z, hz⟩ : ∃ z, gt r.k k = z := ⟨_, rfl⟩; rw [hz] at c1; have HS : Sl (alB r.k Y (k + 1) = (alB r.k Y k && decide (z ∈ Y))) := ⟨by rw [← hz]; exact alB_succ (by rw [HRL.out.2.1]; exact hkn)⟩; have HZC : Sl (∀ W, Below wr.heap.size wr W → W.cell? (ad.add k) = some (.int .i64 z)) := ⟨fun W hW => (hW.cell (by rw [block_of_add]; exact hab)).trans c1⟩; have HA : Sl _ := ⟨hA⟩; have HKN : Sl (k < r.m) := ⟨hkn⟩; have HX : Sl (∀ W, Below w9.heap.size w9 W → Calls Tryz.prog 55 #[.slice B mb db, .int .i64 z] W fun e w' => e = .returned (.bool (decide (z ∈ Y))) ∧ Below W.heap.size W w') := ⟨fun W hW => in22_any _ _ _ _ _ W (HGX.out W hW).c HRL.out.2.2.2.2.2⟩; obtain ⟨bz, hbz⟩ : ∃ bz, decide (z ∈ Y) = bz := ⟨_, rfl⟩; rw [hbz] at HX HS; clear hbz hz hA hab c1 hkn hk; go_wp2_with fail; clear c5; have HBd : Sl (Below wr.heap.size wr wr.drew) := ⟨below_drewN (Below.refl _ _) 1⟩; have HQ : Sl (∀ W, Below wr.heap.size wr W → Lg w W [(gx, 33, #[.slice A na ca, .slice B mb db]), (g5, 33, #[.slice r.A r.n r.c, .slice r.B r.m r.d]), (g4, 30, #[.slice T n c]), (g3, 27, #[.slice o.A1 o.n1 o.c1, .slice o.A2 o.n2 o.c2, .slice o.A3 o.n3 o.c3, .slice o.A4 o.n4 o.c4])]) := ⟨fun W hW => HD.out.below hW⟩; have HBQ : Sl (∀ W, Below wr.heap.size wr W → Below w9.heap.size w9 W) := ⟨fun W hW => HB9.out.trans (hW.mono HB9.out.size)⟩
                  cases b2 with
                  | true =>
                    have hm := HBd.out; refine wp_region_held_drew (S := fun w' => Below wr.heap.size wr w') (by kernel_rfl) hm (fun hHeld => ?_); clear hm; refine wpAnyH_pure 0 (v := .bool true) rfl (by kernel_rfl) (by kernel_rfl) (by kernel_rfl) (fun _ _ _ h => h) rfl (fun _ => rfl) (by assumption) ?_; simp only [Act.put, sS0, sS1, sS2]; refine wpAnyH_pure 1 (v := .bool true) rfl (by kernel_rfl) (by kernel_rfl) (by kernel_rfl) (fun _ _ _ h => h) rfl (fun _ => rfl) (by assumption) ?_; simp only [Act.put, sS0, sS1, sS2]; refine wpAnyH_pureg 2 (v := .pointer (some ⟨gx, 1, none⟩)) rfl (by kernel_rfl) (by kernel_rfl) (by kernel_rfl) (fun _ _ _ h => h) (by rfl) (fun _ => by go_simp) (by assumption) ?_; simp only [Act.put, sS0, sS1, sS2]
                    refine wpAnyH_cellg 3 (v := .slice B mb db) rfl (by rfl) (fun w' h => by
                      have hc := ((HQ.out w' h).at_ 0 rfl).cell 1
                      go_simp) (by kernel_rfl) (by kernel_rfl) (by kernel_rfl) (fun _ _ _ h => h) (by assumption) ?_
                    simp only [Act.put, sS0, sS1, sS2]; refine wpAnyH_pureg 4 (v := .pointer (some ⟨g5, 1, none⟩)) rfl (by kernel_rfl) (by kernel_rfl) (by kernel_rfl) (fun _ _ _ h => h) (by rfl) (fun _ => by go_simp) (by assumption) ?_; simp only [Act.put, sS0, sS1, sS2]
                    refine wpAnyH_cellg 5 (v := .slice (some ad) r.m r.d) rfl (by rfl) (fun w' h => by
                      have hc := (((HQ.out w' h).at_ 1 rfl).cell 1).trans (show _ = some (.slice (some ad) r.m r.d) by rw [← HA.out]; rfl)
                      go_simp) (by kernel_rfl) (by kernel_rfl) (by kernel_rfl) (fun _ _ _ h => h) (by assumption) ?_
                    simp only [Act.put, sS0, sS1, sS2]; refine wpAnyH_pureg 6 (v := .int .i64 (k : Int)) rfl (by kernel_rfl) (by kernel_rfl) (by kernel_rfl) (fun _ _ _ h => h) (by rfl) (fun _ => rfl) (by assumption) ?_; simp only [Act.put, sS0, sS1, sS2]; refine wpAnyH_pureg 7 (v := .pointer (some (ad.add k))) rfl (by kernel_rfl) (by kernel_rfl) (by kernel_rfl) (fun _ _ _ h => h) (by rfl) (fun _ => by go_simp) (by assumption) ?_; simp only [Act.put, sS0, sS1, sS2]
                    refine wpAnyH_cellg 8 (v := .int .i64 z) rfl (by rfl) (fun w' h => by
                      have hc := HZC.out w' h
                      go_simp) (by kernel_rfl) (by kernel_rfl) (by kernel_rfl) (fun _ _ _ h => h) (by assumption) ?_
                    simp only [Act.put, sS0, sS1, sS2]; refine wpAnyH_onew 9 rfl (by kernel_rfl) (by rfl) (fun K hK => ?_); go_simp; go_at_call 55
                    (with_reducible refine (HX.out _ (HBQ.out _ HBd.out)).mono ?_)
                    rintro e w10 ⟨rfl, hb⟩; have HW : Sl (Below wr.heap.size wr w10) := ⟨HBd.out.trans (hb.mono HBd.out.size)⟩; have hw := HW.out; clear hb; refine hK.out _ _ HW.out (fun hHeld => ?_); clear hK K
                    (try simp only [Act.put, sS0, sS1, sS2])
                    refine wpAnyH_pure 10 (v := .bool bz) rfl (by kernel_rfl) (by kernel_rfl) (by kernel_rfl) (fun _ _ _ h => h) rfl (fun _ => by go_simp) (by assumption) ?_; simp only [Act.put, sS0, sS1, sS2]; refine wpAnyH_pure 11 (v := .bool bz) rfl (by kernel_rfl) (by kernel_rfl) (by kernel_rfl) (fun _ _ _ h => h) rfl (fun _ => by go_simp) (by assumption) ?_; simp only [Act.put, sS0, sS1, sS2]; refine wpAnyH_done (by kernel_rfl) ?_ _; clear hHeld; have HDe : Sl (Lg w w10 [(gx, 33, #[.slice A na ca, .slice B mb db]), (g5, 33, #[.slice r.A r.n r.c, .slice r.B r.m r.d]), (g4, 30, #[.slice T n c]), (g3, 27, #[.slice o.A1 o.n1 o.c1, .slice o.A2 o.n2 o.c2, .slice o.A3 o.n3 o.c3, .slice o.A4 o.n4 o.c4])]) := ⟨HQ.out w10 HW.out⟩; have HBe : Sl _ := ⟨HBQ.out w10 HW.out⟩; have HVe : Sl (bz = (b1 && alB r.k Y (k + 1))) := ⟨by rw [HS.out, ← Bool.and_assoc, ← HBV.out]; rfl⟩; clear hw HW HD HB9 HBd HQ HBQ; go_wp2_with fail; exact ⟨⟨bz, k + 1, HKN.out, rfl, by go_num, HVe, HDe, HBe⟩, by have := HKN.out; simp [RowKit.intOf]; omega⟩
                  | false =>
                    have hm := HBd.out; refine wp_region_held_drew (S := fun w' => Below wr.heap.size wr w') (by kernel_rfl) hm (fun hHeld => ?_); clear hm; refine wpAnyH_pure 0 (v := .bool false) rfl (by kernel_rfl) (by kernel_rfl) (by kernel_rfl) (fun _ _ _ h => h) rfl (fun _ => rfl) (by assumption) ?_; simp only [Act.put, sS0, sS1, sS2]; refine wpAnyH_pure 1 (v := .bool false) rfl (by kernel_rfl) (by kernel_rfl) (by kernel_rfl) (fun _ _ _ h => h) rfl (fun _ => rfl) (by assumption) ?_; simp only [Act.put, sS0, sS1, sS2]; refine wpAnyH_no 2 rfl (by kernel_rfl) (by kernel_rfl) (by kernel_rfl) (fun _ _ _ h => h) (by rfl) (by assumption) ?_; simp only [Act.put, sS0, sS1, sS2]; refine wpAnyH_no 3 rfl (by kernel_rfl) (by kernel_rfl) (by kernel_rfl) (fun _ _ _ h => h) (by rfl) (by assumption) ?_; simp only [Act.put, sS0, sS1, sS2]; refine wpAnyH_no 4 rfl (by kernel_rfl) (by kernel_rfl) (by kernel_rfl) (fun _ _ _ h => h) (by rfl) (by assumption) ?_; simp only [Act.put, sS0, sS1, sS2]; refine wpAnyH_no 5 rfl (by kernel_rfl) (by kernel_rfl) (by kernel_rfl) (fun _ _ _ h => h) (by rfl) (by assumption) ?_; simp only [Act.put, sS0, sS1, sS2]; refine wpAnyH_no 6 rfl (by kernel_rfl) (by kernel_rfl) (by kernel_rfl) (fun _ _ _ h => h) (by rfl) (by assumption) ?_; simp only [Act.put, sS0, sS1, sS2]; refine wpAnyH_no 7 rfl (by kernel_rfl) (by kernel_rfl) (by kernel_rfl) (fun _ _ _ h => h) (by rfl) (by assumption) ?_; simp only [Act.put, sS0, sS1, sS2]; refine wpAnyH_no 8 rfl (by kernel_rfl) (by kernel_rfl) (by kernel_rfl) (fun _ _ _ h => h) (by rfl) (by assumption) ?_; simp only [Act.put, sS0, sS1, sS2]; refine wpAnyH_no 9 rfl (by kernel_rfl) (by kernel_rfl) (by kernel_rfl) (fun _ _ _ h => h) (by rfl) (by assumption) ?_; simp only [Act.put, sS0, sS1, sS2]; refine wpAnyH_pure 10 (v := .bool false) rfl (by kernel_rfl) (by kernel_rfl) (by kernel_rfl) (fun _ _ _ h => h) rfl (fun _ => by go_simp) (by assumption) ?_; simp only [Act.put, sS0, sS1, sS2]; refine wpAnyH_pure 11 (v := .bool false) rfl (by kernel_rfl) (by kernel_rfl) (by kernel_rfl) (fun _ _ _ h => h) rfl (fun _ => by go_simp) (by assumption) ?_; simp only [Act.put, sS0, sS1, sS2]; refine wpAnyH_done (by kernel_rfl) ?_ _; clear hHeld; have HDe : Sl (Lg w wr.drew [(gx, 33, #[.slice A na ca, .slice B mb db]), (g5, 33, #[.slice r.A r.n r.c, .slice r.B r.m r.d]), (g4, 30, #[.slice T n c]), (g3, 27, #[.slice o.A1 o.n1 o.c1, .slice o.A2 o.n2 o.c2, .slice o.A3 o.n3 o.c3, .slice o.A4 o.n4 o.c4])]) := ⟨HQ.out _ HBd.out⟩; have HBe : Sl _ := ⟨HBQ.out _ HBd.out⟩; have HVe : Sl (false = (b1 && alB r.k Y (k + 1))) := ⟨by rw [HS.out, ← Bool.and_assoc, ← HBV.out]; rfl⟩; clear HD HB9 HBd HQ HBQ; go_wp2_with fail; exact ⟨⟨false, k + 1, HKN.out, rfl, by go_num, HVe, HDe, HBe⟩, by have := HKN.out; simp [RowKit.intOf]; omega⟩
                · obtain rfl : k = r.m := (by omega); have hkI : decide ((r.m : Int) < (r.m : Int)) = false := (by simp); clear hkn hk
                  have HBA : Sl (b2 = true ↔ AllIn L r p) := ⟨by
                    rw [HBV.out, ← HALL.out, Bool.and_eq_true, HB1.out]; have e1 : alB r.l X r.n = true ↔ ∀ z ∈ r.l, z ∈ X := (by rw [← HRL.out.1]; exact alB_all); have e2 : alB r.k Y r.m = true ↔ ∀ z ∈ r.k, z ∈ Y := (by rw [← HRL.out.2.1]; exact alB_all)
                    rw [e1, e2]⟩
                  clear HBV HB1
                  cases b2 with
                  | true =>
                    have HV : Sl (N = ((p : Int), 0)) := ⟨by rw [← HN.out]; exact nee_at HBB.out (HBA.out.1 rfl) HJ.out⟩; go_wp2_with fail; go_ret2; exact ⟨by first | (rw [HV.out]; rfl) | rw [HV.out], HD.out.bl⟩
                  | false =>
                    have HJ2 : Sl (∀ j, j < p + 1 → ¬ AllIn L r j) := ⟨fun j hj => by
                      rcases Nat.lt_or_ge j p with h1 | h1
                      · exact HJ.out j h1
                      · obtain rfl : j = p := (by omega)
                        exact fun h => absurd (HBA.out.2 h) (by decide)⟩
                    go_wp2_with fail; exact ⟨⟨p + 1, by have := HPN.out; omega, by go_num, ⟨HD.out.drop⟩, HJ2⟩, by have := HPN.out; simp [RowKit.intOf]; omega⟩
        · obtain rfl : p = n + 1 := (by omega); have hpI : decide (((n + 1 : Nat) : Int) ≤ (n : Int)) = false := decide_eq_false (by omega); have hpI2 : ¬ ((n + 1 : Nat) : Int) ≤ (n : Int) := (by omega); have HV : Sl (N = (0, 4)) := ⟨by rw [← HN.out]; exact nee_no HBB.out (by rw [HL.out]; exact HJ.out)⟩; clear hpn hp; generalize hP : ((n + 1 : Nat) : Int) = P at *
          go_wp2_with fail; go_ret2; exact ⟨by first | (rw [HV.out]; rfl) | rw [HV.out], HD.out.bl⟩
    · have hb1 : (b != 0) = true := (by simp [hb0]); have HV : Sl _ := ⟨HNE.out hb0⟩; go_wp2_with fail; go_ret2; exact ⟨by first | (rw [HV.out]; rfl) | rw [HV.out], HD.out.bl⟩
  · have ht1 : (t == 0) = false := (by simp [ht0]); have ht2 : (t != 0) = true := (by simp [ht0]); rw [if_neg ht0] at HTE; have HV : Sl (N = (0, t)) := ⟨by rw [← HTE.out]; exact HNE.out (by rw [HTE.out]; exact ht0)⟩; go_wp2_with fail; go_ret2; exact ⟨by first | (rw [HV.out]; rfl) | rw [HV.out], HD.out.bl⟩
end Go.Proofs.YtbaojmfkjpnfhaaGreatDoor
namespace Go.Proofs.YtbaojmfkjpnfhaaGreatDoor
set_option linter.unusedSimpArgs false
open Go.RowKit
set_option linter.unusedVariables false
theorem atL_len {o : SpO} {L : List RgV} {r : RgV} {pos : Int} : (atL o L r pos RgV.l).length ≤ 1000 ∧ (atL o L r pos RgV.k).length ≤ 1000 := by
  by_cases h : atE o L r pos = 0
  · have hb : botE o L r = 0 := by
      by_cases hb : botE o L r = 0
      · exact hb
      · unfold atE at h; rw [if_neg hb] at h; exact absurd h hb
    have hp : 0 ≤ pos ∧ pos ≤ (L.length : Int) := by
      unfold atE at h; rw [if_pos hb] at h
      by_cases hc : pos < 0 ∨ (L.length : Int) < pos
      · rw [if_pos hc] at h; cases h
      · omega
    obtain ⟨p, rfl⟩ := Int.eq_ofNat_of_zero_le hp.1; obtain ⟨e1, e2⟩ := add_eq (p := p) hb (by omega); have bd := specE_bd (tabE_ok2 (botE_ok hb).1).1; have l1 := addL_len (many := o.n3) (L := L) (p := p) (r := r) (f := RgV.l) o.n3; have l2 := addL_len (many := o.n4) (L := L) (p := p) (r := r) (f := RgV.k) o.n4; rw [e1] at l1; rw [e2] at l2; omega
  · unfold atL; rw [if_neg h, if_neg h]; exact ⟨Nat.zero_le _, Nat.zero_le _⟩
set_option maxHeartbeats 6400000 in
set_option maxRecDepth 100000 in
theorem crescendoAt_any (o : SpO) (T : Option Addr) (n c : Nat) (L : List RgV) (pos : Int) (r : RgV) (w : World) (hM : SpM w o) (hF : SpF o) (hT : TbM w T n c L) (hp : i64 pos) (hr : RgM w r) :
    Calls Tryz.prog 3 #[.agg #[.slice o.A1 o.n1 o.c1, .slice o.A2 o.n2 o.c2, .slice o.A3 o.n3 o.c3, .slice o.A4 o.n4 o.c4], .agg #[.slice T n c], .agg #[.int .i64 pos, .slice r.A r.n r.c, .slice r.B r.m r.d]] w fun e w' => e = .returned (.bool true) ∧ Below w.heap.size w w' := by
  have HD : Sl (Lg w w []) := ⟨Lg.nil w⟩; have HM : Sl _ := ⟨hM⟩; have HF : Sl _ := ⟨hF⟩; have HT : Sl _ := ⟨hT⟩; have HR : Sl _ := ⟨hr⟩; have HP : Sl _ := ⟨hp⟩; clear hM hF hT hr hp; go_enter Tryz.func3, Tryz.ntmps3
  go_upto_region 1 with ((with_reducible show wpList _ _ _ _ _ _); first
    | (refine wpList_box_new 3 rfl rfl 27 (.tmp 0) rfl #[.slice o.A1 o.n1 o.c1, .slice o.A2 o.n2 o.c2, .slice o.A3 o.n3 o.c3, .slice o.A4 o.n4 o.c4] rfl (fun _ => by kernel_rfl) ?_; rintro w1 g3 zg zm zs zb; replace HD : Sl _ := ⟨HD.out.new zg zm zb⟩; clear zg zm zs zb)
    | (refine wpList_box_new 4 rfl rfl 30 (.tmp 1) rfl #[.slice T n c] rfl (fun _ => by kernel_rfl) ?_; rintro w2 g4 zg zm zs zb; replace HD : Sl _ := ⟨HD.out.new zg zm zb⟩; clear zg zm zs zb)
    | (refine wpList_box_new 5 rfl rfl 35 (.tmp 2) rfl #[.int .i64 pos, .slice r.A r.n r.c, .slice r.B r.m r.d] rfl (fun _ => by kernel_rfl) ?_; rintro w3 g5 zg zm zs zb; replace HD : Sl _ := ⟨HD.out.new zg zm zb⟩; clear zg zm zs zb))
  have c30 : w3.cell? ⟨g3, 0, none⟩ = some (.slice o.A1 o.n1 o.c1) := (HD.out.at_ 2 rfl).cell 0; have c31 : w3.cell? ⟨g3, 1, none⟩ = some (.slice o.A2 o.n2 o.c2) := (HD.out.at_ 2 rfl).cell 1; have c32 : w3.cell? ⟨g3, 2, none⟩ = some (.slice o.A3 o.n3 o.c3) := (HD.out.at_ 2 rfl).cell 2; have c33 : w3.cell? ⟨g3, 3, none⟩ = some (.slice o.A4 o.n4 o.c4) := (HD.out.at_ 2 rfl).cell 3; have c40 : w3.cell? ⟨g4, 0, none⟩ = some (.slice T n c) := (HD.out.at_ 1 rfl).cell 0; have c50 : w3.cell? ⟨g5, 0, none⟩ = some (.int .i64 pos) := (HD.out.at_ 0 rfl).cell 0; have c51 : w3.cell? ⟨g5, 1, none⟩ = some (.slice r.A r.n r.c) := (HD.out.at_ 0 rfl).cell 1; have c52 : w3.cell? ⟨g5, 2, none⟩ = some (.slice r.B r.m r.d) := (HD.out.at_ 0 rfl).cell 2; go_wp2_with fail; refine (lFar_any o _ (HM.out.below HD.out.bl)).mono ?_; rintro e w4 ⟨⟨b1, rfl⟩, hb⟩; replace HD : Sl _ := ⟨HD.out.below hb⟩; clear hb; clear c30 c31 c32 c33 c40 c50 c51 c52
  cases b1 with
  | true =>
    go_wp2_with fail; refine (shown_any _).mono ?_; rintro e w9 ⟨rfl, hb⟩; have HB9 : Sl _ := ⟨HD.out.bl.trans (hb.mono HD.out.bl.size)⟩; clear hb; go_wp2_with fail; go_ret; exact ⟨rfl, HB9.out⟩
  | false =>
    have c40 : w4.cell? ⟨g4, 0, none⟩ = some (.slice T n c) := (HD.out.at_ 1 rfl).cell 0; have c50 : w4.cell? ⟨g5, 0, none⟩ = some (.int .i64 pos) := (HD.out.at_ 0 rfl).cell 0; have c51 : w4.cell? ⟨g5, 1, none⟩ = some (.slice r.A r.n r.c) := (HD.out.at_ 0 rfl).cell 1; have c52 : w4.cell? ⟨g5, 2, none⟩ = some (.slice r.B r.m r.d) := (HD.out.at_ 0 rfl).cell 2; go_wp2_with fail; refine (lfar_any T n c L 70 _ (HT.out.below HD.out.bl)).mono ?_; rintro e w5 ⟨⟨b2, rfl⟩, hb⟩; replace HD : Sl _ := ⟨HD.out.below hb⟩; clear hb; clear c40 c50 c51 c52
    cases b2 with
    | true =>
      go_wp2_with fail; refine (shown_any _).mono ?_; rintro e w9 ⟨rfl, hb⟩; have HB9 : Sl _ := ⟨HD.out.bl.trans (hb.mono HD.out.bl.size)⟩; clear hb; go_wp2_with fail; go_ret; exact ⟨rfl, HB9.out⟩
    | false =>
      have c40 : w5.cell? ⟨g4, 0, none⟩ = some (.slice T n c) := (HD.out.at_ 1 rfl).cell 0; have c50 : w5.cell? ⟨g5, 0, none⟩ = some (.int .i64 pos) := (HD.out.at_ 0 rfl).cell 0; have c51 : w5.cell? ⟨g5, 1, none⟩ = some (.slice r.A r.n r.c) := (HD.out.at_ 0 rfl).cell 1; have c52 : w5.cell? ⟨g5, 2, none⟩ = some (.slice r.B r.m r.d) := (HD.out.at_ 0 rfl).cell 2; go_wp2_with fail; refine (wideC_any r _).mono ?_; rintro e w6 ⟨rfl, hb⟩; replace HD : Sl _ := ⟨HD.out.below hb⟩; clear hb; clear c40 c50 c51 c52; generalize wideC r = b3
      cases b3 with
      | true =>
        go_wp2_with fail; refine (shown_any _).mono ?_; rintro e w9 ⟨rfl, hb⟩; have HB9 : Sl _ := ⟨HD.out.bl.trans (hb.mono HD.out.bl.size)⟩; clear hb; go_wp2_with fail; go_ret; exact ⟨rfl, HB9.out⟩
      | false =>
        have HLN : Sl _ := ⟨atL_len (o := o) (L := L) (r := r) (pos := pos)⟩; obtain ⟨X, hX⟩ : ∃ X, atL o L r pos RgV.l = X := ⟨_, rfl⟩; obtain ⟨Y, hY⟩ : ∃ Y, atL o L r pos RgV.k = Y := ⟨_, rfl⟩; rw [hX, hY] at HLN; have c30 : w6.cell? ⟨g3, 0, none⟩ = some (.slice o.A1 o.n1 o.c1) := (HD.out.at_ 2 rfl).cell 0; have c31 : w6.cell? ⟨g3, 1, none⟩ = some (.slice o.A2 o.n2 o.c2) := (HD.out.at_ 2 rfl).cell 1; have c32 : w6.cell? ⟨g3, 2, none⟩ = some (.slice o.A3 o.n3 o.c3) := (HD.out.at_ 2 rfl).cell 2; have c33 : w6.cell? ⟨g3, 3, none⟩ = some (.slice o.A4 o.n4 o.c4) := (HD.out.at_ 2 rfl).cell 3; have c40 : w6.cell? ⟨g4, 0, none⟩ = some (.slice T n c) := (HD.out.at_ 1 rfl).cell 0; have c50 : w6.cell? ⟨g5, 0, none⟩ = some (.int .i64 pos) := (HD.out.at_ 0 rfl).cell 0; have c51 : w6.cell? ⟨g5, 1, none⟩ = some (.slice r.A r.n r.c) := (HD.out.at_ 0 rfl).cell 1; have c52 : w6.cell? ⟨g5, 2, none⟩ = some (.slice r.B r.m r.d) := (HD.out.at_ 0 rfl).cell 2; go_wp2_with fail; refine (At_any o T n c L pos r _ (HM.out.below HD.out.bl) HF.out (HT.out.below HD.out.bl) (HR.out.below HD.out.bl) HP.out).mono ?_; rintro e w7 ⟨⟨A, na, ca, B, mb, db, rfl, hg⟩, hb⟩; rw [hX, hY] at hg; have HG : Sl _ := ⟨hg⟩; have HXY : Sl _ := ⟨And.intro hX hY⟩; replace HD : Sl _ := ⟨HD.out.below hb⟩; obtain ⟨E, hE⟩ : ∃ E, atE o L r pos = E := ⟨_, rfl⟩; rw [hE]; have HE : Sl _ := ⟨hE⟩; clear hb hg hX hY hE; clear c30 c31 c32 c33 c40 c50 c51 c52
        go_upto_region 4 with ((with_reducible show wpList _ _ _ _ _ _); first
          | (refine wpList_alloc_new 7 rfl rfl 33 rfl #[.slice none 0 0, .slice none 0 0] alloc_reg ?_; rintro w8 g7 zg zm zs zb; replace HG : Sl _ := ⟨HG.out.below (blwMv zm)⟩; replace HD : Sl _ := ⟨HD.out.new zg zm zb⟩; clear zg zm zs zb)
          | (refine wpList_store_whole rfl 33 (.tmp 7) (.tmp 36) rfl g7 #[.slice A na ca, .slice B mb db] rfl rfl 33 _ (HD.out.at_ 0 rfl) rfl (by kernel_rfl) (by simp [Value.oneCell']) ?_; rintro w9 zm zs zb; replace HG : Sl _ := ⟨HG.out.mvT (HD.out.at_ 0 rfl) zm⟩; replace HD : Sl _ := ⟨HD.out.upd zm zb⟩; clear zm zs zb))
        have c30 : w9.cell? ⟨g3, 0, none⟩ = some (.slice o.A1 o.n1 o.c1) := (HD.out.at_ 3 rfl).cell 0; have c31 : w9.cell? ⟨g3, 1, none⟩ = some (.slice o.A2 o.n2 o.c2) := (HD.out.at_ 3 rfl).cell 1; have c32 : w9.cell? ⟨g3, 2, none⟩ = some (.slice o.A3 o.n3 o.c3) := (HD.out.at_ 3 rfl).cell 2; have c33 : w9.cell? ⟨g3, 3, none⟩ = some (.slice o.A4 o.n4 o.c4) := (HD.out.at_ 3 rfl).cell 3; have c40 : w9.cell? ⟨g4, 0, none⟩ = some (.slice T n c) := (HD.out.at_ 2 rfl).cell 0; have c50 : w9.cell? ⟨g5, 0, none⟩ = some (.int .i64 pos) := (HD.out.at_ 1 rfl).cell 0; have c51 : w9.cell? ⟨g5, 1, none⟩ = some (.slice r.A r.n r.c) := (HD.out.at_ 1 rfl).cell 1; have c52 : w9.cell? ⟨g5, 2, none⟩ = some (.slice r.B r.m r.d) := (HD.out.at_ 1 rfl).cell 2; go_wp2_with fail; refine (r22At_any o T n c L pos r _ (HM.out.below HD.out.bl) HF.out (HT.out.below HD.out.bl) (HR.out.below HD.out.bl) HP.out).mono ?_; rintro e w10 ⟨⟨A2, na2, ca2, B2, mb2, db2, rfl, hg⟩, hb⟩; rw [HXY.out.1, HXY.out.2] at hg; rw [HE.out]; have HG2 : Sl _ := ⟨hg⟩; replace HG : Sl _ := ⟨HG.out.below hb⟩; replace HD : Sl _ := ⟨HD.out.below hb⟩; clear hb hg; clear c30 c31 c32 c33 c40 c50 c51 c52
        go_upto_region 5 with ((with_reducible show wpList _ _ _ _ _ _); first
          | (refine wpList_alloc_new 9 rfl rfl 33 rfl #[.slice none 0 0, .slice none 0 0] alloc_reg ?_; rintro w11 g9 zg zm zs zb; replace HG : Sl _ := ⟨HG.out.below (blwMv zm)⟩; replace HG2 : Sl _ := ⟨HG2.out.below (blwMv zm)⟩; replace HD : Sl _ := ⟨HD.out.new zg zm zb⟩; clear zg zm zs zb)
          | (refine wpList_store_whole rfl 33 (.tmp 9) (.tmp 46) rfl g9 #[.slice A2 na2 ca2, .slice B2 mb2 db2] rfl rfl 33 _ (HD.out.at_ 0 rfl) rfl (by kernel_rfl) (by simp [Value.oneCell']) ?_; rintro w12 zm zs zb; replace HG : Sl _ := ⟨HG.out.mvT (HD.out.at_ 0 rfl) zm⟩; replace HG2 : Sl _ := ⟨HG2.out.mvT (HD.out.at_ 0 rfl) zm⟩; replace HD : Sl _ := ⟨HD.out.upd zm zb⟩; clear zm zs zb))
        obtain ⟨N, hN⟩ : ∃ N, neeF o L r = N := ⟨_, rfl⟩; have HN : Sl _ := ⟨hN⟩; have c30 : w12.cell? ⟨g3, 0, none⟩ = some (.slice o.A1 o.n1 o.c1) := (HD.out.at_ 4 rfl).cell 0; have c31 : w12.cell? ⟨g3, 1, none⟩ = some (.slice o.A2 o.n2 o.c2) := (HD.out.at_ 4 rfl).cell 1; have c32 : w12.cell? ⟨g3, 2, none⟩ = some (.slice o.A3 o.n3 o.c3) := (HD.out.at_ 4 rfl).cell 2; have c33 : w12.cell? ⟨g3, 3, none⟩ = some (.slice o.A4 o.n4 o.c4) := (HD.out.at_ 4 rfl).cell 3; have c40 : w12.cell? ⟨g4, 0, none⟩ = some (.slice T n c) := (HD.out.at_ 3 rfl).cell 0; have c50 : w12.cell? ⟨g5, 0, none⟩ = some (.int .i64 pos) := (HD.out.at_ 2 rfl).cell 0; have c51 : w12.cell? ⟨g5, 1, none⟩ = some (.slice r.A r.n r.c) := (HD.out.at_ 2 rfl).cell 1; have c52 : w12.cell? ⟨g5, 2, none⟩ = some (.slice r.B r.m r.d) := (HD.out.at_ 2 rfl).cell 2; go_wp2_with fail; refine (Needed_any o T n c L r _ (HM.out.below HD.out.bl) HF.out (HT.out.below HD.out.bl) (HR.out.below HD.out.bl)).mono ?_; rintro e w13 ⟨rfl, hb⟩; rw [hN]; replace HG : Sl _ := ⟨HG.out.below hb⟩; replace HG2 : Sl _ := ⟨HG2.out.below hb⟩; replace HD : Sl _ := ⟨HD.out.below hb⟩; clear hb hN; clear c30 c31 c32 c33 c40 c50 c51 c52; have c30 : w13.cell? ⟨g3, 0, none⟩ = some (.slice o.A1 o.n1 o.c1) := (HD.out.at_ 4 rfl).cell 0; have c31 : w13.cell? ⟨g3, 1, none⟩ = some (.slice o.A2 o.n2 o.c2) := (HD.out.at_ 4 rfl).cell 1; have c32 : w13.cell? ⟨g3, 2, none⟩ = some (.slice o.A3 o.n3 o.c3) := (HD.out.at_ 4 rfl).cell 2; have c33 : w13.cell? ⟨g3, 3, none⟩ = some (.slice o.A4 o.n4 o.c4) := (HD.out.at_ 4 rfl).cell 3; have c40 : w13.cell? ⟨g4, 0, none⟩ = some (.slice T n c) := (HD.out.at_ 3 rfl).cell 0; have c50 : w13.cell? ⟨g5, 0, none⟩ = some (.int .i64 pos) := (HD.out.at_ 2 rfl).cell 0; have c51 : w13.cell? ⟨g5, 1, none⟩ = some (.slice r.A r.n r.c) := (HD.out.at_ 2 rfl).cell 1; have c52 : w13.cell? ⟨g5, 2, none⟩ = some (.slice r.B r.m r.d) := (HD.out.at_ 2 rfl).cell 2; go_wp2_with fail; refine (r22Needed_any o T n c L r _ (HM.out.below HD.out.bl) HF.out (HT.out.below HD.out.bl) (HR.out.below HD.out.bl)).mono ?_; rintro e w14 ⟨rfl, hb⟩; rw [HN.out]; replace HG : Sl _ := ⟨HG.out.below hb⟩; replace HG2 : Sl _ := ⟨HG2.out.below hb⟩; replace HD : Sl _ := ⟨HD.out.below hb⟩; clear hb HN; clear c30 c31 c32 c33 c40 c50 c51 c52; have c30 : w14.cell? ⟨g3, 0, none⟩ = some (.slice o.A1 o.n1 o.c1) := (HD.out.at_ 4 rfl).cell 0; have c31 : w14.cell? ⟨g3, 1, none⟩ = some (.slice o.A2 o.n2 o.c2) := (HD.out.at_ 4 rfl).cell 1; have c32 : w14.cell? ⟨g3, 2, none⟩ = some (.slice o.A3 o.n3 o.c3) := (HD.out.at_ 4 rfl).cell 2; have c33 : w14.cell? ⟨g3, 3, none⟩ = some (.slice o.A4 o.n4 o.c4) := (HD.out.at_ 4 rfl).cell 3; have c40 : w14.cell? ⟨g4, 0, none⟩ = some (.slice T n c) := (HD.out.at_ 3 rfl).cell 0; go_wp2_with fail; clear c30 c31 c32 c33 c40; have HBd : Sl (Below w14.heap.size w14 w14.drew) := ⟨below_drewN (Below.refl _ _) 1⟩
        have HQ : Sl (∀ W, Below w14.heap.size w14 W → Lg w W [(g9, 33, #[.slice A2 na2 ca2, .slice B2 mb2 db2]), (g7, 33, #[.slice A na ca, .slice B mb db]), (g5, 35, #[.int .i64 pos, .slice r.A r.n r.c, .slice r.B r.m r.d]), (g4, 30, #[.slice T n c]), (g3, 27, #[.slice o.A1 o.n1 o.c1, .slice o.A2 o.n2 o.c2, .slice o.A3 o.n3 o.c3, .slice o.A4 o.n4 o.c4])]) := ⟨fun W hW => HD.out.below hW⟩; have HQ7 : Sl (∀ W, Below w14.heap.size w14 W → RgM W ⟨A, na, ca, X, B, mb, db, Y⟩) := ⟨fun W hW => HG.out.below hW⟩; have HQ9 : Sl (∀ W, Below w14.heap.size w14 W → RgM W ⟨A2, na2, ca2, X, B2, mb2, db2, Y⟩) := ⟨fun W hW => HG2.out.below hW⟩; have HNN : Sl (na ≤ 1000000 ∧ mb ≤ 1000000) := ⟨by have h1 := HG.out.s.1; have h2 := HG.out.c.1; have := HLN.out; simp only [] at h1 h2; omega⟩; obtain ⟨N1, N2⟩ := N; obtain ⟨K0, hK0⟩ : ∃ K0, tabE o L = K0 := ⟨_, rfl⟩; have HK0 : Sl _ := ⟨hK0⟩; clear hK0 HD HG HG2; have HCK : Sl (∀ W, Below w14.heap.size w14 W → Calls Tryz.prog 19 #[.agg #[.slice o.A1 o.n1 o.c1, .slice o.A2 o.n2 o.c2, .slice o.A3 o.n3 o.c3, .slice o.A4 o.n4 o.c4], .agg #[.slice T n c]] W fun e w' => e = .returned (.int .i64 K0) ∧ Below W.heap.size W w') := ⟨fun W hW => by rw [← HK0.out]; exact crCheck_any o T n c L W (HM.out.below (HQ.out W hW).bl) HF.out (HT.out.below (HQ.out W hW).bl)⟩; have HCR : Sl (∀ W, Below w14.heap.size w14 W → Calls Tryz.prog 20 #[.agg #[.slice o.A1 o.n1 o.c1, .slice o.A2 o.n2 o.c2, .slice o.A3 o.n3 o.c3, .slice o.A4 o.n4 o.c4], .agg #[.slice T n c]] W fun e w' => e = .returned (.int .i64 K0) ∧ Below W.heap.size W w') := ⟨fun W hW => by rw [← HK0.out]; exact r22Check_any o T n c L W (HM.out.below (HQ.out W hW).bl) HF.out (HT.out.below (HQ.out W hW).bl)⟩; have HCS : Sl (∀ W, Below w14.heap.size w14 W → Calls Tryz.prog 21 #[.agg #[.slice A na ca, .slice B mb db], .agg #[.slice A2 na2 ca2, .slice B2 mb2 db2]] W fun e w' => e = .returned (.bool true) ∧ Below W.heap.size W w') := ⟨fun W hW => sameR_any ⟨A, na, ca, X, B, mb, db, Y⟩ ⟨A2, na2, ca2, X, B2, mb2, db2, Y⟩ W (HQ7.out W hW) (HQ9.out W hW) rfl rfl HNN.out.1 HNN.out.2⟩; have hm := HBd.out; refine wp_region_held_drew (S := fun w' => Below w14.heap.size w14 w') (by kernel_rfl) hm (fun hHeld => ?_); clear hm; refine wpAnyH_load 0 27 (.tmp 3) rfl rfl rfl g3 0 rfl #[.slice o.A1 o.n1 o.c1, .slice o.A2 o.n2 o.c2, .slice o.A3 o.n3 o.c3, .slice o.A4 o.n4 o.c4] _ (fun w' h => by have := World.rangeAt_of_block ((HQ.out w' h).at_ 4 rfl) 0 4; exact this) Tryz.underlying27 rfl (by kernel_rfl) (by kernel_rfl) (by kernel_rfl) (by kernel_rfl) (fun _ _ _ h => h) (by assumption) ?_; simp only [Act.put, sS0, sS1, sS2]; refine wpAnyH_load 1 30 (.tmp 4) rfl rfl rfl g4 0 rfl #[.slice T n c] _ (fun w' h => by have := World.rangeAt_of_block ((HQ.out w' h).at_ 3 rfl) 0 1; exact this) Tryz.underlying30 rfl (by kernel_rfl) (by kernel_rfl) (by kernel_rfl) (by kernel_rfl) (fun _ _ _ h => h) (by assumption) ?_; simp only [Act.put, sS0, sS1, sS2]
        refine wpAnyH_load 3 27 (.tmp 3) rfl rfl rfl g3 0 rfl #[.slice o.A1 o.n1 o.c1, .slice o.A2 o.n2 o.c2, .slice o.A3 o.n3 o.c3, .slice o.A4 o.n4 o.c4] _ (fun w' h => by have := World.rangeAt_of_block ((HQ.out w' h).at_ 4 rfl) 0 4; exact this) Tryz.underlying27 rfl (by kernel_rfl) (by kernel_rfl) (by kernel_rfl) (by kernel_rfl) (fun _ _ _ h => h) (by assumption) ?_; simp only [Act.put, sS0, sS1, sS2]; refine wpAnyH_load 4 30 (.tmp 4) rfl rfl rfl g4 0 rfl #[.slice T n c] _ (fun w' h => by have := World.rangeAt_of_block ((HQ.out w' h).at_ 3 rfl) 0 1; exact this) Tryz.underlying30 rfl (by kernel_rfl) (by kernel_rfl) (by kernel_rfl) (by kernel_rfl) (fun _ _ _ h => h) (by assumption) ?_; simp only [Act.put, sS0, sS1, sS2]; refine wpAnyH_one 2 rfl (by kernel_rfl) rfl (fun K hK => ?_); go_simp; go_at_call 19
        (with_reducible refine (HCK.out _ HBd.out).mono ?_)
        rintro e w15 ⟨rfl, hb⟩; have H15 : Sl (Below w14.heap.size w14 w15) := ⟨HBd.out.trans (hb.mono HBd.out.size)⟩; have h15 := H15.out; clear hb HCK; refine hK.out _ _ H15.out (fun hHeld => ?_); clear hK K
        (try simp only [Act.put, sS0, sS1, sS2])
        refine wpAnyH_one 5 rfl (by kernel_rfl) rfl (fun K hK => ?_); go_simp; go_at_call 20
        (with_reducible refine (HCR.out _ H15.out).mono ?_)
        rintro e w16 ⟨rfl, hb⟩; have H16 : Sl (Below w14.heap.size w14 w16) := ⟨H15.out.trans (hb.mono H15.out.size)⟩; have h16 := H16.out; clear hb HCR h15; refine hK.out _ _ H16.out (fun hHeld => ?_); clear hK K
        (try simp only [Act.put, sS0, sS1, sS2])
        refine wpAnyH_pure 6 (v := .bool true) rfl (by kernel_rfl) (by kernel_rfl) (by kernel_rfl) (fun _ _ _ h => h) rfl (fun _ => by go_simp) (by assumption) ?_; simp only [Act.put, sS0, sS1, sS2]; refine wpAnyH_pure 7 (v := .bool true) rfl (by kernel_rfl) (by kernel_rfl) (by kernel_rfl) (fun _ _ _ h => h) rfl (fun _ => rfl) (by assumption) ?_; simp only [Act.put, sS0, sS1, sS2]; refine wpAnyH_loadg 8 33 (.tmp 7) rfl rfl (by rfl) g7 0 rfl #[.slice A na ca, .slice B mb db] _ (fun w' h => by have := World.rangeAt_of_block ((HQ.out w' h).at_ 1 rfl) 0 2; exact this) Tryz.underlying33 rfl (by kernel_rfl) (by kernel_rfl) (by kernel_rfl) (by kernel_rfl) (fun _ _ _ h => h) (by assumption) ?_; simp only [Act.put, sS0, sS1, sS2]; refine wpAnyH_loadg 9 33 (.tmp 9) rfl rfl (by rfl) g9 0 rfl #[.slice A2 na2 ca2, .slice B2 mb2 db2] _ (fun w' h => by have := World.rangeAt_of_block ((HQ.out w' h).at_ 0 rfl) 0 2; exact this) Tryz.underlying33 rfl (by kernel_rfl) (by kernel_rfl) (by kernel_rfl) (by kernel_rfl) (fun _ _ _ h => h) (by assumption) ?_; simp only [Act.put, sS0, sS1, sS2]; refine wpAnyH_onew 10 rfl (by kernel_rfl) (by rfl) (fun K hK => ?_); go_simp; go_at_call 21
        (with_reducible refine (HCS.out _ H16.out).mono ?_)
        rintro e w17 ⟨rfl, hb⟩; have H17 : Sl (Below w14.heap.size w14 w17) := ⟨H16.out.trans (hb.mono H16.out.size)⟩; have h17 := H17.out; clear hb HCS h16; refine hK.out _ _ H17.out (fun hHeld => ?_); clear hK K
        (try simp only [Act.put, sS0, sS1, sS2])
        refine wpAnyH_pure 11 (v := .bool true) rfl (by kernel_rfl) (by kernel_rfl) (by kernel_rfl) (fun _ _ _ h => h) rfl (fun _ => by go_simp) (by assumption) ?_; simp only [Act.put, sS0, sS1, sS2]; refine wpAnyH_pure 12 (v := .bool true) rfl (by kernel_rfl) (by kernel_rfl) (by kernel_rfl) (fun _ _ _ h => h) rfl (fun _ => rfl) (by assumption) ?_; simp only [Act.put, sS0, sS1, sS2]; refine wpAnyH_pureg 13 (v := .int .i64 E) rfl (by kernel_rfl) (by kernel_rfl) (by kernel_rfl) (fun _ _ _ h => h) (by rfl) (fun _ => rfl) (by assumption) ?_; simp only [Act.put, sS0, sS1, sS2]; refine wpAnyH_pureg 14 (v := .int .i64 E) rfl (by kernel_rfl) (by kernel_rfl) (by kernel_rfl) (fun _ _ _ h => h) (by rfl) (fun _ => rfl) (by assumption) ?_; simp only [Act.put, sS0, sS1, sS2]; refine wpAnyH_pureg 15 (v := .bool true) rfl (by kernel_rfl) (by kernel_rfl) (by kernel_rfl) (fun _ _ _ h => h) (by rfl) (fun _ => by go_simp) (by assumption) ?_; simp only [Act.put, sS0, sS1, sS2]; refine wpAnyH_pure 16 (v := .bool true) rfl (by kernel_rfl) (by kernel_rfl) (by kernel_rfl) (fun _ _ _ h => h) rfl (fun _ => by go_simp) (by assumption) ?_; simp only [Act.put, sS0, sS1, sS2]; refine wpAnyH_pure 17 (v := .bool true) rfl (by kernel_rfl) (by kernel_rfl) (by kernel_rfl) (fun _ _ _ h => h) rfl (fun _ => rfl) (by assumption) ?_; simp only [Act.put, sS0, sS1, sS2]; refine wpAnyH_pureg 18 (v := .int .i64 N1) rfl (by kernel_rfl) (by kernel_rfl) (by kernel_rfl) (fun _ _ _ h => h) (by rfl) (fun _ => rfl) (by assumption) ?_; simp only [Act.put, sS0, sS1, sS2]; refine wpAnyH_pureg 19 (v := .int .i64 N1) rfl (by kernel_rfl) (by kernel_rfl) (by kernel_rfl) (fun _ _ _ h => h) (by rfl) (fun _ => rfl) (by assumption) ?_; simp only [Act.put, sS0, sS1, sS2]; refine wpAnyH_pureg 20 (v := .bool true) rfl (by kernel_rfl) (by kernel_rfl) (by kernel_rfl) (fun _ _ _ h => h) (by rfl) (fun _ => by go_simp) (by assumption) ?_; simp only [Act.put, sS0, sS1, sS2]; refine wpAnyH_pure 21 (v := .bool true) rfl (by kernel_rfl) (by kernel_rfl) (by kernel_rfl) (fun _ _ _ h => h) rfl (fun _ => by go_simp) (by assumption) ?_; simp only [Act.put, sS0, sS1, sS2]; refine wpAnyH_pure 22 (v := .bool true) rfl (by kernel_rfl) (by kernel_rfl) (by kernel_rfl) (fun _ _ _ h => h) rfl (fun _ => rfl) (by assumption) ?_; simp only [Act.put, sS0, sS1, sS2]; refine wpAnyH_pureg 23 (v := .int .i64 N2) rfl (by kernel_rfl) (by kernel_rfl) (by kernel_rfl) (fun _ _ _ h => h) (by rfl) (fun _ => rfl) (by assumption) ?_; simp only [Act.put, sS0, sS1, sS2]; refine wpAnyH_pureg 24 (v := .int .i64 N2) rfl (by kernel_rfl) (by kernel_rfl) (by kernel_rfl) (fun _ _ _ h => h) (by rfl) (fun _ => rfl) (by assumption) ?_; simp only [Act.put, sS0, sS1, sS2]; refine wpAnyH_pureg 25 (v := .bool true) rfl (by kernel_rfl) (by kernel_rfl) (by kernel_rfl) (fun _ _ _ h => h) (by rfl) (fun _ => by go_simp) (by assumption) ?_; simp only [Act.put, sS0, sS1, sS2]
        refine wpAnyH_pure 26 (v := .bool true) rfl (by kernel_rfl) (by kernel_rfl) (by kernel_rfl) (fun _ _ _ h => h) rfl (fun _ => by go_simp) (by assumption) ?_; simp only [Act.put, sS0, sS1, sS2]; refine wpAnyH_pure 27 (v := .bool true) rfl (by kernel_rfl) (by kernel_rfl) (by kernel_rfl) (fun _ _ _ h => h) rfl (fun _ => rfl) (by assumption) ?_; simp only [Act.put, sS0, sS1, sS2]; refine wpAnyH_onew 28 rfl (by kernel_rfl) (by rfl) (fun K hK => ?_); go_simp; go_at_call 14
        (with_reducible refine (shown_any _).mono ?_)
        rintro e w18 ⟨rfl, hb⟩; have H18 : Sl (Below w14.heap.size w14 w18) := ⟨H17.out.trans (hb.mono H17.out.size)⟩; have h18 := H18.out; clear hb h17; refine hK.out _ _ H18.out (fun hHeld => ?_); clear hK K
        (try simp only [Act.put, sS0, sS1, sS2])
        refine wpAnyH_pure 29 (v := .bool true) rfl (by kernel_rfl) (by kernel_rfl) (by kernel_rfl) (fun _ _ _ h => h) rfl (fun _ => by go_simp) (by assumption) ?_; simp only [Act.put, sS0, sS1, sS2]; refine wpAnyH_pure 30 (v := .bool true) rfl (by kernel_rfl) (by kernel_rfl) (by kernel_rfl) (fun _ _ _ h => h) rfl (fun _ => by go_simp) (by assumption) ?_; simp only [Act.put, sS0, sS1, sS2]; refine wpAnyH_done (by kernel_rfl) ?_ _; clear hHeld; go_wp2_with fail; go_ret; exact ⟨rfl, (HQ.out _ H18.out).bl⟩
end Go.Proofs.YtbaojmfkjpnfhaaGreatDoor
