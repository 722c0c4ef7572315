/- The example's specification (chapter 10) and table (chapter 22). (Printed by gencza.py.) -/
import Derived.Test.YtabkpbbjodfolaaGreatDoorZvU
import Derived.Test.YtabkpbbjodfolaaGreatDoorZvA
namespace Go.Proofs.YtabkpbbjodfolaaGreatDoor
set_option linter.unusedSimpArgs false
open Go.RowKit
set_option linter.unusedVariables false
theorem wpList_made {P : Program} {ops : Array Oper} {Q : Exit → Act → World → Prop} {op : Oper} {rest : List Oper} {a : Act} {w : World} (k : Tmp) (hdst : op.dst = some k) (hgd : op.guard = none) (ty : TypeId) (n : Nat) (cells : Array Value)
    (hr : ∀ w : World, (execOp a.eval op).run P w = .ok (.value (.slice (some ⟨w.heap.size, 0, none⟩) n n)) (w.alloc (.cells cells ty)))
    (h : ∀ w' g, g = w.heap.size → Mv w.heap.size w w' → w'.heap.size = g + 1 → Blk w' g ty cells → wpList P ops Q rest (a.put op.dst (.slice (some ⟨g, 0, none⟩) n n)) w') : wpList P ops Q (op :: rest) a w := by
  refine wpList_plain hgd fun K hK => ?_
  unfold Oper.wp; rw [hr w, Oper.upon_value]; exact hK _ _ (h _ _ rfl (Mv.of_below ((Below.refl _ _).alloc (Nat.le_refl _) _)) (by simp) (Blk.new w ty cells))
theorem RowG.of_blk {α : Type} {w : World} {g : Nat} {t : TypeId} {cs : Array Value} {n sz : Nat} {f : α → List Value} {l : List α} (h : Blk w g t cs) (hf : ∀ p, (f p).length = sz) (hl : l.length = n) (hc : cs.toList = l.flatMap f) : RowG w (some ⟨g, 0, none⟩) n sz f l := by
  refine ⟨hl, ⟨by rw [flG_len f sz hf, hl], fun _ => ⟨_, rfl, h.lt, fun j u hu => ?_⟩⟩, hf⟩; rw [← hc] at hu; rw [show (⟨g, 0, none⟩ : Addr).add j = ⟨g, j, none⟩ by unfold Addr.add; split <;> simp_all]; have := h.cell j; rw [this, ← Array.getElem?_toList]; exact hu
def exO (A1 A2 A3 A4 P1 P2 P3 : Option Addr) : SpO := ⟨A1, 1, 1, [⟨⟨#[103, 114, 101, 97, 116]⟩, 36, 60⟩], A2, 2, 2, [⟨⟨#[102, 108, 117, 116, 101]⟩, 2, 8, 1, 36, 37⟩, ⟨⟨#[114, 101, 101, 100]⟩, 4, 8, 1, 36, 13⟩],
  A3, 3, 3, [⟨⟨#[102, 108, 117, 116, 101, 56]⟩, 0, 8, 1, P1, 1, 1, [⟨0, 0, 36, 60⟩]⟩, ⟨⟨#[102, 108, 117, 116, 101, 52]⟩, 0, 4, 1, P2, 1, 1, [⟨0, 12, 36, 60⟩]⟩, ⟨⟨#[98, 97, 115, 115]⟩, 0, 8, 1, P3, 1, 1, [⟨1, 0, 36, 48⟩]⟩], A4, 1, 1, [⟨⟨#[111, 99, 116, 97, 118, 101]⟩, 0, 0, 12, 0, false⟩]⟩
instance decI64 (z : Int) : Decidable (i64 z) := by unfold i64; infer_instance
theorem exO_F (A1 A2 A3 A4 P1 P2 P3 : Option Addr) : SpF (exO A1 A2 A3 A4 P1 P2 P3) := by
  have m1 : (1 : Nat) ≤ maxLen := (by decide); have m2 : (2 : Nat) ≤ maxLen := (by decide); have m3 : (3 : Nat) ≤ maxLen := (by decide); constructor
  · exact ⟨⟨Nat.le_refl _, m1⟩, ⟨Nat.le_refl _, m2⟩, ⟨Nat.le_refl _, m3⟩, ⟨Nat.le_refl _, m1⟩⟩
  · intro x hx; simp only [exO, List.mem_cons, List.not_mem_nil, or_false] at hx; subst hx; exact ⟨by decide, by decide, by decide⟩
  · intro x hx; simp only [exO, List.mem_cons, List.not_mem_nil, or_false] at hx; rcases hx with rfl | rfl <;> exact ⟨by decide, by decide, by decide, by decide, by decide, by decide⟩
  · intro x hx; simp only [exO, List.mem_cons, List.not_mem_nil, or_false] at hx; rcases hx with rfl | rfl | rfl <;> dsimp only <;> refine ⟨by decide, by decide, by decide, by decide, ⟨by decide, m1⟩, fun p hp => ?_⟩ <;> simp only [List.mem_cons, List.not_mem_nil, or_false] at hp <;> subst hp <;> exact ⟨by decide, by decide, by decide, by decide⟩
  · intro x hx; simp only [exO, List.mem_cons, List.not_mem_nil, or_false] at hx; subst hx; exact ⟨by decide, by decide, by decide, by decide, by decide⟩
theorem alloc_spec (w : World) : (Instr.alloc 33 true (.tuple #[])).run Tryz.prog w = .ok (.pointer (some ⟨w.heap.size, 0, none⟩)) (w.alloc (.cells #[.slice none 0 0, .slice none 0 0, .slice none 0 0, .slice none 0 0] 33)) := by kernel_rfl
theorem alloc_feet (w : World) : (Instr.alloc 87 true (.tuple #[])).run Tryz.prog w = .ok (.pointer (some ⟨w.heap.size, 0, none⟩)) (w.alloc (.cells #[.int .i64 0, .int .i64 0] 87)) := by kernel_rfl
set_option maxHeartbeats 6400000 in
set_option maxRecDepth 100000 in
theorem example_any (w : World) : Calls Tryz.prog 10 #[] w fun e w' =>
    (∃ A1 A2 A3 A4 P1 P2 P3, e = .returned (.agg #[.slice A1 1 1, .slice A2 2 2, .slice A3 3 3, .slice A4 1 1]) ∧ SpM w' (exO A1 A2 A3 A4 P1 P2 P3)) ∧ Below w.heap.size w w' := by
  have HD : Sl (Lg w w []) := ⟨Lg.nil w⟩; go_enter Tryz.func10, Tryz.ntmps10
  go_wp2_with ((with_reducible show wpList _ _ _ _ _ _); first
    | (refine wpList_alloc_new 0 rfl rfl 33 rfl #[.slice none 0 0, .slice none 0 0, .slice none 0 0, .slice none 0 0] alloc_spec ?_; rintro w1 g0 zg zm zs zb; replace HD : Sl _ := ⟨HD.out.new zg zm zb⟩; clear zg zm zs zb)
    | (refine wpList_alloc_new 1 rfl rfl 87 rfl #[.int .i64 0, .int .i64 0] alloc_feet ?_; rintro w2 g1 zg zm zs zb; replace HD : Sl _ := ⟨HD.out.new zg zm zb⟩; clear zg zm zs zb)
    | (refine wpList_alloc_new 2 rfl rfl 87 rfl #[.int .i64 0, .int .i64 0] alloc_feet ?_; rintro w3 g2 zg zm zs zb; replace HD : Sl _ := ⟨HD.out.new zg zm zb⟩; clear zg zm zs zb)
    | (refine wpList_store_whole rfl 87 (.tmp 1) (.tmp 3) rfl g1 #[.int .i64 8, .int .i64 1] rfl rfl 87 _ (HD.out.at_ 1 rfl) rfl (by kernel_rfl) (by simp [Value.oneCell']) ?_; rintro w4 zm zs zb; replace HD : Sl _ := ⟨HD.out.set 1 rfl zm zb⟩; clear zm zs zb)
    | (refine wpList_store_whole rfl 87 (.tmp 2) (.tmp 4) rfl g2 #[.int .i64 4, .int .i64 1] rfl rfl 87 _ (HD.out.at_ 0 rfl) rfl (by kernel_rfl) (by simp [Value.oneCell']) ?_; rintro w5 zm zs zb; replace HD : Sl _ := ⟨HD.out.set 0 rfl zm zb⟩; clear zm zs zb)
    | (refine wpList_made 6 rfl rfl 98 1 #[.string ⟨#[103, 114, 101, 97, 116]⟩, .int .i64 36, .int .i64 60] (fun _ => by kernel_rfl) ?_; rintro w6 gd zg zm zs zb; replace HD : Sl _ := ⟨HD.out.new zg zm zb⟩; clear zg zm zs zb)
    | (refine wpList_load_whole rfl 87 (.tmp 1) rfl g1 rfl 87 _ _ (HD.out.at_ 2 rfl) Tryz.underlying87 rfl (by kernel_rfl) ?_)
    | (refine wpList_load_whole rfl 87 (.tmp 1) rfl g1 rfl 87 _ _ (HD.out.at_ 2 rfl) Tryz.underlying87 rfl (by kernel_rfl) ?_)
    | (refine wpList_made 11 rfl rfl 100 2 #[.string ⟨#[102, 108, 117, 116, 101]⟩, .int .i64 2, .int .i64 8, .int .i64 1, .int .i64 36, .int .i64 37, .string ⟨#[114, 101, 101, 100]⟩, .int .i64 4, .int .i64 8, .int .i64 1, .int .i64 36, .int .i64 13] (fun _ => by kernel_rfl) ?_; rintro w7 gr zg zm zs zb; replace HD : Sl _ := ⟨HD.out.new zg zm zb⟩; clear zg zm zs zb)
    | (refine wpList_load_whole rfl 87 (.tmp 1) rfl g1 rfl 87 _ _ (HD.out.at_ 3 rfl) Tryz.underlying87 rfl (by kernel_rfl) ?_)
    | (refine wpList_made 14 rfl rfl 102 1 #[.int .i64 0, .int .i64 0, .int .i64 36, .int .i64 60] (fun _ => by kernel_rfl) ?_; rintro w8 p1 zg zm zs zb; replace HD : Sl _ := ⟨HD.out.new zg zm zb⟩; clear zg zm zs zb)
    | (refine wpList_load_whole rfl 87 (.tmp 2) rfl g2 rfl 87 _ _ (HD.out.at_ 3 rfl) Tryz.underlying87 rfl (by kernel_rfl) ?_)
    | (refine wpList_made 18 rfl rfl 102 1 #[.int .i64 0, .int .i64 12, .int .i64 36, .int .i64 60] (fun _ => by kernel_rfl) ?_; rintro w9 p2 zg zm zs zb; replace HD : Sl _ := ⟨HD.out.new zg zm zb⟩; clear zg zm zs zb)
    | (refine wpList_load_whole rfl 87 (.tmp 1) rfl g1 rfl 87 _ _ (HD.out.at_ 5 rfl) Tryz.underlying87 rfl (by kernel_rfl) ?_)
    | (refine wpList_made 22 rfl rfl 102 1 #[.int .i64 1, .int .i64 0, .int .i64 36, .int .i64 48] (fun _ => by kernel_rfl) ?_; rintro w10 p3 zg zm zs zb; replace HD : Sl _ := ⟨HD.out.new zg zm zb⟩; clear zg zm zs zb)
    | (refine wpList_made 24 rfl rfl 90 3 #[.string ⟨#[102, 108, 117, 116, 101, 56]⟩, .int .i64 0, .int .i64 8, .int .i64 1, .slice (some ⟨p1, 0, none⟩) 1 1, .string ⟨#[102, 108, 117, 116, 101, 52]⟩, .int .i64 0, .int .i64 4, .int .i64 1, .slice (some ⟨p2, 0, none⟩) 1 1, .string ⟨#[98, 97, 115, 115]⟩, .int .i64 0, .int .i64 8, .int .i64 1, .slice (some ⟨p3, 0, none⟩) 1 1] (fun _ => by kernel_rfl) ?_; rintro w11 gs zg zm zs zb; replace HD : Sl _ := ⟨HD.out.new zg zm zb⟩; clear zg zm zs zb)
    | (refine wpList_made 26 rfl rfl 93 1 #[.string ⟨#[111, 99, 116, 97, 118, 101]⟩, .int .i64 0, .int .i64 0, .int .i64 12, .int .i64 0, .bool false] (fun _ => by kernel_rfl) ?_; rintro w12 gc zg zm zs zb; replace HD : Sl _ := ⟨HD.out.new zg zm zb⟩; clear zg zm zs zb)
    | (refine wpList_store_whole rfl 33 (.tmp 0) (.tmp 27) rfl g0 #[.slice (some ⟨gd, 0, none⟩) 1 1, .slice (some ⟨gr, 0, none⟩) 2 2, .slice (some ⟨gs, 0, none⟩) 3 3, .slice (some ⟨gc, 0, none⟩) 1 1] rfl rfl 33 _ (HD.out.at_ 9 rfl) rfl (by kernel_rfl) (by simp [Value.oneCell']) ?_; rintro w13 zm zs zb; replace HD : Sl _ := ⟨HD.out.set 9 rfl zm zb⟩; clear zm zs zb))
  refine bodyPost_ret (results_row1c rfl _ _ g0 _ _ _ rfl (HD.out.at_ 9 rfl) Tryz.underlying33 rfl (by kernel_rfl)) rfl ?_; refine ⟨⟨some ⟨gd, 0, none⟩, some ⟨gr, 0, none⟩, some ⟨gs, 0, none⟩, some ⟨gc, 0, none⟩, some ⟨p1, 0, none⟩, some ⟨p2, 0, none⟩, some ⟨p3, 0, none⟩, rfl, ?_⟩, HD.out.bl⟩; refine ⟨.of_blk (HD.out.at_ 6 rfl) (fun _ => rfl) rfl rfl, .of_blk (HD.out.at_ 5 rfl) (fun _ => rfl) rfl rfl, .of_blk (HD.out.at_ 1 rfl) (fun _ => rfl) rfl rfl, .of_blk (HD.out.at_ 0 rfl) (fun _ => rfl) rfl rfl, fun y hy => ?_⟩; simp only [exO, List.mem_cons, List.not_mem_nil, or_false] at hy; rcases hy with rfl | rfl | rfl
  · exact .of_blk (HD.out.at_ 4 rfl) (fun _ => rfl) rfl rfl
  · exact .of_blk (HD.out.at_ 3 rfl) (fun _ => rfl) rfl rfl
  · exact .of_blk (HD.out.at_ 2 rfl) (fun _ => rfl) rfl rfl
def tbL (a b c d : Option Addr) : List RgV := [⟨a, 1, 1, [0], none, 0, 0, []⟩, ⟨b, 1, 1, [2], c, 1, 1, [0]⟩, ⟨d, 1, 1, [1], none, 0, 0, []⟩]
theorem II.of_blk {w : World} {g n : Nat} {t : TypeId} {cs : Array Value} {l : List Int} (h : Blk w g t cs) (hl : l.length = n) (hc : cs.toList = l.map iv) : II w (some ⟨g, 0, none⟩) n l := by
  refine ⟨hl, by rw [List.length_map, hl, Nat.mul_one], fun _ => ⟨_, rfl, h.lt, fun j u hu => ?_⟩⟩; rw [← hc] at hu; rw [show (⟨g, 0, none⟩ : Addr).add j = ⟨g, j, none⟩ by unfold Addr.add; split <;> simp_all]; have := h.cell j; rw [this, ← Array.getElem?_toList]; exact hu
set_option maxHeartbeats 6400000 in
set_option maxRecDepth 100000 in
theorem table_any (w : World) : Calls Tryz.prog 18 #[] w fun e w' =>
    (∃ T a b c d, e = .returned (.agg #[.slice T 3 3]) ∧ TbM w' T 3 3 (tbL a b c d)) ∧ Below w.heap.size w w' := by
  have HD : Sl (Lg w w []) := ⟨Lg.nil w⟩; go_enter Tryz.func18, Tryz.ntmps18
  go_wp2_with ((with_reducible show wpList _ _ _ _ _ _); first
    | (refine wpList_alloc_new 0 rfl rfl 53 rfl #[.slice none 0 0] alloc_cre ?_; rintro w1 g0 zg zm zs zb; replace HD : Sl _ := ⟨HD.out.new zg zm zb⟩; clear zg zm zs zb)
    | (refine wpList_made 1 rfl rfl 3 1 #[.int .i64 0] (fun _ => by kernel_rfl) ?_; rintro w2 a zg zm zs zb; replace HD : Sl _ := ⟨HD.out.new zg zm zb⟩; clear zg zm zs zb)
    | (refine wpList_made 3 rfl rfl 3 1 #[.int .i64 2] (fun _ => by kernel_rfl) ?_; rintro w3 b zg zm zs zb; replace HD : Sl _ := ⟨HD.out.new zg zm zb⟩; clear zg zm zs zb)
    | (refine wpList_made 4 rfl rfl 3 1 #[.int .i64 0] (fun _ => by kernel_rfl) ?_; rintro w4 c zg zm zs zb; replace HD : Sl _ := ⟨HD.out.new zg zm zb⟩; clear zg zm zs zb)
    | (refine wpList_made 6 rfl rfl 3 1 #[.int .i64 1] (fun _ => by kernel_rfl) ?_; rintro w5 d zg zm zs zb; replace HD : Sl _ := ⟨HD.out.new zg zm zb⟩; clear zg zm zs zb)
    | (refine wpList_made 8 rfl rfl 45 3 #[.slice (some ⟨a, 0, none⟩) 1 1, .slice none 0 0, .slice (some ⟨b, 0, none⟩) 1 1, .slice (some ⟨c, 0, none⟩) 1 1, .slice (some ⟨d, 0, none⟩) 1 1, .slice none 0 0] (fun _ => by kernel_rfl) ?_; rintro w6 gt zg zm zs zb; replace HD : Sl _ := ⟨HD.out.new zg zm zb⟩; clear zg zm zs zb)
    | (refine wpList_store_whole rfl 53 (.tmp 0) (.tmp 9) rfl g0 #[.slice (some ⟨gt, 0, none⟩) 3 3] rfl rfl 53 _ (HD.out.at_ 5 rfl) rfl (by kernel_rfl) (by simp [Value.oneCell']) ?_; rintro w7 zm zs zb; replace HD : Sl _ := ⟨HD.out.set 5 rfl zm zb⟩; clear zm zs zb))
  refine bodyPost_ret (results_row1c rfl _ _ g0 _ _ _ rfl (HD.out.at_ 5 rfl) Tryz.underlying53 rfl (by kernel_rfl)) rfl ?_; refine ⟨⟨some ⟨gt, 0, none⟩, some ⟨a, 0, none⟩, some ⟨b, 0, none⟩, some ⟨c, 0, none⟩, some ⟨d, 0, none⟩, rfl, ?_⟩, HD.out.bl⟩; refine ⟨.of_blk (HD.out.at_ 0 rfl) (fun _ => rfl) rfl rfl, ⟨Nat.le_refl _, by decide⟩, fun y hy => ?_⟩; simp only [tbL, List.mem_cons, List.not_mem_nil, or_false] at hy; rcases hy with rfl | rfl | rfl
  · exact ⟨.of_blk (HD.out.at_ 4 rfl) rfl rfl, II.nil _ _, ⟨Nat.le_refl _, by show 1 ≤ maxLen; decide⟩, ⟨Nat.le_refl _, Nat.zero_le _⟩⟩
  · exact ⟨.of_blk (HD.out.at_ 3 rfl) rfl rfl, .of_blk (HD.out.at_ 2 rfl) rfl rfl, ⟨Nat.le_refl _, by show 1 ≤ maxLen; decide⟩, ⟨Nat.le_refl _, by show 1 ≤ maxLen; decide⟩⟩
  · exact ⟨.of_blk (HD.out.at_ 1 rfl) rfl rfl, II.nil _ _, ⟨Nat.le_refl _, by show 1 ≤ maxLen; decide⟩, ⟨Nat.le_refl _, Nat.zero_le _⟩⟩
end Go.Proofs.YtabkpbbjodfolaaGreatDoor
namespace Go.Proofs.YtabkpbbjodfolaaGreatDoor
set_option linter.unusedSimpArgs false
set_option linter.unusedVariables false
section
variable {α : Type}
def swp (d : Nat → α) (i j : Nat) (k : Nat) : α := if k = i then d j else if k = j then d i else d k
inductive Pm (a b : Nat) (d : Nat → α) : (Nat → α) → Prop
  | refl : Pm a b d d
  | step {e : Nat → α} (i j : Nat) : Pm a b d e → a ≤ i → i < b → a ≤ j → j < b → Pm a b d (swp e i j)
theorem Pm.trans {a b : Nat} {d e f : Nat → α} (h : Pm a b d e) (g : Pm a b e f) : Pm a b d f := by
  induction g with
  | refl => exact h
  | step i j _ h1 h2 h3 h4 ih => exact .step i j ih h1 h2 h3 h4
theorem Pm.mono {a b a' b' : Nat} {d e : Nat → α} (h : Pm a b d e) (ha : a' ≤ a) (hb : b ≤ b') : Pm a' b' d e := by
  induction h with
  | refl => exact .refl
  | step i j _ h1 h2 h3 h4 ih => exact .step i j ih (by omega) (by omega) (by omega) (by omega)
theorem Pm.far {a b : Nat} {d e : Nat → α} (h : Pm a b d e) {k : Nat} (hk : k < a ∨ b ≤ k) : e k = d k := by
  induction h with
  | refl => rfl
  | step i j _ h1 h2 h3 h4 ih => unfold swp; rw [if_neg (by omega), if_neg (by omega), ih]
theorem Pm.all {a b : Nat} {d e : Nat → α} (h : Pm a b d e) {P : α → Prop} (hp : ∀ k, a ≤ k → k < b → P (d k)) : ∀ k, a ≤ k → k < b → P (e k) := by
  induction h with
  | refl => exact hp
  | step i j _ h1 h2 h3 h4 ih =>
    intro k k1 k2; unfold swp
    split
    · exact ih j h3 h4
    · split
      · exact ih i h1 h2
      · exact ih k k1 k2
def Srt (κ : α → Int) (d : Nat → α) (a b : Nat) : Prop := ∀ i j, a ≤ i → i ≤ j → j < b → κ (d i) ≤ κ (d j)
theorem Srt.sub {κ : α → Int} {d : Nat → α} {a b a' b' : Nat} (h : Srt κ d a b) (ha : a ≤ a') (hb : b' ≤ b) : Srt κ d a' b' := fun i j h1 h2 h3 => h i j (by omega) h2 (by omega)
theorem Srt.congr {κ : α → Int} {d e : Nat → α} {a b : Nat} (h : Srt κ d a b) (he : ∀ k, a ≤ k → k < b → e k = d k) : Srt κ e a b := fun i j h1 h2 h3 => by
  rw [he i h1 (by omega), he j (by omega) h3]; exact h i j h1 h2 h3
theorem Srt.one {κ : α → Int} {d : Nat → α} {a b : Nat} (h : b ≤ a + 1) : Srt κ d a b := fun i j h1 h2 h3 => by rw [show j = i by omega]; exact Int.le_refl _
theorem Srt.join {κ : α → Int} {d : Nat → α} {a m b : Nat} (h1 : Srt κ d a m) (h2 : Srt κ d m b) (h : ∀ i j, a ≤ i → i < m → m ≤ j → j < b → κ (d i) ≤ κ (d j)) : Srt κ d a b := fun i j i1 ij j1 => by
  rcases Nat.lt_or_ge j m with hj | hj
  · exact h1 i j i1 ij hj
  · rcases Nat.lt_or_ge i m with hi | hi
    · exact h i j i1 hi hj j1
    · exact h2 i j hi ij j1
structure Hole (κ : α → Int) (d : Nat → α) (a i j : Nat) : Prop where
  rest : ∀ p q, a ≤ p → p ≤ q → q ≤ i → p ≠ j → q ≠ j → κ (d p) ≤ κ (d q)
  low : ∀ q, j < q → q ≤ i → κ (d j) ≤ κ (d q)
theorem Hole.start {κ : α → Int} {d : Nat → α} {a i : Nat} (h : Srt κ d a i) : Hole κ d a i i := ⟨fun p q h1 h2 h3 h4 h5 => h p q h1 h2 (by omega), fun q h1 h2 => by omega⟩
theorem Hole.move {κ : α → Int} {d : Nat → α} {a i j : Nat} (h : Hole κ d a i (j + 1)) (hj : a ≤ j) (hi : j + 1 ≤ i) (hl : κ (d (j + 1)) < κ (d j)) : Hole κ (swp d (j + 1) j) a i j := by
  have e : ∀ k, swp d (j + 1) j k = if k = j + 1 then d j else if k = j then d (j + 1) else d k := fun k => rfl
  constructor
  · intro p q h1 h2 h3 h4 h5; rw [e, e]
    by_cases hp : p = j + 1
    · rw [if_pos hp]
      by_cases hq : q = j + 1
      · rw [if_pos hq]; exact Int.le_refl _
      · rw [if_neg hq, if_neg h5]; exact h.rest j q hj (by omega) h3 (by omega) hq
    · rw [if_neg hp, if_neg h4]
      by_cases hq : q = j + 1
      · rw [if_pos hq]; exact h.rest p j h1 (by omega) (by omega) hp (by omega)
      · rw [if_neg hq, if_neg h5]; exact h.rest p q h1 h2 h3 hp hq
  · intro q h1 h2; rw [e, e, if_neg (by omega), if_pos rfl]
    by_cases hq : q = j + 1
    · rw [if_pos hq]; omega
    · rw [if_neg hq, if_neg (by omega)]; exact h.low q (by omega) h2
theorem Hole.done {κ : α → Int} {d : Nat → α} {a i j : Nat} (h : Hole κ d a i j) (hj : j = a ∨ (∃ k, j = k + 1 ∧ a ≤ k ∧ ¬ κ (d j) < κ (d k))) : Srt κ d a (i + 1) := by
  intro p q h1 h2 h3
  by_cases hp : p = j
  · subst hp
    by_cases hq : q = p
    · rw [hq]; exact Int.le_refl _
    · exact h.low q (by omega) (by omega)
  · by_cases hq : q = j
    · subst hq; rcases hj with hj | ⟨k, hk, hak, hl⟩
      · omega
      · have := h.rest p k h1 (by omega) (by omega) hp (by omega); omega
    · exact h.rest p q h1 h2 (by omega) hp hq
def Bks (κ : α → Int) (d : Nat → α) (n s lo : Nat) : Prop := ∀ v, lo + v * s < n → Srt κ d (lo + v * s) (min (lo + v * s + s) n)
theorem Bks.next {κ : α → Int} {d : Nat → α} {n s lo : Nat} (h : Bks κ d n s lo) : Bks κ d n s (lo + s) := fun v hv => by
  have := h (v + 1) (by rw [Nat.succ_mul]; omega); rw [Nat.succ_mul] at this; rw [show lo + s + v * s = lo + (v * s + s) by omega]; exact this
theorem Bks.congr {κ : α → Int} {d e : Nat → α} {n s lo : Nat} (h : Bks κ d n s lo) (he : ∀ k, lo ≤ k → k < n → e k = d k) : Bks κ e n s lo := fun v hv => (h v hv).congr fun k k1 k2 => he k (by omega) (by omega)
theorem swp_perm (d : Nat → α) {n i j : Nat} (hi : i < n) (hj : j < n) : ((List.range n).map (swp d i j)).Perm ((List.range n).map d) := by
  rcases Nat.lt_trichotomy i j with h | h | h
  · exact key d h hj
  · subst h
    have : swp d i i = d := by
      funext k; unfold swp
      split
      · next h => rw [h]
      · rfl
    rw [this]
  · have : swp d i j = swp d j i := by
      funext k; unfold swp
      by_cases h1 : k = i
      · rw [if_pos h1]
        by_cases h2 : k = j
        · omega
        · rw [if_neg h2, if_pos h1]
      · rw [if_neg h1, if_neg h1]
    rw [this]; exact key d h hi
where
  key (d : Nat → α) {n i j : Nat} (h : i < j) (hj : j < n) : ((List.range n).map (swp d i j)).Perm ((List.range n).map d) := by
    have hr : List.range n = List.range' 0 i ++ (i :: (List.range' (i + 1) (j - i - 1) ++ (j :: List.range' (j + 1) (n - j - 1)))) := by
      rw [← List.range'_succ, show n - j - 1 + 1 = n - j by omega, show List.range' j (n - j) = List.range' (i + 1 + (j - i - 1)) (n - j) by rw [show i + 1 + (j - i - 1) = j by omega], List.range'_append_1, ← List.range'_succ,
        show List.range' i (j - i - 1 + (n - j) + 1) = List.range' (0 + i) (j - i - 1 + (n - j) + 1) by rw [Nat.zero_add], List.range'_append_1, show i + (j - i - 1 + (n - j) + 1) = n by omega, List.range_eq_range']
    rw [hr]; simp only [List.map_append, List.map_cons]; have far : ∀ k, k ≠ i → k ≠ j → swp d i j k = d k := fun k h1 h2 => by unfold swp; rw [if_neg h1, if_neg h2]
    have m1 : (List.range' 0 i).map (swp d i j) = (List.range' 0 i).map d := List.map_congr_left fun k hk => far k (by have := (List.mem_range'_1.1 hk).2; omega) (by have := (List.mem_range'_1.1 hk).2; omega)
    have m2 : (List.range' (i + 1) (j - i - 1)).map (swp d i j) = (List.range' (i + 1) (j - i - 1)).map d := List.map_congr_left fun k hk => far k (by have := (List.mem_range'_1.1 hk).1; omega) (by have := (List.mem_range'_1.1 hk).2; omega)
    have m3 : (List.range' (j + 1) (n - j - 1)).map (swp d i j) = (List.range' (j + 1) (n - j - 1)).map d := List.map_congr_left fun k hk => far k (by have := (List.mem_range'_1.1 hk).1; omega) (by have := (List.mem_range'_1.1 hk).1; omega)
    rw [m1, m2, m3, show swp d i j i = d j by unfold swp; rw [if_pos rfl], show swp d i j j = d i by unfold swp; rw [if_neg (by omega), if_pos rfl]]; refine List.Perm.append_left _ ?_; exact (List.perm_middle.cons _).trans ((List.Perm.swap _ _ _).trans (List.perm_middle.symm.cons _))
theorem Pm.perm {a n : Nat} {d e : Nat → α} (h : Pm a n d e) : ((List.range n).map e).Perm ((List.range n).map d) := by
  induction h with
  | refl => exact List.Perm.refl _
  | step i j _ h1 h2 h3 h4 ih => exact (swp_perm _ h2 h4).trans ih
end
end Go.Proofs.YtabkpbbjodfolaaGreatDoor
