/- The laws' own: Far, far, wide, within. (Printed by gengrc.py.) -/
import Derived.Test.YtabkpbbjodfolaaGreatDoorZvDa
import Derived.Test.YtabkpbbjodfolaaGreatDoorZvQa
import Derived.Test.YtabkpbbjodfolaaGreatDoorZvJa
namespace Go.Proofs.YtabkpbbjodfolaaGreatDoor
set_option linter.unusedSimpArgs false
open Go.RowKit
set_option linter.unusedVariables false
def BoolR (e : Ending) : Prop := ∃ b : Bool, e = .returned (.bool b)
def wideC (r : RgV) : Bool := decide (100 < r.n) || decide (100 < r.m)
set_option maxHeartbeats 6400000 in
set_option maxRecDepth 100000 in
theorem wideC_any (r : RgV) (w : World) : Calls Tryz.prog 82 #[.agg #[.slice r.A r.n r.c, .slice r.B r.m r.d]] w fun e w' => e = .returned (.bool (wideC r)) ∧ Below w.heap.size w w' := by
  have HD : Sl (Lg w w []) := ⟨Lg.nil w⟩; go_enter Tryz.func82, Tryz.ntmps82
  go_upto_region 1 with ((with_reducible show wpList _ _ _ _ _ _); first
    | (refine wpList_box_new 1 rfl rfl 45 (.tmp 0) rfl #[.slice r.A r.n r.c, .slice r.B r.m r.d] rfl (fun _ => by kernel_rfl) ?_; rintro w1 g1 zg zm zs zb; replace HD : Sl _ := ⟨HD.out.new zg zm zb⟩; clear zg zm zs zb))
  have c0 := (HD.out.at_ 0 rfl).cell 0; have c1 := (HD.out.at_ 0 rfl).cell 1; simp at c0 c1
  by_cases h1 : 100 < r.n
  · have p1 : decide ((100 : Int) < (r.n : Int)) = true := decide_eq_true (by omega); have p2 : (100 : Int) < (r.n : Int) := (by omega); have HW : Sl (wideC r = true) := ⟨by unfold wideC; rw [decide_eq_true h1]; rfl⟩; clear h1; go_wp2_with fail; go_ret; exact ⟨by rw [HW.out]; rfl, HD.out.bl⟩
  · have p1 : decide ((100 : Int) < (r.n : Int)) = false := decide_eq_false (by omega); have p2 : ¬ (100 : Int) < (r.n : Int) := (by omega); have HW : Sl (wideC r = decide (100 < r.m)) := ⟨by unfold wideC; rw [decide_eq_false h1]; rfl⟩
    have HW2 : Sl (decide ((100 : Int) < (r.m : Int)) = decide (100 < r.m)) := ⟨by
      by_cases h : 100 < r.m
      · rw [decide_eq_true h, decide_eq_true (by omega)]
      · rw [decide_eq_false h, decide_eq_false (by omega)]⟩
    clear h1; go_wp2_with fail
    all_goals go_ret
    all_goals exact ⟨by rw [HW.out, ← HW2.out]; rfl, HD.out.bl⟩
set_option maxHeartbeats 3200000 in
set_option maxRecDepth 100000 in
theorem lFar_any (o : SpO) (w : World) (hM : SpM w o) : Calls Tryz.prog 27 #[.agg #[.slice o.A1 o.n1 o.c1, .slice o.A2 o.n2 o.c2, .slice o.A3 o.n3 o.c3, .slice o.A4 o.n4 o.c4]] w fun e w' => BoolR e ∧ Below w.heap.size w w' := by
  have HD : Sl (Lg w w []) := ⟨Lg.nil w⟩; have HM : Sl _ := ⟨hM⟩; clear hM; go_enter Tryz.func27, Tryz.ntmps27
  go_upto_region 1 with ((with_reducible show wpList _ _ _ _ _ _); (refine wpList_box_new 1 rfl rfl 33 (.tmp 0) rfl #[.slice o.A1 o.n1 o.c1, .slice o.A2 o.n2 o.c2, .slice o.A3 o.n3 o.c3, .slice o.A4 o.n4 o.c4] rfl (fun _ => by kernel_rfl) ?_; rintro w1 g1 zg zm zs zb; replace HD : Sl _ := ⟨HD.out.new zg zm zb⟩; clear zg zm zs zb))
  have c0 : w1.cell? ⟨g1, 0, none⟩ = some (.slice o.A1 o.n1 o.c1) := (HD.out.at_ 0 rfl).cell 0; have c1 : w1.cell? ⟨g1, 1, none⟩ = some (.slice o.A2 o.n2 o.c2) := (HD.out.at_ 0 rfl).cell 1; have c2 : w1.cell? ⟨g1, 2, none⟩ = some (.slice o.A3 o.n3 o.c3) := (HD.out.at_ 0 rfl).cell 2; have c3 : w1.cell? ⟨g1, 3, none⟩ = some (.slice o.A4 o.n4 o.c4) := (HD.out.at_ 0 rfl).cell 3
  by_cases b0 : 10 < o.n1
  · have p0 : (10 : Int) < (o.n1 : Int) := (by omega); have p0d : decide ((10 : Int) < (o.n1 : Int)) = true := decide_eq_true p0; clear b0; go_wp2_with fail; go_ret; exact ⟨⟨_, rfl⟩, HD.out.bl⟩
  have p0 : ¬ (10 : Int) < (o.n1 : Int) := (by omega); have p0d : decide ((10 : Int) < (o.n1 : Int)) = false := decide_eq_false p0
  by_cases b1 : 50 < o.n2
  · have p1 : (50 : Int) < (o.n2 : Int) := (by omega); have p1d : decide ((50 : Int) < (o.n2 : Int)) = true := decide_eq_true p1; clear b1; go_wp2_with fail; go_ret; exact ⟨⟨_, rfl⟩, HD.out.bl⟩
  have p1 : ¬ (50 : Int) < (o.n2 : Int) := (by omega); have p1d : decide ((50 : Int) < (o.n2 : Int)) = false := decide_eq_false p1
  by_cases b2 : 100 < o.n3
  · have p2 : (100 : Int) < (o.n3 : Int) := (by omega); have p2d : decide ((100 : Int) < (o.n3 : Int)) = true := decide_eq_true p2; clear b2; go_wp2_with fail; go_ret; exact ⟨⟨_, rfl⟩, HD.out.bl⟩
  have p2 : ¬ (100 : Int) < (o.n3 : Int) := (by omega); have p2d : decide ((100 : Int) < (o.n3 : Int)) = false := decide_eq_false p2
  by_cases b3 : 40 < o.n4
  · have p3 : (40 : Int) < (o.n4 : Int) := (by omega); have p3d : decide ((40 : Int) < (o.n4 : Int)) = true := decide_eq_true p3; clear b3; go_wp2_with fail; go_ret; exact ⟨⟨_, rfl⟩, HD.out.bl⟩
  have p3 : ¬ (40 : Int) < (o.n4 : Int) := (by omega); have p3d : decide ((40 : Int) < (o.n4 : Int)) = false := decide_eq_false p3; have HN : Sl (o.n1 ≤ 10 ∧ o.n2 ≤ 50 ∧ o.n3 ≤ 100 ∧ o.n4 ≤ 40) := ⟨by omega⟩; clear b0 b1 b2 b3
  go_upto_region 4 with fail
  clear c0 c1 c2 c3 p0 p1 p2 p3 p0d p1d p2d p3d; go_wp2_with fail
  go_loopw [3, 4] (fun s3 s wv => ∃ (b : Bool) (k : Nat), k ≤ o.n1 ∧ s3 = .bool b ∧ s = .int .i64 (k : Int) ∧ Sl (Lg w wv [(g1, 33, #[.slice o.A1 o.n1 o.c1, .slice o.A2 o.n2 o.c2, .slice o.A3 o.n3 o.c3, .slice o.A4 o.n4 o.c4])])) (fun _ s _ => o.n1 - (RowKit.intOf s).toNat)
  case atStart => exact ⟨_, 0, Nat.zero_le _, rfl, rfl, HD⟩
  case round =>
    clear HD; obtain ⟨b, k, hk, rfl, rfl, HD⟩ := hrel; have c0 : wr.cell? ⟨g1, 0, none⟩ = some (.slice o.A1 o.n1 o.c1) := (HD.out.at_ 0 rfl).cell 0; have hn100 : (o.n1 : Int) ≤ 100 := (by have := HN.out; omega)
    by_cases hkn : k < o.n1
    · have hkI : decide ((k : Int) < (o.n1 : Int)) = true := decide_eq_true (by omega); have hkI2 : (k : Int) < (o.n1 : Int) := (by omega); have hk0 : (0 : Int) ≤ (k : Int) := (by omega); have HKN : Sl (k < o.n1) := ⟨hkn⟩; obtain ⟨gb, oo, hA, hgb, hall⟩ := HM.out.d.all_ (by decide) (show 0 < o.n1 by omega); obtain ⟨x, hx, hra⟩ := hall _ HD.out.bl k hkn; have q1 : wr.cell? ⟨gb, oo + k * 3, none⟩ = some (.string x.nm) := hra 0 _ rfl; have c1 : wr.cell? ⟨g1, 0, none⟩ = some (.slice (some ⟨gb, oo, none⟩) o.n1 o.c1) := (by rw [← hA]; exact c0); clear c0 hra hall hgb hA hkn hx
      cases b with
      | true =>
        go_wp2_with fail; exact ⟨⟨_, k + 1, HKN.out, rfl, by go_num, HD⟩, by have := HKN.out; simp [RowKit.intOf]; omega⟩
      | false =>
        go_wp2_with fail; exact ⟨⟨_, k + 1, HKN.out, rfl, by go_num, HD⟩, by have := HKN.out; simp [RowKit.intOf]; omega⟩
    · obtain rfl : o.n1 = k := (by omega); have hkI : decide ((o.n1 : Int) < (o.n1 : Int)) = false := (by simp); clear hkn hk; go_wp2_with fail
      go_loopw [3, 5] (fun s3 s wv => ∃ (b : Bool) (k : Nat), k ≤ o.n2 ∧ s3 = .bool b ∧ s = .int .i64 (k : Int) ∧ Sl (Lg w wv [(g1, 33, #[.slice o.A1 o.n1 o.c1, .slice o.A2 o.n2 o.c2, .slice o.A3 o.n3 o.c3, .slice o.A4 o.n4 o.c4])])) (fun _ s _ => o.n2 - (RowKit.intOf s).toNat)
      case atStart => exact ⟨_, 0, Nat.zero_le _, rfl, rfl, HD⟩
      case round =>
        clear HD; obtain ⟨b, k, hk, rfl, rfl, HD⟩ := hrel; have c0 : wr.cell? ⟨g1, 1, none⟩ = some (.slice o.A2 o.n2 o.c2) := (HD.out.at_ 0 rfl).cell 1; have hn100 : (o.n2 : Int) ≤ 100 := (by have := HN.out; omega)
        by_cases hkn : k < o.n2
        · have hkI : decide ((k : Int) < (o.n2 : Int)) = true := decide_eq_true (by omega); have hkI2 : (k : Int) < (o.n2 : Int) := (by omega); have hk0 : (0 : Int) ≤ (k : Int) := (by omega); have HKN : Sl (k < o.n2) := ⟨hkn⟩; obtain ⟨gb, oo, hA, hgb, hall⟩ := HM.out.r.all_ (by decide) (show 0 < o.n2 by omega); obtain ⟨x, hx, hra⟩ := hall _ HD.out.bl k hkn; have q1 : wr.cell? ⟨gb, oo + k * 6, none⟩ = some (.string x.nm) := hra 0 _ rfl; have c1 : wr.cell? ⟨g1, 1, none⟩ = some (.slice (some ⟨gb, oo, none⟩) o.n2 o.c2) := (by rw [← hA]; exact c0); clear c0 hra hall hgb hA hkn hx
          cases b with
          | true =>
            go_wp2_with fail; exact ⟨⟨_, k + 1, HKN.out, rfl, by go_num, HD⟩, by have := HKN.out; simp [RowKit.intOf]; omega⟩
          | false =>
            go_wp2_with fail; exact ⟨⟨_, k + 1, HKN.out, rfl, by go_num, HD⟩, by have := HKN.out; simp [RowKit.intOf]; omega⟩
        · obtain rfl : o.n2 = k := (by omega); have hkI : decide ((o.n2 : Int) < (o.n2 : Int)) = false := (by simp); clear hkn hk; go_wp2_with fail
          go_loopw [3, 6] (fun s3 s wv => ∃ (b : Bool) (k : Nat), k ≤ o.n3 ∧ s3 = .bool b ∧ s = .int .i64 (k : Int) ∧ Sl (Lg w wv [(g1, 33, #[.slice o.A1 o.n1 o.c1, .slice o.A2 o.n2 o.c2, .slice o.A3 o.n3 o.c3, .slice o.A4 o.n4 o.c4])])) (fun _ s _ => o.n3 - (RowKit.intOf s).toNat)
          case atStart => exact ⟨_, 0, Nat.zero_le _, rfl, rfl, HD⟩
          case round =>
            clear HD; obtain ⟨b, k, hk, rfl, rfl, HD⟩ := hrel; have c0 : wr.cell? ⟨g1, 2, none⟩ = some (.slice o.A3 o.n3 o.c3) := (HD.out.at_ 0 rfl).cell 2; have hn100 : (o.n3 : Int) ≤ 100 := (by have := HN.out; omega)
            by_cases hkn : k < o.n3
            · have hkI : decide ((k : Int) < (o.n3 : Int)) = true := decide_eq_true (by omega); have hkI2 : (k : Int) < (o.n3 : Int) := (by omega); have hk0 : (0 : Int) ≤ (k : Int) := (by omega); have HKN : Sl (k < o.n3) := ⟨hkn⟩; obtain ⟨gb, oo, hA, hgb, hall⟩ := HM.out.s.all_ (by decide) (show 0 < o.n3 by omega); obtain ⟨x, hx, hra⟩ := hall _ HD.out.bl k hkn; have q1 : wr.cell? ⟨gb, oo + k * 5, none⟩ = some (.string x.nm) := hra 0 _ rfl; have c1 : wr.cell? ⟨g1, 2, none⟩ = some (.slice (some ⟨gb, oo, none⟩) o.n3 o.c3) := (by rw [← hA]; exact c0); have q2 : wr.cell? ⟨gb, oo + k * 5 + 4, none⟩ = some (.slice x.A x.n x.c) := hra 4 _ rfl; clear c0 hra hall hgb hA hkn hx
              cases b with
              | true =>
                go_wp2_with fail; exact ⟨⟨_, k + 1, HKN.out, rfl, by go_num, HD⟩, by have := HKN.out; simp [RowKit.intOf]; omega⟩
              | false =>
                by_cases p : 100 < x.nm.size
                · have pd : decide ((100 : Int) < (x.nm.size : Int)) = true := decide_eq_true (by omega); go_wp2_with fail; exact ⟨⟨_, k + 1, HKN.out, rfl, by go_num, HD⟩, by have := HKN.out; simp [RowKit.intOf]; omega⟩
                · have pd : decide ((100 : Int) < (x.nm.size : Int)) = false := decide_eq_false (by omega); go_wp2_with fail; exact ⟨⟨_, k + 1, HKN.out, rfl, by go_num, HD⟩, by have := HKN.out; simp [RowKit.intOf]; omega⟩
            · obtain rfl : o.n3 = k := (by omega); have hkI : decide ((o.n3 : Int) < (o.n3 : Int)) = false := (by simp); clear hkn hk; go_wp2_with fail
              go_loopw [3, 7] (fun s3 s wv => ∃ (b : Bool) (k : Nat), k ≤ o.n4 ∧ s3 = .bool b ∧ s = .int .i64 (k : Int) ∧ Sl (Lg w wv [(g1, 33, #[.slice o.A1 o.n1 o.c1, .slice o.A2 o.n2 o.c2, .slice o.A3 o.n3 o.c3, .slice o.A4 o.n4 o.c4])])) (fun _ s _ => o.n4 - (RowKit.intOf s).toNat)
              case atStart => exact ⟨_, 0, Nat.zero_le _, rfl, rfl, HD⟩
              case round =>
                clear HD; obtain ⟨b, k, hk, rfl, rfl, HD⟩ := hrel; have c0 : wr.cell? ⟨g1, 3, none⟩ = some (.slice o.A4 o.n4 o.c4) := (HD.out.at_ 0 rfl).cell 3; have hn100 : (o.n4 : Int) ≤ 100 := (by have := HN.out; omega)
                by_cases hkn : k < o.n4
                · have hkI : decide ((k : Int) < (o.n4 : Int)) = true := decide_eq_true (by omega); have hkI2 : (k : Int) < (o.n4 : Int) := (by omega); have hk0 : (0 : Int) ≤ (k : Int) := (by omega); have HKN : Sl (k < o.n4) := ⟨hkn⟩; obtain ⟨gb, oo, hA, hgb, hall⟩ := HM.out.c.all_ (by decide) (show 0 < o.n4 by omega); obtain ⟨x, hx, hra⟩ := hall _ HD.out.bl k hkn; have q1 : wr.cell? ⟨gb, oo + k * 6, none⟩ = some (.string x.nm) := hra 0 _ rfl; have c1 : wr.cell? ⟨g1, 3, none⟩ = some (.slice (some ⟨gb, oo, none⟩) o.n4 o.c4) := (by rw [← hA]; exact c0); clear c0 hra hall hgb hA hkn hx
                  cases b with
                  | true =>
                    go_wp2_with fail; exact ⟨⟨_, k + 1, HKN.out, rfl, by go_num, HD⟩, by have := HKN.out; simp [RowKit.intOf]; omega⟩
                  | false =>
                    go_wp2_with fail; exact ⟨⟨_, k + 1, HKN.out, rfl, by go_num, HD⟩, by have := HKN.out; simp [RowKit.intOf]; omega⟩
                · obtain rfl : o.n4 = k := (by omega); have hkI : decide ((o.n4 : Int) < (o.n4 : Int)) = false := (by simp); clear hkn hk; go_wp2_with fail; go_ret; exact ⟨⟨_, rfl⟩, HD.out.bl⟩
def RgV.ls (r : RgV) (i : Nat) : SlV := if i = 0 then ⟨r.A, r.n, r.c, r.l⟩ else ⟨r.B, r.m, r.d, r.k⟩
theorem RgM.ls {w : World} {r : RgV} (h : RgM w r) (i : Nat) : II w (r.ls i).A (r.ls i).n (r.ls i).l ∧ (r.ls i).n ≤ maxLen := by
  unfold RgV.ls
  split
  · exact ⟨h.s, Nat.le_trans h.sc.1 h.sc.2⟩
  · exact ⟨h.c, Nat.le_trans h.cc.1 h.cc.2⟩
end Go.Proofs.YtabkpbbjodfolaaGreatDoor
namespace Go.Proofs.YtabkpbbjodfolaaGreatDoor
set_option linter.unusedSimpArgs false
open Go.RowKit
set_option linter.unusedVariables false
def totL (L : List RgV) : Nat := (L.map fun r => r.n + r.m).sum
def FarB (L : List RgV) (most : Int) (b : Bool) : Prop := b = false → (L.length : Int) ≤ most ∧ (∀ r ∈ L, r.n ≤ 100 ∧ r.m ≤ 100) ∧ totL L ≤ 2000
def FarR (L : List RgV) (most : Int) (e : Ending) : Prop := ∃ b : Bool, e = .returned (.bool b) ∧ FarB L most b
theorem totL_take {L : List RgV} {k : Nat} {r : RgV} (h : L[k]? = some r) : totL (L.take (k + 1)) = totL (L.take k) + r.n + r.m := by
  unfold totL; rw [List.take_add_one, h, List.map_append, List.sum_append]; simp; omega
theorem totL_le {L : List RgV} (h : ∀ r ∈ L, r.n ≤ 100 ∧ r.m ≤ 100) : totL L ≤ 200 * L.length := by
  unfold totL
  induction L with
  | nil => simp
  | cons x L ih =>
    have h1 := h x List.mem_cons_self; have h2 := ih (fun r hr => h r (List.mem_cons_of_mem _ hr)); rw [List.map_cons, List.sum_cons, List.length_cons]; omega
set_option maxHeartbeats 6400000 in
set_option maxRecDepth 100000 in
theorem lfarB_any (A : Option Addr) (n c : Nat) (L : List RgV) (most : Int) (w : World) (hT : TbM w A n c L) (hmost : most ≤ 1000) : Calls Tryz.prog 33 #[.slice A n c, .int .i64 most] w fun e w' => FarR L most e ∧ Below w.heap.size w w' := by
  have HT : Sl _ := ⟨hT⟩; have hnc : n ≤ 9223372036854775807 := (by have := hT.cap; unfold maxLen at this; omega); have HL : Sl (L.length = n) := ⟨hT.row.len⟩; clear hT; go_enter Tryz.func33, Tryz.ntmps33
  by_cases h : most < (n : Int)
  · have hd : decide (most < (n : Int)) = true := decide_eq_true h; go_wp2_with fail; go_ret; exact ⟨⟨true, rfl, fun e => (by cases e)⟩, Below.refl _ _⟩
  · have hd : decide (most < (n : Int)) = false := decide_eq_false h; have HN : Sl ((n : Int) ≤ most ∧ n ≤ 1000) := ⟨by omega⟩; go_wp2_with fail; clear h hd
    go_loopw [5, 6] (fun s5 s6 wv => ∃ (k : Nat), k ≤ n ∧ s5 = .int .i64 ((totL (L.take k) : Nat) : Int) ∧ s6 = .int .i64 (k : Int) ∧ Sl (Below w.heap.size w wv ∧ ∀ r ∈ L.take k, r.n ≤ 100 ∧ r.m ≤ 100)) (fun _ s6 _ => n - (RowKit.intOf s6).toNat)
    case atStart => exact ⟨0, Nat.zero_le _, rfl, rfl, ⟨Below.refl _ _, fun r hr => by simp at hr⟩⟩
    case round =>
      obtain ⟨k, hk, rfl, rfl, HBR⟩ := hrel; have HB : Sl (Below w.heap.size w wr) := ⟨HBR.out.1⟩
      by_cases hkn : k < n
      · have hkI : decide ((k : Int) < (n : Int)) = true := decide_eq_true (by omega); have hkI2 : (k : Int) < (n : Int) := (by omega); have hk0 : (0 : Int) ≤ (k : Int) := (by omega); have HKN : Sl (k < n) := ⟨hkn⟩; have hn63 : (n : Int) ≤ 9223372036854775807 := (by omega); obtain ⟨gb, oo, r, hA, hgb, hr, k1, k2⟩ := (HT.out.below HB.out).at_ hkn; subst hA; have HR : Sl _ := ⟨hr⟩; have HGB : Sl (gb < wr.heap.size) := ⟨hgb⟩; have HK1 : Sl (∀ W, Below wr.heap.size wr W → W.cell? ⟨gb, oo + k * 2, none⟩ = some (.slice r.A r.n r.c) ∧ W.cell? ⟨gb, oo + k * 2 + 1, none⟩ = some (.slice r.B r.m r.d)) := ⟨fun W hW => ⟨(hW.cell hgb).trans k1, (hW.cell hgb).trans k2⟩⟩; have HTT : Sl (totL (L.take (k + 1)) = totL (L.take k) + r.n + r.m ∧ totL (L.take k) ≤ 200 * k) := ⟨totL_take hr, by have h := totL_le HBR.out.2; rw [List.length_take] at h; omega⟩; obtain ⟨t, ht⟩ : ∃ t, totL (L.take k) = t := ⟨_, rfl⟩; rw [ht] at HTT ⊢; clear hkn hr hgb ht; go_wp2_with fail; refine (wideC_any r _).mono ?_; rintro e w5 ⟨rfl, hb5⟩; have HB5 : Sl (Below w.heap.size w w5) := ⟨HB.out.trans (hb5.mono HB.out.size)⟩; have hkk := HK1.out _ hb5; have q1 := hkk.1; have q2 := hkk.2; clear hkk hb5 k1 k2; obtain ⟨b, hb⟩ : ∃ b, wideC r = b := ⟨_, rfl⟩; have HWC : Sl _ := ⟨hb⟩; rw [hb]; clear hb
        cases b with
        | true =>
          go_wp2_with fail; go_ret; exact ⟨⟨true, rfl, fun e => (by cases e)⟩, HB5.out⟩
        | false =>
          have hsm : r.n ≤ 100 ∧ r.m ≤ 100 := by
            have h := HWC.out; unfold wideC at h; rw [Bool.or_eq_false_iff, decide_eq_false_iff_not, decide_eq_false_iff_not] at h; omega
          have HSM : Sl _ := ⟨hsm⟩; have ht1 : (t : Int) ≤ 200000 := (by have := HTT.out.2; have := HN.out; omega); have hw1 : IntKind.i64.wrap ((t : Int) + (r.n : Int)) = (t : Int) + (r.n : Int) := (by rw [IntKind.wrap_i64]; omega); have hw2 : IntKind.i64.wrap ((t : Int) + (r.n : Int) + (r.m : Int)) = (t : Int) + (r.n : Int) + (r.m : Int) := (by rw [IntKind.wrap_i64]; omega); clear hsm ht1; go_wp2_with fail
          go_quiet (fail)
          clear hw1 hw2; go_wp2_with fail
          have HV : Sl (∀ x ∈ L.take (k + 1), x.n ≤ 100 ∧ x.m ≤ 100) := ⟨fun x hx => by
            rw [List.take_add_one, HR.out] at hx; rcases List.mem_append.1 hx with hx | hx
            · exact HBR.out.2 x hx
            · have hx : x = r := (by simpa using hx)
              rw [hx]; exact HSM.out⟩
          exact ⟨⟨k + 1, HKN.out, by rw [HTT.out.1]; push_cast; rfl, by go_num, ⟨below_drewN HB5.out nq, HV.out⟩⟩, by have := HKN.out; simp [RowKit.intOf]; omega⟩
      · obtain rfl : n = k := (by omega); have hkI : decide ((n : Int) < (n : Int)) = false := (by simp); have HTK : Sl (L.take n = L) := ⟨List.take_of_length_le (by rw [HL.out]; exact Nat.le_refl _)⟩; rw [HTK.out]; obtain ⟨t, ht⟩ : ∃ t, totL L = t := ⟨_, rfl⟩; have HTE : Sl _ := ⟨ht⟩; rw [ht]; clear ht
        by_cases h2 : 2000 < t
        · have h2d : decide ((2000 : Int) < (t : Int)) = true := decide_eq_true (by omega); have h2I : (2000 : Int) < (t : Int) := (by omega); clear h2; go_wp2_with fail; go_ret; exact ⟨⟨true, rfl, fun e => (by cases e)⟩, HB.out⟩
        · have h2d : decide ((2000 : Int) < (t : Int)) = false := decide_eq_false (by omega); have h2I : ¬ (2000 : Int) < (t : Int) := (by omega); have HF : Sl (FarB L most false) := ⟨fun _ => ⟨by rw [HL.out]; exact HN.out.1, by have h := HBR.out.2; rw [HTK.out] at h; exact h, by rw [HTE.out]; omega⟩⟩; clear h2; go_wp2_with fail; go_ret; exact ⟨⟨false, rfl, HF.out⟩, HB.out⟩
end Go.Proofs.YtabkpbbjodfolaaGreatDoor
namespace Go.Proofs.YtabkpbbjodfolaaGreatDoor
set_option linter.unusedSimpArgs false
open Go.RowKit
set_option linter.unusedVariables false
structure Duo (w0 w : World) (oq o : SpO) (m m2 : SqM) (V : SqV RgV) (R : RqV) : Prop where
  q : SQ w w0.heap.size oq m V
  r : RQ w w0.heap.size o m2 R
  a : ∀ i, m.held i → ¬ m2.own i
  b : ∀ i, m2.held i → ¬ m.own i
  bl : Below w0.heap.size w0 w
section
variable {w0 w w' : World} {oq o : SpO} {m m2 m' : SqM} {V V' : SqV RgV} {R R' : RqV}
theorem Duo.below (h : Duo w0 w oq o m m2 V R) (hb : Below w.heap.size w w') : Duo w0 w' oq o m m2 V R :=
  ⟨h.q.below hb, h.r.below hb, h.a, h.b, h.bl.trans (hb.mono h.bl.size)⟩
end
end Go.Proofs.YtabkpbbjodfolaaGreatDoor
