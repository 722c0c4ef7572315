/- Plain law: sorted lists without repetition; which step of a table adds an index; what Check, At and Needed say of it. No program in sight. -/
import Derived.Test.YtabkpbbjodfolaaGreatDoorZuAe
set_option linter.unusedSimpArgs false
set_option linter.unusedVariables false
set_option maxHeartbeats 25600000
set_option maxRecDepth 100000
namespace Go.Proofs.YtabkpbbjodfolaaGreatDoor
structure StI (L : List (List Int)) (n : Nat) (pre : List Int) (s : StS) : Prop where
  pos : ∀ x : Int, 0 ≤ x → (0 < s.1 x.toNat ↔ (∃ l ∈ L.take n, x ∈ l) ∨ x ∈ pre)
  nn : ∀ y, 0 ≤ s.1 y
  tw0 : 0 ≤ s.2
  tw : 0 < s.2 ↔ (∃ k i a b, k < i ∧ i < n ∧ L[k]? = some a ∧ L[i]? = some b ∧ ∃ x, x ∈ a ∧ x ∈ b) ∨ ∃ x ∈ pre, ∃ l ∈ L.take n, x ∈ l
  val : s.2 = 0 → (∀ i a, i < n → L[i]? = some a → ∀ x ∈ a, s.1 x.toNat = (i : Int) + 1) ∧ ∀ x ∈ pre, s.1 x.toNat = (n : Int) + 1
theorem StI.one {L : List (List Int)} {n : Nat} {pre : List Int} {s : StS} {x : Int} (h : StI L n pre s) (hL : ∀ l ∈ L, ∀ x ∈ l, 0 ≤ x) (hp : ∀ y ∈ pre, 0 ≤ y) (hx : 0 ≤ x) (hnp : x ∉ pre) : StI L n (pre ++ [x]) (stU n s x) := by
  have hseen : 0 < s.1 x.toNat ↔ ∃ l ∈ L.take n, x ∈ l := by
    rw [h.pos x hx]; exact ⟨fun hh => hh.resolve_right hnp, .inl⟩
  have hz : ∀ y, 0 ≤ y → ((stU n s x).1 y.toNat = if y = x then (n : Int) + 1 else s.1 y.toNat) := fun y hy => by
    unfold stU; simp only []
    by_cases e : y = x
    · subst e; rw [if_pos rfl, if_pos rfl]
    · rw [if_neg (by omega), if_neg e]
  have ht : (stU n s x).2 = if 0 < s.1 x.toNat ∧ s.2 = 0 then (n : Int) + 1 else s.2 := rfl
  refine ⟨fun y hy => ?_, fun y => ?_, ?_, ?_, fun h0 => ?_⟩
  · rw [hz y hy]
    by_cases e : y = x
    · rw [if_pos e]; exact ⟨fun _ => .inr (by simp [e]), fun _ => by omega⟩
    · rw [if_neg e, h.pos y hy]; constructor
      · rintro (h1 | h1)
        · exact .inl h1
        · exact .inr (List.mem_append_left _ h1)
      · rintro (h1 | h1)
        · exact .inl h1
        · rcases List.mem_append.1 h1 with h1 | h1
          · exact .inr h1
          · exact absurd (by simpa using h1) e
  · unfold stU; simp only []
    split
    · omega
    · exact h.nn y
  · rw [ht]; have := h.tw0
    split <;> omega
  · have h1 : 0 < (stU n s x).2 ↔ 0 < s.2 ∨ 0 < s.1 x.toNat := by
      rw [ht]; have := h.tw0
      by_cases hc : 0 < s.1 x.toNat ∧ s.2 = 0
      · rw [if_pos hc]; exact ⟨fun _ => .inr hc.1, fun _ => by omega⟩
      · rw [if_neg hc]; exact ⟨.inl, fun hh => hh.elim id fun h2 => by have : ¬ s.2 = 0 := fun e => hc ⟨h2, e⟩; omega⟩
    rw [h1, hseen, h.tw]; constructor
    · rintro ((hh | ⟨y, hy, l, hl, hyl⟩) | ⟨l, hl, hxl⟩)
      · exact .inl hh
      · exact .inr ⟨y, List.mem_append_left _ hy, l, hl, hyl⟩
      · exact .inr ⟨x, by simp, l, hl, hxl⟩
    · rintro (hh | ⟨y, hy, l, hl, hyl⟩)
      · exact .inl (.inl hh)
      · rcases List.mem_append.1 hy with hy | hy
        · exact .inl (.inr ⟨y, hy, l, hl, hyl⟩)
        · have : y = x := (by simpa using hy); exact .inr ⟨l, hl, by rw [← this]; exact hyl⟩
  · rw [ht] at h0
    have hns : ¬ 0 < s.1 x.toNat := fun hc => by
      by_cases e : s.2 = 0
      · rw [if_pos ⟨hc, e⟩] at h0; omega
      · rw [if_neg (fun hh => e hh.2)] at h0; exact e h0
    have h00 : s.2 = 0 := (by rw [if_neg (fun hh => hns hh.1)] at h0; exact h0); obtain ⟨v1, v2⟩ := h.val h00; have hnl : ¬ ∃ l ∈ L.take n, x ∈ l := fun hh => hns (hseen.2 hh)
    refine ⟨fun i a hi ha y hy => ?_, fun y hy => ?_⟩
    · have hm : a ∈ L.take n := by
        refine List.mem_of_getElem? (i := i) ?_; rw [List.getElem?_take_of_lt hi]; exact ha
      rw [hz y (hL a (List.mem_of_getElem? ha) y hy), if_neg (fun e => hnl ⟨a, hm, by rw [← e]; exact hy⟩)]; exact v1 i a hi ha y hy
    · rcases List.mem_append.1 hy with hy | hy
      · rw [hz y (hp y hy), if_neg (fun e => hnp (by rw [← e]; exact hy))]; exact v2 y hy
      · have : y = x := (by simpa using hy); subst this; rw [hz y hx, if_pos rfl]
theorem StI.list {L : List (List Int)} {n : Nat} (hL : ∀ l ∈ L, ∀ x ∈ l, 0 ≤ x) : ∀ (l pre : List Int) (s : StS), StI L n pre s → (∀ y ∈ pre ++ l, 0 ≤ y) → (pre ++ l).Pairwise (· < ·) → StI L n (pre ++ l) (l.foldl (stU n) s)
  | [], pre, s, h, _, _ => by rw [List.append_nil]; exact h
  | x :: l, pre, s, h, h1, h2 => by
    rw [List.foldl_cons, show pre ++ x :: l = (pre ++ [x]) ++ l by simp]
    have hnp : x ∉ pre := fun hm => by
      have := (List.pairwise_append.1 h2).2.2 x hm x List.mem_cons_self; omega
    exact StI.list hL l (pre ++ [x]) _ (h.one hL (fun y hy => h1 y (List.mem_append_left _ hy)) (h1 x (by simp)) hnp) (by simpa using h1) (by simpa using h2)
theorem StI.next {L : List (List Int)} {n : Nat} {l : List Int} {s : StS} (h : StI L n l s) (hl : L[n]? = some l) : StI L (n + 1) [] s := by
  have hm : ∀ x : Int, (∃ a ∈ L.take (n + 1), x ∈ a) ↔ (∃ a ∈ L.take n, x ∈ a) ∨ x ∈ l := fun x => by
    rw [List.take_add_one, hl]; constructor
    · rintro ⟨a, ha, hx⟩; rcases List.mem_append.1 ha with ha | ha
      · exact .inl ⟨a, ha, hx⟩
      · have : a = l := (by simpa using ha); exact .inr (by rw [← this]; exact hx)
    · rintro (⟨a, ha, hx⟩ | hx)
      · exact ⟨a, List.mem_append_left _ ha, hx⟩
      · exact ⟨l, by simp, hx⟩
  refine ⟨fun x hx => ?_, h.nn, h.tw0, h.tw.trans ?_, fun h0 => ⟨fun i a hi ha x hx => ?_, fun x hx => by cases hx⟩⟩
  · rw [h.pos x hx, hm x]; exact ⟨.inl, fun hh => hh.elim id (fun e => by cases e)⟩
  · constructor
    · rintro (⟨k, i, a, b, h1, h2, h3, h4, h5⟩ | ⟨x, hx, a, ha, hxa⟩)
      · exact .inl ⟨k, i, a, b, h1, by omega, h3, h4, h5⟩
      · obtain ⟨k, hk, e⟩ := List.getElem_of_mem ha; have hkn : k < n := (by rw [List.length_take] at hk; omega); refine .inl ⟨k, n, a, l, hkn, by omega, ?_, hl, x, hxa, hx⟩; rw [← List.getElem?_take_of_lt hkn, List.getElem?_eq_getElem hk, e]
    · rintro (⟨k, i, a, b, h1, h2, h3, h4, x, hxa, hxb⟩ | ⟨x, hx, _⟩)
      · rcases Nat.lt_or_ge i n with h6 | h6
        · exact .inl ⟨k, i, a, b, h1, h6, h3, h4, x, hxa, hxb⟩
        · obtain rfl : i = n := (by omega); rw [hl] at h4; injection h4 with h4
          subst h4; refine .inr ⟨x, hxb, a, ?_, hxa⟩; refine List.mem_of_getElem? (i := k) ?_; rw [List.getElem?_take_of_lt h1]; exact h3
      · cases hx
  · obtain ⟨v1, v2⟩ := h.val h0; rcases Nat.lt_or_ge i n with h6 | h6
    · exact v1 i a h6 ha x hx
    · obtain rfl : i = n := (by omega); rw [hl] at ha; injection ha with ha
      subst ha; exact v2 x hx
theorem StI.all {L : List (List Int)} (hL : ∀ l ∈ L, l.Pairwise (· < ·) ∧ ∀ x ∈ l, 0 ≤ x) : ∀ (m n : Nat) (s : StS), L.length = n + m → StI L n [] s → StI L L.length [] (stV n (L.drop n) s)
  | 0, n, s, hn, h => by
    rw [List.drop_eq_nil_of_le (by omega), stV, show L.length = n by omega]; exact h
  | m+1, n, s, hn, h => by
    have hi : n < L.length := (by omega); have hx := List.getElem?_eq_getElem hi; generalize L[n] = l at hx; rw [stV_drop s hx]; have hl := hL l (List.mem_of_getElem? hx); have h1 := StI.list (fun l hl => (hL l hl).2) l [] s h (by simpa using hl.2) (by simpa using hl.1); rw [List.nil_append] at h1; exact StI.all hL m (n + 1) _ (by omega) (h1.next hx)
theorem stV_I {L : List (List Int)} (hL : ∀ l ∈ L, l.Pairwise (· < ·) ∧ ∀ x ∈ l, 0 ≤ x) : StI L L.length [] (stV 0 L (fun _ => 0, 0)) := by
  have h0 : StI L 0 [] ((fun _ => 0, 0) : StS) := by
    refine ⟨fun x _ => ⟨fun h => absurd h (by simp), fun h => ?_⟩, fun _ => Int.le_refl _, Int.le_refl _, ⟨fun h => absurd h (by simp), fun h => ?_⟩, fun _ => ⟨fun i _ h => absurd h (Nat.not_lt_zero _), fun x hx => by cases hx⟩⟩
    · rcases h with ⟨l, hl, _⟩ | h
      · rw [List.take_zero] at hl; cases hl
      · cases h
    · rcases h with ⟨_, i, _, _, _, h, _⟩ | ⟨x, hx, _⟩
      · exact absurd h (Nat.not_lt_zero _)
      · cases hx
  have := StI.all hL L.length 0 _ (by omega) h0
  rwa [List.drop_zero] at this
structure TOK (many : Int) (M : List (List Int)) : Prop where
  asc : ∀ l ∈ M, l.Pairwise (· < ·) ∧ ∀ x ∈ l, 0 ≤ x ∧ x < many
  tw : (stV 0 M (fun _ => 0, 0)).2 = 0
theorem TOK.i {many : Int} {M : List (List Int)} (h : TOK many M) : StI M M.length [] (stV 0 M (fun _ => 0, 0)) := stV_I fun l hl => ⟨(h.asc l hl).1, fun x hx => ((h.asc l hl).2 x hx).1⟩
def AllIn (L : List RgV) (r : RgV) (p : Nat) : Prop := (∀ x ∈ r.l, ∃ l ∈ (L.map RgV.l).take p, x ∈ l) ∧ ∀ x ∈ r.k, ∃ l ∈ (L.map RgV.k).take p, x ∈ l
theorem AllIn.mono {L : List RgV} {r : RgV} {p q : Nat} (h : AllIn L r p) (hpq : p ≤ q) : AllIn L r q := by
  have hh : ∀ M : List (List Int), ∀ l ∈ M.take p, l ∈ M.take q := fun M l hl => by
    have : M.take p = (M.take q).take p := (by rw [List.take_take, Nat.min_eq_left hpq]); rw [this] at hl; exact List.mem_of_mem_take hl
  exact ⟨fun x hx => by obtain ⟨l, hl, e⟩ := h.1 x hx; exact ⟨l, hh _ l hl, e⟩, fun x hx => by obtain ⟨l, hl, e⟩ := h.2 x hx; exact ⟨l, hh _ l hl, e⟩⟩
end Go.Proofs.YtabkpbbjodfolaaGreatDoor
namespace Go.Proofs.YtabkpbbjodfolaaGreatDoor
open Go.RowKit
def BoolR (e : Ending) : Prop := ∃ b : Bool, e = .returned (.bool b)
def wideC (r : RgV) : Bool := decide (100 < r.n) || decide (100 < r.m)
theorem wideC_any (r : RgV) (w : World) : Calls Tryz.prog 82 #[.agg #[.slice r.A r.n r.c, .slice r.B r.m r.d]] w fun e w' => e = .returned (.bool (wideC r)) ∧ Below w.heap.size w w' := by
  have HD : Sl (Lg w w []) := ⟨Lg.nil w⟩; go_enter Tryz.func82, Tryz.ntmps82
  go_upto_region 1 with ((with_reducible show wpList _ _ _ _ _ _); first
    | (refine wpList_box_new 1 rfl rfl 45 (.tmp 0) rfl #[.slice r.A r.n r.c, .slice r.B r.m r.d] rfl (fun _ => by kernel_rfl) ?_; rintro w1 g1 zg zm zs zb; replace HD : Sl _ := ⟨HD.out.new zg zm zb⟩; clear zg zm zs zb))
  have c0 := (HD.out.at_ 0 rfl).cell 0; have c1 := (HD.out.at_ 0 rfl).cell 1; simp at c0 c1
  by_cases h1 : 100 < r.n
  · have p1 : decide ((100 : Int) < (r.n : Int)) = true := decide_eq_true (by omega); have p2 : (100 : Int) < (r.n : Int) := (by omega); have HW : Sl (wideC r = true) := ⟨by unfold wideC; rw [decide_eq_true h1]; rfl⟩; clear h1; go_wp2_with fail; go_ret; exact ⟨by rw [HW.out]; rfl, HD.out.bl⟩
  · have p1 : decide ((100 : Int) < (r.n : Int)) = false := decide_eq_false (by omega); have p2 : ¬ (100 : Int) < (r.n : Int) := (by omega); have HW : Sl (wideC r = decide (100 < r.m)) := ⟨by unfold wideC; rw [decide_eq_false h1]; rfl⟩
    have HW2 : Sl (decide ((100 : Int) < (r.m : Int)) = decide (100 < r.m)) := ⟨by
      by_cases h : 100 < r.m
      · rw [decide_eq_true h, decide_eq_true (by omega)]
      · rw [decide_eq_false h, decide_eq_false (by omega)]⟩
    clear h1; go_wp2_with fail
    all_goals go_ret
    all_goals exact ⟨by rw [HW.out, ← HW2.out]; rfl, HD.out.bl⟩
theorem lFar_any (o : SpO) (w : World) (hM : SpM w o) : Calls Tryz.prog 27 #[.agg #[.slice o.A1 o.n1 o.c1, .slice o.A2 o.n2 o.c2, .slice o.A3 o.n3 o.c3, .slice o.A4 o.n4 o.c4]] w fun e w' => BoolR e ∧ Below w.heap.size w w' := by
  have HD : Sl (Lg w w []) := ⟨Lg.nil w⟩; have HM : Sl _ := ⟨hM⟩; clear hM; go_enter Tryz.func27, Tryz.ntmps27
  go_upto_region 1 with ((with_reducible show wpList _ _ _ _ _ _); (refine wpList_box_new 1 rfl rfl 33 (.tmp 0) rfl #[.slice o.A1 o.n1 o.c1, .slice o.A2 o.n2 o.c2, .slice o.A3 o.n3 o.c3, .slice o.A4 o.n4 o.c4] rfl (fun _ => by kernel_rfl) ?_; rintro w1 g1 zg zm zs zb; replace HD : Sl _ := ⟨HD.out.new zg zm zb⟩; clear zg zm zs zb))
  have c0 : w1.cell? ⟨g1, 0, none⟩ = some (.slice o.A1 o.n1 o.c1) := (HD.out.at_ 0 rfl).cell 0; have c1 : w1.cell? ⟨g1, 1, none⟩ = some (.slice o.A2 o.n2 o.c2) := (HD.out.at_ 0 rfl).cell 1; have c2 : w1.cell? ⟨g1, 2, none⟩ = some (.slice o.A3 o.n3 o.c3) := (HD.out.at_ 0 rfl).cell 2; have c3 : w1.cell? ⟨g1, 3, none⟩ = some (.slice o.A4 o.n4 o.c4) := (HD.out.at_ 0 rfl).cell 3
  by_cases b0 : 10 < o.n1
  · have p0 : (10 : Int) < (o.n1 : Int) := (by omega); have p0d : decide ((10 : Int) < (o.n1 : Int)) = true := decide_eq_true p0; clear b0; go_wp2_with fail; go_ret; exact ⟨⟨_, rfl⟩, HD.out.bl⟩
  have p0 : ¬ (10 : Int) < (o.n1 : Int) := (by omega); have p0d : decide ((10 : Int) < (o.n1 : Int)) = false := decide_eq_false p0
  by_cases b1 : 50 < o.n2
  · have p1 : (50 : Int) < (o.n2 : Int) := (by omega); have p1d : decide ((50 : Int) < (o.n2 : Int)) = true := decide_eq_true p1; clear b1; go_wp2_with fail; go_ret; exact ⟨⟨_, rfl⟩, HD.out.bl⟩
  have p1 : ¬ (50 : Int) < (o.n2 : Int) := (by omega); have p1d : decide ((50 : Int) < (o.n2 : Int)) = false := decide_eq_false p1
  by_cases b2 : 100 < o.n3
  · have p2 : (100 : Int) < (o.n3 : Int) := (by omega); have p2d : decide ((100 : Int) < (o.n3 : Int)) = true := decide_eq_true p2; clear b2; go_wp2_with fail; go_ret; exact ⟨⟨_, rfl⟩, HD.out.bl⟩
  have p2 : ¬ (100 : Int) < (o.n3 : Int) := (by omega); have p2d : decide ((100 : Int) < (o.n3 : Int)) = false := decide_eq_false p2
  by_cases b3 : 40 < o.n4
  · have p3 : (40 : Int) < (o.n4 : Int) := (by omega); have p3d : decide ((40 : Int) < (o.n4 : Int)) = true := decide_eq_true p3; clear b3; go_wp2_with fail; go_ret; exact ⟨⟨_, rfl⟩, HD.out.bl⟩
  have p3 : ¬ (40 : Int) < (o.n4 : Int) := (by omega); have p3d : decide ((40 : Int) < (o.n4 : Int)) = false := decide_eq_false p3; have HN : Sl (o.n1 ≤ 10 ∧ o.n2 ≤ 50 ∧ o.n3 ≤ 100 ∧ o.n4 ≤ 40) := ⟨by omega⟩; clear b0 b1 b2 b3
  go_upto_region 4 with fail
  clear c0 c1 c2 c3 p0 p1 p2 p3 p0d p1d p2d p3d; go_wp2_with fail
  go_loopw [3, 4] (fun s3 s wv => ∃ (b : Bool) (k : Nat), k ≤ o.n1 ∧ s3 = .bool b ∧ s = .int .i64 (k : Int) ∧ Sl (Lg w wv [(g1, 33, #[.slice o.A1 o.n1 o.c1, .slice o.A2 o.n2 o.c2, .slice o.A3 o.n3 o.c3, .slice o.A4 o.n4 o.c4])])) (fun _ s _ => o.n1 - (RowKit.intOf s).toNat)
  case atStart => exact ⟨_, 0, Nat.zero_le _, rfl, rfl, HD⟩
  case round =>
    clear HD; obtain ⟨b, k, hk, rfl, rfl, HD⟩ := hrel; have c0 : wr.cell? ⟨g1, 0, none⟩ = some (.slice o.A1 o.n1 o.c1) := (HD.out.at_ 0 rfl).cell 0; have hn100 : (o.n1 : Int) ≤ 100 := (by have := HN.out; omega)
    by_cases hkn : k < o.n1
    · have hkI : decide ((k : Int) < (o.n1 : Int)) = true := decide_eq_true (by omega); have hkI2 : (k : Int) < (o.n1 : Int) := (by omega); have hk0 : (0 : Int) ≤ (k : Int) := (by omega); have HKN : Sl (k < o.n1) := ⟨hkn⟩; obtain ⟨gb, oo, hA, hgb, hall⟩ := HM.out.d.all_ (by decide) (show 0 < o.n1 by omega); obtain ⟨x, hx, hra⟩ := hall _ HD.out.bl k hkn; have q1 : wr.cell? ⟨gb, oo + k * 3, none⟩ = some (.string x.nm) := hra 0 _ rfl; have c1 : wr.cell? ⟨g1, 0, none⟩ = some (.slice (some ⟨gb, oo, none⟩) o.n1 o.c1) := (by rw [← hA]; exact c0); clear c0 hra hall hgb hA hkn hx
      cases b with
      | true =>
        go_wp2_with fail; exact ⟨⟨_, k + 1, HKN.out, rfl, by go_num, HD⟩, by have := HKN.out; simp [RowKit.intOf]; omega⟩
      | false =>
        go_wp2_with fail; exact ⟨⟨_, k + 1, HKN.out, rfl, by go_num, HD⟩, by have := HKN.out; simp [RowKit.intOf]; omega⟩
    · obtain rfl : o.n1 = k := (by omega); have hkI : decide ((o.n1 : Int) < (o.n1 : Int)) = false := (by simp); clear hkn hk; go_wp2_with fail
      go_loopw [3, 5] (fun s3 s wv => ∃ (b : Bool) (k : Nat), k ≤ o.n2 ∧ s3 = .bool b ∧ s = .int .i64 (k : Int) ∧ Sl (Lg w wv [(g1, 33, #[.slice o.A1 o.n1 o.c1, .slice o.A2 o.n2 o.c2, .slice o.A3 o.n3 o.c3, .slice o.A4 o.n4 o.c4])])) (fun _ s _ => o.n2 - (RowKit.intOf s).toNat)
      case atStart => exact ⟨_, 0, Nat.zero_le _, rfl, rfl, HD⟩
      case round =>
        clear HD; obtain ⟨b, k, hk, rfl, rfl, HD⟩ := hrel; have c0 : wr.cell? ⟨g1, 1, none⟩ = some (.slice o.A2 o.n2 o.c2) := (HD.out.at_ 0 rfl).cell 1; have hn100 : (o.n2 : Int) ≤ 100 := (by have := HN.out; omega)
        by_cases hkn : k < o.n2
        · have hkI : decide ((k : Int) < (o.n2 : Int)) = true := decide_eq_true (by omega); have hkI2 : (k : Int) < (o.n2 : Int) := (by omega); have hk0 : (0 : Int) ≤ (k : Int) := (by omega); have HKN : Sl (k < o.n2) := ⟨hkn⟩; obtain ⟨gb, oo, hA, hgb, hall⟩ := HM.out.r.all_ (by decide) (show 0 < o.n2 by omega); obtain ⟨x, hx, hra⟩ := hall _ HD.out.bl k hkn; have q1 : wr.cell? ⟨gb, oo + k * 6, none⟩ = some (.string x.nm) := hra 0 _ rfl; have c1 : wr.cell? ⟨g1, 1, none⟩ = some (.slice (some ⟨gb, oo, none⟩) o.n2 o.c2) := (by rw [← hA]; exact c0); clear c0 hra hall hgb hA hkn hx
          cases b with
          | true =>
            go_wp2_with fail; exact ⟨⟨_, k + 1, HKN.out, rfl, by go_num, HD⟩, by have := HKN.out; simp [RowKit.intOf]; omega⟩
          | false =>
            go_wp2_with fail; exact ⟨⟨_, k + 1, HKN.out, rfl, by go_num, HD⟩, by have := HKN.out; simp [RowKit.intOf]; omega⟩
        · obtain rfl : o.n2 = k := (by omega); have hkI : decide ((o.n2 : Int) < (o.n2 : Int)) = false := (by simp); clear hkn hk; go_wp2_with fail
          go_loopw [3, 6] (fun s3 s wv => ∃ (b : Bool) (k : Nat), k ≤ o.n3 ∧ s3 = .bool b ∧ s = .int .i64 (k : Int) ∧ Sl (Lg w wv [(g1, 33, #[.slice o.A1 o.n1 o.c1, .slice o.A2 o.n2 o.c2, .slice o.A3 o.n3 o.c3, .slice o.A4 o.n4 o.c4])])) (fun _ s _ => o.n3 - (RowKit.intOf s).toNat)
          case atStart => exact ⟨_, 0, Nat.zero_le _, rfl, rfl, HD⟩
          case round =>
            clear HD; obtain ⟨b, k, hk, rfl, rfl, HD⟩ := hrel; have c0 : wr.cell? ⟨g1, 2, none⟩ = some (.slice o.A3 o.n3 o.c3) := (HD.out.at_ 0 rfl).cell 2; have hn100 : (o.n3 : Int) ≤ 100 := (by have := HN.out; omega)
            by_cases hkn : k < o.n3
            · have hkI : decide ((k : Int) < (o.n3 : Int)) = true := decide_eq_true (by omega); have hkI2 : (k : Int) < (o.n3 : Int) := (by omega); have hk0 : (0 : Int) ≤ (k : Int) := (by omega); have HKN : Sl (k < o.n3) := ⟨hkn⟩; obtain ⟨gb, oo, hA, hgb, hall⟩ := HM.out.s.all_ (by decide) (show 0 < o.n3 by omega); obtain ⟨x, hx, hra⟩ := hall _ HD.out.bl k hkn; have q1 : wr.cell? ⟨gb, oo + k * 5, none⟩ = some (.string x.nm) := hra 0 _ rfl; have c1 : wr.cell? ⟨g1, 2, none⟩ = some (.slice (some ⟨gb, oo, none⟩) o.n3 o.c3) := (by rw [← hA]; exact c0); have q2 : wr.cell? ⟨gb, oo + k * 5 + 4, none⟩ = some (.slice x.A x.n x.c) := hra 4 _ rfl; clear c0 hra hall hgb hA hkn hx
              cases b with
              | true =>
                go_wp2_with fail; exact ⟨⟨_, k + 1, HKN.out, rfl, by go_num, HD⟩, by have := HKN.out; simp [RowKit.intOf]; omega⟩
              | false =>
                by_cases p : 100 < x.nm.size
                · have pd : decide ((100 : Int) < (x.nm.size : Int)) = true := decide_eq_true (by omega); go_wp2_with fail; exact ⟨⟨_, k + 1, HKN.out, rfl, by go_num, HD⟩, by have := HKN.out; simp [RowKit.intOf]; omega⟩
                · have pd : decide ((100 : Int) < (x.nm.size : Int)) = false := decide_eq_false (by omega); go_wp2_with fail; exact ⟨⟨_, k + 1, HKN.out, rfl, by go_num, HD⟩, by have := HKN.out; simp [RowKit.intOf]; omega⟩
            · obtain rfl : o.n3 = k := (by omega); have hkI : decide ((o.n3 : Int) < (o.n3 : Int)) = false := (by simp); clear hkn hk; go_wp2_with fail
              go_loopw [3, 7] (fun s3 s wv => ∃ (b : Bool) (k : Nat), k ≤ o.n4 ∧ s3 = .bool b ∧ s = .int .i64 (k : Int) ∧ Sl (Lg w wv [(g1, 33, #[.slice o.A1 o.n1 o.c1, .slice o.A2 o.n2 o.c2, .slice o.A3 o.n3 o.c3, .slice o.A4 o.n4 o.c4])])) (fun _ s _ => o.n4 - (RowKit.intOf s).toNat)
              case atStart => exact ⟨_, 0, Nat.zero_le _, rfl, rfl, HD⟩
              case round =>
                clear HD; obtain ⟨b, k, hk, rfl, rfl, HD⟩ := hrel; have c0 : wr.cell? ⟨g1, 3, none⟩ = some (.slice o.A4 o.n4 o.c4) := (HD.out.at_ 0 rfl).cell 3; have hn100 : (o.n4 : Int) ≤ 100 := (by have := HN.out; omega)
                by_cases hkn : k < o.n4
                · have hkI : decide ((k : Int) < (o.n4 : Int)) = true := decide_eq_true (by omega); have hkI2 : (k : Int) < (o.n4 : Int) := (by omega); have hk0 : (0 : Int) ≤ (k : Int) := (by omega); have HKN : Sl (k < o.n4) := ⟨hkn⟩; obtain ⟨gb, oo, hA, hgb, hall⟩ := HM.out.c.all_ (by decide) (show 0 < o.n4 by omega); obtain ⟨x, hx, hra⟩ := hall _ HD.out.bl k hkn; have q1 : wr.cell? ⟨gb, oo + k * 6, none⟩ = some (.string x.nm) := hra 0 _ rfl; have c1 : wr.cell? ⟨g1, 3, none⟩ = some (.slice (some ⟨gb, oo, none⟩) o.n4 o.c4) := (by rw [← hA]; exact c0); clear c0 hra hall hgb hA hkn hx
                  cases b with
                  | true =>
                    go_wp2_with fail; exact ⟨⟨_, k + 1, HKN.out, rfl, by go_num, HD⟩, by have := HKN.out; simp [RowKit.intOf]; omega⟩
                  | false =>
                    go_wp2_with fail; exact ⟨⟨_, k + 1, HKN.out, rfl, by go_num, HD⟩, by have := HKN.out; simp [RowKit.intOf]; omega⟩
                · obtain rfl : o.n4 = k := (by omega); have hkI : decide ((o.n4 : Int) < (o.n4 : Int)) = false := (by simp); clear hkn hk; go_wp2_with fail; go_ret; exact ⟨⟨_, rfl⟩, HD.out.bl⟩
def totL (L : List RgV) : Nat := (L.map fun r => r.n + r.m).sum
def FarB (L : List RgV) (most : Int) (b : Bool) : Prop := b = false → (L.length : Int) ≤ most ∧ (∀ r ∈ L, r.n ≤ 100 ∧ r.m ≤ 100) ∧ totL L ≤ 2000
def FarR (L : List RgV) (most : Int) (e : Ending) : Prop := ∃ b : Bool, e = .returned (.bool b) ∧ FarB L most b
theorem totL_take {L : List RgV} {k : Nat} {r : RgV} (h : L[k]? = some r) : totL (L.take (k + 1)) = totL (L.take k) + r.n + r.m := by
  unfold totL; rw [List.take_add_one, h, List.map_append, List.sum_append]; simp; omega
theorem totL_le {L : List RgV} (h : ∀ r ∈ L, r.n ≤ 100 ∧ r.m ≤ 100) : totL L ≤ 200 * L.length := by
  unfold totL
  induction L with
  | nil => simp
  | cons x L ih =>
    have h1 := h x List.mem_cons_self; have h2 := ih (fun r hr => h r (List.mem_cons_of_mem _ hr)); rw [List.map_cons, List.sum_cons, List.length_cons]; omega
theorem lfarB_any (A : Option Addr) (n c : Nat) (L : List RgV) (most : Int) (w : World) (hT : TbM w A n c L) (hmost : most ≤ 1000) : Calls Tryz.prog 33 #[.slice A n c, .int .i64 most] w fun e w' => FarR L most e ∧ Below w.heap.size w w' := by
  have HT : Sl _ := ⟨hT⟩; have hnc : n ≤ 9223372036854775807 := (by have := hT.cap; unfold maxLen at this; omega); have HL : Sl (L.length = n) := ⟨hT.row.len⟩; clear hT; go_enter Tryz.func33, Tryz.ntmps33
  by_cases h : most < (n : Int)
  · have hd : decide (most < (n : Int)) = true := decide_eq_true h; go_wp2_with fail; go_ret; exact ⟨⟨true, rfl, fun e => (by cases e)⟩, Below.refl _ _⟩
  · have hd : decide (most < (n : Int)) = false := decide_eq_false h; have HN : Sl ((n : Int) ≤ most ∧ n ≤ 1000) := ⟨by omega⟩; go_wp2_with fail; clear h hd
    go_loopw [5, 6] (fun s5 s6 wv => ∃ (k : Nat), k ≤ n ∧ s5 = .int .i64 ((totL (L.take k) : Nat) : Int) ∧ s6 = .int .i64 (k : Int) ∧ Sl (Below w.heap.size w wv ∧ ∀ r ∈ L.take k, r.n ≤ 100 ∧ r.m ≤ 100)) (fun _ s6 _ => n - (RowKit.intOf s6).toNat)
    case atStart => exact ⟨0, Nat.zero_le _, rfl, rfl, ⟨Below.refl _ _, fun r hr => by simp at hr⟩⟩
    case round =>
      obtain ⟨k, hk, rfl, rfl, HBR⟩ := hrel; have HB : Sl (Below w.heap.size w wr) := ⟨HBR.out.1⟩
      by_cases hkn : k < n
      · have hkI : decide ((k : Int) < (n : Int)) = true := decide_eq_true (by omega); have hkI2 : (k : Int) < (n : Int) := (by omega); have hk0 : (0 : Int) ≤ (k : Int) := (by omega); have HKN : Sl (k < n) := ⟨hkn⟩; have hn63 : (n : Int) ≤ 9223372036854775807 := (by omega); obtain ⟨gb, oo, r, hA, hgb, hr, k1, k2⟩ := (HT.out.below HB.out).at_ hkn; subst hA; have HR : Sl _ := ⟨hr⟩; have HGB : Sl (gb < wr.heap.size) := ⟨hgb⟩; have HK1 : Sl (∀ W, Below wr.heap.size wr W → W.cell? ⟨gb, oo + k * 2, none⟩ = some (.slice r.A r.n r.c) ∧ W.cell? ⟨gb, oo + k * 2 + 1, none⟩ = some (.slice r.B r.m r.d)) := ⟨fun W hW => ⟨(hW.cell hgb).trans k1, (hW.cell hgb).trans k2⟩⟩; have HTT : Sl (totL (L.take (k + 1)) = totL (L.take k) + r.n + r.m ∧ totL (L.take k) ≤ 200 * k) := ⟨totL_take hr, by have h := totL_le HBR.out.2; rw [List.length_take] at h; omega⟩; obtain ⟨t, ht⟩ : ∃ t, totL (L.take k) = t := ⟨_, rfl⟩; rw [ht] at HTT ⊢; clear hkn hr hgb ht; go_wp2_with fail; refine (wideC_any r _).mono ?_; rintro e w5 ⟨rfl, hb5⟩; have HB5 : Sl (Below w.heap.size w w5) := ⟨HB.out.trans (hb5.mono HB.out.size)⟩; have hkk := HK1.out _ hb5; have q1 := hkk.1; have q2 := hkk.2; clear hkk hb5 k1 k2; obtain ⟨b, hb⟩ : ∃ b, wideC r = b := ⟨_, rfl⟩; have HWC : Sl _ := ⟨hb⟩; rw [hb]; clear hb
        cases b with
        | true =>
          go_wp2_with fail; go_ret; exact ⟨⟨true, rfl, fun e => (by cases e)⟩, HB5.out⟩
        | false =>
          have hsm : r.n ≤ 100 ∧ r.m ≤ 100 := by
            have h := HWC.out; unfold wideC at h; rw [Bool.or_eq_false_iff, decide_eq_false_iff_not, decide_eq_false_iff_not] at h; omega
          have HSM : Sl _ := ⟨hsm⟩; have ht1 : (t : Int) ≤ 200000 := (by have := HTT.out.2; have := HN.out; omega); have hw1 : IntKind.i64.wrap ((t : Int) + (r.n : Int)) = (t : Int) + (r.n : Int) := (by rw [IntKind.wrap_i64]; omega); have hw2 : IntKind.i64.wrap ((t : Int) + (r.n : Int) + (r.m : Int)) = (t : Int) + (r.n : Int) + (r.m : Int) := (by rw [IntKind.wrap_i64]; omega); clear hsm ht1; go_wp2_with fail
          go_quiet (fail)
          clear hw1 hw2; go_wp2_with fail
          have HV : Sl (∀ x ∈ L.take (k + 1), x.n ≤ 100 ∧ x.m ≤ 100) := ⟨fun x hx => by
            rw [List.take_add_one, HR.out] at hx; rcases List.mem_append.1 hx with hx | hx
            · exact HBR.out.2 x hx
            · have hx : x = r := (by simpa using hx)
              rw [hx]; exact HSM.out⟩
          exact ⟨⟨k + 1, HKN.out, by rw [HTT.out.1]; push_cast; rfl, by go_num, ⟨below_drewN HB5.out nq, HV.out⟩⟩, by have := HKN.out; simp [RowKit.intOf]; omega⟩
      · obtain rfl : n = k := (by omega); have hkI : decide ((n : Int) < (n : Int)) = false := (by simp); have HTK : Sl (L.take n = L) := ⟨List.take_of_length_le (by rw [HL.out]; exact Nat.le_refl _)⟩; rw [HTK.out]; obtain ⟨t, ht⟩ : ∃ t, totL L = t := ⟨_, rfl⟩; have HTE : Sl _ := ⟨ht⟩; rw [ht]; clear ht
        by_cases h2 : 2000 < t
        · have h2d : decide ((2000 : Int) < (t : Int)) = true := decide_eq_true (by omega); have h2I : (2000 : Int) < (t : Int) := (by omega); clear h2; go_wp2_with fail; go_ret; exact ⟨⟨true, rfl, fun e => (by cases e)⟩, HB.out⟩
        · have h2d : decide ((2000 : Int) < (t : Int)) = false := decide_eq_false (by omega); have h2I : ¬ (2000 : Int) < (t : Int) := (by omega); have HF : Sl (FarB L most false) := ⟨fun _ => ⟨by rw [HL.out]; exact HN.out.1, by have h := HBR.out.2; rw [HTK.out] at h; exact h, by rw [HTE.out]; omega⟩⟩; clear h2; go_wp2_with fail; go_ret; exact ⟨⟨false, rfl, HF.out⟩, HB.out⟩
structure AcV where
  y : Int
  z : Int
  r : RgV
def AcV.cells (a : AcV) : List Value := [.int .u8 a.y, .int .i64 a.z, .slice a.r.A a.r.n a.r.c, .slice a.r.B a.r.m a.r.d]
structure AcM (w : World) (A : Option Addr) (n c : Nat) (L : List AcV) : Prop where
  row : RowG w A n 4 AcV.cells L
  cap : n ≤ c ∧ c ≤ maxLen
  all : ∀ a ∈ L, RgM w a.r ∧ 0 ≤ a.y ∧ a.y < 256
theorem AcM.below {w w' : World} {A : Option Addr} {n c : Nat} {L : List AcV} (h : AcM w A n c L) (hb : Below w.heap.size w w') : AcM w' A n c L := ⟨h.row.below hb, h.cap, fun a ha => ⟨(h.all a ha).1.below hb, (h.all a ha).2⟩⟩
def GrtR (L : List AcV) (most : Nat) (e : Ending) : Prop := ∃ b : Bool, e = .returned (.bool b) ∧ (b = false → L.length ≤ most ∧ ∀ a ∈ L, a.r.n ≤ 100 ∧ a.r.m ≤ 100)
theorem FarB.grt {L : List AcV} {most : Nat} {b : Bool} {k : Nat} (h : FarB ((L.take k).map AcV.r) (most : Int) b) (hk : k = L.length ∨ k = most + 1) (hkL : k ≤ L.length) : b = false → L.length ≤ most ∧ ∀ a ∈ L, a.r.n ≤ 100 ∧ a.r.m ≤ 100 := fun e => by
  obtain ⟨h1, h2, _⟩ := h e; rw [List.length_map, List.length_take] at h1; have hkl : k = L.length := (by omega); subst hkl; rw [List.take_length] at h2; exact ⟨by omega, fun a ha => h2 a.r (List.mem_map.2 ⟨a, ha, rfl⟩)⟩
theorem great_any (A : Option Addr) (n c : Nat) (L : List AcV) (most : Nat) (w : World) (hA : AcM w A n c L) (hmost : most ≤ 1000) :
    Calls Tryz.prog 28 #[.slice A n c, .int .i64 (most : Int)] w fun e w' => GrtR L most e ∧ Below w.heap.size w w' := by
  have HA : Sl _ := ⟨hA⟩; have HM : Sl (most ≤ 1000) := ⟨hmost⟩; have HL : Sl (L.length = n) := ⟨hA.row.len⟩; have hm1 : (most : Int) ≤ 1000 := (by omega); have hnc : (n : Int) ≤ (c : Int) := (by have := hA.cap; omega); have hc63 : (c : Int) ≤ 9223372036854775807 := (by have := hA.cap; unfold maxLen at this; omega); clear hA hmost; go_enter Tryz.func28, Tryz.ntmps28; go_wp2_with fail
  go_loopw [5, 6] (fun s5 s6 wv => ∃ (k : Nat) (G : Option Addr) (g : Nat), k ≤ n ∧ k ≤ most + 1 ∧ s5 = .slice G k g ∧ s6 = .int .i64 (k : Int) ∧ Sl (Below w.heap.size w wv ∧ FR wv w.heap.size G k g ((L.take k).map AcV.r))) (fun _ s6 _ => n - (RowKit.intOf s6).toNat)
  case atStart => exact ⟨0, none, 0, Nat.zero_le _, Nat.zero_le _, rfl, rfl, ⟨Below.refl _ _, FR.nil _ _⟩⟩
  case round =>
    obtain ⟨k, G, g, hk, hkm, rfl, rfl, HB⟩ := hrel; have hk0 : (0 : Int) ≤ (k : Int) := (by omega); have hk1001 : (k : Int) ≤ 1001 := (by omega); have HKM : Sl (k ≤ n ∧ k ≤ most + 1) := ⟨⟨hk, hkm⟩⟩
    by_cases hkn : k < n
    · have hkI : decide ((k : Int) < (n : Int)) = true := decide_eq_true (by omega); have hkI2 : (k : Int) < (n : Int) := (by omega)
      by_cases hkm2 : k ≤ most
      · have hmI : decide ((k : Int) ≤ (most : Int)) = true := decide_eq_true (by omega); have hmI2 : (k : Int) ≤ (most : Int) := (by omega); have HKN : Sl (k < n ∧ k ≤ most) := ⟨⟨hkn, hkm2⟩⟩; obtain ⟨ga, oo, x, ha, hga, hx, hr⟩ := (HA.out.below HB.out.1).row.at_ (by decide) hkn; have x2 : wr.cell? ⟨ga, oo + k * 4 + 2, none⟩ = some (.slice x.r.A x.r.n x.r.c) := hr 2 _ rfl; have x3 : wr.cell? ⟨ga, oo + k * 4 + 3, none⟩ = some (.slice x.r.B x.r.m x.r.d) := hr 3 _ rfl; have HX : Sl _ := ⟨hx⟩; have HRM : Sl _ := ⟨row_made wr x.r 45⟩; have HAL : Sl (∀ o, Below wr.heap.size wr (wr.alloc o)) := ⟨fun o => (Below.refl _ _).alloc (Nat.le_refl _) o⟩; rw [ha]; clear ha hga hx hr hkn hkm2 hk hkm
        go_wp2_with ((with_reducible show wpList _ _ _ _ _ _); first
          | (refine wpList_append_g RgV.cells rfl (.tmp 18) (.tmp 24) 36 45 rfl 2 48 _ Tryz.underlying36 infoReg rfl (by decide) (by decide) rg_one w.heap.size G k g ((L.take k).map AcV.r) rfl (HB.out.2.below (HAL.out _)) (some ⟨wr.heap.size, 0, none⟩) 1 1 [x.r] rfl HRM.out.rd (by have := HKN.out; have := HM.out; omega) (Nat.le_trans HB.out.1.size (HAL.out _).size) ?_; rintro A9 c9 we z1 z2 z3; have HE : Sl _ := ⟨And.intro z1 (And.intro z2 z3)⟩; clear z1 z2 z3))
        have hbe : Below w.heap.size w we := (MvP.of_grown HE.out.2.1).below (HB.out.1.trans ((HAL.out _).mono HB.out.1.size)) (Nat.le_trans HB.out.1.size (HAL.out _).size) (fun i e => (own_lt2 HB.out.2 e).1)
        have HV : Sl (Below w.heap.size w we ∧ FR we w.heap.size A9 (k + 1) c9 ((L.take (k + 1)).map AcV.r)) := ⟨hbe, by
          have h := HE.out.1; have e : (L.take (k + 1)).map AcV.r = (L.take k).map AcV.r ++ [x.r] := (by rw [List.take_add_one, HX.out, List.map_append]; rfl)
          rw [e]; exact h⟩
        clear hbe x2 x3; exact ⟨⟨k + 1, A9, c9, by have := HKN.out; omega, by have := HKN.out; omega, rfl, by go_num, HV⟩, by have := HKN.out; simp [RowKit.intOf]; omega⟩
      · have hmI : decide ((k : Int) ≤ (most : Int)) = false := decide_eq_false (by omega); have hmI2 : ¬ (k : Int) ≤ (most : Int) := (by omega); have HKK : Sl (k = L.length ∨ k = most + 1) := ⟨.inr (by omega)⟩; clear hkn hkm2 hk hkm
        have HTB : Sl (TbM wr G k g ((L.take k).map AcV.r)) := ⟨⟨HB.out.2.row.1, HB.out.2.row.2, fun r hr => by
          obtain ⟨a, ha, rfl⟩ := List.mem_map.1 hr
          exact (HA.out.all a (List.mem_of_mem_take ha)).1.below HB.out.1⟩⟩
        go_wp2_with fail; refine (lfarB_any G k g _ (most : Int) wr HTB.out hm1).mono ?_; rintro e w5 ⟨⟨b, rfl, hF⟩, hb⟩; have HV : Sl (b = false → L.length ≤ most ∧ ∀ a ∈ L, a.r.n ≤ 100 ∧ a.r.m ≤ 100) := ⟨hF.grt HKK.out (by rw [HL.out]; exact HKM.out.1)⟩; have HB5 : Sl (Below w.heap.size w w5) := ⟨HB.out.1.trans (hb.mono HB.out.1.size)⟩; clear hF hb; go_wp2_with fail; go_ret; exact ⟨⟨b, rfl, HV.out⟩, HB5.out⟩
    · have hkI : decide ((k : Int) < (n : Int)) = false := decide_eq_false (by omega); have hkI2 : ¬ (k : Int) < (n : Int) := (by omega); have HKK : Sl (k = L.length ∨ k = most + 1) := ⟨.inl (by rw [HL.out]; omega)⟩; clear hkn hk hkm
      have HTB : Sl (TbM wr G k g ((L.take k).map AcV.r)) := ⟨⟨HB.out.2.row.1, HB.out.2.row.2, fun r hr => by
        obtain ⟨a, ha, rfl⟩ := List.mem_map.1 hr
        exact (HA.out.all a (List.mem_of_mem_take ha)).1.below HB.out.1⟩⟩
      go_wp2_with fail; refine (lfarB_any G k g _ (most : Int) wr HTB.out hm1).mono ?_; rintro e w5 ⟨⟨b, rfl, hF⟩, hb⟩; have HV : Sl (b = false → L.length ≤ most ∧ ∀ a ∈ L, a.r.n ≤ 100 ∧ a.r.m ≤ 100) := ⟨hF.grt HKK.out (by rw [HL.out]; exact HKM.out.1)⟩; have HB5 : Sl (Below w.heap.size w w5) := ⟨HB.out.1.trans (hb.mono HB.out.1.size)⟩; clear hF hb; go_wp2_with fail; go_ret; exact ⟨⟨b, rfl, HV.out⟩, HB5.out⟩
end Go.Proofs.YtabkpbbjodfolaaGreatDoor
namespace Go.Proofs.YtabkpbbjodfolaaGreatDoor
open Go.ChangeShapes Go.WideShapes Go.ChangeAt Go.RowKit Go.Deep
theorem wf_a8 {z : Int} (h : (Lit.int .u8 z).wf = true) : 0 ≤ z ∧ z < 256 := by
  simp [Lit.wf, IntKind.min, IntKind.max, IntKind.signed, IntKind.bits] at h; omega
theorem act_trod {H : Type} {enc : TypeId × Value → H} {W : World} {fuel : Nat} {cs : List Value} {x : DataW H × List MemPlace} (h : DataW.trod enc Tryz.prog W 0 (fun _ => true) true fuel 77 cs = some x) (hb : ∀ p ∈ x.2, p.block < W.heap.size) :
    ∃ a : AcV, cs = a.cells ∧ RgM W a.r ∧ 0 ≤ a.y ∧ a.y < 256 := by
  obtain ⟨y0, y1, y2, n, hx, hl, h0, h1, h2⟩ := trod_structA3 Tryz.underlying77 h; have c1 : Tryz.prog.cellsOf 3 = 1 := (by kernel_rfl); have c2 : Tryz.prog.cellsOf 5 = 1 := (by kernel_rfl); have c3 : Tryz.prog.cellsOf 45 = 2 := (by kernel_rfl); have c7 : Tryz.prog.cellsOf 77 = 4 := (by kernel_rfl); rw [c7] at hl
  match cs, hl with
  | [v0, v1, v2, v3], _ =>
    simp only [c1, c2, c3, List.drop_zero, List.drop_succ_cons, List.take_succ_cons, List.take_zero] at h0 h1 h2; obtain ⟨a, e0, _, ha⟩ := DataW.trod_int Tryz.underlying5 h0; obtain ⟨b, e1, _, hb1⟩ := DataW.trod_int Tryz.underlying3 h1; obtain ⟨r, e2, g1, g2, g3⟩ := reg_trod h2 (fun p hp => hb p (by rw [hx]; simp [hp])); simp at e0 e1 e2; obtain ⟨e2, e3⟩ := e2; subst e0 e1 e2 e3; have h8 := wf_a8 ha; exact ⟨⟨a, b, r⟩, rfl, g1, h8⟩
theorem acts_arg {H : Type} {enc : TypeId × Value → H} {W : World} {base : Nat} {v : Value} {d : DataW H} {ps : List MemPlace} (hval : Value.okWide Tryz.prog W .any base 68 v) (h : DataW.Trod enc Tryz.prog W 0 (fun _ => true) true 68 v d ps) (hb : ∀ p ∈ ps, p.block < W.heap.size) :
    ∃ A n c L, v = .slice A n c ∧ AcM W A n c L := by
  obtain ⟨a0, len0, cap0, rfl⟩ := okWide_slice Tryz.underlying68 hval; obtain ⟨fuel, h⟩ := h; obtain ⟨A, n, c, L, h1, h2, h3, h4⟩ := rows_trod (sz := 4) (cells := AcV.cells) (fit := fun a => RgM W a.r ∧ 0 ≤ a.y ∧ a.y < 256) (⟨0, 0, rg0⟩ : AcV) (fun _ => rfl) (by decide) Tryz.underlying68 (by kernel_rfl) (fun hh hb => act_trod hh hb) h hb; exact ⟨A, n, c, L, h1, h2, h3, h4⟩
end Go.Proofs.YtabkpbbjodfolaaGreatDoor
namespace Go.Proofs.YtabkpbbjodfolaaGreatDoor
open Go.RowKit
theorem PairE.below {w0 w w' : World} {oq o : SpO} {q r : Nat} (h : PairE w0 oq o q r w) (hb : Below w.heap.size w w') : PairE w0 oq o q r w' := by
  obtain ⟨m, m2, V, R, h, e1, e2⟩ := h; exact ⟨m, m2, V, R, h.below hb, e1, e2⟩
theorem Foot.off {m m' : SqM} {w w' : World} {g : Nat} {t : TypeId} {cs : Array Value} (h : Foot m m' w w') (hB : Blk w g t cs) (hg : ¬ m.own g) : Blk w' g t cs := h.mv.blk hB hg
theorem wp_append_oj {o : Oper} {a : Act} {w : World} {K : Act → World → Prop} {Q : Exit → Act → World → Prop} (s x : Operand)
    (ho : o.op = .call { callee := .builtin .append, args := #[s, x], argTypes := #[43, 43] })
    (base : Nat) (A : Option Addr) (n c : Nat) (l : List Int) (hs : a.eval s = .slice A n c) (hown : OI w base A n c l)
    (B : Option Addr) (m d : Nat) (k : List Int) (hx : a.eval x = .slice B m d) (hr : II w B m k) (hnm : n + m ≤ 1000000) (hbase : base ≤ w.heap.size)
    (h : ∀ A' c' w', OI w' base A' (n + m) c' (l ++ k) → w.grownBy w' (Value.slice A n c).ownBlock → ((Value.slice A' (n + m) c').ownBlock = (Value.slice A n c).ownBlock ∨ (Value.slice A' (n + m) c').ownBlock = some w.heap.size) → K (a.put o.dst (.slice A' (n + m) c')) w') :
    o.wp Tryz.prog a w K Q := by
  obtain ⟨i, h1, h2, h3, h4⟩ := infoInt; refine wp_append_any w s x _ ho base 3 i _ 1 8 Tryz.underlying43 h1 h2 h3 h4 rfl (by decide) _ n _ hs hown w.heap.size B m d (k.map iv) hx hr.2 (fun u hu => ?_) (by unfold maxLen; omega) (by omega) hbase (fun v' w' h5 h6 h7 => ?_)
  · obtain ⟨z, _, rfl⟩ := List.mem_map.1 hu; rfl
  · rw [← List.map_append] at h5; rcases h5.2 with ⟨rfl, h0⟩ | ⟨g, cap, cur, rfl, _⟩
    · have hn0 : n + m = 0 := h0; have e : Value.slice none 0 0 = Value.slice none (n + m) 0 := (by rw [hn0]); rw [e] at h5 h7 ⊢; exact h _ _ _ h5 h6 h7
    · exact h _ _ _ h5 h6 h7
theorem oi_mt (w : World) (base g : Nat) (hB : Blk w g 3 #[]) (hg : base ≤ g) : OI w base (some ⟨g, 0, none⟩) 0 0 [] := own_mt w base g 1 _ hB hg
theorem blk_types {w : World} {g : Nat} {t u : TypeId} {cs ds : Array Value} (h : Blk w g t cs) (k : Blk w g u ds) (hn : t ≠ u) : False := by
  unfold Blk at h k; rw [h] at k; injection k with k
  injection k with _ e
  exact hn e
theorem own_neg {w : World} {base n c g : Nat} {A : Option Addr} {l : List Int} {t : TypeId} {cs : Array Value} (h : OI w base A n c l) (hB : Blk w g t cs) (ht : 3 ≠ t) : (Value.slice A n c).ownBlock ≠ some g := fun e => own_ne h e hB ht rfl
structure PI (w1 W : World) (r : RgV) (a b v : Option Nat) (c d : Option (Option Addr × Nat)) : Prop where
  bl : Below w1.heap.size w1 W
  A : ∀ g, a = some g → Blk W g 3 #[] ∧ w1.heap.size ≤ g
  B : ∀ g, b = some g → Blk W g 3 #[] ∧ w1.heap.size ≤ g
  V : ∀ g, v = some g → Blk W g 45 #[.slice none 0 0, .slice none 0 0] ∧ w1.heap.size ≤ g
  C : ∀ p, c = some p → OI W w1.heap.size p.1 r.n p.2 r.l
  D : ∀ p, d = some p → OI W w1.heap.size p.1 r.m p.2 r.k
  ab : ∀ g h, a = some g → b = some h → g ≠ h
  cb : ∀ p g, c = some p → b = some g → (Value.slice p.1 r.n p.2).ownBlock ≠ some g
section
variable {w1 W : World} {r : RgV} {a b v : Option Nat} {c d : Option (Option Addr × Nat)} {op : Oper} {ac : Act} {K : Act → World → Prop} {Q : Exit → Act → World → Prop}
theorem PI.nil (h : Below w1.heap.size w1 W) : PI w1 W r none none none none none := ⟨h, fun _ e => (by cases e), fun _ e => (by cases e), fun _ e => (by cases e), fun _ e => (by cases e), fun _ e => (by cases e), fun _ _ e => (by cases e), fun _ _ e => (by cases e)⟩
theorem PI.stA (h : PI w1 W r none b v none none) (hr : (execOp ac.eval op).run Tryz.prog W = .ok (.value (.slice (some ⟨W.heap.size, 0, none⟩) 0 0)) (W.alloc (.cells #[] 3))) (hk : ∀ W' g, PI w1 W' r (some g) b v none none → K (ac.put op.dst (.slice (some ⟨g, 0, none⟩) 0 0)) W') : op.wp Tryz.prog ac W K Q := by
  have zb : Below W.heap.size W (W.alloc (.cells #[] 3)) := (Below.refl _ _).alloc (Nat.le_refl _) _; refine wp_of_runc _ _ hr (hk _ _ ⟨h.bl.trans (zb.mono h.bl.size), fun g e => by injection e with e; subst e; exact ⟨Blk.new W _ _, h.bl.size⟩, fun g e => ⟨(h.B g e).1.below zb (h.B g e).1.lt, (h.B g e).2⟩, fun g e => ⟨(h.V g e).1.below zb (h.V g e).1.lt, (h.V g e).2⟩, fun _ e => (by cases e), fun _ e => (by cases e), fun g k e e2 => ?_, fun _ _ e => (by cases e)⟩); injection e with e
  have := (h.B k e2).1.lt; omega
theorem PI.stB (h : PI w1 W r a none v c none) (hr : (execOp ac.eval op).run Tryz.prog W = .ok (.value (.slice (some ⟨W.heap.size, 0, none⟩) 0 0)) (W.alloc (.cells #[] 3))) (hk : ∀ W' g, PI w1 W' r a (some g) v c none → K (ac.put op.dst (.slice (some ⟨g, 0, none⟩) 0 0)) W') : op.wp Tryz.prog ac W K Q := by
  have zb : Below W.heap.size W (W.alloc (.cells #[] 3)) := (Below.refl _ _).alloc (Nat.le_refl _) _; refine wp_of_runc _ _ hr (hk _ _ ⟨h.bl.trans (zb.mono h.bl.size), fun g e => ⟨(h.A g e).1.below zb (h.A g e).1.lt, (h.A g e).2⟩, fun g e => by injection e with e; subst e; exact ⟨Blk.new W _ _, h.bl.size⟩, fun g e => ⟨(h.V g e).1.below zb (h.V g e).1.lt, (h.V g e).2⟩, fun p e => (h.C p e).below zb, fun _ e => (by cases e), fun g k e e2 => ?_, fun p g e e2 e3 => ?_⟩)
  · injection e2 with e2
    have := (h.A g e).1.lt; omega
  · injection e2 with e2
    have := ((h.C p e).lt g e3).2; omega
theorem PI.stV (h : PI w1 W r a b none c d) (ho : op.op = .alloc 45) (hk : ∀ W' g, PI w1 W' r a b (some g) c d → K (ac.put op.dst (.pointer (some ⟨g, 0, none⟩))) W') : op.wp Tryz.prog ac W K Q := by
  refine wp_alloc_newm 45 ho #[.slice none 0 0, .slice none 0 0] alloc_reg ?_; rintro W' g zg zb zs zk; exact hk W' g ⟨h.bl.trans (zb.mono h.bl.size), fun g e => ⟨(h.A g e).1.below zb (h.A g e).1.lt, (h.A g e).2⟩, fun g e => ⟨(h.B g e).1.below zb (h.B g e).1.lt, (h.B g e).2⟩, fun k e => by injection e with e; subst e; exact ⟨zk, by rw [zg]; exact h.bl.size⟩, fun p e => (h.C p e).below zb, fun p e => (h.D p e).below zb, h.ab, h.cb⟩
theorem PI.stC (s x : Operand) (g : Nat) (h : PI w1 W r (some g) b v none none) (ho : op.op = .call { callee := .builtin .append, args := #[s, x], argTypes := #[43, 43] }) (hs : ac.eval s = .slice (some ⟨g, 0, none⟩) 0 0) (hx : ac.eval x = .slice r.A r.n r.c) (hm : II W r.A r.n r.l) (hn : r.n ≤ 100)
    (hk : ∀ A' c' W', PI w1 W' r none b v (some (A', c')) none → K (ac.put op.dst (.slice A' r.n c')) W') : op.wp Tryz.prog ac W K Q := by
  have ha := h.A g rfl; have hm0 := oi_mt W _ g ha.1 ha.2; refine wp_append_oj s x ho w1.heap.size _ 0 0 [] hs hm0 r.A r.n r.c r.l hx hm (by omega) h.bl.size ?_; rintro A' c' W' zo zg zt; rw [Nat.zero_add, List.nil_append] at zo; rw [Nat.zero_add] at zt; rw [Nat.zero_add]; have hgr : ∀ k, (Value.slice (some ⟨g, 0, none⟩) 0 0).ownBlock = some k → g = k := fun k e => by injection e
  have hmv := MvP.of_grown zg; have hne : ∀ k, g ≠ k → ¬ ((Value.slice (some ⟨g, 0, none⟩) 0 0).ownBlock = some k) := fun k e e2 => e (hgr k e2)
  refine hk A' c' W' ⟨below_grown h.bl zg h.bl.size (fun k e => by rw [← hgr k e]; exact ha.2), fun _ e => (by cases e), fun k e => ⟨hmv.blk (h.B k e).1 (hne k (h.ab g k rfl e)), (h.B k e).2⟩, fun k e => ⟨hmv.blk (h.V k e).1 (fun e2 => own_neg hm0 (h.V k e).1 (by decide) e2), (h.V k e).2⟩, fun p e => by injection e with e; subst e; exact zo, fun _ e => (by cases e), fun _ _ e => (by cases e), fun p k e e2 e3 => ?_⟩; injection e with e
  subst e; have h1 := (h.B k e2).1.lt; have h2 := h.ab g k rfl e2; rcases zt with e | e
  · have e3 : (Value.slice A' r.n c').ownBlock = some k := e3; rw [e] at e3; exact h2 (hgr k e3)
  · have e3 : (Value.slice A' r.n c').ownBlock = some k := e3; rw [e] at e3; injection e3 with e3
    omega
theorem PI.stD (s x : Operand) (g : Nat) (p : Option Addr × Nat) (h : PI w1 W r none (some g) v (some p) none) (ho : op.op = .call { callee := .builtin .append, args := #[s, x], argTypes := #[43, 43] }) (hs : ac.eval s = .slice (some ⟨g, 0, none⟩) 0 0) (hx : ac.eval x = .slice r.B r.m r.d) (hm : II W r.B r.m r.k) (hn : r.m ≤ 100)
    (hk : ∀ A' c' W', PI w1 W' r none none v (some p) (some (A', c')) → K (ac.put op.dst (.slice A' r.m c')) W') : op.wp Tryz.prog ac W K Q := by
  have ha := h.B g rfl; have hm0 := oi_mt W _ g ha.1 ha.2; refine wp_append_oj s x ho w1.heap.size _ 0 0 [] hs hm0 r.B r.m r.d r.k hx hm (by omega) h.bl.size ?_; rintro A' c' W' zo zg zt; rw [Nat.zero_add, List.nil_append] at zo; rw [Nat.zero_add]; have hgr : ∀ k, (Value.slice (some ⟨g, 0, none⟩) 0 0).ownBlock = some k → g = k := fun k e => by injection e
  have hmv := MvP.of_grown zg; exact hk A' c' W' ⟨below_grown h.bl zg h.bl.size (fun k e => by rw [← hgr k e]; exact ha.2), fun _ e => (by cases e), fun _ e => (by cases e), fun k e => ⟨hmv.blk (h.V k e).1 (fun e2 => own_neg hm0 (h.V k e).1 (by decide) e2), (h.V k e).2⟩, fun p2 e => by injection e with e; subst e; exact hmv.own (h.C p rfl) (fun k hk e2 => h.cb p g rfl rfl (by rw [hgr k e2]; exact hk)), fun p2 e => by injection e with e; subst e; exact zo, fun _ _ e => (by cases e), fun _ _ _ e => (by cases e)⟩
theorem PI.stS (x y : Operand) (g : Nat) (p q : Option Addr × Nat) (h : PI w1 W r none none (some g) (some p) (some q)) (ho : op.op = .store 45 x y) (hx : ac.eval x = .pointer (some ⟨g, 0, none⟩)) (hy : ac.eval y = .agg #[.slice p.1 r.n p.2, .slice q.1 r.m q.2]) (hi : (Tryz.prog.info? 45).map (·.size) = some 2)
    (hk : ∀ W', (Below w1.heap.size w1 W' ∧ w1.heap.size ≤ g ∧ Blk W' g 45 #[.slice p.1 r.n p.2, .slice q.1 r.m q.2] ∧ OI W' w1.heap.size p.1 r.n p.2 r.l ∧ OI W' w1.heap.size q.1 r.m q.2 r.k) → K (ac.put op.dst undef) W') : op.wp Tryz.prog ac W K Q := by
  refine wp_store_partm 45 x y ho g 0 #[.slice p.1 r.n p.2, .slice q.1 r.m q.2] hx hy 45 _ #[.slice p.1 r.n p.2, .slice q.1 r.m q.2] (h.V g rfl).1 (by simp) (putA_all _ _ rfl) hi (by simp [Value.oneCell']) ?_; intro W' zm zs zb; have hg := (h.V g rfl).2; exact hk W' ⟨below_mv h.bl zm hg h.bl.size, hg, zb, (h.C p rfl).mv zm (fun k hk e => own_neg (h.C p rfl) (h.V g rfl).1 (by decide) (by rw [hk, e])), (h.D q rfl).mv zm (fun k hk e => own_neg (h.D q rfl) (h.V g rfl).1 (by decide) (by rw [hk, e]))⟩
end
theorem play_any (w0 w : World) (oq o : SpO) (m m2 : SqM) (V : SqV RgV) (R : RqV) (h : Pair w0 w oq o m m2 V R) (hc : Spc oq o) (y z : Int) (r : RgV) (hr : RgM w0 r) (hy : 0 ≤ y ∧ y < 256) (hs : r.n ≤ 100 ∧ r.m ≤ 100) :
    Calls Tryz.prog 30 #[ptr m.q, ptr m2.q, .agg #[.int .u8 y, .int .i64 z, .slice r.A r.n r.c, .slice r.B r.m r.d]] w fun en w' => en = .returned (.bool true) ∧ PairE w0 oq o m.q m2.q w' ∧ Below w0.heap.size w0 w' := by
  have H : Sl _ := ⟨h⟩; have HC : Sl _ := ⟨hc⟩; have HR : Sl _ := ⟨hr⟩; have HSM : Sl (r.n ≤ 100 ∧ r.m ≤ 100) := ⟨hs⟩; obtain ⟨q, hq⟩ : ∃ q, m.q = q := ⟨_, rfl⟩; obtain ⟨r', hr2⟩ : ∃ r', m2.q = r' := ⟨_, rfl⟩; have HQ : Sl (m.q = q ∧ m2.q = r') := ⟨⟨hq, hr2⟩⟩; have HD : Sl (Lg w w []) := ⟨Lg.nil w⟩; have hy0 : 0 ≤ y := hy.1; have hy1 : y < 256 := hy.2; obtain ⟨K, hK⟩ : ∃ K, Int.tmod y 14 = K := ⟨_, rfl⟩; have hK0 : 0 ≤ K ∧ K < 14 := (by rw [← hK]; exact ⟨Int.tmod_nonneg _ hy.1, Int.tmod_lt_of_pos y (by decide)⟩); have hrm : Int.tmod y 14 = K := hK; have hwr : IntKind.u8.wrap K = K := (by have h1 := hK0.1; have h2 := hK0.2; rw [IntKind.wrap_u8]; omega); rw [hq, hr2]; clear h hc hr hy hq hr2 hs hK; go_enter Tryz.func30, Tryz.ntmps30
  go_upto_region 1 with ((with_reducible show wpList _ _ _ _ _ _); first
    | (refine wpList_box_new 5 rfl rfl 77 (.tmp 2) rfl #[.int .u8 y, .int .i64 z, .slice r.A r.n r.c, .slice r.B r.m r.d] rfl (fun _ => by kernel_rfl) ?_; rintro w1 g5 zg zm zs zb; replace HD : Sl _ := ⟨HD.out.new zg zm zb⟩; clear zg zm zs zb))
  have HP : Sl (Pair w0 w1 oq o m m2 V R) := ⟨H.out.below HD.out.bl⟩
  have HG : Sl (w.heap.size ≤ g5 ∧ ¬ m.own g5 ∧ ¬ m2.own g5 ∧ ¬ m.held g5 ∧ ¬ m2.held g5) := ⟨by
    have hg : w.heap.size ≤ g5 := HD.out.ld.ge _ List.mem_cons_self
    exact ⟨hg, fun e => by have := H.out.d.q.held_lt (.inl e); omega, fun e => by have := H.out.d.r.held_lt (.inl e); omega, fun e => by have := H.out.d.q.held_lt e; omega, fun e => by have := H.out.d.r.held_lt e; omega⟩⟩
  have c0 : w1.cell? ⟨g5, 0, none⟩ = some (.int .u8 y) := (HD.out.at_ 0 rfl).cell 0; have c1 : w1.cell? ⟨g5, 1, none⟩ = some (.int .i64 z) := (HD.out.at_ 0 rfl).cell 1; have hB1 : Blk w1 g5 77 #[.int .u8 y, .int .i64 z, .slice r.A r.n r.c, .slice r.B r.m r.d] := HD.out.at_ 0 rfl; have hww : w.heap.size ≤ w1.heap.size := HD.out.bl.size; have HB1 : Sl _ := ⟨And.intro hB1 hww⟩; clear hB1 hww; have hcase : K < 3 ∨ K = 3 ∨ K = 4 ∨ K = 5 ∨ K = 6 ∨ K = 7 ∨ K = 8 ∨ K = 9 ∨ K = 10 ∨ K = 11 ∨ K = 12 ∨ K = 13 := (by have h1 := hK0.1; have h2 := hK0.2; omega); have hKp : 0 ≤ K := hK0.1; clear hK0; rcases hcase with hlt | rfl | rfl | rfl | rfl | rfl | rfl | rfl | rfl | rfl | rfl | rfl
  · as_aux_lemma =>
    have hK0 : 0 ≤ K ∧ K < 3 := ⟨hKp, hlt⟩; have b3 : (K == 3) = false := (by have h1 := hK0.1; have h2 := hK0.2; simp; omega); have i3 : ¬ K = 3 := (by have h1 := hK0.1; have h2 := hK0.2; omega); have b4 : (K == 4) = false := (by have h1 := hK0.1; have h2 := hK0.2; simp; omega); have i4 : ¬ K = 4 := (by have h1 := hK0.1; have h2 := hK0.2; omega); have b5 : (K == 5) = false := (by have h1 := hK0.1; have h2 := hK0.2; simp; omega); have i5 : ¬ K = 5 := (by have h1 := hK0.1; have h2 := hK0.2; omega); have b6 : (K == 6) = false := (by have h1 := hK0.1; have h2 := hK0.2; simp; omega); have i6 : ¬ K = 6 := (by have h1 := hK0.1; have h2 := hK0.2; omega); have b7 : (K == 7) = false := (by have h1 := hK0.1; have h2 := hK0.2; simp; omega); have i7 : ¬ K = 7 := (by have h1 := hK0.1; have h2 := hK0.2; omega); have b8 : (K == 8) = false := (by have h1 := hK0.1; have h2 := hK0.2; simp; omega); have i8 : ¬ K = 8 := (by have h1 := hK0.1; have h2 := hK0.2; omega); have b9 : (K == 9) = false := (by have h1 := hK0.1; have h2 := hK0.2; simp; omega); have i9 : ¬ K = 9 := (by have h1 := hK0.1; have h2 := hK0.2; omega); have b10 : (K == 10) = false := (by have h1 := hK0.1; have h2 := hK0.2; simp; omega); have i10 : ¬ K = 10 := (by have h1 := hK0.1; have h2 := hK0.2; omega); have b11 : (K == 11) = false := (by have h1 := hK0.1; have h2 := hK0.2; simp; omega); have i11 : ¬ K = 11 := (by have h1 := hK0.1; have h2 := hK0.2; omega); have b12 : (K == 12) = false := (by have h1 := hK0.1; have h2 := hK0.2; simp; omega); have i12 : ¬ K = 12 := (by have h1 := hK0.1; have h2 := hK0.2; omega); have b13 : (K == 13) = false := (by have h1 := hK0.1; have h2 := hK0.2; simp; omega); have i13 : ¬ K = 13 := (by have h1 := hK0.1; have h2 := hK0.2; omega)
    go_upto_region 24 with fail
    clear c0 c1 hrm hwr hy0 hy1 hK0 hKp hlt b3 i3 b4 i4 b5 i5 b6 i6 b7 i7 b8 i8 b9 i9 b10 i10 b11 i11 b12 i12 b13 i13; have HM : Sl (RgM w1 r) := ⟨HR.out.below HP.out.d.bl⟩; have HS1 : Sl (w.heap.size ≤ w1.heap.size) := ⟨HB1.out.2⟩
    go_cut [15] from 116 to 126 (fun s15 wx => ∃ (g15 : Nat) (A B : Option Addr) (c d : Nat), s15 = .pointer (some ⟨g15, 0, none⟩) ∧ Sl (Below w1.heap.size w1 wx ∧ w1.heap.size ≤ g15 ∧ Blk wx g15 45 #[.slice A r.n c, .slice B r.m d] ∧ OI wx w1.heap.size A r.n c r.l ∧ OI wx w1.heap.size B r.m d r.k))
    case first =>
      have hm0 : Below w1.heap.size w1 w1.drew := below_drewN (Below.refl _ _) 1; have HSW : Sl _ := ⟨hm0⟩; have HQD : Sl (∀ W, Below w1.heap.size w1 W → Blk W g5 77 #[.int .u8 y, .int .i64 z, .slice r.A r.n r.c, .slice r.B r.m r.d] ∧ RgM W r) := ⟨fun W hW => ⟨HB1.out.1.below hW HB1.out.1.lt, HM.out.below hW⟩⟩; have hm := hm0; refine wp_region_held_drew (S := fun w' => Below w1.heap.size w1 w') (by kernel_rfl) hm (fun hHeld => ?_); clear hm; refine hS 1 (v := .pointer (some ⟨g5, 2, none⟩)) rfl rfl ?_; simp only [pS]; refine hS 2 (v := .pointer (some ⟨g5, 2, none⟩)) rfl rfl ?_; simp only [pS]
      refine hC 3 (v := .slice r.A r.n r.c) rfl rfl (fun w' h => by
        have hc := (HQD.out w' h).1.cell 2
        go_simp) ?_
      simp only [pS]; refine hS 6 (v := .pointer (some ⟨g5, 2, none⟩)) rfl rfl ?_; simp only [pS]; refine hS 7 (v := .pointer (some ⟨g5, 3, none⟩)) rfl rfl ?_; simp only [pS]
      refine hC 8 (v := .slice r.B r.m r.d) rfl rfl (fun w' h => by
        have hc := (HQD.out w' h).1.cell 3
        go_simp) ?_
      simp only [pS]; have HI := PI.nil (r := r) hm0; refine wpAnyH_threem 0 5 11 rfl rfl rfl (by kernel_rfl) rfl rfl rfl (fun K hK => ?_) (fun K hK => ?_) (fun K hK => ?_)
      · skip; refine HI.stA (by kernel_rfl) ?_; rintro z1 gA HI; refine hK.out _ _ HI.bl (fun hHeld => ?_); clear hK; simp only [pS]; refine wpAnyH_threem 4 5 11 rfl rfl rfl (by kernel_rfl) rfl rfl rfl (fun K hK => ?_) (fun K hK => ?_) (fun K hK => ?_)
        · skip; refine HI.stC (.tmp 116) (.tmp 119) gA rfl rfl rfl (HQD.out _ HI.bl).2.s HSM.out.1 ?_; rintro AC cC z2 HI; refine hK.out _ _ HI.bl (fun hHeld => ?_); clear hK; simp only [pS]; refine wpAnyH_twom 5 11 rfl rfl (by kernel_rfl) rfl rfl (fun K hK => ?_) (fun K hK => ?_)
          · skip; refine HI.stB (by kernel_rfl) ?_; rintro z3 gB HI; refine hK.out _ _ HI.bl (fun hHeld => ?_); clear hK; simp only [pS]; refine wpAnyH_twom 9 11 rfl rfl (by kernel_rfl) rfl rfl (fun K hK => ?_) (fun K hK => ?_)
            · skip; refine HI.stD (.tmp 121) (.tmp 124) gB _ rfl rfl rfl (HQD.out _ HI.bl).2.c HSM.out.2 ?_; rintro AD cD z4 HI; refine hK.out _ _ HI.bl (fun hHeld => ?_); clear hK; simp only [pS]; have hS9 := HI.bl; refine hS 10 (v := .agg #[.slice AC r.n cC, .slice AD r.m cD]) rfl rfl ?_; simp only [pS]; refine hO 11 rfl rfl fun K hK => ?_; refine HI.stV rfl ?_; rintro z5 gV HI; refine hK.out _ _ HI.bl (fun hHeld => ?_); clear hK; simp only [pS]; refine hO 12 rfl rfl fun K hK => ?_; refine HI.stS (.tmp 15) (.tmp 126) gV _ _ rfl rfl rfl (by kernel_rfl) ?_; rintro z6 HF; refine hK.out _ _ HF.1 (fun hHeld => ?_); clear hK; simp only [pS]; refine wpAnyH_done (by kernel_rfl) ?_ _
              (try go_wp2_with fail)
              go_meet
              exact ⟨gV, AC, AD, cC, cD, rfl, ⟨HF⟩⟩
            · skip; refine HI.stV rfl ?_; rintro z7 gV HI; refine hK.out _ _ HI.bl (fun hHeld => ?_); clear hK; simp only [pS]; refine hO 9 rfl rfl fun K hK => ?_; refine HI.stD (.tmp 121) (.tmp 124) gB _ rfl rfl rfl (HQD.out _ HI.bl).2.c HSM.out.2 ?_; rintro AD cD z8 HI; refine hK.out _ _ HI.bl (fun hHeld => ?_); clear hK; simp only [pS]; have hS9 := HI.bl; refine hS 10 (v := .agg #[.slice AC r.n cC, .slice AD r.m cD]) rfl rfl ?_; simp only [pS]; refine hO 12 rfl rfl fun K hK => ?_; refine HI.stS (.tmp 15) (.tmp 126) gV _ _ rfl rfl rfl (by kernel_rfl) ?_; rintro z9 HF; refine hK.out _ _ HF.1 (fun hHeld => ?_); clear hK; simp only [pS]; refine wpAnyH_done (by kernel_rfl) ?_ _
              (try go_wp2_with fail)
              go_meet
              exact ⟨gV, AC, AD, cC, cD, rfl, ⟨HF⟩⟩
          · skip; refine HI.stV rfl ?_; rintro z10 gV HI; refine hK.out _ _ HI.bl (fun hHeld => ?_); clear hK; simp only [pS]; refine hO 5 rfl rfl fun K hK => ?_; refine HI.stB (by kernel_rfl) ?_; rintro z11 gB HI; refine hK.out _ _ HI.bl (fun hHeld => ?_); clear hK; simp only [pS]; refine hO 9 rfl rfl fun K hK => ?_; refine HI.stD (.tmp 121) (.tmp 124) gB _ rfl rfl rfl (HQD.out _ HI.bl).2.c HSM.out.2 ?_; rintro AD cD z12 HI; refine hK.out _ _ HI.bl (fun hHeld => ?_); clear hK; simp only [pS]; have hS9 := HI.bl; refine hS 10 (v := .agg #[.slice AC r.n cC, .slice AD r.m cD]) rfl rfl ?_; simp only [pS]; refine hO 12 rfl rfl fun K hK => ?_; refine HI.stS (.tmp 15) (.tmp 126) gV _ _ rfl rfl rfl (by kernel_rfl) ?_; rintro z13 HF; refine hK.out _ _ HF.1 (fun hHeld => ?_); clear hK; simp only [pS]; refine wpAnyH_done (by kernel_rfl) ?_ _
            (try go_wp2_with fail)
            go_meet
            exact ⟨gV, AC, AD, cC, cD, rfl, ⟨HF⟩⟩
        · skip; refine HI.stB (by kernel_rfl) ?_; rintro z14 gB HI; refine hK.out _ _ HI.bl (fun hHeld => ?_); clear hK; simp only [pS]; refine wpAnyH_twom 4 11 rfl rfl (by kernel_rfl) rfl rfl (fun K hK => ?_) (fun K hK => ?_)
          · skip; refine HI.stC (.tmp 116) (.tmp 119) gA rfl rfl rfl (HQD.out _ HI.bl).2.s HSM.out.1 ?_; rintro AC cC z15 HI; refine hK.out _ _ HI.bl (fun hHeld => ?_); clear hK; simp only [pS]; refine wpAnyH_twom 9 11 rfl rfl (by kernel_rfl) rfl rfl (fun K hK => ?_) (fun K hK => ?_)
            · skip; refine HI.stD (.tmp 121) (.tmp 124) gB _ rfl rfl rfl (HQD.out _ HI.bl).2.c HSM.out.2 ?_; rintro AD cD z16 HI; refine hK.out _ _ HI.bl (fun hHeld => ?_); clear hK; simp only [pS]; have hS9 := HI.bl; refine hS 10 (v := .agg #[.slice AC r.n cC, .slice AD r.m cD]) rfl rfl ?_; simp only [pS]; refine hO 11 rfl rfl fun K hK => ?_; refine HI.stV rfl ?_; rintro z17 gV HI; refine hK.out _ _ HI.bl (fun hHeld => ?_); clear hK; simp only [pS]; refine hO 12 rfl rfl fun K hK => ?_; refine HI.stS (.tmp 15) (.tmp 126) gV _ _ rfl rfl rfl (by kernel_rfl) ?_; rintro z18 HF; refine hK.out _ _ HF.1 (fun hHeld => ?_); clear hK; simp only [pS]; refine wpAnyH_done (by kernel_rfl) ?_ _
              (try go_wp2_with fail)
              go_meet
              exact ⟨gV, AC, AD, cC, cD, rfl, ⟨HF⟩⟩
            · skip; refine HI.stV rfl ?_; rintro z19 gV HI; refine hK.out _ _ HI.bl (fun hHeld => ?_); clear hK; simp only [pS]; refine hO 9 rfl rfl fun K hK => ?_; refine HI.stD (.tmp 121) (.tmp 124) gB _ rfl rfl rfl (HQD.out _ HI.bl).2.c HSM.out.2 ?_; rintro AD cD z20 HI; refine hK.out _ _ HI.bl (fun hHeld => ?_); clear hK; simp only [pS]; have hS9 := HI.bl; refine hS 10 (v := .agg #[.slice AC r.n cC, .slice AD r.m cD]) rfl rfl ?_; simp only [pS]; refine hO 12 rfl rfl fun K hK => ?_; refine HI.stS (.tmp 15) (.tmp 126) gV _ _ rfl rfl rfl (by kernel_rfl) ?_; rintro z21 HF; refine hK.out _ _ HF.1 (fun hHeld => ?_); clear hK; simp only [pS]; refine wpAnyH_done (by kernel_rfl) ?_ _
              (try go_wp2_with fail)
              go_meet
              exact ⟨gV, AC, AD, cC, cD, rfl, ⟨HF⟩⟩
          · skip; refine HI.stV rfl ?_; rintro z22 gV HI; refine hK.out _ _ HI.bl (fun hHeld => ?_); clear hK; simp only [pS]; refine hO 4 rfl rfl fun K hK => ?_; refine HI.stC (.tmp 116) (.tmp 119) gA rfl rfl rfl (HQD.out _ HI.bl).2.s HSM.out.1 ?_; rintro AC cC z23 HI; refine hK.out _ _ HI.bl (fun hHeld => ?_); clear hK; simp only [pS]; refine hO 9 rfl rfl fun K hK => ?_; refine HI.stD (.tmp 121) (.tmp 124) gB _ rfl rfl rfl (HQD.out _ HI.bl).2.c HSM.out.2 ?_; rintro AD cD z24 HI; refine hK.out _ _ HI.bl (fun hHeld => ?_); clear hK; simp only [pS]; have hS9 := HI.bl; refine hS 10 (v := .agg #[.slice AC r.n cC, .slice AD r.m cD]) rfl rfl ?_; simp only [pS]; refine hO 12 rfl rfl fun K hK => ?_; refine HI.stS (.tmp 15) (.tmp 126) gV _ _ rfl rfl rfl (by kernel_rfl) ?_; rintro z25 HF; refine hK.out _ _ HF.1 (fun hHeld => ?_); clear hK; simp only [pS]; refine wpAnyH_done (by kernel_rfl) ?_ _
            (try go_wp2_with fail)
            go_meet
            exact ⟨gV, AC, AD, cC, cD, rfl, ⟨HF⟩⟩
        · skip; refine HI.stV rfl ?_; rintro z26 gV HI; refine hK.out _ _ HI.bl (fun hHeld => ?_); clear hK; simp only [pS]; refine wpAnyH_twom 4 5 rfl rfl (by kernel_rfl) rfl rfl (fun K hK => ?_) (fun K hK => ?_)
          · skip; refine HI.stC (.tmp 116) (.tmp 119) gA rfl rfl rfl (HQD.out _ HI.bl).2.s HSM.out.1 ?_; rintro AC cC z27 HI; refine hK.out _ _ HI.bl (fun hHeld => ?_); clear hK; simp only [pS]; refine hO 5 rfl rfl fun K hK => ?_; refine HI.stB (by kernel_rfl) ?_; rintro z28 gB HI; refine hK.out _ _ HI.bl (fun hHeld => ?_); clear hK; simp only [pS]; refine hO 9 rfl rfl fun K hK => ?_; refine HI.stD (.tmp 121) (.tmp 124) gB _ rfl rfl rfl (HQD.out _ HI.bl).2.c HSM.out.2 ?_; rintro AD cD z29 HI; refine hK.out _ _ HI.bl (fun hHeld => ?_); clear hK; simp only [pS]; have hS9 := HI.bl; refine hS 10 (v := .agg #[.slice AC r.n cC, .slice AD r.m cD]) rfl rfl ?_; simp only [pS]; refine hO 12 rfl rfl fun K hK => ?_; refine HI.stS (.tmp 15) (.tmp 126) gV _ _ rfl rfl rfl (by kernel_rfl) ?_; rintro z30 HF; refine hK.out _ _ HF.1 (fun hHeld => ?_); clear hK; simp only [pS]; refine wpAnyH_done (by kernel_rfl) ?_ _
            (try go_wp2_with fail)
            go_meet
            exact ⟨gV, AC, AD, cC, cD, rfl, ⟨HF⟩⟩
          · skip; refine HI.stB (by kernel_rfl) ?_; rintro z31 gB HI; refine hK.out _ _ HI.bl (fun hHeld => ?_); clear hK; simp only [pS]; refine hO 4 rfl rfl fun K hK => ?_; refine HI.stC (.tmp 116) (.tmp 119) gA rfl rfl rfl (HQD.out _ HI.bl).2.s HSM.out.1 ?_; rintro AC cC z32 HI; refine hK.out _ _ HI.bl (fun hHeld => ?_); clear hK; simp only [pS]; refine hO 9 rfl rfl fun K hK => ?_; refine HI.stD (.tmp 121) (.tmp 124) gB _ rfl rfl rfl (HQD.out _ HI.bl).2.c HSM.out.2 ?_; rintro AD cD z33 HI; refine hK.out _ _ HI.bl (fun hHeld => ?_); clear hK; simp only [pS]; have hS9 := HI.bl; refine hS 10 (v := .agg #[.slice AC r.n cC, .slice AD r.m cD]) rfl rfl ?_; simp only [pS]; refine hO 12 rfl rfl fun K hK => ?_; refine HI.stS (.tmp 15) (.tmp 126) gV _ _ rfl rfl rfl (by kernel_rfl) ?_; rintro z34 HF; refine hK.out _ _ HF.1 (fun hHeld => ?_); clear hK; simp only [pS]; refine wpAnyH_done (by kernel_rfl) ?_ _
            (try go_wp2_with fail)
            go_meet
            exact ⟨gV, AC, AD, cC, cD, rfl, ⟨HF⟩⟩
      · skip; refine HI.stB (by kernel_rfl) ?_; rintro z35 gB HI; refine hK.out _ _ HI.bl (fun hHeld => ?_); clear hK; simp only [pS]; refine wpAnyH_twom 0 11 rfl rfl (by kernel_rfl) rfl rfl (fun K hK => ?_) (fun K hK => ?_)
        · skip; refine HI.stA (by kernel_rfl) ?_; rintro z36 gA HI; refine hK.out _ _ HI.bl (fun hHeld => ?_); clear hK; simp only [pS]; refine wpAnyH_twom 4 11 rfl rfl (by kernel_rfl) rfl rfl (fun K hK => ?_) (fun K hK => ?_)
          · skip; refine HI.stC (.tmp 116) (.tmp 119) gA rfl rfl rfl (HQD.out _ HI.bl).2.s HSM.out.1 ?_; rintro AC cC z37 HI; refine hK.out _ _ HI.bl (fun hHeld => ?_); clear hK; simp only [pS]; refine wpAnyH_twom 9 11 rfl rfl (by kernel_rfl) rfl rfl (fun K hK => ?_) (fun K hK => ?_)
            · skip; refine HI.stD (.tmp 121) (.tmp 124) gB _ rfl rfl rfl (HQD.out _ HI.bl).2.c HSM.out.2 ?_; rintro AD cD z38 HI; refine hK.out _ _ HI.bl (fun hHeld => ?_); clear hK; simp only [pS]; have hS9 := HI.bl; refine hS 10 (v := .agg #[.slice AC r.n cC, .slice AD r.m cD]) rfl rfl ?_; simp only [pS]; refine hO 11 rfl rfl fun K hK => ?_; refine HI.stV rfl ?_; rintro z39 gV HI; refine hK.out _ _ HI.bl (fun hHeld => ?_); clear hK; simp only [pS]; refine hO 12 rfl rfl fun K hK => ?_; refine HI.stS (.tmp 15) (.tmp 126) gV _ _ rfl rfl rfl (by kernel_rfl) ?_; rintro z40 HF; refine hK.out _ _ HF.1 (fun hHeld => ?_); clear hK; simp only [pS]; refine wpAnyH_done (by kernel_rfl) ?_ _
              (try go_wp2_with fail)
              go_meet
              exact ⟨gV, AC, AD, cC, cD, rfl, ⟨HF⟩⟩
            · skip; refine HI.stV rfl ?_; rintro z41 gV HI; refine hK.out _ _ HI.bl (fun hHeld => ?_); clear hK; simp only [pS]; refine hO 9 rfl rfl fun K hK => ?_; refine HI.stD (.tmp 121) (.tmp 124) gB _ rfl rfl rfl (HQD.out _ HI.bl).2.c HSM.out.2 ?_; rintro AD cD z42 HI; refine hK.out _ _ HI.bl (fun hHeld => ?_); clear hK; simp only [pS]; have hS9 := HI.bl; refine hS 10 (v := .agg #[.slice AC r.n cC, .slice AD r.m cD]) rfl rfl ?_; simp only [pS]; refine hO 12 rfl rfl fun K hK => ?_; refine HI.stS (.tmp 15) (.tmp 126) gV _ _ rfl rfl rfl (by kernel_rfl) ?_; rintro z43 HF; refine hK.out _ _ HF.1 (fun hHeld => ?_); clear hK; simp only [pS]; refine wpAnyH_done (by kernel_rfl) ?_ _
              (try go_wp2_with fail)
              go_meet
              exact ⟨gV, AC, AD, cC, cD, rfl, ⟨HF⟩⟩
          · skip; refine HI.stV rfl ?_; rintro z44 gV HI; refine hK.out _ _ HI.bl (fun hHeld => ?_); clear hK; simp only [pS]; refine hO 4 rfl rfl fun K hK => ?_; refine HI.stC (.tmp 116) (.tmp 119) gA rfl rfl rfl (HQD.out _ HI.bl).2.s HSM.out.1 ?_; rintro AC cC z45 HI; refine hK.out _ _ HI.bl (fun hHeld => ?_); clear hK; simp only [pS]; refine hO 9 rfl rfl fun K hK => ?_; refine HI.stD (.tmp 121) (.tmp 124) gB _ rfl rfl rfl (HQD.out _ HI.bl).2.c HSM.out.2 ?_; rintro AD cD z46 HI; refine hK.out _ _ HI.bl (fun hHeld => ?_); clear hK; simp only [pS]; have hS9 := HI.bl; refine hS 10 (v := .agg #[.slice AC r.n cC, .slice AD r.m cD]) rfl rfl ?_; simp only [pS]; refine hO 12 rfl rfl fun K hK => ?_; refine HI.stS (.tmp 15) (.tmp 126) gV _ _ rfl rfl rfl (by kernel_rfl) ?_; rintro z47 HF; refine hK.out _ _ HF.1 (fun hHeld => ?_); clear hK; simp only [pS]; refine wpAnyH_done (by kernel_rfl) ?_ _
            (try go_wp2_with fail)
            go_meet
            exact ⟨gV, AC, AD, cC, cD, rfl, ⟨HF⟩⟩
        · skip; refine HI.stV rfl ?_; rintro z48 gV HI; refine hK.out _ _ HI.bl (fun hHeld => ?_); clear hK; simp only [pS]; refine hO 0 rfl rfl fun K hK => ?_; refine HI.stA (by kernel_rfl) ?_; rintro z49 gA HI; refine hK.out _ _ HI.bl (fun hHeld => ?_); clear hK; simp only [pS]; refine hO 4 rfl rfl fun K hK => ?_; refine HI.stC (.tmp 116) (.tmp 119) gA rfl rfl rfl (HQD.out _ HI.bl).2.s HSM.out.1 ?_; rintro AC cC z50 HI; refine hK.out _ _ HI.bl (fun hHeld => ?_); clear hK; simp only [pS]; refine hO 9 rfl rfl fun K hK => ?_; refine HI.stD (.tmp 121) (.tmp 124) gB _ rfl rfl rfl (HQD.out _ HI.bl).2.c HSM.out.2 ?_; rintro AD cD z51 HI; refine hK.out _ _ HI.bl (fun hHeld => ?_); clear hK; simp only [pS]; have hS9 := HI.bl; refine hS 10 (v := .agg #[.slice AC r.n cC, .slice AD r.m cD]) rfl rfl ?_; simp only [pS]; refine hO 12 rfl rfl fun K hK => ?_; refine HI.stS (.tmp 15) (.tmp 126) gV _ _ rfl rfl rfl (by kernel_rfl) ?_; rintro z52 HF; refine hK.out _ _ HF.1 (fun hHeld => ?_); clear hK; simp only [pS]; refine wpAnyH_done (by kernel_rfl) ?_ _
          (try go_wp2_with fail)
          go_meet
          exact ⟨gV, AC, AD, cC, cD, rfl, ⟨HF⟩⟩
      · skip; refine HI.stV rfl ?_; rintro z53 gV HI; refine hK.out _ _ HI.bl (fun hHeld => ?_); clear hK; simp only [pS]; refine wpAnyH_twom 0 5 rfl rfl (by kernel_rfl) rfl rfl (fun K hK => ?_) (fun K hK => ?_)
        · skip; refine HI.stA (by kernel_rfl) ?_; rintro z54 gA HI; refine hK.out _ _ HI.bl (fun hHeld => ?_); clear hK; simp only [pS]; refine wpAnyH_twom 4 5 rfl rfl (by kernel_rfl) rfl rfl (fun K hK => ?_) (fun K hK => ?_)
          · skip; refine HI.stC (.tmp 116) (.tmp 119) gA rfl rfl rfl (HQD.out _ HI.bl).2.s HSM.out.1 ?_; rintro AC cC z55 HI; refine hK.out _ _ HI.bl (fun hHeld => ?_); clear hK; simp only [pS]; refine hO 5 rfl rfl fun K hK => ?_; refine HI.stB (by kernel_rfl) ?_; rintro z56 gB HI; refine hK.out _ _ HI.bl (fun hHeld => ?_); clear hK; simp only [pS]; refine hO 9 rfl rfl fun K hK => ?_; refine HI.stD (.tmp 121) (.tmp 124) gB _ rfl rfl rfl (HQD.out _ HI.bl).2.c HSM.out.2 ?_; rintro AD cD z57 HI; refine hK.out _ _ HI.bl (fun hHeld => ?_); clear hK; simp only [pS]; have hS9 := HI.bl; refine hS 10 (v := .agg #[.slice AC r.n cC, .slice AD r.m cD]) rfl rfl ?_; simp only [pS]; refine hO 12 rfl rfl fun K hK => ?_; refine HI.stS (.tmp 15) (.tmp 126) gV _ _ rfl rfl rfl (by kernel_rfl) ?_; rintro z58 HF; refine hK.out _ _ HF.1 (fun hHeld => ?_); clear hK; simp only [pS]; refine wpAnyH_done (by kernel_rfl) ?_ _
            (try go_wp2_with fail)
            go_meet
            exact ⟨gV, AC, AD, cC, cD, rfl, ⟨HF⟩⟩
          · skip; refine HI.stB (by kernel_rfl) ?_; rintro z59 gB HI; refine hK.out _ _ HI.bl (fun hHeld => ?_); clear hK; simp only [pS]; refine hO 4 rfl rfl fun K hK => ?_; refine HI.stC (.tmp 116) (.tmp 119) gA rfl rfl rfl (HQD.out _ HI.bl).2.s HSM.out.1 ?_; rintro AC cC z60 HI; refine hK.out _ _ HI.bl (fun hHeld => ?_); clear hK; simp only [pS]; refine hO 9 rfl rfl fun K hK => ?_; refine HI.stD (.tmp 121) (.tmp 124) gB _ rfl rfl rfl (HQD.out _ HI.bl).2.c HSM.out.2 ?_; rintro AD cD z61 HI; refine hK.out _ _ HI.bl (fun hHeld => ?_); clear hK; simp only [pS]; have hS9 := HI.bl; refine hS 10 (v := .agg #[.slice AC r.n cC, .slice AD r.m cD]) rfl rfl ?_; simp only [pS]; refine hO 12 rfl rfl fun K hK => ?_; refine HI.stS (.tmp 15) (.tmp 126) gV _ _ rfl rfl rfl (by kernel_rfl) ?_; rintro z62 HF; refine hK.out _ _ HF.1 (fun hHeld => ?_); clear hK; simp only [pS]; refine wpAnyH_done (by kernel_rfl) ?_ _
            (try go_wp2_with fail)
            go_meet
            exact ⟨gV, AC, AD, cC, cD, rfl, ⟨HF⟩⟩
        · skip; refine HI.stB (by kernel_rfl) ?_; rintro z63 gB HI; refine hK.out _ _ HI.bl (fun hHeld => ?_); clear hK; simp only [pS]; refine hO 0 rfl rfl fun K hK => ?_; refine HI.stA (by kernel_rfl) ?_; rintro z64 gA HI; refine hK.out _ _ HI.bl (fun hHeld => ?_); clear hK; simp only [pS]; refine hO 4 rfl rfl fun K hK => ?_; refine HI.stC (.tmp 116) (.tmp 119) gA rfl rfl rfl (HQD.out _ HI.bl).2.s HSM.out.1 ?_; rintro AC cC z65 HI; refine hK.out _ _ HI.bl (fun hHeld => ?_); clear hK; simp only [pS]; refine hO 9 rfl rfl fun K hK => ?_; refine HI.stD (.tmp 121) (.tmp 124) gB _ rfl rfl rfl (HQD.out _ HI.bl).2.c HSM.out.2 ?_; rintro AD cD z66 HI; refine hK.out _ _ HI.bl (fun hHeld => ?_); clear hK; simp only [pS]; have hS9 := HI.bl; refine hS 10 (v := .agg #[.slice AC r.n cC, .slice AD r.m cD]) rfl rfl ?_; simp only [pS]; refine hO 12 rfl rfl fun K hK => ?_; refine HI.stS (.tmp 15) (.tmp 126) gV _ _ rfl rfl rfl (by kernel_rfl) ?_; rintro z67 HF; refine hK.out _ _ HF.1 (fun hHeld => ?_); clear hK; simp only [pS]; refine wpAnyH_done (by kernel_rfl) ?_ _
          (try go_wp2_with fail)
          go_meet
          exact ⟨gV, AC, AD, cC, cD, rfl, ⟨HF⟩⟩
    case rest =>
      obtain ⟨g15, A, B, c, d, rfl, HC1⟩ := hcut; have HPC : Sl (Pair w0 wc oq o m m2 V R) := ⟨HP.out.below HC1.out.1⟩; have HB5 : Sl (Blk wc g5 77 #[.int .u8 y, .int .i64 z, .slice r.A r.n r.c, .slice r.B r.m r.d]) := ⟨HB1.out.1.below HC1.out.1 HB1.out.1.lt⟩
      have HCC : Sl (Calls Tryz.prog 12 #[ptr q, .int .i64 z, .agg #[.slice A r.n c, .slice B r.m d]] wc (Half w0 oq o m m2 13 #[ptr r', .int .i64 z, .agg #[.slice r.A r.n r.c, .slice r.B r.m r.d]] (fun W => Dep W m2.imm fun w' => RgM w' r) wc)) := ⟨by
        have h := pInsert HPC.out HC.out z ⟨A, r.n, c, r.l, B, r.m, d, r.k⟩ r rfl ⟨HC1.out.2.2.2.1.ii, HC1.out.2.2.2.2.ii, HC1.out.2.2.2.1.cap, HC1.out.2.2.2.2.cap⟩; rw [HQ.out.1, HQ.out.2] at h
        exact h⟩
      have HG15 : Sl (w1.heap.size ≤ g15 ∧ Blk wc g15 45 #[.slice A r.n c, .slice B r.m d]) := ⟨⟨HC1.out.2.1, HC1.out.2.2.1⟩⟩; have c1 : wc.cell? ⟨g5, 1, none⟩ = some (.int .i64 z) := HB5.out.cell 1
      go_wp2_with ((with_reducible show wpList _ _ _ _ _ _); first
        | (refine wpList_load_whole rfl 45 (.tmp 15) rfl g15 rfl 45 _ _ HG15.out.2 Tryz.underlying45 rfl (by kernel_rfl) ?_))
      refine HCC.out.mono ?_; rintro en w2 ⟨E, m', V', R', rfl, hF, hD, hcl⟩; have HF : Sl _ := ⟨hF⟩; have HDU : Sl _ := ⟨hD⟩; have HCL : Sl _ := ⟨hcl⟩; clear hF hD hcl HCC c1; have HOWN : Sl (∀ i, w1.heap.size ≤ i → ¬ m.own i) := ⟨fun i hi e => by have := HP.out.d.q.held_lt (.inl e); omega⟩
      have HNH : Sl (∀ i, w1.heap.size ≤ i → i < wc.heap.size → ¬ m'.held i ∧ ¬ m2.held i) := ⟨fun i h1 h2 => ⟨fun e => by
        rcases HF.out.held i e with e | e
        · have := HP.out.d.q.held_lt e; omega
        · omega, fun e => by have := HP.out.d.r.held_lt e; omega⟩⟩
      have HW0 : Sl (w0.heap.size ≤ w1.heap.size) := ⟨HP.out.d.bl.size⟩; have HB52 : Sl (Blk w2 g5 77 #[.int .u8 y, .int .i64 z, .slice r.A r.n r.c, .slice r.B r.m r.d]) := ⟨HF.out.off HB5.out HG.out.2.1⟩; have HB152 : Sl (Blk w2 g15 45 #[.slice A r.n c, .slice B r.m d]) := ⟨HF.out.off HG15.out.2 (HOWN.out _ HG15.out.1)⟩
      have HRW : Sl (r.n ≠ 0 → ∃ gA cs, A = some ⟨gA, 0, none⟩ ∧ Blk w2 gA 3 cs ∧ r.n ≤ cs.size ∧ w1.heap.size ≤ gA ∧ gA < wc.heap.size) := ⟨fun h0 => by
        rcases HC1.out.2.2.2.1.2 with ⟨_, h1⟩ | ⟨gA, cap, cur, e1, hb, hh, h2, h3, h4, _⟩
        · exact absurd h1 h0
        · injection e1 with e1
          have hB : Blk wc gA 3 cur := hh
          exact ⟨gA, cur, e1, HF.out.off hB (HOWN.out _ hb), by rw [h4, Nat.mul_one]; exact h2, hb, hB.lt⟩⟩
      have hn100 : (r.n : Int) ≤ 100 := (by have := HSM.out; omega); have hnc : (r.n : Int) ≤ (c : Int) := (by have := HC1.out.2.2.2.1.cap.1; omega); go_wp2_with fail
      go_loopw [17] (fun s17 wv => ∃ k : Nat, k ≤ r.n ∧ s17 = .int .i64 (k : Int) ∧ Sl (Duo w0 wv oq o m' m2 V' R' ∧ Blk wv g5 77 #[.int .u8 y, .int .i64 z, .slice r.A r.n r.c, .slice r.B r.m r.d] ∧ Blk wv g15 45 #[.slice A r.n c, .slice B r.m d] ∧ (r.n ≠ 0 → ∃ gA cs, A = some ⟨gA, 0, none⟩ ∧ Blk wv gA 3 cs ∧ r.n ≤ cs.size ∧ w1.heap.size ≤ gA ∧ gA < wc.heap.size))) (fun s17 _ => r.n - (RowKit.intOf s17).toNat)
      case atStart => exact ⟨0, Nat.zero_le _, rfl, ⟨HDU.out, HB52.out, HB152.out, HRW.out⟩⟩
      case round =>
        clear HB52 HB152 HRW HDU; obtain ⟨k, hk, rfl, HL⟩ := hrel; have hk0 : (0 : Int) ≤ (k : Int) := (by omega); have c15 : wr.cell? ⟨g15, 0, none⟩ = some (.slice A r.n c) := HL.out.2.2.1.cell 0
        by_cases hkn : k < r.n
        · have hkI : decide ((k : Int) < (r.n : Int)) = true := decide_eq_true (by omega); have hkI2 : (k : Int) < (r.n : Int) := (by omega); have HKN : Sl (k < r.n) := ⟨hkn⟩; obtain ⟨gA, cs, rfl, hB, hcs, hg1, hg2⟩ := HL.out.2.2.2 (by omega); have HGA : Sl (Blk wr gA 3 cs ∧ r.n ≤ cs.size ∧ w1.heap.size ≤ gA ∧ gA < wc.heap.size) := ⟨⟨hB, hcs, hg1, hg2⟩⟩; have HNE : Sl (gA ≠ g5 ∧ gA ≠ g15) := ⟨⟨fun e => by have h1 := HL.out.2.1; rw [← e] at h1; exact blk_types hB h1 (by decide), fun e => by have h1 := HL.out.2.2.1; rw [← e] at h1; exact blk_types hB h1 (by decide)⟩⟩; clear hB hcs hg1 hg2 hkn hk
          go_wp2_with ((with_reducible show wpList _ _ _ _ _ _); first
            | (refine wpList_store_cell rfl 3 (.tmp 142) (.const (.int .i64 0)) rfl gA k (.int .i64 0) rfl rfl 3 _ (cs.setIfInBounds k (.int .i64 0)) HGA.out.1 (by have := HGA.out.2.1; have := HKN.out; omega) rfl (by kernel_rfl) rfl rfl ?_; rintro we zm zs zb zw; have HZ : Sl _ := ⟨And.intro zm zb⟩; clear zm zs zb zw))
          have HV : Sl (Duo w0 we oq o m' m2 V' R' ∧ Blk we g5 77 #[.int .u8 y, .int .i64 z, .slice r.A r.n r.c, .slice r.B r.m r.d] ∧ Blk we g15 45 #[.slice (some ⟨gA, 0, none⟩) r.n c, .slice B r.m d] ∧ (r.n ≠ 0 → ∃ gB cs, some (⟨gA, 0, none⟩ : Addr) = some ⟨gB, 0, none⟩ ∧ Blk we gB 3 cs ∧ r.n ≤ cs.size ∧ w1.heap.size ≤ gB ∧ gB < wc.heap.size)) := ⟨by
            have hh := HNH.out gA HGA.out.2.2.1 HGA.out.2.2.2
            refine ⟨HL.out.1.keep (MvP.of_mv HZ.out.1) (fun i hi e => hh.1 (e ▸ hi)) (fun i hi e => hh.2 (e ▸ hi)) (fun i e => by have := HGA.out.2.2.1; have := HW0.out; omega), HL.out.2.1.mv HZ.out.1 (fun e => HNE.out.1 e.symm), HL.out.2.2.1.mv HZ.out.1 (fun e => HNE.out.2 e.symm), fun _ => ⟨gA, _, rfl, HZ.out.2, by rw [Array.size_setIfInBounds]; exact HGA.out.2.1, HGA.out.2.2.1, HGA.out.2.2.2⟩⟩⟩
          exact ⟨⟨k + 1, HKN.out, by go_num, HV⟩, by have := HKN.out; simp [RowKit.intOf]; omega⟩
        · obtain rfl : k = r.n := (by omega); have hkI : decide ((r.n : Int) < (r.n : Int)) = false := (by simp); have HC2 : Sl (Calls Tryz.prog 13 #[ptr r', .int .i64 z, .agg #[.slice r.A r.n r.c, .slice r.B r.m r.d]] wr fun en' w'' => en' = .returned (.int .i64 E) ∧ PairE w0 oq o m.q m2.q w'' ∧ Below w0.heap.size w0 w'' ∧ MvP m2.own wr w'') := ⟨HCL.out wr HL.out.1 (dep_arg HR.out HP.out.im HL.out.1.bl)⟩; have x1 : wr.cell? ⟨g5, 1, none⟩ = some (.int .i64 z) := HL.out.2.1.cell 1; have x2 : wr.cell? ⟨g5, 2, none⟩ = some (.slice r.A r.n r.c) := HL.out.2.1.cell 2; have x3 : wr.cell? ⟨g5, 3, none⟩ = some (.slice r.B r.m r.d) := HL.out.2.1.cell 3; go_wp2_with fail; refine HC2.out.mono ?_; rintro en w3 ⟨rfl, hP, hb, hm⟩; have HV : Sl _ := ⟨And.intro hP hb⟩; clear hP hb hm HC2 x1 x2 x3 c15; rw [HQ.out.1, HQ.out.2] at HV; go_wp2_with fail; go_ret; exact ⟨rfl, HV.out.1, HV.out.2⟩
  · as_aux_lemma =>
    go_upto_region 3 with fail
    clear c0 hrm hwr hy0 hy1; have hS0 : Blk w1.drew g5 77 #[.int .u8 y, .int .i64 z, .slice r.A r.n r.c, .slice r.B r.m r.d] := HB1.out.1.below (below_drewN (Below.refl _ _) 1) HB1.out.1.lt; replace HP : Sl (Pair w0 w1.drew oq o m m2 V R) := ⟨HP.out.below (below_drewN (Below.refl _ _) 1)⟩; have HM : Sl (RgM w1.drew r) := ⟨HR.out.below HP.out.d.bl⟩; clear c1; have hm := hS0; refine wp_region_held_drew (S := fun w' => Blk w' g5 77 #[.int .u8 y, .int .i64 z, .slice r.A r.n r.c, .slice r.B r.m r.d]) (by kernel_rfl) hm (fun hHeld => ?_); clear hm; refine hM 0 (v := ptr q) rfl rfl ?_; simp only [pS]; refine hS 1 (v := .pointer (some ⟨g5, 1, none⟩)) rfl rfl ?_; simp only [pS]
    refine hC 2 (v := .int .i64 z) rfl rfl (fun w' h => by
      have hc := h.cell 1
      go_simp) ?_
    simp only [pS]; refine hS 3 (v := .pointer (some ⟨g5, 2, none⟩)) rfl rfl ?_; simp only [pS]; refine hL 4 45 (.tmp 26) rfl rfl rfl g5 2 rfl #[.slice r.A r.n r.c, .slice r.B r.m r.d] _ (fun w' h => by have := World.rangeAt_of_block h 2 2; exact this) Tryz.underlying45 rfl ?_; simp only [pS]; refine hM 6 (v := ptr r') rfl rfl ?_; simp only [pS]; refine hS 7 (v := .pointer (some ⟨g5, 1, none⟩)) rfl rfl ?_; simp only [pS]
    refine hC 8 (v := .int .i64 z) rfl rfl (fun w' h => by
      have hc := h.cell 1
      go_simp) ?_
    simp only [pS]; refine hS 9 (v := .pointer (some ⟨g5, 2, none⟩)) rfl rfl ?_; simp only [pS]; refine hL 10 45 (.tmp 32) rfl rfl rfl g5 2 rfl #[.slice r.A r.n r.c, .slice r.B r.m r.d] _ (fun w' h => by have := World.rangeAt_of_block h 2 2; exact this) Tryz.underlying45 rfl ?_; simp only [pS]
    have HCC : Sl (Calls Tryz.prog 31 #[ptr q, .int .i64 z, .agg #[.slice r.A r.n r.c, .slice r.B r.m r.d]] w1.drew (Half w0 oq o m m2 72 #[ptr r', .int .i64 z, .agg #[.slice r.A r.n r.c, .slice r.B r.m r.d]] (fun W => Dep W m2.imm fun w' => RgM w' r) w1.drew)) := ⟨by
      have h := pReplace HP.out HC.out z r r rfl HM.out; rw [HQ.out.1, HQ.out.2] at h
      exact h⟩
    refine hO 5 rfl rfl fun K hK => ?_; go_simp; go_at_call 31
    (with_reducible refine (HCC.out).mono ?_)
    rintro en w2 ⟨E, m', V', R', rfl, hF, hD, hcl⟩; have hB2 : Blk w2 g5 77 #[.int .u8 y, .int .i64 z, .slice r.A r.n r.c, .slice r.B r.m r.d] := hF.off hS0 HG.out.2.1; have HH : Sl _ := ⟨And.intro hD hcl⟩; clear hF hD hcl HCC; refine hK.out _ _ hB2 (fun hHeld => ?_); clear hK K
    (try simp only [pS])
    refine hO 11 rfl rfl fun K hK => ?_; go_simp; go_at_call 72
    (with_reducible refine (HH.out.2 _ HH.out.1 (dep_arg HR.out HP.out.im HH.out.1.bl)).mono ?_)
    rintro en w3 ⟨rfl, hP, hb, hm⟩; have hB3 : Blk w3 g5 77 #[.int .u8 y, .int .i64 z, .slice r.A r.n r.c, .slice r.B r.m r.d] := hm.blk hB2 HG.out.2.2.1; have HV : Sl _ := ⟨And.intro hP hb⟩; clear hP hb hm; refine hK.out _ _ hB3 (fun hHeld => ?_); clear hK K
    (try simp only [pS])
    refine hS 12 (v := .bool true) rfl rfl ?_; simp only [pS]; refine hM 13 (v := .bool true) rfl rfl ?_; simp only [pS]; refine wpAnyH_done (by kernel_rfl) ?_ _; clear hHeld hS0 hB2 hB3; rw [HQ.out.1, HQ.out.2] at HV; go_wp2_with fail; go_ret; exact ⟨rfl, HV.out.1, HV.out.2⟩
  · as_aux_lemma =>
    go_upto_region 5 with fail
    clear c0 hrm hwr hy0 hy1; have hS0 : Blk w1.drew g5 77 #[.int .u8 y, .int .i64 z, .slice r.A r.n r.c, .slice r.B r.m r.d] := HB1.out.1.below (below_drewN (Below.refl _ _) 1) HB1.out.1.lt; replace HP : Sl (Pair w0 w1.drew oq o m m2 V R) := ⟨HP.out.below (below_drewN (Below.refl _ _) 1)⟩; have HM : Sl (RgM w1.drew r) := ⟨HR.out.below HP.out.d.bl⟩; clear c1; have hm := hS0; refine wp_region_held_drew (S := fun w' => Blk w' g5 77 #[.int .u8 y, .int .i64 z, .slice r.A r.n r.c, .slice r.B r.m r.d]) (by kernel_rfl) hm (fun hHeld => ?_); clear hm; refine hM 0 (v := ptr q) rfl rfl ?_; simp only [pS]; refine hS 1 (v := .pointer (some ⟨g5, 1, none⟩)) rfl rfl ?_; simp only [pS]
    refine hC 2 (v := .int .i64 z) rfl rfl (fun w' h => by
      have hc := h.cell 1
      go_simp) ?_
    simp only [pS]; refine hM 4 (v := ptr r') rfl rfl ?_; simp only [pS]; refine hS 5 (v := .pointer (some ⟨g5, 1, none⟩)) rfl rfl ?_; simp only [pS]
    refine hC 6 (v := .int .i64 z) rfl rfl (fun w' h => by
      have hc := h.cell 1
      go_simp) ?_
    simp only [pS]
    have HCC : Sl (Calls Tryz.prog 24 #[ptr q, .int .i64 z] w1.drew (Half w0 oq o m m2 73 #[ptr r', .int .i64 z] (fun _ => True) w1.drew)) := ⟨by
      have h := pDelete HP.out HC.out z; rw [HQ.out.1, HQ.out.2] at h
      exact h⟩
    refine hO 3 rfl rfl fun K hK => ?_; go_simp; go_at_call 24
    (with_reducible refine (HCC.out).mono ?_)
    rintro en w2 ⟨E, m', V', R', rfl, hF, hD, hcl⟩; have hB2 : Blk w2 g5 77 #[.int .u8 y, .int .i64 z, .slice r.A r.n r.c, .slice r.B r.m r.d] := hF.off hS0 HG.out.2.1; have HH : Sl _ := ⟨And.intro hD hcl⟩; clear hF hD hcl HCC; refine hK.out _ _ hB2 (fun hHeld => ?_); clear hK K
    (try simp only [pS])
    refine hO 7 rfl rfl fun K hK => ?_; go_simp; go_at_call 73
    (with_reducible refine (HH.out.2 _ HH.out.1 trivial).mono ?_)
    rintro en w3 ⟨rfl, hP, hb, hm⟩; have hB3 : Blk w3 g5 77 #[.int .u8 y, .int .i64 z, .slice r.A r.n r.c, .slice r.B r.m r.d] := hm.blk hB2 HG.out.2.2.1; have HV : Sl _ := ⟨And.intro hP hb⟩; clear hP hb hm; refine hK.out _ _ hB3 (fun hHeld => ?_); clear hK K
    (try simp only [pS])
    refine hS 8 (v := .bool true) rfl rfl ?_; simp only [pS]; refine hM 9 (v := .bool true) rfl rfl ?_; simp only [pS]; refine wpAnyH_done (by kernel_rfl) ?_ _; clear hHeld hS0 hB2 hB3; rw [HQ.out.1, HQ.out.2] at HV; go_wp2_with fail; go_ret; exact ⟨rfl, HV.out.1, HV.out.2⟩
  · as_aux_lemma =>
    have HCC : Sl (Calls Tryz.prog 22 #[ptr q] w1 (HalfN w0 oq o m m2 74 w1)) := ⟨by
      have h := pNext HP.out; rw [HQ.out.1] at h
      exact h⟩
    go_wp2_with fail; clear c0 c1 hrm hwr hy0 hy1; refine HCC.out.mono ?_; rintro en w2 ⟨E, P, m', V', R', rfl, hsm, hdp, hF, hD, hcl⟩; have HSM : Sl _ := ⟨hsm⟩; have HDP : Sl (Dep w2 (fun i => w1.heap.size ≤ i) fun W => RgM W P) := ⟨hdp⟩; have HDU : Sl _ := ⟨hD⟩; have HCL : Sl _ := ⟨hcl⟩; have HL2 : Sl (Lg w2 w2 []) := ⟨Lg.nil w2⟩; have HS12 : Sl (w1.heap.size ≤ w2.heap.size) := ⟨hF.mv.size⟩; clear hF hD hcl hsm hdp HCC
    go_upto_region 9 with ((with_reducible show wpList _ _ _ _ _ _); first
      | (refine wpList_alloc_new 7 rfl rfl 45 rfl #[.slice none 0 0, .slice none 0 0] alloc_reg ?_; rintro w3 ga zg zm zs zb; replace HL2 : Sl _ := ⟨HL2.out.new zg zm zb⟩; clear zg zm zs zb)
      | (refine wpList_store_whole rfl 45 (.tmp 7) (.tmp 53) rfl ga #[.slice P.A P.n P.c, .slice P.B P.m P.d] rfl rfl 45 _ (HL2.out.at_ 0 rfl) rfl (by kernel_rfl) (by simp [Value.oneCell']) ?_; rintro w4 zm zs zb; replace HL2 : Sl _ := ⟨HL2.out.upd zm zb⟩; clear zm zs zb))
    have HC2 : Sl (Calls Tryz.prog 74 #[ptr r'] w4 fun en' w'' => ∃ rR, en' = .returned (.tuple #[.agg #[.slice rR.A rR.n rR.c, .slice rR.B rR.m rR.d], .int .i64 E]) ∧ RgM w'' rR ∧ RgM w'' P ∧ rR.l = P.l ∧ rR.k = P.k ∧ PairE w0 oq o m.q m2.q w'' ∧ Below w0.heap.size w0 w'' ∧ MvP m2.own w4 w'') := ⟨by
      have h := HCL.out w4 (HDU.out.below HL2.out.bl) (HDP.out.go (MvP.of_below HL2.out.bl) (fun _ _ e => e)); rw [HQ.out.2] at h ⊢
      exact h⟩
    have HGA : Sl (¬ m2.own ga) := ⟨fun e => by
      have h1 := H.out.d.r.held_lt (.inl e); have h2 : w2.heap.size ≤ ga := HL2.out.ld.ge _ List.mem_cons_self; have h3 := HB1.out.2; have h4 := HS12.out
      omega⟩
    go_wp2_with fail; refine HC2.out.mono ?_; rintro en w5 ⟨P2, rfl, hr1, hr2, e1, e2, hP, hb, hm⟩; have HV : Sl _ := ⟨And.intro hP hb⟩; have HRR : Sl (RgM w5 P2 ∧ RgM w5 P ∧ P2.l = P.l ∧ P2.k = P.k) := ⟨⟨hr1, hr2, e1, e2⟩⟩; have HBA : Sl (Blk w5 ga 45 #[.slice P.A P.n P.c, .slice P.B P.m P.d]) := ⟨hm.blk (HL2.out.at_ 0 rfl) HGA.out⟩; have HL5 : Sl (Lg w5 w5 []) := ⟨Lg.nil w5⟩; clear hP hb hm hr1 hr2 e1 e2 HC2
    go_upto_region 10 with ((with_reducible show wpList _ _ _ _ _ _); first
      | (refine wpList_alloc_new 9 rfl rfl 45 rfl #[.slice none 0 0, .slice none 0 0] alloc_reg ?_; rintro w6 gb zg zm zs zb; replace HL5 : Sl _ := ⟨HL5.out.new zg zm zb⟩; clear zg zm zs zb)
      | (refine wpList_store_whole rfl 45 (.tmp 9) (.tmp 58) rfl gb #[.slice P2.A P2.n P2.c, .slice P2.B P2.m P2.d] rfl rfl 45 _ (HL5.out.at_ 0 rfl) rfl (by kernel_rfl) (by simp [Value.oneCell']) ?_; rintro w7 zm zs zb; replace HL5 : Sl _ := ⟨HL5.out.upd zm zb⟩; clear zm zs zb))
    have HBA7 : Sl (Blk w7 ga 45 #[.slice P.A P.n P.c, .slice P.B P.m P.d]) := ⟨HBA.out.below HL5.out.bl HBA.out.lt⟩; have HBB7 : Sl (Blk w7 gb 45 #[.slice P2.A P2.n P2.c, .slice P2.B P2.m P2.d]) := ⟨HL5.out.at_ 0 rfl⟩; have HSM2 : Sl (Calls Tryz.prog 23 #[.agg #[.slice P.A P.n P.c, .slice P.B P.m P.d], .agg #[.slice P2.A P2.n P2.c, .slice P2.B P2.m P2.d]] w7 fun e w' => e = .returned (.bool true) ∧ Below w7.heap.size w7 w') := ⟨sameR_any P P2 w7 (HRR.out.2.1.below HL5.out.bl) (HRR.out.1.below HL5.out.bl) HRR.out.2.2.1 HRR.out.2.2.2 HSM.out.1 HSM.out.2⟩
    go_wp2_with ((with_reducible show wpList _ _ _ _ _ _); first
      | (refine wpList_load_whole rfl 45 (.tmp 7) rfl ga rfl 45 _ _ HBA7.out Tryz.underlying45 rfl (by kernel_rfl) ?_)
      | (refine wpList_load_whole rfl 45 (.tmp 9) rfl gb rfl 45 _ _ HBB7.out Tryz.underlying45 rfl (by kernel_rfl) ?_))
    refine HSM2.out.mono ?_; rintro en w8 ⟨rfl, hb⟩; have hb58 : Below w5.heap.size w5 w8 := HL5.out.bl.trans (hb.mono HL5.out.bl.size); have HV8 : Sl (PairE w0 oq o m.q m2.q w8 ∧ Below w0.heap.size w0 w8) := ⟨HV.out.1.below hb58, HV.out.2.trans (hb58.mono HV.out.2.size)⟩; clear hb hb58 HSM2; rw [HQ.out.1, HQ.out.2] at HV8; go_wp2_with fail; go_ret; exact ⟨rfl, HV8.out.1, HV8.out.2⟩
  · as_aux_lemma =>
    have HCC : Sl (Calls Tryz.prog 22 #[ptr q] w1 (HalfN w0 oq o m m2 74 w1)) := ⟨by
      have h := pNext HP.out; rw [HQ.out.1] at h
      exact h⟩
    go_wp2_with fail; clear c0 c1 hrm hwr hy0 hy1; refine HCC.out.mono ?_; rintro en w2 ⟨E, P, m', V', R', rfl, hsm, hdp, hF, hD, hcl⟩; have HSM : Sl _ := ⟨hsm⟩; have HDP : Sl (Dep w2 (fun i => w1.heap.size ≤ i) fun W => RgM W P) := ⟨hdp⟩; have HDU : Sl _ := ⟨hD⟩; have HCL : Sl _ := ⟨hcl⟩; have HL2 : Sl (Lg w2 w2 []) := ⟨Lg.nil w2⟩; have HS12 : Sl (w1.heap.size ≤ w2.heap.size) := ⟨hF.mv.size⟩; clear hF hD hcl hsm hdp HCC
    go_upto_region 9 with ((with_reducible show wpList _ _ _ _ _ _); first
      | (refine wpList_alloc_new 7 rfl rfl 45 rfl #[.slice none 0 0, .slice none 0 0] alloc_reg ?_; rintro w3 ga zg zm zs zb; replace HL2 : Sl _ := ⟨HL2.out.new zg zm zb⟩; clear zg zm zs zb)
      | (refine wpList_store_whole rfl 45 (.tmp 7) (.tmp 53) rfl ga #[.slice P.A P.n P.c, .slice P.B P.m P.d] rfl rfl 45 _ (HL2.out.at_ 0 rfl) rfl (by kernel_rfl) (by simp [Value.oneCell']) ?_; rintro w4 zm zs zb; replace HL2 : Sl _ := ⟨HL2.out.upd zm zb⟩; clear zm zs zb))
    have HC2 : Sl (Calls Tryz.prog 74 #[ptr r'] w4 fun en' w'' => ∃ rR, en' = .returned (.tuple #[.agg #[.slice rR.A rR.n rR.c, .slice rR.B rR.m rR.d], .int .i64 E]) ∧ RgM w'' rR ∧ RgM w'' P ∧ rR.l = P.l ∧ rR.k = P.k ∧ PairE w0 oq o m.q m2.q w'' ∧ Below w0.heap.size w0 w'' ∧ MvP m2.own w4 w'') := ⟨by
      have h := HCL.out w4 (HDU.out.below HL2.out.bl) (HDP.out.go (MvP.of_below HL2.out.bl) (fun _ _ e => e)); rw [HQ.out.2] at h ⊢
      exact h⟩
    have HGA : Sl (¬ m2.own ga) := ⟨fun e => by
      have h1 := H.out.d.r.held_lt (.inl e); have h2 : w2.heap.size ≤ ga := HL2.out.ld.ge _ List.mem_cons_self; have h3 := HB1.out.2; have h4 := HS12.out
      omega⟩
    go_wp2_with fail; refine HC2.out.mono ?_; rintro en w5 ⟨P2, rfl, hr1, hr2, e1, e2, hP, hb, hm⟩; have HV : Sl _ := ⟨And.intro hP hb⟩; have HRR : Sl (RgM w5 P2 ∧ RgM w5 P ∧ P2.l = P.l ∧ P2.k = P.k) := ⟨⟨hr1, hr2, e1, e2⟩⟩; have HBA : Sl (Blk w5 ga 45 #[.slice P.A P.n P.c, .slice P.B P.m P.d]) := ⟨hm.blk (HL2.out.at_ 0 rfl) HGA.out⟩; have HL5 : Sl (Lg w5 w5 []) := ⟨Lg.nil w5⟩; clear hP hb hm hr1 hr2 e1 e2 HC2
    go_upto_region 10 with ((with_reducible show wpList _ _ _ _ _ _); first
      | (refine wpList_alloc_new 9 rfl rfl 45 rfl #[.slice none 0 0, .slice none 0 0] alloc_reg ?_; rintro w6 gb zg zm zs zb; replace HL5 : Sl _ := ⟨HL5.out.new zg zm zb⟩; clear zg zm zs zb)
      | (refine wpList_store_whole rfl 45 (.tmp 9) (.tmp 58) rfl gb #[.slice P2.A P2.n P2.c, .slice P2.B P2.m P2.d] rfl rfl 45 _ (HL5.out.at_ 0 rfl) rfl (by kernel_rfl) (by simp [Value.oneCell']) ?_; rintro w7 zm zs zb; replace HL5 : Sl _ := ⟨HL5.out.upd zm zb⟩; clear zm zs zb))
    have HBA7 : Sl (Blk w7 ga 45 #[.slice P.A P.n P.c, .slice P.B P.m P.d]) := ⟨HBA.out.below HL5.out.bl HBA.out.lt⟩; have HBB7 : Sl (Blk w7 gb 45 #[.slice P2.A P2.n P2.c, .slice P2.B P2.m P2.d]) := ⟨HL5.out.at_ 0 rfl⟩; have HSM2 : Sl (Calls Tryz.prog 23 #[.agg #[.slice P.A P.n P.c, .slice P.B P.m P.d], .agg #[.slice P2.A P2.n P2.c, .slice P2.B P2.m P2.d]] w7 fun e w' => e = .returned (.bool true) ∧ Below w7.heap.size w7 w') := ⟨sameR_any P P2 w7 (HRR.out.2.1.below HL5.out.bl) (HRR.out.1.below HL5.out.bl) HRR.out.2.2.1 HRR.out.2.2.2 HSM.out.1 HSM.out.2⟩
    go_wp2_with ((with_reducible show wpList _ _ _ _ _ _); first
      | (refine wpList_load_whole rfl 45 (.tmp 7) rfl ga rfl 45 _ _ HBA7.out Tryz.underlying45 rfl (by kernel_rfl) ?_)
      | (refine wpList_load_whole rfl 45 (.tmp 9) rfl gb rfl 45 _ _ HBB7.out Tryz.underlying45 rfl (by kernel_rfl) ?_))
    refine HSM2.out.mono ?_; rintro en w8 ⟨rfl, hb⟩; have hb58 : Below w5.heap.size w5 w8 := HL5.out.bl.trans (hb.mono HL5.out.bl.size); have HV8 : Sl (PairE w0 oq o m.q m2.q w8 ∧ Below w0.heap.size w0 w8) := ⟨HV.out.1.below hb58, HV.out.2.trans (hb58.mono HV.out.2.size)⟩; clear hb hb58 HSM2; rw [HQ.out.1, HQ.out.2] at HV8; go_wp2_with fail; go_ret; exact ⟨rfl, HV8.out.1, HV8.out.2⟩
  · as_aux_lemma =>
    have HCC : Sl (Calls Tryz.prog 75 #[ptr q] w1 (HalfN w0 oq o m m2 76 w1)) := ⟨by
      have h := pBack HP.out; rw [HQ.out.1] at h
      exact h⟩
    go_wp2_with fail; clear c0 c1 hrm hwr hy0 hy1; refine HCC.out.mono ?_; rintro en w2 ⟨E, P, m', V', R', rfl, hsm, hdp, hF, hD, hcl⟩; have HSM : Sl _ := ⟨hsm⟩; have HDP : Sl (Dep w2 (fun i => w1.heap.size ≤ i) fun W => RgM W P) := ⟨hdp⟩; have HDU : Sl _ := ⟨hD⟩; have HCL : Sl _ := ⟨hcl⟩; have HL2 : Sl (Lg w2 w2 []) := ⟨Lg.nil w2⟩; have HS12 : Sl (w1.heap.size ≤ w2.heap.size) := ⟨hF.mv.size⟩; clear hF hD hcl hsm hdp HCC
    go_upto_region 13 with ((with_reducible show wpList _ _ _ _ _ _); first
      | (refine wpList_alloc_new 11 rfl rfl 45 rfl #[.slice none 0 0, .slice none 0 0] alloc_reg ?_; rintro w3 ga zg zm zs zb; replace HL2 : Sl _ := ⟨HL2.out.new zg zm zb⟩; clear zg zm zs zb)
      | (refine wpList_store_whole rfl 45 (.tmp 11) (.tmp 73) rfl ga #[.slice P.A P.n P.c, .slice P.B P.m P.d] rfl rfl 45 _ (HL2.out.at_ 0 rfl) rfl (by kernel_rfl) (by simp [Value.oneCell']) ?_; rintro w4 zm zs zb; replace HL2 : Sl _ := ⟨HL2.out.upd zm zb⟩; clear zm zs zb))
    have HC2 : Sl (Calls Tryz.prog 76 #[ptr r'] w4 fun en' w'' => ∃ rR, en' = .returned (.tuple #[.agg #[.slice rR.A rR.n rR.c, .slice rR.B rR.m rR.d], .int .i64 E]) ∧ RgM w'' rR ∧ RgM w'' P ∧ rR.l = P.l ∧ rR.k = P.k ∧ PairE w0 oq o m.q m2.q w'' ∧ Below w0.heap.size w0 w'' ∧ MvP m2.own w4 w'') := ⟨by
      have h := HCL.out w4 (HDU.out.below HL2.out.bl) (HDP.out.go (MvP.of_below HL2.out.bl) (fun _ _ e => e)); rw [HQ.out.2] at h ⊢
      exact h⟩
    have HGA : Sl (¬ m2.own ga) := ⟨fun e => by
      have h1 := H.out.d.r.held_lt (.inl e); have h2 : w2.heap.size ≤ ga := HL2.out.ld.ge _ List.mem_cons_self; have h3 := HB1.out.2; have h4 := HS12.out
      omega⟩
    go_wp2_with fail; refine HC2.out.mono ?_; rintro en w5 ⟨P2, rfl, hr1, hr2, e1, e2, hP, hb, hm⟩; have HV : Sl _ := ⟨And.intro hP hb⟩; have HRR : Sl (RgM w5 P2 ∧ RgM w5 P ∧ P2.l = P.l ∧ P2.k = P.k) := ⟨⟨hr1, hr2, e1, e2⟩⟩; have HBA : Sl (Blk w5 ga 45 #[.slice P.A P.n P.c, .slice P.B P.m P.d]) := ⟨hm.blk (HL2.out.at_ 0 rfl) HGA.out⟩; have HL5 : Sl (Lg w5 w5 []) := ⟨Lg.nil w5⟩; clear hP hb hm hr1 hr2 e1 e2 HC2
    go_upto_region 14 with ((with_reducible show wpList _ _ _ _ _ _); first
      | (refine wpList_alloc_new 13 rfl rfl 45 rfl #[.slice none 0 0, .slice none 0 0] alloc_reg ?_; rintro w6 gb zg zm zs zb; replace HL5 : Sl _ := ⟨HL5.out.new zg zm zb⟩; clear zg zm zs zb)
      | (refine wpList_store_whole rfl 45 (.tmp 13) (.tmp 78) rfl gb #[.slice P2.A P2.n P2.c, .slice P2.B P2.m P2.d] rfl rfl 45 _ (HL5.out.at_ 0 rfl) rfl (by kernel_rfl) (by simp [Value.oneCell']) ?_; rintro w7 zm zs zb; replace HL5 : Sl _ := ⟨HL5.out.upd zm zb⟩; clear zm zs zb))
    have HBA7 : Sl (Blk w7 ga 45 #[.slice P.A P.n P.c, .slice P.B P.m P.d]) := ⟨HBA.out.below HL5.out.bl HBA.out.lt⟩; have HBB7 : Sl (Blk w7 gb 45 #[.slice P2.A P2.n P2.c, .slice P2.B P2.m P2.d]) := ⟨HL5.out.at_ 0 rfl⟩; have HSM2 : Sl (Calls Tryz.prog 23 #[.agg #[.slice P.A P.n P.c, .slice P.B P.m P.d], .agg #[.slice P2.A P2.n P2.c, .slice P2.B P2.m P2.d]] w7 fun e w' => e = .returned (.bool true) ∧ Below w7.heap.size w7 w') := ⟨sameR_any P P2 w7 (HRR.out.2.1.below HL5.out.bl) (HRR.out.1.below HL5.out.bl) HRR.out.2.2.1 HRR.out.2.2.2 HSM.out.1 HSM.out.2⟩
    go_wp2_with ((with_reducible show wpList _ _ _ _ _ _); first
      | (refine wpList_load_whole rfl 45 (.tmp 11) rfl ga rfl 45 _ _ HBA7.out Tryz.underlying45 rfl (by kernel_rfl) ?_)
      | (refine wpList_load_whole rfl 45 (.tmp 13) rfl gb rfl 45 _ _ HBB7.out Tryz.underlying45 rfl (by kernel_rfl) ?_))
    refine HSM2.out.mono ?_; rintro en w8 ⟨rfl, hb⟩; have hb58 : Below w5.heap.size w5 w8 := HL5.out.bl.trans (hb.mono HL5.out.bl.size); have HV8 : Sl (PairE w0 oq o m.q m2.q w8 ∧ Below w0.heap.size w0 w8) := ⟨HV.out.1.below hb58, HV.out.2.trans (hb58.mono HV.out.2.size)⟩; clear hb hb58 HSM2; rw [HQ.out.1, HQ.out.2] at HV8; go_wp2_with fail; go_ret; exact ⟨rfl, HV8.out.1, HV8.out.2⟩
  · as_aux_lemma =>
    go_upto_region 16 with fail
    clear c0 hrm hwr hy0 hy1; have hS0 : Blk w1.drew g5 77 #[.int .u8 y, .int .i64 z, .slice r.A r.n r.c, .slice r.B r.m r.d] := HB1.out.1.below (below_drewN (Below.refl _ _) 1) HB1.out.1.lt; replace HP : Sl (Pair w0 w1.drew oq o m m2 V R) := ⟨HP.out.below (below_drewN (Below.refl _ _) 1)⟩; have HM : Sl (RgM w1.drew r) := ⟨HR.out.below HP.out.d.bl⟩; clear c1; have hm := hS0; refine wp_region_held_drew (S := fun w' => Blk w' g5 77 #[.int .u8 y, .int .i64 z, .slice r.A r.n r.c, .slice r.B r.m r.d]) (by kernel_rfl) hm (fun hHeld => ?_); clear hm; refine hM 0 (v := ptr q) rfl rfl ?_; simp only [pS]; refine hS 1 (v := .pointer (some ⟨g5, 1, none⟩)) rfl rfl ?_; simp only [pS]
    refine hC 2 (v := .int .i64 z) rfl rfl (fun w' h => by
      have hc := h.cell 1
      go_simp) ?_
    simp only [pS]; refine hM 4 (v := ptr r') rfl rfl ?_; simp only [pS]; refine hS 5 (v := .pointer (some ⟨g5, 1, none⟩)) rfl rfl ?_; simp only [pS]
    refine hC 6 (v := .int .i64 z) rfl rfl (fun w' h => by
      have hc := h.cell 1
      go_simp) ?_
    simp only [pS]
    have HCC : Sl (Calls Tryz.prog 77 #[ptr q, .int .i64 z] w1.drew (Half w0 oq o m m2 78 #[ptr r', .int .i64 z] (fun _ => True) w1.drew)) := ⟨by
      have h := pGo HP.out z; rw [HQ.out.1, HQ.out.2] at h
      exact h⟩
    refine hO 3 rfl rfl fun K hK => ?_; go_simp; go_at_call 77
    (with_reducible refine (HCC.out).mono ?_)
    rintro en w2 ⟨E, m', V', R', rfl, hF, hD, hcl⟩; have hB2 : Blk w2 g5 77 #[.int .u8 y, .int .i64 z, .slice r.A r.n r.c, .slice r.B r.m r.d] := hF.off hS0 HG.out.2.1; have HH : Sl _ := ⟨And.intro hD hcl⟩; clear hF hD hcl HCC; refine hK.out _ _ hB2 (fun hHeld => ?_); clear hK K
    (try simp only [pS])
    refine hO 7 rfl rfl fun K hK => ?_; go_simp; go_at_call 78
    (with_reducible refine (HH.out.2 _ HH.out.1 trivial).mono ?_)
    rintro en w3 ⟨rfl, hP, hb, hm⟩; have hB3 : Blk w3 g5 77 #[.int .u8 y, .int .i64 z, .slice r.A r.n r.c, .slice r.B r.m r.d] := hm.blk hB2 HG.out.2.2.1; have HV : Sl _ := ⟨And.intro hP hb⟩; clear hP hb hm; refine hK.out _ _ hB3 (fun hHeld => ?_); clear hK K
    (try simp only [pS])
    refine hS 8 (v := .bool true) rfl rfl ?_; simp only [pS]; refine hM 9 (v := .bool true) rfl rfl ?_; simp only [pS]; refine wpAnyH_done (by kernel_rfl) ?_ _; clear hHeld hS0 hB2 hB3; rw [HQ.out.1, HQ.out.2] at HV; go_wp2_with fail; go_ret; exact ⟨rfl, HV.out.1, HV.out.2⟩
  · as_aux_lemma =>
    have HCC : Sl (Calls Tryz.prog 15 #[ptr q] w1 (Half w0 oq o m m2 16 #[ptr r'] (fun _ => True) w1)) := ⟨by
      have h := pUndo HP.out; rw [HQ.out.1, HQ.out.2] at h
      exact h⟩
    go_wp2_with fail; clear c0 c1 hrm hwr hy0 hy1; refine HCC.out.mono ?_; rintro en w2 ⟨E, m', V', R', rfl, hF, hD, hcl⟩; have HH : Sl _ := ⟨And.intro hD hcl⟩; clear hF hD hcl HCC; go_wp2_with fail; refine (HH.out.2 _ HH.out.1 trivial).mono ?_; rintro en w3 ⟨rfl, hP, hb, hm⟩; have HV : Sl _ := ⟨And.intro hP hb⟩; clear hP hb hm; rw [HQ.out.1, HQ.out.2] at HV; go_wp2_with fail; go_ret; exact ⟨rfl, HV.out.1, HV.out.2⟩
  · as_aux_lemma =>
    have HCC : Sl (Calls Tryz.prog 15 #[ptr q] w1 (Half w0 oq o m m2 16 #[ptr r'] (fun _ => True) w1)) := ⟨by
      have h := pUndo HP.out; rw [HQ.out.1, HQ.out.2] at h
      exact h⟩
    go_wp2_with fail; clear c0 c1 hrm hwr hy0 hy1; refine HCC.out.mono ?_; rintro en w2 ⟨E, m', V', R', rfl, hF, hD, hcl⟩; have HH : Sl _ := ⟨And.intro hD hcl⟩; clear hF hD hcl HCC; go_wp2_with fail; refine (HH.out.2 _ HH.out.1 trivial).mono ?_; rintro en w3 ⟨rfl, hP, hb, hm⟩; have HV : Sl _ := ⟨And.intro hP hb⟩; clear hP hb hm; rw [HQ.out.1, HQ.out.2] at HV; go_wp2_with fail; go_ret; exact ⟨rfl, HV.out.1, HV.out.2⟩
  · as_aux_lemma =>
    have HCC : Sl (Calls Tryz.prog 15 #[ptr q] w1 (Half w0 oq o m m2 16 #[ptr r'] (fun _ => True) w1)) := ⟨by
      have h := pUndo HP.out; rw [HQ.out.1, HQ.out.2] at h
      exact h⟩
    go_wp2_with fail; clear c0 c1 hrm hwr hy0 hy1; refine HCC.out.mono ?_; rintro en w2 ⟨E, m', V', R', rfl, hF, hD, hcl⟩; have HH : Sl _ := ⟨And.intro hD hcl⟩; clear hF hD hcl HCC; go_wp2_with fail; refine (HH.out.2 _ HH.out.1 trivial).mono ?_; rintro en w3 ⟨rfl, hP, hb, hm⟩; have HV : Sl _ := ⟨And.intro hP hb⟩; clear hP hb hm; rw [HQ.out.1, HQ.out.2] at HV; go_wp2_with fail; go_ret; exact ⟨rfl, HV.out.1, HV.out.2⟩
  · as_aux_lemma =>
    have HCC : Sl (Calls Tryz.prog 32 #[ptr q] w1 (Half w0 oq o m m2 79 #[ptr r'] (fun _ => True) w1)) := ⟨by
      have h := pRedo HP.out; rw [HQ.out.1, HQ.out.2] at h
      exact h⟩
    go_wp2_with fail; clear c0 c1 hrm hwr hy0 hy1; refine HCC.out.mono ?_; rintro en w2 ⟨E, m', V', R', rfl, hF, hD, hcl⟩; have HH : Sl _ := ⟨And.intro hD hcl⟩; clear hF hD hcl HCC; go_wp2_with fail; refine (HH.out.2 _ HH.out.1 trivial).mono ?_; rintro en w3 ⟨rfl, hP, hb, hm⟩; have HV : Sl _ := ⟨And.intro hP hb⟩; clear hP hb hm; rw [HQ.out.1, HQ.out.2] at HV; go_wp2_with fail; go_ret; exact ⟨rfl, HV.out.1, HV.out.2⟩
  · as_aux_lemma =>
    have HCC : Sl (Calls Tryz.prog 32 #[ptr q] w1 (Half w0 oq o m m2 79 #[ptr r'] (fun _ => True) w1)) := ⟨by
      have h := pRedo HP.out; rw [HQ.out.1, HQ.out.2] at h
      exact h⟩
    go_wp2_with fail; clear c0 c1 hrm hwr hy0 hy1; refine HCC.out.mono ?_; rintro en w2 ⟨E, m', V', R', rfl, hF, hD, hcl⟩; have HH : Sl _ := ⟨And.intro hD hcl⟩; clear hF hD hcl HCC; go_wp2_with fail; refine (HH.out.2 _ HH.out.1 trivial).mono ?_; rintro en w3 ⟨rfl, hP, hb, hm⟩; have HV : Sl _ := ⟨And.intro hP hb⟩; clear hP hb hm; rw [HQ.out.1, HQ.out.2] at HV; go_wp2_with fail; go_ret; exact ⟨rfl, HV.out.1, HV.out.2⟩
theorem Lg.two {b w : World} {l : List (Nat × TypeId × Array Value)} (h : Lg b w l) (i j : Nat) {p q : Nat × TypeId × Array Value} (hp : l[i]? = some p) (hq : l[j]? = some q) (hij : i ≠ j) : Lg b w [p, q] := by
  have h1 := List.mem_of_getElem? hp; have h2 := List.mem_of_getElem? hq; refine ⟨⟨h.bl, fun r hr => ?_, fun r hr => ?_⟩, ?_⟩
  · simp only [List.mem_cons, List.not_mem_nil, or_false] at hr; rcases hr with rfl | rfl
    · exact h.ld.all _ h1
    · exact h.ld.all _ h2
  · simp only [List.mem_cons, List.not_mem_nil, or_false] at hr; rcases hr with rfl | rfl
    · exact h.ld.ge _ h1
    · exact h.ld.ge _ h2
  · have hne : p.1 ≠ q.1 := fun e => hij ((List.getElem?_inj (l := l.map Prod.fst) (by rw [List.length_map]; exact (List.getElem?_eq_some_iff.1 hp).1) h.nd).1 (by rw [List.getElem?_map, List.getElem?_map, hp, hq]; exact congrArg some e))
    simp [hne]
theorem two_rows (w : World) (t u : TypeId) (cs ds : Array Value) : Blk ((w.alloc (.cells cs t)).alloc (.cells ds u)) w.heap.size t cs ∧ Blk ((w.alloc (.cells cs t)).alloc (.cells ds u)) (w.heap.size + 1) u ds ∧ Below w.heap.size w ((w.alloc (.cells cs t)).alloc (.cells ds u)) := by
  have b1 : Below w.heap.size w (w.alloc (.cells cs t)) := (Below.refl _ _).alloc (Nat.le_refl _) _; have b2 : Below (w.alloc (.cells cs t)).heap.size (w.alloc (.cells cs t)) ((w.alloc (.cells cs t)).alloc (.cells ds u)) := (Below.refl _ _).alloc (Nat.le_refl _) _; have h2 := Blk.new (w.alloc (.cells cs t)) u ds; have e : (w.alloc (.cells cs t)).heap.size = w.heap.size + 1 := (by simp); rw [e] at h2; have h1 := Blk.new w t cs; exact ⟨h1.below b2 h1.lt, h2, b1.trans (b2.mono b1.size)⟩
theorem three_rows (w : World) (t u v : TypeId) (cs ds es : Array Value) : Blk (((w.alloc (.cells cs t)).alloc (.cells ds u)).alloc (.cells es v)) w.heap.size t cs ∧ Blk (((w.alloc (.cells cs t)).alloc (.cells ds u)).alloc (.cells es v)) (w.heap.size + 1) u ds ∧ Blk (((w.alloc (.cells cs t)).alloc (.cells ds u)).alloc (.cells es v)) (w.heap.size + 2) v es ∧ Below w.heap.size w (((w.alloc (.cells cs t)).alloc (.cells ds u)).alloc (.cells es v)) := by
  obtain ⟨h1, h2, h3⟩ := two_rows w t u cs ds; have b2 : Below ((w.alloc (.cells cs t)).alloc (.cells ds u)).heap.size ((w.alloc (.cells cs t)).alloc (.cells ds u)) (((w.alloc (.cells cs t)).alloc (.cells ds u)).alloc (.cells es v)) := (Below.refl _ _).alloc (Nat.le_refl _) _; have h4 := Blk.new ((w.alloc (.cells cs t)).alloc (.cells ds u)) v es; have e : ((w.alloc (.cells cs t)).alloc (.cells ds u)).heap.size = w.heap.size + 2 := (by simp); rw [e] at h4; exact ⟨h1.below b2 h1.lt, h2.below b2 h2.lt, h4, h3.trans (b2.mono h3.size)⟩
theorem II.mvR {w w' : World} {A : Option Addr} {n g : Nat} {l : List Int} {t : TypeId} {cs : Array Value} (h : II w A n l) (hB : Blk w g t cs) (hc : ∀ (j : Nat) (z : Int), cs[j]? ≠ some (.int .i64 z)) (hm : Mv g w w') : II w' A n l := by
  refine ⟨h.1, h.2.1, fun hn => ?_⟩; obtain ⟨ad, e, h1, h2⟩ := h.2.2 hn
  have hne : ad.block ≠ g := fun hg => by
    have hl : 0 < l.length := (by rw [h.1]; exact hn); have h3 := h2 0 (iv l[0]) (by rw [List.getElem?_map, List.getElem?_eq_getElem hl]; rfl); unfold World.cell? at h3; rw [block_of_add, hg, show w.heap[g]? = some (.cells cs t (0, 0)) from hB] at h3; simp only [] at h3
    split at h3
    · cases h3
    · exact hc _ _ h3
  refine ⟨ad, e, Nat.lt_of_lt_of_le h1 hm.size, fun j u hu => ?_⟩; rw [← h2 j u hu]; exact World.cell?_of_block (by rw [block_of_add]; exact hm.block _ h1 hne)
theorem RgM.mvR {w w' : World} {g : Nat} {r : RgV} {t : TypeId} (h : RgM w r) (hB : Blk w g t #[.slice none 0 0, .slice none 0 0]) (hm : Mv g w w') : RgM w' r := by
  have hc : ∀ (j : Nat) (z : Int), (#[.slice none 0 0, .slice none 0 0] : Array Value)[j]? ≠ some (.int .i64 z) := by
    intro j z e; rcases j with _ | _ | j
    · cases e
    · cases e
    · cases e
  exact ⟨h.s.mvR hB hc hm, h.c.mvR hB hc hm, h.sc, h.cc⟩
theorem lwStableS_any (ws : List Int) (g gf N cap : Nat) (d : Nat → Int) (w : World) (h : PBI ws w g N d) (hf : KeyI ws w gf g) (hN : N < 20) (hid : ∀ k, k < N → d k = (k : Int)) :
    Calls Tryz.prog 114 #[.slice (some ⟨g, 0, none⟩) N cap, .int .i64 N, .func (.func 59) #[] #[.pointer (some ⟨gf, 0, none⟩)]] w fun e w' => e = .returned (.tuple #[]) ∧ Mv g w w' ∧ ∃ d', PBI ws w' g N d' ∧ Pm 0 N d d' ∧ Srt (dueI ws) d' 0 N := by
  have HP : Sl _ := ⟨h⟩; have HI : Sl _ := ⟨insSortI_any ws g gf N cap 0 N d w h hf (Nat.zero_le _) (Nat.le_refl _) (by omega) (fun p q h1 h2 h3 => by rw [hid p (by omega), hid q (by omega)]; omega)⟩; have hN6 : (N : Int) < 20 := (by omega); have hbI : ¬ (20 : Int) ≤ (N : Int) := (by omega); have hbd : decide ((20 : Int) ≤ (N : Int)) = false := decide_eq_false hbI; have hsI : ¬ (20 : Int) < (N : Int) := (by omega); have hsd : decide ((20 : Int) < (N : Int)) = false := decide_eq_false hsI; clear h hf hid hN; go_enter Tryz.func114, Tryz.ntmps114; go_wp2_with fail
  go_loopw [7, 8] (fun s7 s8 wr => s7 = .int .i64 0 ∧ s8 = .int .i64 20 ∧ Sl (wr = w)) (fun s7 s8 _ => 0)
  case atStart => exact ⟨rfl, rfl, ⟨rfl⟩⟩
  case round =>
    obtain ⟨rfl, rfl, HW0⟩ := hrel; obtain rfl := HW0.out; clear HW0; go_wp2_with fail; refine HI.out.mono ?_; rintro ee w2 ⟨rfl, hm2, e2, hp2, hq2, hs2⟩; have HW : Sl (Mv g wr w2 ∧ PBI ws w2 g N e2 ∧ Pm 0 N d e2 ∧ Srt (dueI ws) e2 0 N) := ⟨hm2, hp2, hq2, hs2⟩; clear hm2 hp2 hq2 hs2 HI; go_wp2_with fail
    go_loopw [6, 7, 8, 9] (fun s6 s7 s8 s9 wv => ∃ (v7 v8 v9 : Value), s6 = .int .i64 20 ∧ s7 = v7 ∧ s8 = v8 ∧ s9 = v9 ∧ Sl (wv = w2)) (fun s6 _ _ _ _ => 0)
    case atStart => exact ⟨_, _, _, rfl, rfl, rfl, rfl, ⟨rfl⟩⟩
    case round =>
      obtain ⟨v7, v8, v9, rfl, rfl, rfl, rfl, HW0⟩ := hrel; obtain rfl := HW0.out; clear HW0; go_wp2_with fail; go_end0; exact ⟨rfl, HW.out.1, e2, HW.out.2⟩
theorem lwSortStableS_any (ws : List Int) (g gf N cap : Nat) (d : Nat → Int) (w : World) (h : PBI ws w g N d) (hf : KeyI ws w gf g) (hN : N < 20) (hid : ∀ k, k < N → d k = (k : Int)) :
    Calls Tryz.prog 58 #[.slice (some ⟨g, 0, none⟩) N cap, .func (.func 59) #[] #[.pointer (some ⟨gf, 0, none⟩)]] w fun e w' => e = .returned (.tuple #[]) ∧ Mv g w w' ∧ ∃ d', PBI ws w' g N d' ∧ Pm 0 N d d' ∧ Srt (dueI ws) d' 0 N := by
  have HI : Sl _ := ⟨lwStableS_any ws g gf N cap d w h hf hN hid⟩; clear h hf hid hN; go_enter Tryz.func58, Tryz.ntmps58; go_wp2_with fail; refine HI.out.mono ?_; rintro e w2 ⟨rfl, h1, h2⟩; have HM : Sl _ := ⟨And.intro h1 h2⟩; clear h1 h2 HI; go_wp2_with fail; go_end0; exact ⟨rfl, HM.out⟩
theorem planSortS_any {A B : Option Addr} {n c cb : Nat} {ws : List Int} {w wr : World} (hn : ws.length = n) (h80 : n < 20) (hl : II w A n ws) (hD : Lg w wr [(w.heap.size, 60, #[.slice A n c])]) (hO : OI wr w.heap.size B n cb (nums n)) :
    Calls Tryz.prog 58 #[.slice B n cb, .func (.func 59) #[] #[.pointer (some ⟨w.heap.size, 0, none⟩)]] wr fun e w' => e = .returned (.tuple #[]) ∧ II w' B n (ordL ws) ∧ Lg w w' [(w.heap.size, 60, #[.slice A n c])] := by
  rcases Nat.eq_zero_or_pos n with h0 | h0
  · subst h0; refine (sort0_any B cb w.heap.size wr).mono fun e w' hh => ?_
    obtain ⟨rfl, rfl⟩ := hh; have hod : ordL ws = [] := List.eq_nil_of_length_eq_zero (by rw [ordL, ordF_len, hn]); exact ⟨rfl, by rw [hod]; exact II.nil _ _, hD⟩
  · obtain ⟨g, hB⟩ : ∃ g, B = some ⟨g, 0, none⟩ := by
      rcases hO.2 with ⟨h1, _⟩ | ⟨g, cap, cur, e1, _⟩
      · exact absurd h1 (by intro e; injection e with _ e2; omega)
      · injection e1 with e1; exact ⟨g, e1⟩
    subst hB; have hlt := hO.lt g rfl; have hir : IRow wr g n (fun k : Nat => (k : Int)) := hO.irow.congr fun j hj => nums_at hj
    have hw : KeyI ws wr w.heap.size g := by
      refine ⟨⟨A, c, by rw [hn]; exact hD.at_ 0 rfl, by rw [hn]; exact hl.below hD.bl, fun ad e => ?_⟩, ?_, by omega⟩
      · obtain ⟨ad', e', hb, _⟩ := hl.2.2 h0; rw [e] at e'; injection e' with e'
        subst e'; omega
      · exact fun e => hO.ne_blk (hD.at_ 0 rfl) ne_L64 (by rw [e]; rfl)
    refine (lwSortStableS_any ws g w.heap.size n cb (fun k : Nat => (k : Int)) wr ⟨hir, fun j hj => by rw [hn]; show 0 ≤ (j : Int) ∧ (j : Int) < (n : Int); omega⟩ hw (by omega) (fun _ _ => rfl)).mono fun e w' hh => ?_
    obtain ⟨rfl, hm, d', hp, hq, hs⟩ := hh; refine ⟨rfl, hp.1.ii ?_, hD.mv hm hlt.1 (fun q hq2 => ?_)⟩
    · have := ordL_of (ws := ws) (by omega) (e := d') (by rw [hn]; exact hq) (by rw [hn]; exact hs)
      rwa [hn] at this
    · simp only [List.mem_cons, List.not_mem_nil, or_false] at hq2; subst hq2; exact fun e => hO.ne_blk (hD.at_ 0 rfl) ne_L64 (by show some g = some _; rw [← e])
theorem crPlanS_any (A : Option Addr) (n c : Nat) (ws : List Int) (steps : Int) (w : World) (hl : II w A n ws) (hn : n ≤ maxLen) (hs : i64 steps) (h20 : n < 20) :
    Calls Tryz.prog 20 #[.slice A n c, .int .i64 steps] w fun e w' => PlnR w.heap.size (planG ws steps) (planS ws steps) (planE ws steps) e w' ∧ Below w.heap.size w w' := by
  have HLN : Sl (ws.length = n) := ⟨hl.1⟩; have H20 : Sl (n < 20) := ⟨h20⟩; clear h20; have HL : Sl _ := ⟨hl⟩; have HE : Sl (planE ws steps = if 80 < n then 3 else if steps < 1 ∨ 60 < steps then 2 else fstE (rngW ws) n 0) := ⟨by rw [← hl.1]; rfl⟩; have hb1 := (Below.refl w.heap.size w).alloc (Nat.le_refl _) (.cells #[.slice A n c] 60); have HD : Sl (Lg w (w.alloc (.cells #[.slice A n c] 60)) [(w.heap.size, 60, #[.slice A n c])]) := ⟨(Lg.nil w).new rfl (Mv.of_below hb1) (Blk.new w _ _)⟩; have c0 : (w.alloc (.cells #[.slice A n c] 60)).cell? ⟨w.heap.size, 0, none⟩ = some (.slice A n c) := (HD.out.at_ 0 rfl).cell 0
  have HNO : Sl (∀ e, planE ws steps = e → e ≠ 0 → planG ws steps = [] ∧ planS ws steps = 0) := ⟨fun e h1 h2 => by
    unfold planG planS; rw [if_neg (by rw [h1]; exact h2), if_neg (by rw [h1]; exact h2)]
    exact ⟨rfl, rfl⟩⟩
  have hmf : ∀ (fn : Fn) (first cap : Array Value) (w : World), (Instr.makeFunc fn first cap).run Tryz.prog w = .ok (.func fn first cap) w := fun _ _ _ _ => rfl
  unfold maxLen at hn; clear hl hb1; obtain ⟨E, hE⟩ : ∃ E, planE ws steps = E := ⟨_, rfl⟩; obtain ⟨S, hS⟩ : ∃ S, planS ws steps = S := ⟨_, rfl⟩; obtain ⟨G, hG⟩ : ∃ G, planG ws steps = G := ⟨_, rfl⟩
  have HGS : Sl (E = 0 → S = lst (wtL ws) (steps.toNat - 1) 0 ∧ G = (grpE (wtL ws) S steps.toNat 0).map (cutL (ordL ws))) := ⟨fun h => by
    unfold planG at hG; unfold planS at hS; rw [if_pos (by rw [hE, h])] at hG hS
    exact ⟨hS.symm, by rw [← hG, ← hS]; unfold planS; rw [if_pos (by rw [hE, h])]⟩⟩
  rw [hE] at HE HNO; rw [hE, hS, hG]; rw [hS, hG] at HNO; replace HNO : Sl (E ≠ 0 → G = [] ∧ S = 0) := ⟨fun h => HNO.out E rfl h⟩; clear hE hS hG; go_enter Tryz.func20, Tryz.ntmps20
  by_cases h80 : 80 < n
  · have q1 : (80 : Int) < (n : Int) := (by omega); have q1d : decide ((80 : Int) < (n : Int)) = true := decide_eq_true q1; have HV : Sl (E = 3) := ⟨by rw [HE.out, if_pos h80]⟩; clear h80; go_wp2_with fail
    (try simp only [Exit.inBlock, Exit.then])
    refine bodyPost_ret (v := .tuple #[.slice none 0 0, .int .i64 0, .int .i64 3]) (by simp [results, Tryz.results20, go_sem]) rfl ?_; obtain ⟨h1, h2⟩ := HNO.out (by rw [HV.out]; decide); rw [h1, h2, HV.out]; exact ⟨PlnR.no, HD.out.bl⟩
  have q1 : ¬ (80 : Int) < (n : Int) := (by omega); have q1d : decide ((80 : Int) < (n : Int)) = false := decide_eq_false q1; rw [if_neg h80] at HE; have hn80 : (n : Int) ≤ 80 := (by omega); have HN80 : Sl (n ≤ 80) := ⟨by omega⟩
  by_cases h1 : steps < 1
  · have q2d : decide (steps < 1) = true := decide_eq_true h1; have q2e : decide (steps ≤ 0) = true := decide_eq_true (by omega); have HV : Sl (E = 2) := ⟨by rw [HE.out]; exact if_pos (.inl h1)⟩; clear h80; go_wp2_with fail
    (try simp only [Exit.inBlock, Exit.then])
    refine bodyPost_ret (v := .tuple #[.slice none 0 0, .int .i64 0, .int .i64 2]) (by simp [results, Tryz.results20, go_sem]) rfl ?_; obtain ⟨h1, h2⟩ := HNO.out (by rw [HV.out]; decide); rw [h1, h2, HV.out]; exact ⟨PlnR.no, HD.out.bl⟩
  have q2d : decide (steps < 1) = false := decide_eq_false h1
  by_cases h2 : 60 < steps
  · have q3d : decide (60 < steps) = true := decide_eq_true h2; have HV : Sl (E = 2) := ⟨by rw [HE.out]; exact if_pos (.inr h2)⟩; clear h80; go_wp2_with fail
    (try simp only [Exit.inBlock, Exit.then])
    refine bodyPost_ret (v := .tuple #[.slice none 0 0, .int .i64 0, .int .i64 2]) (by simp [results, Tryz.results20, go_sem]) rfl ?_; obtain ⟨h1, h2⟩ := HNO.out (by rw [HV.out]; decide); rw [h1, h2, HV.out]; exact ⟨PlnR.no, HD.out.bl⟩
  have q3d : decide (60 < steps) = false := decide_eq_false h2; replace HE : Sl (E = fstE (rngW ws) n 0) := ⟨by rw [HE.out, if_neg (by omega)]⟩; obtain ⟨st, rfl⟩ := Int.eq_ofNat_of_zero_le (show 0 ≤ steps by omega); have HST : Sl (1 ≤ st ∧ st ≤ 60) := ⟨by omega⟩; have hst1 : (1 : Int) ≤ (st : Int) := (by omega); have hst6 : (st : Int) ≤ 60 := (by omega); clear h1 h2 h80 hs; go_wp2_with fail; clear q1 q1d q2d q3d c0; rw [Int.toNat_natCast] at HGS
  go_loopw [4, 7, 33] (fun s4 s7 s33 wv => ∃ (k : Nat) (B : Option Addr) (cb : Nat), k ≤ n ∧ s4 = .slice none 0 0 ∧ s7 = .slice B k cb ∧ s33 = .int .i64 k ∧ Sl (Lg w wv [(w.heap.size, 60, #[.slice A n c])] ∧ OI wv w.heap.size B k cb (nums k)) ∧ Sl (fstE (rngW ws) (n - k) k = E)) (fun _ _ s33 _ => n - (RowKit.intOf s33).toNat)
  case atStart => exact ⟨0, none, 0, Nat.zero_le _, rfl, rfl, rfl, ⟨HD.out, OI.nil _ _⟩, ⟨HE.out.symm⟩⟩
  case round =>
    obtain ⟨k, B, cb, hk, rfl, rfl, rfl, HM, HK⟩ := hrel
    by_cases hkn : k < n
    · have hkI : decide ((k : Int) < (n : Int)) = true := decide_eq_true (by omega); have hkI2 : (k : Int) < (n : Int) := (by omega); obtain ⟨ad, hA2, hab, c1⟩ := (HL.out.below HM.out.1.bl).cell (j := k) hkn; have HSX : Sl (E = if rngW ws k = 0 then fstE (rngW ws) (n - (k + 1)) (k + 1) else rngW ws k) := ⟨by rw [← HK.out, show n - k = (n - (k + 1)) + 1 by omega]; rfl⟩; have HRW : Sl (rngW ws k = if gt ws k < 0 ∨ 1073741824 < gt ws k then 7 else 0) := ⟨rfl⟩; obtain ⟨z, hz⟩ : ∃ z, gt ws k = z := ⟨_, rfl⟩; rw [hz] at c1 HRW; rw [hA2]; have HA2 : Sl _ := ⟨hA2⟩; clear hz hA2 HD HK
      by_cases p1 : z < 0
      · have p1d : decide (z < 0) = true := decide_eq_true p1; have h7 : rngW ws k = 7 := (by rw [HRW.out]; exact if_pos (.inl p1)); have HV : Sl (E = 7) := ⟨by rw [HSX.out, h7]; rfl⟩; clear h7; go_wp2_with fail
        (try simp only [Exit.inBlock, Exit.then])
        refine bodyPost_ret (v := .tuple #[.slice none 0 0, .int .i64 0, .int .i64 7]) (by simp [results, Tryz.results20, go_sem]) rfl ?_; obtain ⟨h1, h2⟩ := HNO.out (by rw [HV.out]; decide); rw [h1, h2, HV.out]; exact ⟨PlnR.no, HM.out.1.bl⟩
      · have p1d : decide (z < 0) = false := decide_eq_false p1
        by_cases p2 : 1073741824 < z
        · have p2d : decide (1073741824 < z) = true := decide_eq_true p2; have h7 : rngW ws k = 7 := (by rw [HRW.out]; exact if_pos (.inr p2)); have HV : Sl (E = 7) := ⟨by rw [HSX.out, h7]; rfl⟩; clear h7; go_wp2_with fail
          (try simp only [Exit.inBlock, Exit.then])
          refine bodyPost_ret (v := .tuple #[.slice none 0 0, .int .i64 0, .int .i64 7]) (by simp [results, Tryz.results20, go_sem]) rfl ?_; obtain ⟨h1, h2⟩ := HNO.out (by rw [HV.out]; decide); rw [h1, h2, HV.out]; exact ⟨PlnR.no, HM.out.1.bl⟩
        · have p2d : decide (1073741824 < z) = false := decide_eq_false p2; have HV : Sl (fstE (rngW ws) (n - (k + 1)) (k + 1) = E) := ⟨by rw [HSX.out, if_pos]; rw [HRW.out, if_neg (by omega)]⟩; have HO : Sl _ := ⟨HM.out.2⟩; have HD : Sl _ := ⟨HM.out.1⟩; have HK1 : Sl (k + 1 ≤ 1000000) := ⟨by have := HN80.out; omega⟩; clear HM HRW HSX p1 p2; go_wp2_with (at_builtin; go_loud (refine wpList_append_oi rfl (.tmp 44) (.tmp 46) rfl w.heap.size B k cb (nums k) rfl (HO.out.alloc _) (some ⟨wr.heap.size, 0, none⟩) 1 1 [(k : Int)] rfl (II.made _ _ _) HK1.out (Nat.le_trans HD.out.bl.size (by simp)) ?_); rintro B2 c2 w2 zo zg zt; have HZ : Sl _ := ⟨And.intro zo zg⟩; clear zo zg zt); have hD2 : Lg w w2 [(w.heap.size, 60, #[.slice A n c])] := (HD.out.below ((Below.refl _ _).alloc (Nat.le_refl _) _)).app (HO.out.alloc _) HZ.out.2 (by intro q hq; simp only [List.mem_cons, List.not_mem_nil, or_false] at hq; subst hq; exact ne_L64); rw [HA2.out] at hD2; exact ⟨⟨k + 1, B2, c2, by omega, rfl, rfl, by go_num, ⟨hD2, by rw [nums_succ]; exact HZ.out.1⟩, HV⟩, by simp [RowKit.intOf]; omega⟩
    · obtain rfl : k = n := (by omega); have HE0 : Sl (E = 0) := ⟨by rw [← HK.out, Nat.sub_self]; rfl⟩; have HO : Sl _ := ⟨HM.out.2⟩; replace HD : Sl _ := ⟨HM.out.1⟩; have HCB : Sl (k ≤ cb) := ⟨HO.out.cap.1⟩; clear HM HK hk hkn; have HLE : Sl (∀ j, 0 ≤ gt (wtL ws) j ∧ gt (wtL ws) j ≤ 1073741824) := ⟨wtL_bd (by rw [HLN.out, ← HE.out, HE0.out])⟩; have HSRT : Sl _ := ⟨planSortS_any HLN.out H20.out HL.out HD.out HO.out⟩; go_wp2_with fail; refine HSRT.out.mono ?_; rintro e w2 ⟨rfl, zi, zd⟩; have HII : Sl _ := ⟨zi⟩; have HB2 : Sl (Below w.heap.size w w2) := ⟨zd.bl⟩; have HGW : Sl (Blk w2 w.heap.size 60 #[.slice A k c]) := ⟨zd.at_ 0 rfl⟩; have HWS : Sl _ := ⟨HL.out.below zd.bl⟩; clear zi zd HSRT HO HD HL; go_wp2_with fail
      go_loopw [10, 11, 54] (fun s10 s11 s54 wv => ∃ (t : Nat) (C : Option Addr) (cc : Nat), t ≤ k ∧ s10 = .slice C t cc ∧ s11 = .int .i64 (psm (wtL ws) t) ∧ s54 = .int .i64 t ∧ Sl (Below w2.heap.size w2 wv ∧ OL wv w2.heap.size C t cc ((wtL ws).take t))) (fun _ _ s54 _ => k - (RowKit.intOf s54).toNat)
      case atStart => exact ⟨0, none, 0, Nat.zero_le _, rfl, rfl, rfl, ⟨Below.refl _ _, OL.nil _ _⟩⟩
      case round =>
        obtain ⟨t, C, cc, ht, rfl, rfl, rfl, HM⟩ := hrel
        by_cases htk : t < k
        · have htI : decide ((t : Int) < (k : Int)) = true := decide_eq_true (by omega); have htI2 : (t : Int) < (k : Int) := (by omega); obtain ⟨ad, hB2, hab, c1⟩ := (HII.out.below HM.out.1).cell htk
          have hmem := (ordF_mem ws ws.length (gt (ordL ws) t)).1 (by
            have ho : t < (ordL ws).length := (by rw [ordL, ordF_len, HLN.out]; exact htk)
            rw [gtI_get ho]; exact List.getElem_mem ho)
          rw [HLN.out] at hmem; have HWT : Sl _ := ⟨And.intro (wt_take ws (k := t) (by rw [HLN.out]; exact htk)) (wt_gt ws (k := t) (by rw [HLN.out]; exact htk))⟩; obtain ⟨x, hx⟩ : ∃ x, gt (ordL ws) t = x := ⟨_, rfl⟩; rw [hx] at c1 hmem HWT; clear hx; obtain ⟨xn, rfl⟩ := Int.eq_ofNat_of_zero_le hmem.1; have hxI : (xn : Int) < (k : Int) := hmem.2; have hxN : xn < k := (by omega); rw [Int.toNat_natCast] at HWT; obtain ⟨ad2, hA2, hab2, c2⟩ := (HWS.out.below HM.out.1).cell hxN; have g0 := (HGW.out.below HM.out.1 HGW.out.lt).cell 0; simp at g0; have hgb := HLE.out t; rw [HWT.out.2] at hgb; have hps := psm_le HLE.out t; have HPS : Sl (psm (wtL ws) (t + 1) = psm (wtL ws) t + gt ws xn) := ⟨by rw [psm, HWT.out.2]⟩; obtain ⟨z, hz⟩ : ∃ z, gt ws xn = z := ⟨_, rfl⟩; obtain ⟨p, hp⟩ : ∃ p, psm (wtL ws) t = p := ⟨_, rfl⟩; rw [hz] at c2 hgb HPS HWT; rw [hp] at hps HPS ⊢; rw [hB2]; have HAA : Sl (B = some ad ∧ A = some ad2) := ⟨hB2, hA2⟩; rw [hA2] at g0 ⊢; have hk80 : (k : Int) ≤ 80 := (by have := HN80.out; omega); have hz1 := hgb.1; have hz2 := hgb.2; have hp1 := hps.1; have hp2 : p ≤ 85899345920 := (by omega); have HPQ : Sl (psm (wtL ws) (t + 1) = p + z) := ⟨by rw [HPS.out]⟩; clear hp hmem hgb hps hA2 hB2; have HZZ : Sl (gt ws xn = z) := ⟨hz⟩; clear hz; have HT1 : Sl (t + 1 ≤ 1000000) := ⟨by have := HN80.out; omega⟩
          go_upto_region 20 with (at_builtin; go_loud (refine wpList_append_ol rfl (.tmp 58) (.tmp 63) rfl w2.heap.size C t cc ((wtL ws).take t) rfl (HM.out.2.alloc _) (some ⟨wr.heap.size, 0, none⟩) 1 1 [z] rfl (II.made _ _ _) HT1.out (Nat.le_trans HM.out.1.size (by simp)) ?_); rintro C2 c2' w3 zo zg zt; have HZ : Sl _ := ⟨And.intro zo zg⟩; clear zo zg zt)
          have hbz : Below w2.heap.size w2 w3 := below_grown (HM.out.1.alloc (HM.out.1.size) _) HZ.out.2 (Nat.le_trans HM.out.1.size (by simp)) (fun q hq => (World.ownsRow.lt HM.out.2 q hq).1); have HBZ : Sl _ := ⟨hbz⟩; have hO := HZ.out.1; rw [← HWT.out.1] at hO; have HOZ : Sl (OL w3 w2.heap.size C2 (t + 1) c2' ((wtL ws).take (t + 1))) := ⟨hO⟩; have g1 := (HGW.out.below hbz HGW.out.lt).cell 0; simp at g1; rw [HAA.out.2] at g1; obtain ⟨ad3, hA3, _, c3⟩ := (HWS.out.below hbz).cell hxN; have hA4 := HAA.out.2.symm.trans hA3; injection hA4 with hA4
          subst hA4; rw [HZZ.out] at c3; have hpw : IntKind.i64.wrap (p + z) = p + z := (by rw [IntKind.wrap_i64]; omega); clear c1 c2 g0 hbz hO hA3 HZ HM; go_wp2_with fail; exact ⟨⟨t + 1, C2, c2', by omega, rfl, by rw [HPS.out], by go_num, ⟨HBZ.out, HOZ.out⟩⟩, by simp [RowKit.intOf]; omega⟩
        · obtain rfl : t = k := (by omega); have HO : Sl (Below w2.heap.size w2 wr ∧ OL wr w2.heap.size C t cc (wtL ws)) := ⟨HM.out.1, by have := HM.out.2; rwa [List.take_of_length_le (by rw [wtL_len, HLN.out]; exact Nat.le_refl _)] at this⟩; obtain ⟨hS0, hG0⟩ := HGS.out HE0.out; have hpos : ∀ j, 0 ≤ gt (wtL ws) j := fun j => (HLE.out j).1
          have hlp := lst_pos hpos (st - 1) 0 (Nat.zero_le _); have hsum := psm_le HLE.out t; have hlen : (wtL ws).length = t := (by rw [wtL_len, HLN.out]); rw [hlen, ← hS0] at hlp
          have HFI : Sl (∀ Q : Int, 0 ≤ Q → (rem (wtL ws) Q st = 0 ↔ S ≤ Q)) := ⟨fun Q hQ => by
            have := fit_iff hpos hQ (st - 1); rw [show st - 1 + 1 = st by have := HST.out; omega] at this
            rw [this, ← hS0]⟩
          have HFC : Sl _ := ⟨fun (g : Nat) (Q : Int) (W : World) (hW : Below wr.heap.size wr W) (hg : g ≤ 60) (hQ : 0 ≤ Q ∧ Q ≤ 1099511627776) => crfit_any C t cc (wtL ws) g Q W (HO.out.2.ii.below hW) (by have := HN80.out; omega) (by omega) HLE.out hQ⟩; have HRL : Sl (∀ (Q : Int) (g : Nat), rem (wtL ws) Q g ≤ t) := ⟨fun Q g => by rw [← hlen]; exact rem_le _ _ _⟩; obtain ⟨T, hT⟩ : ∃ T, psm (wtL ws) t = T := ⟨_, rfl⟩; rw [hT] at hlp hsum ⊢; have HT : Sl (0 ≤ S ∧ S ≤ T ∧ T ≤ 85899345920) := ⟨by have := HN80.out; omega⟩; have HGG : Sl _ := ⟨hG0⟩; clear hT hS0 hG0 hpos hlp hsum hlen HGS HNO HM; go_wp2_with fail
          go_loop [14, 15, 16] (fun s14 s15 s16 => ∃ (lo hi : Int) (v16 : Value), s14 = .int .i64 lo ∧ s15 = .int .i64 hi ∧ v16 = s16 ∧ Sl (0 ≤ lo ∧ lo ≤ S ∧ S ≤ hi ∧ hi ≤ 85899345920)) (fun s14 s15 _ => (RowKit.intOf s15 - RowKit.intOf s14).toNat)
          case atStart => exact ⟨0, T, _, rfl, rfl, rfl, ⟨by have := HT.out; omega⟩⟩
          case round =>
            obtain ⟨lo, hi, v16, rfl, rfl, rfl, HLH⟩ := hrel; obtain ⟨l1, l2, l3, l4⟩ := HLH.out
            by_cases hlh : lo < hi
            · have hld : decide (lo < hi) = true := decide_eq_true hlh; obtain ⟨q, hq⟩ : ∃ q, (lo + hi) / 2 = q := ⟨_, rfl⟩; have hq1 : lo ≤ q ∧ q < hi := (by omega); have HQ : Sl (lo ≤ q ∧ q < hi ∧ q ≤ 85899345920) := ⟨by omega⟩; have hq0 : 0 ≤ q := (by omega); have hq2 : q ≤ 85899345920 := (by omega); have HF1 := HFI.out q hq0; have HFQ : Sl _ := ⟨HFC.out st q wr (Below.refl _ _) (by have := HST.out; omega) (by omega)⟩; have HRQ : Sl _ := ⟨HRL.out q st⟩; obtain ⟨rm, hrm⟩ : ∃ rm, rem (wtL ws) q st = rm := ⟨_, rfl⟩; rw [hrm] at HF1 HFQ HRQ; have HFF : Sl _ := ⟨HF1⟩; have hrt := HRQ.out
              by_cases hr0 : rm = 0
              · have he : (((t - rm : Nat) : Int) == (t : Int)) = true := (by rw [beq_iff_eq]; omega); have HSQ : Sl (S ≤ q) := ⟨HFF.out.1 hr0⟩; obtain ⟨tr, htr⟩ : ∃ tr, t - rm = tr := ⟨_, rfl⟩; rw [htr] at HFQ he; clear HF1 hrm hr0 htr hlh; go_wp2_with fail; refine HFQ.out.mono ?_; rintro e w4 ⟨rfl, rfl⟩; go_wp2_with fail; exact ⟨⟨lo, q, _, rfl, rfl, rfl, ⟨l1, l2, HSQ.out, HQ.out.2.2⟩⟩, by have := HQ.out; simp [RowKit.intOf]; omega⟩
              · have he : (((t - rm : Nat) : Int) == (t : Int)) = false := (by rw [beq_eq_false_iff_ne]; omega); have HSQ : Sl (q + 1 ≤ S) := ⟨by have := fun h => hr0 (HFF.out.2 h); omega⟩; obtain ⟨tr, htr⟩ : ∃ tr, t - rm = tr := ⟨_, rfl⟩; rw [htr] at HFQ he; clear HF1 hrm hr0 htr hlh; go_wp2_with fail; refine HFQ.out.mono ?_; rintro e w4 ⟨rfl, rfl⟩; go_wp2_with fail; exact ⟨⟨q + 1, hi, _, rfl, rfl, rfl, ⟨by omega, HSQ.out, l3, l4⟩⟩, by have := HQ.out; simp [RowKit.intOf]; omega⟩
            · have hld : decide (lo < hi) = false := decide_eq_false hlh; have hlS : lo = S := (by omega); subst hlS; have HS9 : Sl (0 ≤ lo ∧ lo ≤ 1099511627776) := ⟨by omega⟩; clear hlh l2 l3 HLH HFI HT; go_wp2_with fail
              go_loopw [4, 17, 18, 19] (fun s4 s17 s18 s19 wv => ∃ (m f : Nat) (Gs : Option Addr) (kg cg : Nat) (LL : List SlV) (v19 : Value), m ≤ st ∧ s4 = .slice Gs kg cg ∧ s17 = .int .i64 f ∧ s18 = .int .i64 m ∧ v19 = s19 ∧ Sl (f ≤ t ∧ kg + m = st) ∧ Sl (Below wr.heap.size wr wv ∧ OG wv wr.heap.size Gs kg cg LL) ∧ Sl (LL.map SlV.l ++ (grpE (wtL ws) lo m f).map (cutL (ordL ws)) = G)) (fun _ _ s18 _ _ => (RowKit.intOf s18).toNat)
              case atStart => exact ⟨st, 0, none, 0, 0, [], _, Nat.le_refl _, rfl, rfl, rfl, rfl, ⟨Nat.zero_le _, Nat.zero_add _⟩, ⟨Below.refl _ _, OG.nil _ _⟩, ⟨HGG.out.symm⟩⟩
              case round =>
                obtain ⟨m, f, Gs, kg, cg, LL, v19, hm, rfl, rfl, rfl, rfl, HF, HM, HR⟩ := hrel
                by_cases hm0 : m = 0
                · have hmd : decide ((0 : Int) < (m : Int)) = false := decide_eq_false (by omega); have hmI : ¬ (0 : Int) < (m : Int) := (by omega); have hmN : ¬ 0 < m := (by omega); have hmNd : decide (0 < m) = false := decide_eq_false hmN; have HRR : Sl (LL.map SlV.l = G) := ⟨by have := HR.out; rw [hm0, grpE] at this; simpa using this⟩; clear hm0; go_wp2_with fail; refine bodyPost_ret (v := .tuple #[.slice Gs kg cg, .int .i64 lo, .int .i64 0]) (by simp [results, Tryz.results20, go_sem]) rfl ?_; rw [HE0.out]; have hbw := HO.out.1.size; have hbw2 := HB2.out.size; have hmono : ∀ {base base' : Nat} {e : TypeId} {v : Value} {n : Nat} {xs : List Value} {W : World}, W.ownsRow base e 1 v n xs → base' ≤ base → W.ownsRow base' e 1 v n xs := fun h hb => ⟨h.1, h.2.imp id fun ⟨g, cap, cur, h1, h2, h3⟩ => ⟨g, cap, cur, h1, Nat.le_trans hb h2, h3⟩⟩
                  exact ⟨⟨Gs, kg, cg, LL, rfl, ⟨hmono HM.out.2.row (by omega), fun s hs => (HM.out.2.all s hs).mono (by omega)⟩, HRR.out⟩, (HB2.out.trans (HO.out.1.mono hbw2)).trans (HM.out.1.mono (by omega))⟩
                · obtain ⟨m', hm'⟩ : ∃ m', m' + 1 = m := ⟨m - 1, by omega⟩; have hmd : decide ((0 : Int) < (m : Int)) = true := decide_eq_true (by omega); have hmI : (0 : Int) < (m : Int) := (by omega); have hmN : 0 < m := (by omega); have hmNd : decide (0 < m) = true := decide_eq_true hmN; have hmp : (m : Int) - 1 = (m' : Int) := (by omega); have hmw : IntKind.i64.wrap (m' : Int) = (m' : Int) := (by have := HST.out; rw [IntKind.wrap_i64]; omega); have HMP : Sl (m' + 1 = m) := ⟨hm'⟩; have HFT : Sl _ := ⟨HFC.out m' lo _ HM.out.1 (by have := HST.out; omega) HS9.out⟩; have HRQ : Sl _ := ⟨HRL.out lo m'⟩; have hgr : grpE (wtL ws) lo m f = (f, max f (rem (wtL ws) lo m')) :: grpE (wtL ws) lo m' (max f (rem (wtL ws) lo m')) := (by rw [← hm', grpE]); rw [hgr] at HR; obtain ⟨rm, hrm⟩ : ∃ rm, rem (wtL ws) lo m' = rm := ⟨_, rfl⟩; rw [hrm] at HFT HRQ HR; have hrt := HRQ.out; have hft := HF.out.1; obtain ⟨tr, htr⟩ : ∃ tr, t - rm = tr := ⟨_, rfl⟩; rw [htr] at HFT; have htI : (t : Int) - (tr : Int) = (rm : Int) := (by omega); obtain ⟨u, hu⟩ : ∃ u, max f rm = u := ⟨_, rfl⟩; rw [hu] at HR; have hmx : max (f : Int) (rm : Int) = (u : Int) := (by omega); have hrmw : IntKind.i64.wrap (rm : Int) = (rm : Int) := (by rw [IntKind.wrap_i64]; omega); have hcb := HCB.out; have HU : Sl (f ≤ u ∧ u ≤ t ∧ u ≤ cb) := ⟨by omega⟩; have hfu : (f : Int) ≤ (u : Int) := (by omega); have hucb : (u : Int) ≤ (cb : Int) := (by omega); have hcut := ((HII.out.below (HO.out.1)).below HM.out.1).take HU.out.2.1 |>.drop (c := cb) HU.out.1 HU.out.2.2; have HCUT : Sl _ := ⟨hcut⟩; clear hcut hgr hrm htr hu hm' hm0
                  by_cases hcf : cb = f
                  · subst hcf; rw [if_pos rfl] at HCUT; go_wp2_with fail; refine HFT.out.mono ?_; rintro e w4 ⟨rfl, rfl⟩; go_wp2_with fail; refine (cloneII_any _ _ _ _ _ HCUT.out (by have := HN80.out; have := HU.out; omega)).mono ?_; rintro e w5 ⟨⟨A', c', rfl, zo⟩, zb⟩; have HOI : Sl (OI w5 wr.heap.size A' (u - cb) c' (cutL (ordL ws) (cb, u))) := ⟨zo.mono HM.out.1.size⟩; have HOG : Sl _ := ⟨HM.out.2.below zb⟩; have HBW : Sl (Below wr.heap.size wr w5) := ⟨HM.out.1.trans (zb.mono HM.out.1.size)⟩; have HKG : Sl (kg + 1 ≤ 1000000) := ⟨by have := HF.out.2; have := HST.out; omega⟩; clear zo zb HM HCUT HFT; go_wp2_with (at_builtin; go_loud (refine wpList_append_og rfl (.tmp 105) (.tmp 111) rfl wr.heap.size Gs kg cg LL rfl w5 43 ⟨A', u - cb, c', cutL (ordL ws) (cb, u)⟩ rfl HOG.out HOI.out rfl HKG.out HBW.out.size ?_); rintro G2 c2 w6 zo zg; have HZ : Sl _ := ⟨And.intro zo zg⟩; clear zo zg); have HB6 : Sl (Below wr.heap.size wr w6) := ⟨below_grown (HBW.out.alloc HBW.out.size _) HZ.out.2 (Nat.le_trans HBW.out.size (by simp)) (fun q hq => (World.ownsRow.lt HOG.out.row q hq).1)⟩; exact ⟨⟨m', u, G2, kg + 1, c2, LL ++ [⟨A', u - cb, c', cutL (ordL ws) (cb, u)⟩], _, by have := HMP.out; omega, rfl, rfl, rfl, rfl, ⟨HU.out.2.1, by have := HF.out.2; have := HMP.out; omega⟩, ⟨HB6.out, HZ.out.1⟩, ⟨by rw [← HR.out]; simp⟩⟩, by have := HMP.out; simp [RowKit.intOf]; omega⟩
                  · rw [if_neg hcf] at HCUT; go_wp2_with fail; refine HFT.out.mono ?_; rintro e w4 ⟨rfl, rfl⟩; go_wp2_with fail; refine (cloneII_any _ _ _ _ _ HCUT.out (by have := HN80.out; have := HU.out; omega)).mono ?_; rintro e w5 ⟨⟨A', c', rfl, zo⟩, zb⟩; have HOI : Sl (OI w5 wr.heap.size A' (u - f) c' (cutL (ordL ws) (f, u))) := ⟨zo.mono HM.out.1.size⟩; have HOG : Sl _ := ⟨HM.out.2.below zb⟩; have HBW : Sl (Below wr.heap.size wr w5) := ⟨HM.out.1.trans (zb.mono HM.out.1.size)⟩; have HKG : Sl (kg + 1 ≤ 1000000) := ⟨by have := HF.out.2; have := HST.out; omega⟩; clear zo zb HM HCUT HFT; go_wp2_with (at_builtin; go_loud (refine wpList_append_og rfl (.tmp 105) (.tmp 111) rfl wr.heap.size Gs kg cg LL rfl w5 43 ⟨A', u - f, c', cutL (ordL ws) (f, u)⟩ rfl HOG.out HOI.out rfl HKG.out HBW.out.size ?_); rintro G2 c2 w6 zo zg; have HZ : Sl _ := ⟨And.intro zo zg⟩; clear zo zg); have HB6 : Sl (Below wr.heap.size wr w6) := ⟨below_grown (HBW.out.alloc HBW.out.size _) HZ.out.2 (Nat.le_trans HBW.out.size (by simp)) (fun q hq => (World.ownsRow.lt HOG.out.row q hq).1)⟩; exact ⟨⟨m', u, G2, kg + 1, c2, LL ++ [⟨A', u - f, c', cutL (ordL ws) (f, u)⟩], _, by have := HMP.out; omega, rfl, rfl, rfl, rfl, ⟨HU.out.2.1, by have := HF.out.2; have := HMP.out; omega⟩, ⟨HB6.out, HZ.out.1⟩, ⟨by rw [← HR.out]; simp⟩⟩, by have := HMP.out; simp [RowKit.intOf]; omega⟩
theorem shPlanS (g : Nat) (w : World) (hB : Blk w g 2 #[.int .i64 5, .int .i64 1, .int .i64 3, .int .i64 4, .int .i64 2]) :
    Calls Tryz.prog 20 #[.slice (some ⟨g, 0, none⟩) 5 5, .int .i64 2] w fun e w' =>
      (∃ A c L, e = .returned (.tuple #[.slice A 2 c, .int .i64 9, .int .i64 0]) ∧ GG w' A 2 L ∧ L.map SlV.l = [[1, 4, 2], [3, 0]]) ∧ Below w.heap.size w w' := by
  refine (crPlanS_any (some ⟨g, 0, none⟩) 5 5 [5, 1, 3, 4, 2] 2 w (.of_blk hB rfl rfl) (by decide) (by decide) (by decide)).mono ?_; rintro e w' ⟨⟨A, k, c, L, h1, h2, h3⟩, hb⟩; rw [shPG] at h3; rw [shPS, shPE] at h1; have hk : k = 2 := (by rw [← h2.len]; have := congrArg List.length h3; rw [List.length_map] at this; exact this); subst hk; exact ⟨⟨A, c, L, h1, .of_og h2, h3⟩, hb⟩
theorem shownS_any (w : World) : Calls Tryz.prog 11 #[] w fun e w' => e = .returned (.bool true) ∧ Below w.heap.size w w' := by
  go_enter Tryz.func11, Tryz.ntmps11; go_wp2_with fail; refine (example_any _).mono ?_; rintro e wE ⟨⟨A1, A2, A3, A4, P1, P2, P3, rfl, hm⟩, hb⟩; have HBE : Sl (Below w.heap.size w wE) := ⟨hb⟩; have HM : Sl _ := ⟨hm⟩; have HD : Sl (Lg wE wE []) := ⟨Lg.nil wE⟩; clear hm hb
  go_upto_region 2 with ((with_reducible show wpList _ _ _ _ _ _); first
    | (refine wpList_alloc_new 1 rfl rfl 33 rfl #[.slice none 0 0, .slice none 0 0, .slice none 0 0, .slice none 0 0] alloc_spec ?_; rintro w1 g1 zg zm zs zb; replace HD : Sl _ := ⟨HD.out.new zg zm zb⟩; clear zg zm zs zb)
    | (refine wpList_store_whole rfl 33 (.tmp 1) (.tmp 11) rfl g1 #[.slice A1 1 1, .slice A2 2 2, .slice A3 3 3, .slice A4 1 1] rfl rfl 33 _ (HD.out.at_ 0 rfl) rfl (by kernel_rfl) (by simp [Value.oneCell']) ?_; rintro w2 zm zs zb; replace HD : Sl _ := ⟨HD.out.upd zm zb⟩; clear zm zs zb))
  simp only [pS]
  go_cut [2, 3] from 13 to 19 (fun s2 s3 wx => ∃ (g2 : Nat) (A B : Option Addr) (n c m d : Nat), s2 = .pointer (some ⟨g2, 0, none⟩) ∧ s3 = .int .i64 0 ∧ Sl (Lg wE wx [(g2, 45, #[.slice A n c, .slice B m d]), (g1, 33, #[.slice A1 1 1, .slice A2 2 2, .slice A3 3 3, .slice A4 1 1])] ∧ RgM wx ⟨A, n, c, [0, 1, 2], B, m, d, [0]⟩))
  case first =>
    have hS0 : Below wE.heap.size wE w2.drew ∧ Blk w2.drew g1 33 #[.slice A1 1 1, .slice A2 2 2, .slice A3 3 3, .slice A4 1 1] := ⟨HD.out.bl.trans ((below_drewN (Below.refl _ _) 1).mono HD.out.bl.size), HD.out.at_ 0 rfl⟩; replace HD : Sl (Lg wE w2.drew [(g1, 33, #[.slice A1 1 1, .slice A2 2 2, .slice A3 3 3, .slice A4 1 1])]) := ⟨HD.out.below (below_drewN (Below.refl _ _) 1)⟩; have hm := hS0; refine wp_region_held_drew (S := fun w' => Below wE.heap.size wE w' ∧ Blk w' g1 33 #[.slice A1 1 1, .slice A2 2 2, .slice A3 3 3, .slice A4 1 1]) (by kernel_rfl) hm (fun hHeld => ?_); clear hm; refine hL 0 33 (.tmp 1) rfl rfl rfl g1 0 rfl #[.slice A1 1 1, .slice A2 2 2, .slice A3 3 3, .slice A4 1 1] _ (fun w' h => by have := World.rangeAt_of_block h.2 0 4; exact this) Tryz.underlying33 rfl ?_; simp only [pS]; refine wpAnyH_threem 1 2 8 rfl rfl rfl (by kernel_rfl) rfl rfl rfl (fun K hK => ?_) (fun K hK => ?_) (fun K hK => ?_) 
    · skip; go_simp; go_at_call 18
      (with_reducible refine (table_any _).mono ?_)
      rintro e w10 ⟨⟨T, a, b, c, d, rfl, ht⟩, hb⟩; replace HD : Sl _ := ⟨HD.out.below hb⟩; have HT : Sl _ := ⟨ht⟩; clear hb ht; refine hK.out _ _ ⟨HD.out.bl, HD.out.at_ 0 rfl⟩ (fun hHeld => ?_); clear hK K
      (try simp only [pS])
      refine wpAnyH_twom 2 8 rfl rfl (by kernel_rfl) rfl rfl (fun K hK => ?_) (fun K hK => ?_) 
      · skip; refine wp_newblk (fun g => .slice (some ⟨g, 0, none⟩) 1 1) 3 #[.int .i64 1] (fun _ => by kernel_rfl) ?_; rintro w11 ga zg zm zw zb; replace HD : Sl _ := ⟨HD.out.new zg zm zb⟩; replace HT : Sl _ := ⟨HT.out.below zw⟩; clear zg zm zw zb; refine hK.out _ _ ⟨HD.out.bl, HD.out.at_ 1 rfl⟩ (fun hHeld => ?_); clear hK K
        (try simp only [pS])
        refine hS 3 (v := .agg #[.slice (some ⟨ga, 0, none⟩) 1 1, .slice none 0 0]) rfl rfl ?_; simp only [pS]; refine wpAnyH_twom 4 8 rfl rfl (by kernel_rfl) rfl rfl (fun K hK => ?_) (fun K hK => ?_) 
        · skip; go_simp; go_at_call 17
          (with_reducible refine (shAt A1 A2 A3 A4 P1 P2 P3 T a b c d ga _ (HM.out.below HD.out.bl) HT.out (HD.out.at_ 0 rfl)).mono ?_)
          rintro e w12 ⟨⟨A, n, c, B, m, d', rfl, hr⟩, hb⟩; replace HD : Sl _ := ⟨HD.out.below hb⟩; have HR : Sl _ := ⟨hr⟩; clear hb hr HT; refine hK.out _ _ ⟨HD.out.bl, HD.out.at_ 1 rfl⟩ (fun hHeld => ?_); clear hK K
          (try simp only [pS])
          refine hM 5 (v := .tuple #[.agg #[.slice A n c, .slice B m d'], .int .i64 0]) rfl rfl ?_; simp only [pS]; refine hS 6 (v := .agg #[.slice A n c, .slice B m d']) rfl rfl ?_; simp only [pS]; refine hS 7 (v := .int .i64 0) rfl rfl ?_; simp only [pS]; refine hO 8 rfl rfl fun K hK => ?_; refine wp_newblk (fun g => .pointer (some ⟨g, 0, none⟩)) 45 #[.slice none 0 0, .slice none 0 0] (fun _ => by kernel_rfl) ?_; rintro w13 g2 zg zm zw zb; replace HD : Sl _ := ⟨HD.out.new zg zm zb⟩; replace HR : Sl _ := ⟨HR.out.below zw⟩; clear zg zm zw zb; refine hK.out _ _ ⟨HD.out.bl, HD.out.at_ 2 rfl⟩ (fun hHeld => ?_); clear hK K
          (try simp only [pS])
          refine hO 9 rfl rfl fun K hK => ?_; refine wp_store_partm 45 (.tmp 2) (.tmp 18) rfl g2 0 #[.slice A n c, .slice B m d'] rfl rfl 45 _ #[.slice A n c, .slice B m d'] (HD.out.at_ 0 rfl) (by simp) (putA_all _ _ rfl) (by kernel_rfl) (by simp [Value.oneCell']) ?_; rintro w14 zm zs zb; replace HR : Sl _ := ⟨HR.out.mvR (HD.out.at_ 0 rfl) zm⟩; replace HD : Sl _ := ⟨HD.out.set 0 rfl zm zb⟩; clear zm zs zb; refine hK.out _ _ ⟨HD.out.bl, HD.out.at_ 2 rfl⟩ (fun hHeld => ?_); clear hK K
          (try simp only [pS])
          refine hM 10 (v := .int .i64 0) rfl rfl ?_; simp only [pS]; refine wpAnyH_done (by kernel_rfl) ?_ _
          (try go_wp2_with fail)
          go_meet
          exact ⟨g2, A, B, n, c, m, d', rfl, rfl, ⟨HD.out.two 0 2 rfl rfl (by decide), HR.out⟩⟩
        · skip; refine wp_newblk (fun g => .pointer (some ⟨g, 0, none⟩)) 45 #[.slice none 0 0, .slice none 0 0] (fun _ => by kernel_rfl) ?_; rintro w15 g2 zg zm zw zb; replace HD : Sl _ := ⟨HD.out.new zg zm zb⟩; replace HT : Sl _ := ⟨HT.out.below zw⟩; clear zg zm zw zb; refine hK.out _ _ ⟨HD.out.bl, HD.out.at_ 2 rfl⟩ (fun hHeld => ?_); clear hK K
          (try simp only [pS])
          refine hO 4 rfl rfl fun K hK => ?_; go_simp; go_at_call 17
          (with_reducible refine (shAt A1 A2 A3 A4 P1 P2 P3 T a b c d ga _ (HM.out.below HD.out.bl) HT.out (HD.out.at_ 1 rfl)).mono ?_)
          rintro e w16 ⟨⟨A, n, c, B, m, d', rfl, hr⟩, hb⟩; replace HD : Sl _ := ⟨HD.out.below hb⟩; have HR : Sl _ := ⟨hr⟩; clear hb hr HT; refine hK.out _ _ ⟨HD.out.bl, HD.out.at_ 2 rfl⟩ (fun hHeld => ?_); clear hK K
          (try simp only [pS])
          refine hM 5 (v := .tuple #[.agg #[.slice A n c, .slice B m d'], .int .i64 0]) rfl rfl ?_; simp only [pS]; refine hS 6 (v := .agg #[.slice A n c, .slice B m d']) rfl rfl ?_; simp only [pS]; refine hS 7 (v := .int .i64 0) rfl rfl ?_; simp only [pS]; refine hO 9 rfl rfl fun K hK => ?_; refine wp_store_partm 45 (.tmp 2) (.tmp 18) rfl g2 0 #[.slice A n c, .slice B m d'] rfl rfl 45 _ #[.slice A n c, .slice B m d'] (HD.out.at_ 0 rfl) (by simp) (putA_all _ _ rfl) (by kernel_rfl) (by simp [Value.oneCell']) ?_; rintro w17 zm zs zb; replace HR : Sl _ := ⟨HR.out.mvR (HD.out.at_ 0 rfl) zm⟩; replace HD : Sl _ := ⟨HD.out.set 0 rfl zm zb⟩; clear zm zs zb; refine hK.out _ _ ⟨HD.out.bl, HD.out.at_ 2 rfl⟩ (fun hHeld => ?_); clear hK K
          (try simp only [pS])
          refine hM 10 (v := .int .i64 0) rfl rfl ?_; simp only [pS]; refine wpAnyH_done (by kernel_rfl) ?_ _
          (try go_wp2_with fail)
          go_meet
          exact ⟨g2, A, B, n, c, m, d', rfl, rfl, ⟨HD.out.two 0 2 rfl rfl (by decide), HR.out⟩⟩
      · skip; refine wp_newblk (fun g => .pointer (some ⟨g, 0, none⟩)) 45 #[.slice none 0 0, .slice none 0 0] (fun _ => by kernel_rfl) ?_; rintro w18 g2 zg zm zw zb; replace HD : Sl _ := ⟨HD.out.new zg zm zb⟩; replace HT : Sl _ := ⟨HT.out.below zw⟩; clear zg zm zw zb; refine hK.out _ _ ⟨HD.out.bl, HD.out.at_ 1 rfl⟩ (fun hHeld => ?_); clear hK K
        (try simp only [pS])
        refine hO 2 rfl rfl fun K hK => ?_; refine wp_newblk (fun g => .slice (some ⟨g, 0, none⟩) 1 1) 3 #[.int .i64 1] (fun _ => by kernel_rfl) ?_; rintro w19 ga zg zm zw zb; replace HD : Sl _ := ⟨HD.out.new zg zm zb⟩; replace HT : Sl _ := ⟨HT.out.below zw⟩; clear zg zm zw zb; refine hK.out _ _ ⟨HD.out.bl, HD.out.at_ 2 rfl⟩ (fun hHeld => ?_); clear hK K
        (try simp only [pS])
        refine hS 3 (v := .agg #[.slice (some ⟨ga, 0, none⟩) 1 1, .slice none 0 0]) rfl rfl ?_; simp only [pS]; refine hO 4 rfl rfl fun K hK => ?_; go_simp; go_at_call 17
        (with_reducible refine (shAt A1 A2 A3 A4 P1 P2 P3 T a b c d ga _ (HM.out.below HD.out.bl) HT.out (HD.out.at_ 0 rfl)).mono ?_)
        rintro e w20 ⟨⟨A, n, c, B, m, d', rfl, hr⟩, hb⟩; replace HD : Sl _ := ⟨HD.out.below hb⟩; have HR : Sl _ := ⟨hr⟩; clear hb hr HT; refine hK.out _ _ ⟨HD.out.bl, HD.out.at_ 2 rfl⟩ (fun hHeld => ?_); clear hK K
        (try simp only [pS])
        refine hM 5 (v := .tuple #[.agg #[.slice A n c, .slice B m d'], .int .i64 0]) rfl rfl ?_; simp only [pS]; refine hS 6 (v := .agg #[.slice A n c, .slice B m d']) rfl rfl ?_; simp only [pS]; refine hS 7 (v := .int .i64 0) rfl rfl ?_; simp only [pS]; refine hO 9 rfl rfl fun K hK => ?_; refine wp_store_partm 45 (.tmp 2) (.tmp 18) rfl g2 0 #[.slice A n c, .slice B m d'] rfl rfl 45 _ #[.slice A n c, .slice B m d'] (HD.out.at_ 1 rfl) (by simp) (putA_all _ _ rfl) (by kernel_rfl) (by simp [Value.oneCell']) ?_; rintro w21 zm zs zb; replace HR : Sl _ := ⟨HR.out.mvR (HD.out.at_ 1 rfl) zm⟩; replace HD : Sl _ := ⟨HD.out.set 1 rfl zm zb⟩; clear zm zs zb; refine hK.out _ _ ⟨HD.out.bl, HD.out.at_ 2 rfl⟩ (fun hHeld => ?_); clear hK K
        (try simp only [pS])
        refine hM 10 (v := .int .i64 0) rfl rfl ?_; simp only [pS]; refine wpAnyH_done (by kernel_rfl) ?_ _
        (try go_wp2_with fail)
        go_meet
        exact ⟨g2, A, B, n, c, m, d', rfl, rfl, ⟨HD.out.two 1 2 rfl rfl (by decide), HR.out⟩⟩
    · skip; refine wp_newblk (fun g => .slice (some ⟨g, 0, none⟩) 1 1) 3 #[.int .i64 1] (fun _ => by kernel_rfl) ?_; rintro w22 ga zg zm zw zb; replace HD : Sl _ := ⟨HD.out.new zg zm zb⟩; clear zg zm zw zb; refine hK.out _ _ ⟨HD.out.bl, HD.out.at_ 1 rfl⟩ (fun hHeld => ?_); clear hK K
      (try simp only [pS])
      refine hS 3 (v := .agg #[.slice (some ⟨ga, 0, none⟩) 1 1, .slice none 0 0]) rfl rfl ?_; simp only [pS]; refine wpAnyH_twom 1 8 rfl rfl (by kernel_rfl) rfl rfl (fun K hK => ?_) (fun K hK => ?_) 
      · skip; go_simp; go_at_call 18
        (with_reducible refine (table_any _).mono ?_)
        rintro e w23 ⟨⟨T, a, b, c, d, rfl, ht⟩, hb⟩; replace HD : Sl _ := ⟨HD.out.below hb⟩; have HT : Sl _ := ⟨ht⟩; clear hb ht; refine hK.out _ _ ⟨HD.out.bl, HD.out.at_ 1 rfl⟩ (fun hHeld => ?_); clear hK K
        (try simp only [pS])
        refine wpAnyH_twom 4 8 rfl rfl (by kernel_rfl) rfl rfl (fun K hK => ?_) (fun K hK => ?_) 
        · skip; go_simp; go_at_call 17
          (with_reducible refine (shAt A1 A2 A3 A4 P1 P2 P3 T a b c d ga _ (HM.out.below HD.out.bl) HT.out (HD.out.at_ 0 rfl)).mono ?_)
          rintro e w24 ⟨⟨A, n, c, B, m, d', rfl, hr⟩, hb⟩; replace HD : Sl _ := ⟨HD.out.below hb⟩; have HR : Sl _ := ⟨hr⟩; clear hb hr HT; refine hK.out _ _ ⟨HD.out.bl, HD.out.at_ 1 rfl⟩ (fun hHeld => ?_); clear hK K
          (try simp only [pS])
          refine hM 5 (v := .tuple #[.agg #[.slice A n c, .slice B m d'], .int .i64 0]) rfl rfl ?_; simp only [pS]; refine hS 6 (v := .agg #[.slice A n c, .slice B m d']) rfl rfl ?_; simp only [pS]; refine hS 7 (v := .int .i64 0) rfl rfl ?_; simp only [pS]; refine hO 8 rfl rfl fun K hK => ?_; refine wp_newblk (fun g => .pointer (some ⟨g, 0, none⟩)) 45 #[.slice none 0 0, .slice none 0 0] (fun _ => by kernel_rfl) ?_; rintro w25 g2 zg zm zw zb; replace HD : Sl _ := ⟨HD.out.new zg zm zb⟩; replace HR : Sl _ := ⟨HR.out.below zw⟩; clear zg zm zw zb; refine hK.out _ _ ⟨HD.out.bl, HD.out.at_ 2 rfl⟩ (fun hHeld => ?_); clear hK K
          (try simp only [pS])
          refine hO 9 rfl rfl fun K hK => ?_; refine wp_store_partm 45 (.tmp 2) (.tmp 18) rfl g2 0 #[.slice A n c, .slice B m d'] rfl rfl 45 _ #[.slice A n c, .slice B m d'] (HD.out.at_ 0 rfl) (by simp) (putA_all _ _ rfl) (by kernel_rfl) (by simp [Value.oneCell']) ?_; rintro w26 zm zs zb; replace HR : Sl _ := ⟨HR.out.mvR (HD.out.at_ 0 rfl) zm⟩; replace HD : Sl _ := ⟨HD.out.set 0 rfl zm zb⟩; clear zm zs zb; refine hK.out _ _ ⟨HD.out.bl, HD.out.at_ 2 rfl⟩ (fun hHeld => ?_); clear hK K
          (try simp only [pS])
          refine hM 10 (v := .int .i64 0) rfl rfl ?_; simp only [pS]; refine wpAnyH_done (by kernel_rfl) ?_ _
          (try go_wp2_with fail)
          go_meet
          exact ⟨g2, A, B, n, c, m, d', rfl, rfl, ⟨HD.out.two 0 2 rfl rfl (by decide), HR.out⟩⟩
        · skip; refine wp_newblk (fun g => .pointer (some ⟨g, 0, none⟩)) 45 #[.slice none 0 0, .slice none 0 0] (fun _ => by kernel_rfl) ?_; rintro w27 g2 zg zm zw zb; replace HD : Sl _ := ⟨HD.out.new zg zm zb⟩; replace HT : Sl _ := ⟨HT.out.below zw⟩; clear zg zm zw zb; refine hK.out _ _ ⟨HD.out.bl, HD.out.at_ 2 rfl⟩ (fun hHeld => ?_); clear hK K
          (try simp only [pS])
          refine hO 4 rfl rfl fun K hK => ?_; go_simp; go_at_call 17
          (with_reducible refine (shAt A1 A2 A3 A4 P1 P2 P3 T a b c d ga _ (HM.out.below HD.out.bl) HT.out (HD.out.at_ 1 rfl)).mono ?_)
          rintro e w28 ⟨⟨A, n, c, B, m, d', rfl, hr⟩, hb⟩; replace HD : Sl _ := ⟨HD.out.below hb⟩; have HR : Sl _ := ⟨hr⟩; clear hb hr HT; refine hK.out _ _ ⟨HD.out.bl, HD.out.at_ 2 rfl⟩ (fun hHeld => ?_); clear hK K
          (try simp only [pS])
          refine hM 5 (v := .tuple #[.agg #[.slice A n c, .slice B m d'], .int .i64 0]) rfl rfl ?_; simp only [pS]; refine hS 6 (v := .agg #[.slice A n c, .slice B m d']) rfl rfl ?_; simp only [pS]; refine hS 7 (v := .int .i64 0) rfl rfl ?_; simp only [pS]; refine hO 9 rfl rfl fun K hK => ?_; refine wp_store_partm 45 (.tmp 2) (.tmp 18) rfl g2 0 #[.slice A n c, .slice B m d'] rfl rfl 45 _ #[.slice A n c, .slice B m d'] (HD.out.at_ 0 rfl) (by simp) (putA_all _ _ rfl) (by kernel_rfl) (by simp [Value.oneCell']) ?_; rintro w29 zm zs zb; replace HR : Sl _ := ⟨HR.out.mvR (HD.out.at_ 0 rfl) zm⟩; replace HD : Sl _ := ⟨HD.out.set 0 rfl zm zb⟩; clear zm zs zb; refine hK.out _ _ ⟨HD.out.bl, HD.out.at_ 2 rfl⟩ (fun hHeld => ?_); clear hK K
          (try simp only [pS])
          refine hM 10 (v := .int .i64 0) rfl rfl ?_; simp only [pS]; refine wpAnyH_done (by kernel_rfl) ?_ _
          (try go_wp2_with fail)
          go_meet
          exact ⟨g2, A, B, n, c, m, d', rfl, rfl, ⟨HD.out.two 0 2 rfl rfl (by decide), HR.out⟩⟩
      · skip; refine wp_newblk (fun g => .pointer (some ⟨g, 0, none⟩)) 45 #[.slice none 0 0, .slice none 0 0] (fun _ => by kernel_rfl) ?_; rintro w30 g2 zg zm zw zb; replace HD : Sl _ := ⟨HD.out.new zg zm zb⟩; clear zg zm zw zb; refine hK.out _ _ ⟨HD.out.bl, HD.out.at_ 2 rfl⟩ (fun hHeld => ?_); clear hK K
        (try simp only [pS])
        refine hO 1 rfl rfl fun K hK => ?_; go_simp; go_at_call 18
        (with_reducible refine (table_any _).mono ?_)
        rintro e w31 ⟨⟨T, a, b, c, d, rfl, ht⟩, hb⟩; replace HD : Sl _ := ⟨HD.out.below hb⟩; have HT : Sl _ := ⟨ht⟩; clear hb ht; refine hK.out _ _ ⟨HD.out.bl, HD.out.at_ 2 rfl⟩ (fun hHeld => ?_); clear hK K
        (try simp only [pS])
        refine hO 4 rfl rfl fun K hK => ?_; go_simp; go_at_call 17
        (with_reducible refine (shAt A1 A2 A3 A4 P1 P2 P3 T a b c d ga _ (HM.out.below HD.out.bl) HT.out (HD.out.at_ 1 rfl)).mono ?_)
        rintro e w32 ⟨⟨A, n, c, B, m, d', rfl, hr⟩, hb⟩; replace HD : Sl _ := ⟨HD.out.below hb⟩; have HR : Sl _ := ⟨hr⟩; clear hb hr HT; refine hK.out _ _ ⟨HD.out.bl, HD.out.at_ 2 rfl⟩ (fun hHeld => ?_); clear hK K
        (try simp only [pS])
        refine hM 5 (v := .tuple #[.agg #[.slice A n c, .slice B m d'], .int .i64 0]) rfl rfl ?_; simp only [pS]; refine hS 6 (v := .agg #[.slice A n c, .slice B m d']) rfl rfl ?_; simp only [pS]; refine hS 7 (v := .int .i64 0) rfl rfl ?_; simp only [pS]; refine hO 9 rfl rfl fun K hK => ?_; refine wp_store_partm 45 (.tmp 2) (.tmp 18) rfl g2 0 #[.slice A n c, .slice B m d'] rfl rfl 45 _ #[.slice A n c, .slice B m d'] (HD.out.at_ 0 rfl) (by simp) (putA_all _ _ rfl) (by kernel_rfl) (by simp [Value.oneCell']) ?_; rintro w33 zm zs zb; replace HR : Sl _ := ⟨HR.out.mvR (HD.out.at_ 0 rfl) zm⟩; replace HD : Sl _ := ⟨HD.out.set 0 rfl zm zb⟩; clear zm zs zb; refine hK.out _ _ ⟨HD.out.bl, HD.out.at_ 2 rfl⟩ (fun hHeld => ?_); clear hK K
        (try simp only [pS])
        refine hM 10 (v := .int .i64 0) rfl rfl ?_; simp only [pS]; refine wpAnyH_done (by kernel_rfl) ?_ _
        (try go_wp2_with fail)
        go_meet
        exact ⟨g2, A, B, n, c, m, d', rfl, rfl, ⟨HD.out.two 0 2 rfl rfl (by decide), HR.out⟩⟩
    · skip; refine wp_newblk (fun g => .pointer (some ⟨g, 0, none⟩)) 45 #[.slice none 0 0, .slice none 0 0] (fun _ => by kernel_rfl) ?_; rintro w34 g2 zg zm zw zb; replace HD : Sl _ := ⟨HD.out.new zg zm zb⟩; clear zg zm zw zb; refine hK.out _ _ ⟨HD.out.bl, HD.out.at_ 1 rfl⟩ (fun hHeld => ?_); clear hK K
      (try simp only [pS])
      refine wpAnyH_twom 1 2 rfl rfl (by kernel_rfl) rfl rfl (fun K hK => ?_) (fun K hK => ?_) 
      · skip; go_simp; go_at_call 18
        (with_reducible refine (table_any _).mono ?_)
        rintro e w35 ⟨⟨T, a, b, c, d, rfl, ht⟩, hb⟩; replace HD : Sl _ := ⟨HD.out.below hb⟩; have HT : Sl _ := ⟨ht⟩; clear hb ht; refine hK.out _ _ ⟨HD.out.bl, HD.out.at_ 1 rfl⟩ (fun hHeld => ?_); clear hK K
        (try simp only [pS])
        refine hO 2 rfl rfl fun K hK => ?_; refine wp_newblk (fun g => .slice (some ⟨g, 0, none⟩) 1 1) 3 #[.int .i64 1] (fun _ => by kernel_rfl) ?_; rintro w36 ga zg zm zw zb; replace HD : Sl _ := ⟨HD.out.new zg zm zb⟩; replace HT : Sl _ := ⟨HT.out.below zw⟩; clear zg zm zw zb; refine hK.out _ _ ⟨HD.out.bl, HD.out.at_ 2 rfl⟩ (fun hHeld => ?_); clear hK K
        (try simp only [pS])
        refine hS 3 (v := .agg #[.slice (some ⟨ga, 0, none⟩) 1 1, .slice none 0 0]) rfl rfl ?_; simp only [pS]; refine hO 4 rfl rfl fun K hK => ?_; go_simp; go_at_call 17
        (with_reducible refine (shAt A1 A2 A3 A4 P1 P2 P3 T a b c d ga _ (HM.out.below HD.out.bl) HT.out (HD.out.at_ 0 rfl)).mono ?_)
        rintro e w37 ⟨⟨A, n, c, B, m, d', rfl, hr⟩, hb⟩; replace HD : Sl _ := ⟨HD.out.below hb⟩; have HR : Sl _ := ⟨hr⟩; clear hb hr HT; refine hK.out _ _ ⟨HD.out.bl, HD.out.at_ 2 rfl⟩ (fun hHeld => ?_); clear hK K
        (try simp only [pS])
        refine hM 5 (v := .tuple #[.agg #[.slice A n c, .slice B m d'], .int .i64 0]) rfl rfl ?_; simp only [pS]; refine hS 6 (v := .agg #[.slice A n c, .slice B m d']) rfl rfl ?_; simp only [pS]; refine hS 7 (v := .int .i64 0) rfl rfl ?_; simp only [pS]; refine hO 9 rfl rfl fun K hK => ?_; refine wp_store_partm 45 (.tmp 2) (.tmp 18) rfl g2 0 #[.slice A n c, .slice B m d'] rfl rfl 45 _ #[.slice A n c, .slice B m d'] (HD.out.at_ 1 rfl) (by simp) (putA_all _ _ rfl) (by kernel_rfl) (by simp [Value.oneCell']) ?_; rintro w38 zm zs zb; replace HR : Sl _ := ⟨HR.out.mvR (HD.out.at_ 1 rfl) zm⟩; replace HD : Sl _ := ⟨HD.out.set 1 rfl zm zb⟩; clear zm zs zb; refine hK.out _ _ ⟨HD.out.bl, HD.out.at_ 2 rfl⟩ (fun hHeld => ?_); clear hK K
        (try simp only [pS])
        refine hM 10 (v := .int .i64 0) rfl rfl ?_; simp only [pS]; refine wpAnyH_done (by kernel_rfl) ?_ _
        (try go_wp2_with fail)
        go_meet
        exact ⟨g2, A, B, n, c, m, d', rfl, rfl, ⟨HD.out.two 1 2 rfl rfl (by decide), HR.out⟩⟩
      · skip; refine wp_newblk (fun g => .slice (some ⟨g, 0, none⟩) 1 1) 3 #[.int .i64 1] (fun _ => by kernel_rfl) ?_; rintro w39 ga zg zm zw zb; replace HD : Sl _ := ⟨HD.out.new zg zm zb⟩; clear zg zm zw zb; refine hK.out _ _ ⟨HD.out.bl, HD.out.at_ 2 rfl⟩ (fun hHeld => ?_); clear hK K
        (try simp only [pS])
        refine hS 3 (v := .agg #[.slice (some ⟨ga, 0, none⟩) 1 1, .slice none 0 0]) rfl rfl ?_; simp only [pS]; refine hO 1 rfl rfl fun K hK => ?_; go_simp; go_at_call 18
        (with_reducible refine (table_any _).mono ?_)
        rintro e w40 ⟨⟨T, a, b, c, d, rfl, ht⟩, hb⟩; replace HD : Sl _ := ⟨HD.out.below hb⟩; have HT : Sl _ := ⟨ht⟩; clear hb ht; refine hK.out _ _ ⟨HD.out.bl, HD.out.at_ 2 rfl⟩ (fun hHeld => ?_); clear hK K
        (try simp only [pS])
        refine hO 4 rfl rfl fun K hK => ?_; go_simp; go_at_call 17
        (with_reducible refine (shAt A1 A2 A3 A4 P1 P2 P3 T a b c d ga _ (HM.out.below HD.out.bl) HT.out (HD.out.at_ 0 rfl)).mono ?_)
        rintro e w41 ⟨⟨A, n, c, B, m, d', rfl, hr⟩, hb⟩; replace HD : Sl _ := ⟨HD.out.below hb⟩; have HR : Sl _ := ⟨hr⟩; clear hb hr HT; refine hK.out _ _ ⟨HD.out.bl, HD.out.at_ 2 rfl⟩ (fun hHeld => ?_); clear hK K
        (try simp only [pS])
        refine hM 5 (v := .tuple #[.agg #[.slice A n c, .slice B m d'], .int .i64 0]) rfl rfl ?_; simp only [pS]; refine hS 6 (v := .agg #[.slice A n c, .slice B m d']) rfl rfl ?_; simp only [pS]; refine hS 7 (v := .int .i64 0) rfl rfl ?_; simp only [pS]; refine hO 9 rfl rfl fun K hK => ?_; refine wp_store_partm 45 (.tmp 2) (.tmp 18) rfl g2 0 #[.slice A n c, .slice B m d'] rfl rfl 45 _ #[.slice A n c, .slice B m d'] (HD.out.at_ 1 rfl) (by simp) (putA_all _ _ rfl) (by kernel_rfl) (by simp [Value.oneCell']) ?_; rintro w42 zm zs zb; replace HR : Sl _ := ⟨HR.out.mvR (HD.out.at_ 1 rfl) zm⟩; replace HD : Sl _ := ⟨HD.out.set 1 rfl zm zb⟩; clear zm zs zb; refine hK.out _ _ ⟨HD.out.bl, HD.out.at_ 2 rfl⟩ (fun hHeld => ?_); clear hK K
        (try simp only [pS])
        refine hM 10 (v := .int .i64 0) rfl rfl ?_; simp only [pS]; refine wpAnyH_done (by kernel_rfl) ?_ _
        (try go_wp2_with fail)
        go_meet
        exact ⟨g2, A, B, n, c, m, d', rfl, rfl, ⟨HD.out.two 1 2 rfl rfl (by decide), HR.out⟩⟩
  case rest =>
    clear HD; obtain ⟨g2, A, B, n, c, m, d, rfl, rfl, HX⟩ := hcut; have HR : Sl _ := ⟨HX.out.2⟩; have HD : Sl _ := ⟨HX.out.1⟩; clear HX; have hn3 : n = 3 := HR.out.s.1.symm; have hm1 : m = 1 := HR.out.c.1.symm; subst hn3 hm1
    rename World => wx
    go_upto_region 3 with fail
    go_cut [4, 5] from 20 to 28 (fun s4 s5 wy => s4 = .int .i64 2 ∧ s5 = .int .i64 0 ∧ Sl (Below wx.heap.size wx wy))
    case first =>
      have HB : Sl (∀ W, Below wx.heap.size wx W → Blk W g1 33 #[.slice A1 1 1, .slice A2 2 2, .slice A3 3 3, .slice A4 1 1]) := ⟨fun W h => (HD.out.at_ 1 rfl).below h (HD.out.at_ 1 rfl).lt⟩; have HM2 : Sl (∀ W, Below wx.heap.size wx W → SpM W (exO A1 A2 A3 A4 P1 P2 P3)) := ⟨fun W h => HM.out.below (HD.out.bl.trans (h.mono HD.out.bl.size))⟩; have hS0 : Below wx.heap.size wx wx.drew := below_drewN (Below.refl _ _) 1; have HL : Sl (Lg wx wx.drew []) := ⟨(Lg.nil wx).below hS0⟩; clear HD; have HD : Sl _ := ⟨HL.out⟩; clear HL; have hm := hS0; refine wp_region_held_drew (S := fun w' => Below wx.heap.size wx w') (by kernel_rfl) hm (fun hHeld => ?_); clear hm; refine hL 0 33 (.tmp 1) rfl rfl rfl g1 0 rfl #[.slice A1 1 1, .slice A2 2 2, .slice A3 3 3, .slice A4 1 1] _ (fun w' h => by have := World.rangeAt_of_block (HB.out w' h) 0 4; exact this) Tryz.underlying33 rfl ?_; simp only [pS]; refine wpAnyH_threem 1 2 3 rfl rfl rfl (by kernel_rfl) rfl rfl rfl (fun K hK => ?_) (fun K hK => ?_) (fun K hK => ?_) 
      · skip; go_simp; go_at_call 18
        (with_reducible refine (table_any _).mono ?_)
        rintro e w43 ⟨⟨T, a, b, c', d', rfl, ht⟩, hb⟩; replace HD : Sl _ := ⟨HD.out.below hb⟩; have HT : Sl _ := ⟨ht⟩; clear hb ht; refine hK.out _ _ HD.out.bl (fun hHeld => ?_); clear hK K
        (try simp only [pS])
        refine wpAnyH_twom 2 3 rfl rfl (by kernel_rfl) rfl rfl (fun K hK => ?_) (fun K hK => ?_) 
        · skip; refine wp_newblk (fun g => .slice (some ⟨g, 0, none⟩) 1 1) 3 #[.int .i64 0] (fun _ => by kernel_rfl) ?_; rintro w44 ga zg zm zw zb; replace HD : Sl _ := ⟨HD.out.new zg zm zb⟩; replace HT : Sl _ := ⟨HT.out.below zw⟩; clear zg zm zw zb; refine hK.out _ _ HD.out.bl (fun hHeld => ?_); clear hK K
          (try simp only [pS])
          refine hO 3 rfl rfl fun K hK => ?_; refine wp_newblk (fun g => .slice (some ⟨g, 0, none⟩) 1 1) 3 #[.int .i64 0] (fun _ => by kernel_rfl) ?_; rintro w45 gb zg zm zw zb; replace HD : Sl _ := ⟨HD.out.new zg zm zb⟩; replace HT : Sl _ := ⟨HT.out.below zw⟩; clear zg zm zw zb; refine hK.out _ _ HD.out.bl (fun hHeld => ?_); clear hK K
          (try simp only [pS])
          refine hS 4 (v := .agg #[.slice (some ⟨ga, 0, none⟩) 1 1, .slice (some ⟨gb, 0, none⟩) 1 1]) rfl rfl ?_; simp only [pS]; refine hO 5 rfl rfl fun K hK => ?_; go_simp; go_at_call 19
          (with_reducible refine (shNeeded A1 A2 A3 A4 P1 P2 P3 T a b c' d' ga gb _ (HM2.out _ HD.out.bl) HT.out (HD.out.at_ 1 rfl) (HD.out.at_ 0 rfl)).mono ?_)
          rintro e w46 ⟨rfl, hb⟩; replace HD : Sl _ := ⟨HD.out.below hb⟩; clear hb; refine hK.out _ _ HD.out.bl (fun hHeld => ?_); clear hK K
          (try simp only [pS])
          clear HT; refine hM 6 (v := .tuple #[.int .i64 2, .int .i64 0]) rfl rfl ?_; simp only [pS]; refine hS 7 (v := .int .i64 2) rfl rfl ?_; simp only [pS]; refine hS 8 (v := .int .i64 0) rfl rfl ?_; simp only [pS]; refine hM 9 (v := .int .i64 2) rfl rfl ?_; simp only [pS]; refine hM 10 (v := .int .i64 0) rfl rfl ?_; simp only [pS]; refine wpAnyH_done (by kernel_rfl) ?_ _
          (try go_wp2_with fail)
          go_meet
          exact ⟨rfl, rfl, ⟨HD.out.bl⟩⟩
        · skip; refine wp_newblk (fun g => .slice (some ⟨g, 0, none⟩) 1 1) 3 #[.int .i64 0] (fun _ => by kernel_rfl) ?_; rintro w47 gb zg zm zw zb; replace HD : Sl _ := ⟨HD.out.new zg zm zb⟩; replace HT : Sl _ := ⟨HT.out.below zw⟩; clear zg zm zw zb; refine hK.out _ _ HD.out.bl (fun hHeld => ?_); clear hK K
          (try simp only [pS])
          refine hO 2 rfl rfl fun K hK => ?_; refine wp_newblk (fun g => .slice (some ⟨g, 0, none⟩) 1 1) 3 #[.int .i64 0] (fun _ => by kernel_rfl) ?_; rintro w48 ga zg zm zw zb; replace HD : Sl _ := ⟨HD.out.new zg zm zb⟩; replace HT : Sl _ := ⟨HT.out.below zw⟩; clear zg zm zw zb; refine hK.out _ _ HD.out.bl (fun hHeld => ?_); clear hK K
          (try simp only [pS])
          refine hS 4 (v := .agg #[.slice (some ⟨ga, 0, none⟩) 1 1, .slice (some ⟨gb, 0, none⟩) 1 1]) rfl rfl ?_; simp only [pS]; refine hO 5 rfl rfl fun K hK => ?_; go_simp; go_at_call 19
          (with_reducible refine (shNeeded A1 A2 A3 A4 P1 P2 P3 T a b c' d' ga gb _ (HM2.out _ HD.out.bl) HT.out (HD.out.at_ 0 rfl) (HD.out.at_ 1 rfl)).mono ?_)
          rintro e w49 ⟨rfl, hb⟩; replace HD : Sl _ := ⟨HD.out.below hb⟩; clear hb; refine hK.out _ _ HD.out.bl (fun hHeld => ?_); clear hK K
          (try simp only [pS])
          clear HT; refine hM 6 (v := .tuple #[.int .i64 2, .int .i64 0]) rfl rfl ?_; simp only [pS]; refine hS 7 (v := .int .i64 2) rfl rfl ?_; simp only [pS]; refine hS 8 (v := .int .i64 0) rfl rfl ?_; simp only [pS]; refine hM 9 (v := .int .i64 2) rfl rfl ?_; simp only [pS]; refine hM 10 (v := .int .i64 0) rfl rfl ?_; simp only [pS]; refine wpAnyH_done (by kernel_rfl) ?_ _
          (try go_wp2_with fail)
          go_meet
          exact ⟨rfl, rfl, ⟨HD.out.bl⟩⟩
      · skip; refine wp_newblk (fun g => .slice (some ⟨g, 0, none⟩) 1 1) 3 #[.int .i64 0] (fun _ => by kernel_rfl) ?_; rintro w50 ga zg zm zw zb; replace HD : Sl _ := ⟨HD.out.new zg zm zb⟩; clear zg zm zw zb; refine hK.out _ _ HD.out.bl (fun hHeld => ?_); clear hK K
        (try simp only [pS])
        refine wpAnyH_twom 1 3 rfl rfl (by kernel_rfl) rfl rfl (fun K hK => ?_) (fun K hK => ?_) 
        · skip; go_simp; go_at_call 18
          (with_reducible refine (table_any _).mono ?_)
          rintro e w51 ⟨⟨T, a, b, c', d', rfl, ht⟩, hb⟩; replace HD : Sl _ := ⟨HD.out.below hb⟩; have HT : Sl _ := ⟨ht⟩; clear hb ht; refine hK.out _ _ HD.out.bl (fun hHeld => ?_); clear hK K
          (try simp only [pS])
          refine hO 3 rfl rfl fun K hK => ?_; refine wp_newblk (fun g => .slice (some ⟨g, 0, none⟩) 1 1) 3 #[.int .i64 0] (fun _ => by kernel_rfl) ?_; rintro w52 gb zg zm zw zb; replace HD : Sl _ := ⟨HD.out.new zg zm zb⟩; replace HT : Sl _ := ⟨HT.out.below zw⟩; clear zg zm zw zb; refine hK.out _ _ HD.out.bl (fun hHeld => ?_); clear hK K
          (try simp only [pS])
          refine hS 4 (v := .agg #[.slice (some ⟨ga, 0, none⟩) 1 1, .slice (some ⟨gb, 0, none⟩) 1 1]) rfl rfl ?_; simp only [pS]; refine hO 5 rfl rfl fun K hK => ?_; go_simp; go_at_call 19
          (with_reducible refine (shNeeded A1 A2 A3 A4 P1 P2 P3 T a b c' d' ga gb _ (HM2.out _ HD.out.bl) HT.out (HD.out.at_ 1 rfl) (HD.out.at_ 0 rfl)).mono ?_)
          rintro e w53 ⟨rfl, hb⟩; replace HD : Sl _ := ⟨HD.out.below hb⟩; clear hb; refine hK.out _ _ HD.out.bl (fun hHeld => ?_); clear hK K
          (try simp only [pS])
          clear HT; refine hM 6 (v := .tuple #[.int .i64 2, .int .i64 0]) rfl rfl ?_; simp only [pS]; refine hS 7 (v := .int .i64 2) rfl rfl ?_; simp only [pS]; refine hS 8 (v := .int .i64 0) rfl rfl ?_; simp only [pS]; refine hM 9 (v := .int .i64 2) rfl rfl ?_; simp only [pS]; refine hM 10 (v := .int .i64 0) rfl rfl ?_; simp only [pS]; refine wpAnyH_done (by kernel_rfl) ?_ _
          (try go_wp2_with fail)
          go_meet
          exact ⟨rfl, rfl, ⟨HD.out.bl⟩⟩
        · skip; refine wp_newblk (fun g => .slice (some ⟨g, 0, none⟩) 1 1) 3 #[.int .i64 0] (fun _ => by kernel_rfl) ?_; rintro w54 gb zg zm zw zb; replace HD : Sl _ := ⟨HD.out.new zg zm zb⟩; clear zg zm zw zb; refine hK.out _ _ HD.out.bl (fun hHeld => ?_); clear hK K
          (try simp only [pS])
          refine hS 4 (v := .agg #[.slice (some ⟨ga, 0, none⟩) 1 1, .slice (some ⟨gb, 0, none⟩) 1 1]) rfl rfl ?_; simp only [pS]; refine hO 1 rfl rfl fun K hK => ?_; go_simp; go_at_call 18
          (with_reducible refine (table_any _).mono ?_)
          rintro e w55 ⟨⟨T, a, b, c', d', rfl, ht⟩, hb⟩; replace HD : Sl _ := ⟨HD.out.below hb⟩; have HT : Sl _ := ⟨ht⟩; clear hb ht; refine hK.out _ _ HD.out.bl (fun hHeld => ?_); clear hK K
          (try simp only [pS])
          refine hO 5 rfl rfl fun K hK => ?_; go_simp; go_at_call 19
          (with_reducible refine (shNeeded A1 A2 A3 A4 P1 P2 P3 T a b c' d' ga gb _ (HM2.out _ HD.out.bl) HT.out (HD.out.at_ 1 rfl) (HD.out.at_ 0 rfl)).mono ?_)
          rintro e w56 ⟨rfl, hb⟩; replace HD : Sl _ := ⟨HD.out.below hb⟩; clear hb; refine hK.out _ _ HD.out.bl (fun hHeld => ?_); clear hK K
          (try simp only [pS])
          clear HT; refine hM 6 (v := .tuple #[.int .i64 2, .int .i64 0]) rfl rfl ?_; simp only [pS]; refine hS 7 (v := .int .i64 2) rfl rfl ?_; simp only [pS]; refine hS 8 (v := .int .i64 0) rfl rfl ?_; simp only [pS]; refine hM 9 (v := .int .i64 2) rfl rfl ?_; simp only [pS]; refine hM 10 (v := .int .i64 0) rfl rfl ?_; simp only [pS]; refine wpAnyH_done (by kernel_rfl) ?_ _
          (try go_wp2_with fail)
          go_meet
          exact ⟨rfl, rfl, ⟨HD.out.bl⟩⟩
      · skip; refine wp_newblk (fun g => .slice (some ⟨g, 0, none⟩) 1 1) 3 #[.int .i64 0] (fun _ => by kernel_rfl) ?_; rintro w57 gb zg zm zw zb; replace HD : Sl _ := ⟨HD.out.new zg zm zb⟩; clear zg zm zw zb; refine hK.out _ _ HD.out.bl (fun hHeld => ?_); clear hK K
        (try simp only [pS])
        refine wpAnyH_twom 1 2 rfl rfl (by kernel_rfl) rfl rfl (fun K hK => ?_) (fun K hK => ?_) 
        · skip; go_simp; go_at_call 18
          (with_reducible refine (table_any _).mono ?_)
          rintro e w58 ⟨⟨T, a, b, c', d', rfl, ht⟩, hb⟩; replace HD : Sl _ := ⟨HD.out.below hb⟩; have HT : Sl _ := ⟨ht⟩; clear hb ht; refine hK.out _ _ HD.out.bl (fun hHeld => ?_); clear hK K
          (try simp only [pS])
          refine hO 2 rfl rfl fun K hK => ?_; refine wp_newblk (fun g => .slice (some ⟨g, 0, none⟩) 1 1) 3 #[.int .i64 0] (fun _ => by kernel_rfl) ?_; rintro w59 ga zg zm zw zb; replace HD : Sl _ := ⟨HD.out.new zg zm zb⟩; replace HT : Sl _ := ⟨HT.out.below zw⟩; clear zg zm zw zb; refine hK.out _ _ HD.out.bl (fun hHeld => ?_); clear hK K
          (try simp only [pS])
          refine hS 4 (v := .agg #[.slice (some ⟨ga, 0, none⟩) 1 1, .slice (some ⟨gb, 0, none⟩) 1 1]) rfl rfl ?_; simp only [pS]; refine hO 5 rfl rfl fun K hK => ?_; go_simp; go_at_call 19
          (with_reducible refine (shNeeded A1 A2 A3 A4 P1 P2 P3 T a b c' d' ga gb _ (HM2.out _ HD.out.bl) HT.out (HD.out.at_ 0 rfl) (HD.out.at_ 1 rfl)).mono ?_)
          rintro e w60 ⟨rfl, hb⟩; replace HD : Sl _ := ⟨HD.out.below hb⟩; clear hb; refine hK.out _ _ HD.out.bl (fun hHeld => ?_); clear hK K
          (try simp only [pS])
          clear HT; refine hM 6 (v := .tuple #[.int .i64 2, .int .i64 0]) rfl rfl ?_; simp only [pS]; refine hS 7 (v := .int .i64 2) rfl rfl ?_; simp only [pS]; refine hS 8 (v := .int .i64 0) rfl rfl ?_; simp only [pS]; refine hM 9 (v := .int .i64 2) rfl rfl ?_; simp only [pS]; refine hM 10 (v := .int .i64 0) rfl rfl ?_; simp only [pS]; refine wpAnyH_done (by kernel_rfl) ?_ _
          (try go_wp2_with fail)
          go_meet
          exact ⟨rfl, rfl, ⟨HD.out.bl⟩⟩
        · skip; refine wp_newblk (fun g => .slice (some ⟨g, 0, none⟩) 1 1) 3 #[.int .i64 0] (fun _ => by kernel_rfl) ?_; rintro w61 ga zg zm zw zb; replace HD : Sl _ := ⟨HD.out.new zg zm zb⟩; clear zg zm zw zb; refine hK.out _ _ HD.out.bl (fun hHeld => ?_); clear hK K
          (try simp only [pS])
          refine hS 4 (v := .agg #[.slice (some ⟨ga, 0, none⟩) 1 1, .slice (some ⟨gb, 0, none⟩) 1 1]) rfl rfl ?_; simp only [pS]; refine hO 1 rfl rfl fun K hK => ?_; go_simp; go_at_call 18
          (with_reducible refine (table_any _).mono ?_)
          rintro e w62 ⟨⟨T, a, b, c', d', rfl, ht⟩, hb⟩; replace HD : Sl _ := ⟨HD.out.below hb⟩; have HT : Sl _ := ⟨ht⟩; clear hb ht; refine hK.out _ _ HD.out.bl (fun hHeld => ?_); clear hK K
          (try simp only [pS])
          refine hO 5 rfl rfl fun K hK => ?_; go_simp; go_at_call 19
          (with_reducible refine (shNeeded A1 A2 A3 A4 P1 P2 P3 T a b c' d' ga gb _ (HM2.out _ HD.out.bl) HT.out (HD.out.at_ 0 rfl) (HD.out.at_ 1 rfl)).mono ?_)
          rintro e w63 ⟨rfl, hb⟩; replace HD : Sl _ := ⟨HD.out.below hb⟩; clear hb; refine hK.out _ _ HD.out.bl (fun hHeld => ?_); clear hK K
          (try simp only [pS])
          clear HT; refine hM 6 (v := .tuple #[.int .i64 2, .int .i64 0]) rfl rfl ?_; simp only [pS]; refine hS 7 (v := .int .i64 2) rfl rfl ?_; simp only [pS]; refine hS 8 (v := .int .i64 0) rfl rfl ?_; simp only [pS]; refine hM 9 (v := .int .i64 2) rfl rfl ?_; simp only [pS]; refine hM 10 (v := .int .i64 0) rfl rfl ?_; simp only [pS]; refine wpAnyH_done (by kernel_rfl) ?_ _
          (try go_wp2_with fail)
          go_meet
          exact ⟨rfl, rfl, ⟨HD.out.bl⟩⟩
    case rest =>
      obtain ⟨rfl, rfl, HY⟩ := hcut; replace HD : Sl _ := ⟨HD.out.below HY.out⟩; replace HR : Sl _ := ⟨HR.out.below HY.out⟩; clear HY
      go_wp2_with ((with_reducible show wpList _ _ _ _ _ _); first
        | (refine wpList_made 30 rfl rfl 2 5 #[.int .i64 5, .int .i64 1, .int .i64 3, .int .i64 4, .int .i64 2] (fun _ => by kernel_rfl) ?_; rintro w50 g30 zg zm zs zb; replace HD : Sl _ := ⟨HD.out.new zg zm zb⟩; replace HR : Sl _ := ⟨HR.out.below (below_mv (Below.refl _ _) zm (Nat.le_refl _) (Nat.le_refl _))⟩; clear zg zm zs zb))
      refine (shPlanS g30 _ (HD.out.at_ 0 rfl)).mono ?_; rintro e wp ⟨⟨AP, cP, L, rfl, hg, hl⟩, hb⟩; have HO : Sl _ := ⟨HD.out.below hb⟩; replace HR : Sl _ := ⟨HR.out.below hb⟩; have HG : Sl _ := ⟨hg⟩; have HGL : Sl _ := ⟨hl⟩; clear HD hb hg hl; have HD : Sl (Lg wp wp []) := ⟨Lg.nil wp⟩
      go_wp2_with ((with_reducible show wpList _ _ _ _ _ _); first
        | (refine wpList_load_whole rfl 33 (.tmp 1) rfl g1 rfl 33 _ _ ((HO.out.below HD.out.bl).at_ 2 rfl) Tryz.underlying33 rfl (by kernel_rfl) ?_)
        | (refine wpList_made 37 rfl rfl 3 2 #[.int .i64 0, .int .i64 2] (fun _ => by kernel_rfl) ?_; rintro w51 g37 zg zm zs zb; replace HD : Sl _ := ⟨HD.out.new zg zm zb⟩; clear zg zm zs zb)
        | (refine wpList_made 38 rfl rfl 3 1 #[.int .i64 0] (fun _ => by kernel_rfl) ?_; rintro w52 g38 zg zm zs zb; replace HD : Sl _ := ⟨HD.out.new zg zm zb⟩; clear zg zm zs zb)
        | (refine wpList_made 41 rfl rfl 45 2 #[.slice (some ⟨g37, 0, none⟩) 2 2, .slice (some ⟨g38, 0, none⟩) 1 1, .slice none 0 0, .slice none 0 0] (fun _ => by kernel_rfl) ?_; rintro w53 g41 zg zm zs zb; replace HD : Sl _ := ⟨HD.out.new zg zm zb⟩; clear zg zm zs zb))
      refine (shPrint A1 A2 A3 A4 P1 P2 P3 g41 g37 g38 _ (HM.out.below (HO.out.bl.trans (HD.out.bl.mono HO.out.bl.size))) (HD.out.at_ 2 rfl) (HD.out.at_ 1 rfl) (HD.out.at_ 0 rfl)).mono ?_; rintro e wq ⟨rfl, hb⟩; replace HD : Sl _ := ⟨HD.out.below hb⟩; have HW : Sl (Below wp.heap.size wp wq) := ⟨HD.out.bl⟩; clear HD hb; have r0 := ((HO.out.below HW.out).at_ 1 rfl).cell 0; have r1 := ((HO.out.below HW.out).at_ 1 rfl).cell 1; simp at r0 r1; go_wp2_with fail; have H2 : Sl _ := ⟨two_rows wq 3 3 #[.int .i64 0, .int .i64 1, .int .i64 2] #[.int .i64 0]⟩; refine (sameR_any ⟨A, 3, c, [0, 1, 2], B, 1, d, [0]⟩ ⟨some ⟨wq.heap.size, 0, none⟩, 3, 3, [0, 1, 2], some ⟨wq.heap.size + 1, 0, none⟩, 1, 1, [0]⟩ _ (HR.out.below (HW.out.trans (H2.out.2.2.mono HW.out.size))) ⟨.of_blk H2.out.1 rfl rfl, .of_blk H2.out.2.1 rfl rfl, ⟨Nat.le_refl _, by show 3 ≤ maxLen; decide⟩, ⟨Nat.le_refl _, by show 1 ≤ maxLen; decide⟩⟩ rfl rfl (by show 3 ≤ 1000000; decide) (by show 1 ≤ 1000000; decide)).mono ?_; rintro e wr ⟨rfl, hb⟩; have HV : Sl (Below wp.heap.size wp wr) := ⟨(HW.out.trans (H2.out.2.2.mono HW.out.size)).trans (hb.mono (Nat.le_trans HW.out.size H2.out.2.2.size))⟩; clear HW H2 hb r0 r1; go_wp2_with fail; have H3 : Sl _ := ⟨three_rows wr 3 3 43 #[.int .i64 1, .int .i64 4, .int .i64 2] #[.int .i64 3, .int .i64 0] #[.slice (some ⟨wr.heap.size, 0, none⟩) 3 3, .slice (some ⟨wr.heap.size + 1, 0, none⟩) 2 2]⟩
      have HLE : Sl (∀ s ∈ L, s.n ≤ 1000000) := ⟨fun s hs => by
        have h1 := (HG.out.all s hs).1; have h2 : s.l ∈ L.map SlV.l := List.mem_map.2 ⟨s, hs, rfl⟩; rw [HGL.out] at h2; simp only [List.mem_cons, List.not_mem_nil, or_false] at h2; rcases h2 with h2 | h2
        · rw [h2] at h1; simp at h1; omega
        · rw [h2] at h1; simp at h1; omega⟩
      refine (groups_any AP (some ⟨wr.heap.size + 2, 0, none⟩) 2 cP 2 L [⟨some ⟨wr.heap.size, 0, none⟩, 3, 3, [1, 4, 2]⟩, ⟨some ⟨wr.heap.size + 1, 0, none⟩, 2, 2, [3, 0]⟩] _ (HG.out.below (HV.out.trans (H3.out.2.2.2.mono HV.out.size))) (.of_blk H3.out.2.2.1 rfl rfl (fun s hs => ?_)) (by decide) HGL.out HLE.out).mono ?_
      · simp only [List.mem_cons, List.not_mem_nil, or_false] at hs; rcases hs with rfl | rfl
        · exact .of_blk H3.out.1 rfl rfl
        · exact .of_blk H3.out.2.1 rfl rfl
      rintro e wt ⟨rfl, hb⟩; have HU : Sl (Below w.heap.size w wt) := ⟨HBE.out.trans ((HO.out.bl.trans (((HV.out.trans (H3.out.2.2.2.mono HV.out.size)).trans (hb.mono (Nat.le_trans HV.out.size H3.out.2.2.2.size))).mono HO.out.bl.size)).mono HBE.out.size)⟩; clear HV H3 hb HLE; go_wp2_with fail; go_ret; exact ⟨rfl, HU.out⟩
theorem SQ.low {w : World} {base base' : Nat} {o : SpO} {m : SqM} {V : SqV RgV} (h : SQ w base o m V) (hb : base' ≤ base) : SQ w base' o m V := ⟨h.blk, Nat.le_trans hb h.qb, own_low h.fr hb, own_low h.ed hb, h.ni, h.lt, h.sp, h.rg, h.vn, h.ev⟩
def newM2 (g : Nat) (imm : Nat → Prop) : SqM := ⟨g, none, 0, none, 0, [], imm⟩
def newR : RqV := ⟨so0, [], 0⟩
theorem RQ.new {w : World} {base g : Nat} {o : SpO} {imm : Nat → Prop} (hB : Blk w g 41 #[.slice o.A1 o.n1 o.c1, .slice o.A2 o.n2 o.c2, .slice o.A3 o.n3 o.c3, .slice o.A4 o.n4 o.c4, .slice none 0 0, .int .i64 0, .slice none 0 0, .int .i64 0]) (hb : base ≤ g) (hi : ∀ i, imm i → i < g) (hs : Dep w imm fun w' => SpM w' o) : RQ w base o (newM2 g imm) newR :=
  ⟨rfl, hB, hb, ⟨rfl, ⟨Nat.le_refl _, by show 0 ≤ maxLen; exact Nat.zero_le _⟩, fun u hu => (by cases hu), .inl ⟨rfl, rfl, rfl⟩⟩, fun i hi2 hi3 => (by
    rcases hi2 with e | ⟨_, e, _⟩ | ⟨_, e, _⟩
    · have := hi i hi3; have e : i = g := e; omega
    · cases e
    · cases e), fun i h => Nat.lt_trans (hi i h) hB.lt, hs, so0_ok _ _, fun e he => (by cases he)⟩
theorem Pair.new {w0 w1 w : World} {oq o : SpO} {q g b1 : Nat} {imm : Nat → Prop} (hq : SQ w1 b1 oq (newM q) newV) (hb1 : w0.heap.size ≤ b1) (hbq : Below w0.heap.size w0 w1) (hb : Below w1.heap.size w1 w) (hB : Blk w g 41 #[.slice o.A1 o.n1 o.c1, .slice o.A2 o.n2 o.c2, .slice o.A3 o.n3 o.c3, .slice o.A4 o.n4 o.c4, .slice none 0 0, .int .i64 0, .slice none 0 0, .int .i64 0]) (hg : w1.heap.size ≤ g) (hi : ∀ i, imm i → i < g ∧ i ≠ q) (h0 : ∀ i, i < w0.heap.size → imm i) (hs : Dep w imm fun w' => SpM w' o) :
    Pair w0 w oq o (newM q) (newM2 g imm) newV newR := by
  have hql : q < w1.heap.size := hq.blk.lt; have hqb : b1 ≤ q := hq.qb; have hsz := hbq.size; refine ⟨⟨(hq.below hb).low hb1, RQ.new hB (by omega) (fun i h => (hi i h).1) hs, fun i hi2 e => ?_, fun i hi2 e => ?_, hbq.trans (hb.mono hbq.size)⟩, ⟨⟨[], 0, [], 0⟩, Sim.emp RgV, rfl⟩, Bnd.emp smR, h0⟩
  · have hle : i ≤ q := by
      rcases hi2 with (e2 | ⟨_, e2, _⟩ | ⟨_, e2, _⟩) | e2
      · exact Nat.le_of_eq e2
      · cases e2
      · cases e2
      · exact Nat.le_of_lt e2
    rcases e with e | ⟨_, e, _⟩ | ⟨_, e, _⟩
    · have e : i = g := e; omega
    · cases e
    · cases e
  · have hne : i ≠ q := by
      rcases hi2 with (e2 | ⟨_, e2, _⟩ | ⟨_, e2, _⟩) | e2
      · have e2 : i = g := e2; omega
      · cases e2
      · cases e2
      · exact (hi i e2).2
    rcases e with e | ⟨_, e, _⟩ | ⟨_, e, _⟩
    · exact hne e
    · cases e
    · cases e
theorem ptr_neq (q : Nat) (w : World) : (binOp .neq 24 (ptr q) (.pointer none)).run Tryz.prog w = .ok (.bool true) w := by
  go_simp
theorem ptr_neq0 (w : World) : (binOp .neq 24 (.pointer none) (.pointer none)).run Tryz.prog w = .ok (.bool false) w := by
  go_simp
theorem crescendoSequence_any (o : SpO) (A : Option Addr) (n c : Nat) (L : List AcV) (w : World) (hM : SpM w o) (hF : SpF o) (hA : AcM w A n c L) :
    Calls Tryz.prog 5 #[.agg #[.slice o.A1 o.n1 o.c1, .slice o.A2 o.n2 o.c2, .slice o.A3 o.n3 o.c3, .slice o.A4 o.n4 o.c4], .slice A n c] w fun e w' => e = .returned (.bool true) ∧ Below w.heap.size w w' := by
  have HD : Sl (Lg w w []) := ⟨Lg.nil w⟩; have HM : Sl _ := ⟨hM⟩; have HF : Sl _ := ⟨hF⟩; have HA : Sl _ := ⟨hA⟩; have hnc : (n : Int) ≤ (c : Int) := (by have := hA.cap; omega); have hc63 : (c : Int) ≤ 9223372036854775807 := (by have := hA.cap; unfold maxLen at this; omega); clear hM hF hA; go_enter Tryz.func5, Tryz.ntmps5
  go_upto_region 1 with ((with_reducible show wpList _ _ _ _ _ _); first
    | (refine wpList_box_new 2 rfl rfl 33 (.tmp 0) rfl #[.slice o.A1 o.n1 o.c1, .slice o.A2 o.n2 o.c2, .slice o.A3 o.n3 o.c3, .slice o.A4 o.n4 o.c4] rfl (fun _ => by kernel_rfl) ?_; rintro w1 g2 zg zm zs zb; replace HD : Sl _ := ⟨HD.out.new zg zm zb⟩; clear zg zm zs zb))
  have s0 : w1.cell? ⟨g2, 0, none⟩ = some (.slice o.A1 o.n1 o.c1) := (HD.out.at_ 0 rfl).cell 0; have s1 : w1.cell? ⟨g2, 1, none⟩ = some (.slice o.A2 o.n2 o.c2) := (HD.out.at_ 0 rfl).cell 1; have s2 : w1.cell? ⟨g2, 2, none⟩ = some (.slice o.A3 o.n3 o.c3) := (HD.out.at_ 0 rfl).cell 2; have s3 : w1.cell? ⟨g2, 3, none⟩ = some (.slice o.A4 o.n4 o.c4) := (HD.out.at_ 0 rfl).cell 3; go_wp2_with fail; refine (lFar_any o w1 (HM.out.below HD.out.bl)).mono ?_; rintro e w2 ⟨⟨b, rfl⟩, hb⟩; replace HD : Sl _ := ⟨HD.out.below hb⟩; clear hb s0 s1 s2 s3
  cases b with
  | true =>
    go_wp2_with fail; refine (shownS_any _).mono ?_; rintro e w9 ⟨rfl, hb⟩; have HB9 : Sl _ := ⟨HD.out.bl.trans (hb.mono HD.out.bl.size)⟩; clear hb; go_wp2_with fail; go_ret; exact ⟨rfl, HB9.out⟩
  | false =>
    go_wp2_with fail; refine (great_any A n c L 150 w2 (HA.out.below HD.out.bl) (by decide)).mono ?_; rintro e w3 ⟨⟨b, rfl, hg⟩, hb⟩; replace HD : Sl _ := ⟨HD.out.below hb⟩; have HG : Sl _ := ⟨hg⟩; clear hb hg
    cases b with
    | true =>
      go_wp2_with fail; refine (shownS_any _).mono ?_; rintro e w9 ⟨rfl, hb⟩; have HB9 : Sl _ := ⟨HD.out.bl.trans (hb.mono HD.out.bl.size)⟩; clear hb; go_wp2_with fail; go_ret; exact ⟨rfl, HB9.out⟩
    | false =>
      have HSM : Sl (n ≤ 150 ∧ ∀ a ∈ L, a.r.n ≤ 100 ∧ a.r.m ≤ 100) := ⟨by have h := HG.out rfl; rw [HA.out.row.len] at h; exact h⟩; clear HG; have HCK : Sl (∀ W, Below w.heap.size w W → Calls Tryz.prog 29 #[.agg #[.slice o.A1 o.n1 o.c1, .slice o.A2 o.n2 o.c2, .slice o.A3 o.n3 o.c3, .slice o.A4 o.n4 o.c4]] W fun e w' => SpecR o e ∧ Below W.heap.size W w') := ⟨fun W hW => rcheck_any o W (HM.out.below hW) HF.out⟩; unfold SpecR at HCK
      by_cases hs0 : specE o = 0
      · rw [hs0] at HCK; have HS0 : Sl _ := ⟨hs0⟩; clear hs0; have s0 : w3.cell? ⟨g2, 0, none⟩ = some (.slice o.A1 o.n1 o.c1) := (HD.out.at_ 0 rfl).cell 0; have s1 : w3.cell? ⟨g2, 1, none⟩ = some (.slice o.A2 o.n2 o.c2) := (HD.out.at_ 0 rfl).cell 1; have s2 : w3.cell? ⟨g2, 2, none⟩ = some (.slice o.A3 o.n3 o.c3) := (HD.out.at_ 0 rfl).cell 2; have s3 : w3.cell? ⟨g2, 3, none⟩ = some (.slice o.A4 o.n4 o.c4) := (HD.out.at_ 0 rfl).cell 3; go_wp2_with fail; refine (qNew_any o w3 (HM.out.below HD.out.bl) HF.out HS0.out).mono ?_; rintro e w4 ⟨⟨q, A3, c3, A4, c4, rfl, hq1, hq2, hfq, hq⟩, hb⟩; have HNW : Sl _ := ⟨And.intro hq1 (And.intro hq2 (And.intro hfq hq))⟩; have HW3 : Sl (w.heap.size ≤ w3.heap.size) := ⟨HD.out.bl.size⟩; replace HD : Sl _ := ⟨HD.out.below hb⟩; have HB4 : Sl (Below w.heap.size w w4) := ⟨HD.out.bl⟩; have HG2 : Sl (Blk w4 g2 33 #[.slice o.A1 o.n1 o.c1, .slice o.A2 o.n2 o.c2, .slice o.A3 o.n3 o.c3, .slice o.A4 o.n4 o.c4]) := ⟨HD.out.at_ 0 rfl⟩; have HE : Sl (Lg w4 w4 []) := ⟨Lg.nil w4⟩; clear hb hq1 hq2 hfq hq HD s0 s1 s2 s3; have s0 : w4.cell? ⟨g2, 0, none⟩ = some (.slice o.A1 o.n1 o.c1) := (HG2.out).cell 0; have s1 : w4.cell? ⟨g2, 1, none⟩ = some (.slice o.A2 o.n2 o.c2) := (HG2.out).cell 1; have s2 : w4.cell? ⟨g2, 2, none⟩ = some (.slice o.A3 o.n3 o.c3) := (HG2.out).cell 2; have s3 : w4.cell? ⟨g2, 3, none⟩ = some (.slice o.A4 o.n4 o.c4) := (HG2.out).cell 3; go_wp2_with fail; refine (HCK.out _ HB4.out).mono ?_; rintro e w5 ⟨⟨a1, a2, a3, rfl⟩, hb⟩; replace HE : Sl _ := ⟨HE.out.below hb⟩; clear hb HCK s0 s1 s2 s3
        go_upto_region 5 with ((with_reducible show wpList _ _ _ _ _ _); first
          | (refine wpList_alloc_new 7 rfl rfl 72 rfl #[.int .i64 0, .int .i64 0, .int .i64 0] alloc_fault ?_; rintro w6 gf zg zm zs zb; replace HE : Sl _ := ⟨HE.out.new zg zm zb⟩; clear zg zm zs zb)
          | (refine wpList_store_whole rfl 72 (.tmp 7) (.tmp 26) rfl gf #[.int .i64 a1, .int .i64 a2, .int .i64 a3] rfl rfl 72 _ (HE.out.at_ 0 rfl) rfl (by kernel_rfl) (by simp [Value.oneCell']) ?_; rintro w7 zm zs zb; replace HE : Sl _ := ⟨HE.out.upd zm zb⟩; clear zm zs zb))
        have s0 : w7.cell? ⟨g2, 0, none⟩ = some (.slice o.A1 o.n1 o.c1) := (HG2.out.below HE.out.bl HG2.out.lt).cell 0; have s1 : w7.cell? ⟨g2, 1, none⟩ = some (.slice o.A2 o.n2 o.c2) := (HG2.out.below HE.out.bl HG2.out.lt).cell 1; have s2 : w7.cell? ⟨g2, 2, none⟩ = some (.slice o.A3 o.n3 o.c3) := (HG2.out.below HE.out.bl HG2.out.lt).cell 2; have s3 : w7.cell? ⟨g2, 3, none⟩ = some (.slice o.A4 o.n4 o.c4) := (HG2.out.below HE.out.bl HG2.out.lt).cell 3; have HS7 : Sl (w4.heap.size ≤ w7.heap.size) := ⟨HE.out.bl.size⟩; have hnq : ∀ W, (binOp .neq 24 (ptr q) (.pointer none)).run Tryz.prog W = .ok (.bool true) W := fun W => ptr_neq q W
        go_wp2_with ((with_reducible show wpList _ _ _ _ _ _); first
          | (refine wpList_box_new 40 rfl rfl 41 (.tmp 39) rfl #[.slice o.A1 o.n1 o.c1, .slice o.A2 o.n2 o.c2, .slice o.A3 o.n3 o.c3, .slice o.A4 o.n4 o.c4, .slice none 0 0, .int .i64 0, .slice none 0 0, .int .i64 0] rfl (fun _ => by kernel_rfl) ?_; rintro w8 g9 zg zm zs zb; replace HE : Sl _ := ⟨HE.out.new zg zm zb⟩; have HG9 : Sl (w4.heap.size ≤ g9 ∧ Blk w8 g9 41 #[.slice o.A1 o.n1 o.c1, .slice o.A2 o.n2 o.c2, .slice o.A3 o.n3 o.c3, .slice o.A4 o.n4 o.c4, .slice none 0 0, .int .i64 0, .slice none 0 0, .int .i64 0]) := ⟨by rw [zg]; exact HS7.out, zb⟩; clear zg zm zs zb))
        have HSP : Sl (Spc (newO o A3 c3 A4 c4) o) := ⟨⟨HNW.out.2.2.1, HF.out, HS0.out, rfl, rfl⟩⟩; have HPR : Sl (Pair w w8 (newO o A3 c3 A4 c4) o (newM q) (newM2 g9 fun i => i < w.heap.size) newV newR) := ⟨Pair.new HNW.out.2.2.2 HW3.out HB4.out HE.out.bl HG9.out.2 HG9.out.1 (fun i hi => by have h1 := HNW.out.1; have h2 := HNW.out.2.1; have h3 := HG9.out.1; have h4 := HW3.out; omega) (fun i hi => hi) (fun w' hm => HM.out.below (hm.below (HB4.out.trans (HE.out.bl.mono HB4.out.size)) (Nat.le_trans HB4.out.size HE.out.bl.size) (fun i e => Nat.le_of_not_lt e)))⟩; clear s0 s1 s2 s3 hnq; have HB8 : Sl (Below w.heap.size w w8) := ⟨HB4.out.trans (HE.out.bl.mono HB4.out.size)⟩; have HP0 : Sl (PairE w (newO o A3 c3 A4 c4) o q g9 w8) := ⟨⟨_, _, _, _, HPR.out, rfl, rfl⟩⟩; clear HPR HE HG9 HG2; obtain ⟨oq, hoq⟩ : ∃ oq, newO o A3 c3 A4 c4 = oq := ⟨_, rfl⟩; rw [hoq] at HSP HP0; clear HNW HB4 hoq
        go_loopw [10] (fun s10 wv => ∃ k : Nat, k ≤ n ∧ s10 = .int .i64 (k : Int) ∧ Sl (PairE w oq o q g9 wv ∧ Below w.heap.size w wv)) (fun s10 _ => n - (RowKit.intOf s10).toNat)
        case atStart => exact ⟨0, Nat.zero_le _, rfl, ⟨HP0.out, HB8.out⟩⟩
        case round =>
          clear HP0 HB8; obtain ⟨k, hk, rfl, HL⟩ := hrel; have hk0 : (0 : Int) ≤ (k : Int) := (by omega); have hn150 : (n : Int) ≤ 150 := (by have := HSM.out.1; omega)
          by_cases hkn : k < n
          · have hkI : decide ((k : Int) < (n : Int)) = true := decide_eq_true (by omega); have hkI2 : (k : Int) < (n : Int) := (by omega); have HKN : Sl (k < n) := ⟨hkn⟩; obtain ⟨m, m2, V, R, hp, e1, e2⟩ := HL.out.1; obtain ⟨ga, oo, x, ha, hga, hx, hr⟩ := (HA.out.below HL.out.2).row.at_ (by decide) hkn; have hxa := HA.out.all x (List.mem_of_getElem? hx); have hxs := HSM.out.2 x (List.mem_of_getElem? hx); have x0 : wr.cell? ⟨ga, oo + k * 4, none⟩ = some (.int .u8 x.y) := hr 0 _ rfl; have x1 : wr.cell? ⟨ga, oo + k * 4 + 1, none⟩ = some (.int .i64 x.z) := hr 1 _ rfl; have x2 : wr.cell? ⟨ga, oo + k * 4 + 2, none⟩ = some (.slice x.r.A x.r.n x.r.c) := hr 2 _ rfl; have x3 : wr.cell? ⟨ga, oo + k * 4 + 3, none⟩ = some (.slice x.r.B x.r.m x.r.d) := hr 3 _ rfl
            have HPL : Sl (Calls Tryz.prog 30 #[ptr q, ptr g9, .agg #[.int .u8 x.y, .int .i64 x.z, .slice x.r.A x.r.n x.r.c, .slice x.r.B x.r.m x.r.d]] wr fun en w' => en = .returned (.bool true) ∧ PairE w oq o q g9 w' ∧ Below w.heap.size w w') := ⟨by
              have h := play_any w wr oq o m m2 V R hp HSP.out x.y x.z x.r hxa.1 hxa.2 hxs; rw [e1, e2] at h
              exact h⟩
            rw [ha]; clear ha hga hx hr hxa hxs hp e1 e2 m m2 V R hkn hk; go_wp2_with fail; refine HPL.out.mono ?_; rintro en wb ⟨rfl, ⟨m, m2, V, R, hp, e1, e2⟩, hb⟩
            have HSA : Sl (Calls Tryz.prog 14 #[ptr q, ptr g9] wb fun e w' => e = .returned (.bool true) ∧ Below wb.heap.size wb w') := ⟨by
              have h := lsame_any w wb oq o m m2 V R hp.d hp.eqL hp.len.2.1 hp.len.2.2.2.2.1 hp.b.L; rw [e1, e2] at h
              exact h⟩
            have HV : Sl (PairE w oq o q g9 wb ∧ Below w.heap.size w wb) := ⟨⟨m, m2, V, R, hp, e1, e2⟩, hb⟩; clear hp e1 e2 hb m m2 V R HPL x0 x1 x2 x3; go_wp2_with fail; refine HSA.out.mono ?_; rintro en wd ⟨rfl, hb⟩; have HV2 : Sl (PairE w oq o q g9 wd ∧ Below w.heap.size w wd) := ⟨HV.out.1.below hb, HV.out.2.trans (hb.mono HV.out.2.size)⟩; clear hb HSA HV; go_wp2_with fail; exact ⟨⟨k + 1, HKN.out, by go_num, HV2⟩, by have := HKN.out; simp [RowKit.intOf]; omega⟩
          · obtain rfl : k = n := (by omega); have hkI : decide ((k : Int) < (k : Int)) = false := (by simp); go_wp2_with fail; refine (shownS_any _).mono ?_; rintro e w9 ⟨rfl, hb⟩; have HB9 : Sl _ := ⟨HL.out.2.trans (hb.mono HL.out.2.size)⟩; clear hb; go_wp2_with fail; go_ret; exact ⟨rfl, HB9.out⟩
      · obtain ⟨E, hE⟩ : ∃ E, specE o = E := ⟨_, rfl⟩; rw [hE] at hs0 HCK; have HEE : Sl (specE o = E ∧ E ≠ 0) := ⟨⟨hE, hs0⟩⟩; have hE1 : (E != E) = false := (by simp); have hE2 : (E == 0) = false := (by simp [hs0]); have hE3 : ¬ E = 0 := hs0; have hnq : ∀ W, (binOp .neq 24 (.pointer none) (.pointer none)).run Tryz.prog W = .ok (.bool false) W := fun W => ptr_neq0 W
        clear hs0 hE; have s0 : w3.cell? ⟨g2, 0, none⟩ = some (.slice o.A1 o.n1 o.c1) := (HD.out.at_ 0 rfl).cell 0; have s1 : w3.cell? ⟨g2, 1, none⟩ = some (.slice o.A2 o.n2 o.c2) := (HD.out.at_ 0 rfl).cell 1; have s2 : w3.cell? ⟨g2, 2, none⟩ = some (.slice o.A3 o.n3 o.c3) := (HD.out.at_ 0 rfl).cell 2; have s3 : w3.cell? ⟨g2, 3, none⟩ = some (.slice o.A4 o.n4 o.c4) := (HD.out.at_ 0 rfl).cell 3
        have HNW : Sl (Calls Tryz.prog 9 #[.agg #[.slice o.A1 o.n1 o.c1, .slice o.A2 o.n2 o.c2, .slice o.A3 o.n3 o.c3, .slice o.A4 o.n4 o.c4]] w3 fun en w' => en = .returned (.tuple #[.pointer none, .int .i64 E]) ∧ Below w3.heap.size w3 w') := ⟨by
          have h := qNew_no o w3 (HM.out.below HD.out.bl) HF.out (by rw [HEE.out.1]; exact HEE.out.2); rw [HEE.out.1] at h
          exact h⟩
        go_wp2_with fail; refine HNW.out.mono ?_; rintro e w4 ⟨rfl, hb⟩; replace HD : Sl _ := ⟨HD.out.below hb⟩; clear hb HNW s0 s1 s2 s3; have s0 : w4.cell? ⟨g2, 0, none⟩ = some (.slice o.A1 o.n1 o.c1) := (HD.out.at_ 0 rfl).cell 0; have s1 : w4.cell? ⟨g2, 1, none⟩ = some (.slice o.A2 o.n2 o.c2) := (HD.out.at_ 0 rfl).cell 1; have s2 : w4.cell? ⟨g2, 2, none⟩ = some (.slice o.A3 o.n3 o.c3) := (HD.out.at_ 0 rfl).cell 2; have s3 : w4.cell? ⟨g2, 3, none⟩ = some (.slice o.A4 o.n4 o.c4) := (HD.out.at_ 0 rfl).cell 3; go_wp2_with fail; refine (HCK.out _ HD.out.bl).mono ?_; rintro e w5 ⟨⟨a1, a2, a3, rfl⟩, hb⟩; replace HD : Sl _ := ⟨HD.out.below hb⟩; clear hb HCK s0 s1 s2 s3
        go_upto_region 5 with ((with_reducible show wpList _ _ _ _ _ _); first
          | (refine wpList_alloc_new 7 rfl rfl 72 rfl #[.int .i64 0, .int .i64 0, .int .i64 0] alloc_fault ?_; rintro w6 gf zg zm zs zb; replace HD : Sl _ := ⟨HD.out.new zg zm zb⟩; clear zg zm zs zb)
          | (refine wpList_store_whole rfl 72 (.tmp 7) (.tmp 26) rfl gf #[.int .i64 a1, .int .i64 a2, .int .i64 a3] rfl rfl 72 _ (HD.out.at_ 0 rfl) rfl (by kernel_rfl) (by simp [Value.oneCell']) ?_; rintro w7 zm zs zb; replace HD : Sl _ := ⟨HD.out.upd zm zb⟩; clear zm zs zb))
        replace HD : Sl _ := ⟨HD.out.drop⟩; have s0 : w7.cell? ⟨g2, 0, none⟩ = some (.slice o.A1 o.n1 o.c1) := (HD.out.at_ 0 rfl).cell 0; have s1 : w7.cell? ⟨g2, 1, none⟩ = some (.slice o.A2 o.n2 o.c2) := (HD.out.at_ 0 rfl).cell 1; have s2 : w7.cell? ⟨g2, 2, none⟩ = some (.slice o.A3 o.n3 o.c3) := (HD.out.at_ 0 rfl).cell 2; have s3 : w7.cell? ⟨g2, 3, none⟩ = some (.slice o.A4 o.n4 o.c4) := (HD.out.at_ 0 rfl).cell 3
        go_wp2_with ((with_reducible show wpList _ _ _ _ _ _); first
          | (refine wpList_box_new 40 rfl rfl 41 (.tmp 39) rfl #[.slice o.A1 o.n1 o.c1, .slice o.A2 o.n2 o.c2, .slice o.A3 o.n3 o.c3, .slice o.A4 o.n4 o.c4, .slice none 0 0, .int .i64 0, .slice none 0 0, .int .i64 0] rfl (fun _ => by kernel_rfl) ?_; rintro w8 g9 zg zm zs zb; replace HD : Sl _ := ⟨HD.out.new zg zm zb⟩; clear zg zm zs zb))
        have HB8 : Sl (Below w.heap.size w w8) := ⟨HD.out.bl⟩; clear s0 s1 s2 s3 HD
        go_loopw [10] (fun s10 wv => s10 = .int .i64 0 ∧ Sl (Below w.heap.size w wv)) (fun s10 _ => 0)
        case atStart => exact ⟨rfl, HB8⟩
        case round =>
          clear HB8; obtain ⟨rfl, HL⟩ := hrel; have hn150 : (n : Int) ≤ 150 := (by have := HSM.out.1; omega)
          by_cases hkn : 0 < n
          · have hkI : decide ((0 : Int) < (n : Int)) = true := decide_eq_true (by omega); have hkI2 : (0 : Int) < (n : Int) := (by omega); go_wp2_with fail; refine (shownS_any _).mono ?_; rintro e w9 ⟨rfl, hb⟩; have HB9 : Sl _ := ⟨HL.out.trans (hb.mono HL.out.size)⟩; clear hb; go_wp2_with fail; go_ret; exact ⟨rfl, HB9.out⟩
          · obtain rfl : n = 0 := (by omega); go_wp2_with fail; refine (shownS_any _).mono ?_; rintro e w9 ⟨rfl, hb⟩; have HB9 : Sl _ := ⟨HL.out.trans (hb.mono HL.out.size)⟩; clear hb; go_wp2_with fail; go_ret; exact ⟨rfl, HB9.out⟩
end Go.Proofs.YtabkpbbjodfolaaGreatDoor
