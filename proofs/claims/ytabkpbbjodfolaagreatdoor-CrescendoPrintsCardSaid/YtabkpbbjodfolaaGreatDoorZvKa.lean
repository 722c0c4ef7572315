/- Rows of integers of a call's own: one element is set. -/
import Derived.Test.YtabkpbbjodfolaaGreatDoorZvBa
import Derived.Test.YtabkpbbjodfolaaGreatDoorZvJa
import Derived.Test.YtabkpbbjodfolaaGreatDoorZvHa
import Derived.Test.YtabkpbbjodfolaaGreatDoorZvO
import Derived.Test.YtabkpbbjodfolaaGreatDoorShelE
namespace Go.Proofs.YtabkpbbjodfolaaGreatDoor
set_option linter.unusedSimpArgs false
open Go.RowKit
set_option linter.unusedVariables false
theorem OI.at_ {w : World} {base : Nat} {A : Option Addr} {n c : Nat} {l : List Int} (h : OI w base A n c l) (hn : 0 < n) : ∃ g, A = some ⟨g, 0, none⟩ ∧ base ≤ g ∧ g < w.heap.size ∧ (∀ j, w.frozen? ⟨g, j, none⟩ = false) ∧ ∀ j, j < n → w.cell? ⟨g, j, none⟩ = some (.int .i64 (gt l j)) := by
  have hl := h.len; have hr := Reads.of_own h; rcases h.2 with ⟨h0, h1⟩ | ⟨g, cap, cur, e1, h2, hh, hr2⟩
  · omega
  · injection e1 with e1 _ _
    subst e1; have hB : Blk w g 3 cur := hh; refine ⟨g, rfl, h2, hB.lt, hB.frozen, fun j hj => ?_⟩; obtain ⟨ad, e, _, hc⟩ := hr.2 hn; injection e with e
    subst e; have := hc j (.int .i64 (gt l j)) (by rw [List.getElem?_map, List.getElem?_eq_getElem (by omega), gt, List.getElem?_eq_getElem (by omega)]; rfl); rw [show (⟨g, 0, none⟩ : Addr).add j = ⟨g, j, none⟩ by unfold Addr.add; split <;> simp_all] at this; exact this
theorem OI.set {w : World} {base g : Nat} {n c : Nat} {l : List Int} (h : OI w base (some ⟨g, 0, none⟩) n c l) (k : Nat) (z : Int) : OI (w.setCell ⟨g, k, none⟩ (.int .i64 z)) base (some ⟨g, 0, none⟩) n c (l.set k z) := by
  refine ⟨by rw [List.length_map, List.length_set]; have := h.1; rwa [List.length_map] at this, ?_⟩; rcases h.2 with ⟨h0, h1⟩ | ⟨g', cap, cur, e1, h2, hh, h3, h4, h5, h6⟩
  · cases h0
  · injection e1 with e1 e2 e3
    injection e1 with e1
    injection e1 with e1 _ _
    subst e1; subst e3; have hB : Blk w g 3 cur := hh; refine .inr ⟨g, c, _, rfl, h2, hB.set_ k _, h3, h4, by simpa using h5, ?_⟩; rw [Array.toList_setIfInBounds, List.map_set, ← h6, List.take_set]; rfl
end Go.Proofs.YtabkpbbjodfolaaGreatDoor
namespace Go.Proofs.YtabkpbbjodfolaaGreatDoor
set_option linter.unusedSimpArgs false
open Go.RowKit
set_option linter.unusedVariables false
def IdxC : Prop := ∀ (A : Option Addr) (n c : Nat) (l : List ByteArray) (x : ByteArray) (W : World), StR W A n l → n ≤ 1000 → Calls Tryz.prog 179 #[.slice A n c, .string x] W fun e w' => e = .returned (.int .i64 (ixB 0 (l.map (·.data.toList)) x.data.toList)) ∧ w' = W
theorem ixB_ge : ∀ (k : Nat) (l : List By) (x : By), -1 ≤ ixB k l x ∧ ixB k l x < (k : Int) + l.length
  | k, [], x => by simp [ixB]; omega
  | k, a :: l, x => by
    rw [ixB]
    split
    · simp; omega
    · have := ixB_ge (k + 1) l x; simp only [List.length_cons]; omega
def AddR (w : World) (base : Nat) (A : Option Addr) (n c : Nat) (X : List Int) (z : Int) (e : Ending) (w' : World) : Prop :=
  (putE X z ≠ 0 ∧ e = .returned (.tuple #[.slice none 0 0, .int .i64 (putE X z)]) ∧ w' = w) ∨
  (putE X z = 0 ∧ ∃ A' c' w1, e = .returned (.tuple #[.slice A' (n + 1) c', .int .i64 0]) ∧ Below w.heap.size w w1 ∧ OI w' base A' (n + 1) c' (X ++ [z]) ∧ w1.grownBy w' (Value.slice A n c).ownBlock ∧ ((Value.slice A' (n + 1) c').ownBlock = (Value.slice A n c).ownBlock ∨ (Value.slice A' (n + 1) c').ownBlock = some w1.heap.size))
set_option maxHeartbeats 6400000 in
set_option maxRecDepth 100000 in
theorem cradd_any (HI : IdxC) (base : Nat) (A : Option Addr) (n c : Nat) (X : List Int) (B : Option Addr) (m d : Nat) (l : List ByteArray) (x : ByteArray) (w : World) (hA : OI w base A n c X) (hn : n ≤ 1000) (hB : StR w B m l) (hm : m ≤ 1000) (hb : base ≤ w.heap.size) :
    Calls Tryz.prog 132 #[.slice A n c, .slice B m d, .string x] w fun e w' => AddR w base A n c X (ixB 0 (l.map (·.data.toList)) x.data.toList) e w' := by
  have HC := HI B m d l x w hB hm; have hz := ixB_ge 0 (l.map (·.data.toList)) x.data.toList; obtain ⟨z, hzz⟩ : ∃ z, ixB 0 (l.map (·.data.toList)) x.data.toList = z := ⟨_, rfl⟩; have hlm : (l.map (·.data.toList)).length = m := (by rw [List.length_map]; exact hB.1); rw [hlm] at hz; rw [hzz] at HC hz ⊢; have HC : Sl _ := ⟨HC⟩; have HO : Sl _ := ⟨hA⟩; have hXl : X.length = n := hA.len; have HF : Sl (∀ v, (putE X z = v ∧ v ≠ 0) → AddR w base A n c X z (.returned (.tuple #[.slice none 0 0, .int .i64 v])) w) := ⟨fun v h => .inl ⟨by rw [h.1]; exact h.2, by rw [h.1], rfl⟩⟩; clear hB hlm
  by_cases hneg : z < 0
  · have k1 : decide (z < 0) = true := decide_eq_true hneg; have HP : Sl (putE X z = 4) := ⟨by unfold putE; rw [if_pos hneg]⟩; go_enter Tryz.func132, Tryz.ntmps132; go_wp2_with fail; refine HC.out.mono ?_; rintro e w1 ⟨rfl, rfl⟩; clear HC; go_wp2_with fail; refine bodyPost_ret (v := _) (by simp [results, Tryz.results132, go_sem]; rfl) rfl ?_; exact HF.out 4 ⟨HP.out, by decide⟩
  · have k1 : decide (z < 0) = false := decide_eq_false hneg
    by_cases hn0 : n = 0
    · have HP : Sl (putE X z = 0) := ⟨by
        have : X = [] := List.eq_nil_of_length_eq_zero (by omega)
        unfold putE; rw [if_neg hneg, this]; rfl⟩
      subst hn0; go_enter Tryz.func132, Tryz.ntmps132; go_wp2_with fail; refine HC.out.mono ?_; rintro e w1 ⟨rfl, rfl⟩; clear HC; have HAL : Sl (∀ o, Below w1.heap.size w1 (w1.alloc o)) := ⟨fun o => (Below.refl _ _).alloc (Nat.le_refl _) o⟩; go_wp2_with (at_builtin; (refine wpList_append_oi rfl (.tmp 29) (.tmp 31) rfl base A 0 c X rfl (HO.out.alloc _) (some ⟨w1.heap.size, 0, none⟩) 1 1 [z] rfl (II.made _ _ _) (by omega) (Nat.le_trans hb (by simp)) ?_); rintro A2 c2 w2 zo zg zt; have HZ : Sl _ := ⟨And.intro zo (And.intro zg zt)⟩; clear zo zg zt); refine bodyPost_ret (v := _) (by simp [results, Tryz.results132, go_sem]; rfl) rfl ?_; exact .inr ⟨HP.out, A2, c2, _, rfl, HAL.out _, HZ.out⟩
    · obtain ⟨y, hy⟩ : ∃ y, X.getLast? = some y := ⟨X.getLast (by intro e; rw [e] at hXl; exact hn0 hXl.symm), List.getLast?_eq_some_getLast _⟩; have HY : Sl (putE X z = if z ≤ y then 8 else 0) := ⟨by unfold putE; rw [if_neg hneg, hy]⟩; obtain ⟨ad, had, hadb, hadc⟩ := hA.ii.cell (j := n - 1) (by omega)
      have hgt : gt X (n - 1) = y := by
        rw [List.getLast?_eq_getElem?, hXl] at hy; unfold gt; rw [hy]; rfl
      rw [hgt] at hadc
      obtain ⟨g, hg, hgb, hgl⟩ : ∃ g, A = some ⟨g, 0, none⟩ ∧ base ≤ g ∧ g < w.heap.size := by
        obtain ⟨g, h1, h2, h3, _⟩ := OI.at_ hA (by omega); exact ⟨g, h1, h2, h3⟩
      have hca : w.cell? ⟨g, n - 1, none⟩ = some (.int .i64 y) := by
        rw [hg] at had; injection had with had
        rw [← had] at hadc
        have e : (⟨g, 0, none⟩ : Addr).add (n - 1) = ⟨g, n - 1, none⟩ := by
          unfold Addr.add
          split
          · rename_i h; rw [h]
          · simp
        rw [e] at hadc; exact hadc
      have hnI : (n : Int) - 1 = ((n - 1 : Nat) : Int) := (by omega); have k2 : decide ((0 : Int) < (n : Int)) = true := decide_eq_true (by omega); have k2b : (0 : Int) < (n : Int) := (by omega); have hlt : n - 1 < n := (by omega); subst hg; clear hy had hadc hadb hgt hXl hn0
      by_cases hle : z ≤ y
      · have HP : Sl (putE X z = 8) := ⟨by rw [HY.out, if_pos hle]⟩; have k3 : decide (z ≤ y) = true := decide_eq_true hle; go_enter Tryz.func132, Tryz.ntmps132; go_wp2_with fail; refine HC.out.mono ?_; rintro e w1 ⟨rfl, rfl⟩; clear HC; go_wp2_with fail; refine bodyPost_ret (v := _) (by simp [results, Tryz.results132, go_sem]; rfl) rfl ?_; exact HF.out 8 ⟨HP.out, by decide⟩
      · have HP : Sl (putE X z = 0) := ⟨by rw [HY.out, if_neg hle]⟩; have k3 : decide (z ≤ y) = false := decide_eq_false hle; go_enter Tryz.func132, Tryz.ntmps132; go_wp2_with fail; refine HC.out.mono ?_; rintro e w1 ⟨rfl, rfl⟩; clear HC; have HAL : Sl (∀ o, Below w1.heap.size w1 (w1.alloc o)) := ⟨fun o => (Below.refl _ _).alloc (Nat.le_refl _) o⟩; go_wp2_with (at_builtin; (refine wpList_append_oi rfl (.tmp 29) (.tmp 31) rfl base (some ⟨g, 0, none⟩) n c X rfl (HO.out.alloc _) (some ⟨w1.heap.size, 0, none⟩) 1 1 [z] rfl (II.made _ _ _) (by omega) (Nat.le_trans hb (by simp)) ?_); rintro A2 c2 w2 zo zg zt; have HZ : Sl _ := ⟨And.intro zo (And.intro zg zt)⟩; clear zo zg zt); refine bodyPost_ret (v := _) (by simp [results, Tryz.results132, go_sem]; rfl) rfl ?_; exact .inr ⟨HP.out, A2, c2, _, rfl, HAL.out _, HZ.out⟩
end Go.Proofs.YtabkpbbjodfolaaGreatDoor
namespace Go.Proofs.YtabkpbbjodfolaaGreatDoor
set_option linter.unusedSimpArgs false
open Go.RowKit
set_option linter.unusedVariables false
theorem rplC : RplC 0 := fun s old new W ⟨m, hm⟩ h1 h2 h3 h4 => by
  have hc : Lib.countB (bs s) (bs old) ≤ 100001 := by
    show Lib.count (bs s).data.toList (bs old).data.toList ≤ _; have := Lib.count_le (bs s).data.toList (bs old).data.toList; rw [bs_by] at this; rw [bs_by]; omega
  have hmul : Lib.countB (bs s) (bs old) * (bs new).size ≤ 100001 * 2 := Nat.mul_le_mul hc (by rw [bs_size]; exact h3); have h := Tryz.strings_ReplaceAll (bs s) (bs old) (bs new) m W (by rw [bs_size]; omega) hm (by rw [bs_size]; exact h1) (by rw [bs_size]; omega); rw [bs_by, bs_by, bs_by] at h; exact h
theorem suffix_one (t : By) (c : UInt8) : Lib.hasSuffix t [c] = decide (t.getLast? = some c) := by
  unfold Lib.hasSuffix; rw [Bool.eq_iff_iff, List.isSuffixOf_iff_suffix, decide_eq_true_eq]; constructor
  · rintro ⟨p, rfl⟩; simp
  · intro h; have hne : t ≠ [] := (by intro e; rw [e] at h; cases h); have e := List.dropLast_concat_getLast hne; rw [List.getLast?_eq_some_getLast hne] at h; injection h with h
    rw [h] at e; exact ⟨_, e⟩
theorem prefix_one (t : By) (c : UInt8) : Lib.hasPrefix t [c] = decide (t.head? = some c) := by
  unfold Lib.hasPrefix
  cases t with
  | nil => rfl
  | cons a l =>
    rw [List.isPrefixOf_cons_cons]; simp only [List.isPrefixOf, Bool.and_true, List.head?_cons, Option.some.injEq]
    by_cases h : a = c
    · subst h; simp
    · rw [decide_eq_false h, beq_eq_false_iff_ne]; exact fun e => h e.symm
theorem sfxC : SfxC := fun s W hs => by
  have h := Tryz.strings_HasSuffix s ⟨#[10]⟩ W (by omega); rw [suffix_one] at h; exact h
def PfxC : Prop := ∀ (c : UInt8) (s : ByteArray) (W : World), Calls Tryz.prog 128 #[.string s, .string ⟨#[c]⟩] W fun e w' => e = .returned (.bool (decide (s.data.toList.head? = some c))) ∧ w' = W
theorem pfxC : PfxC := fun c s W => by
  have h := Tryz.strings_HasPrefix s ⟨#[c]⟩ W; rw [prefix_one] at h; exact h
theorem cntC : CntC := fun s W => Tryz.strings_Count_one s 10 W
theorem indexByte_mem (c : UInt8) : ∀ t : By, decide (0 ≤ Lib.indexByte t c) = decide (c ∈ t)
  | [] => rfl
  | a :: t => by
    have ih := indexByte_mem c t; have hge := Lib.indexByte_ge t c; rw [Lib.indexByte]
    by_cases h : a = c
    · subst h; simp
    · rw [if_neg (by simpa using h)]; rw [decide_eq_decide] at ih ⊢
      have hm : c ∈ a :: t ↔ c ∈ t := by
        rw [List.mem_cons]; exact ⟨fun k => k.resolve_left (fun e => h e.symm), .inr⟩
      rw [hm, ← ih]
      by_cases h1 : Lib.indexByte t c = -1
      · rw [if_pos (by rw [h1]; rfl), h1]
      · rw [if_neg (by rw [beq_iff_eq]; exact h1)]; omega
theorem conC : ConC := fun c s W => by
  have h := Tryz.strings_Contains_one s c W; rw [indexByte_mem] at h; exact h
theorem splC0 : SplC 0 := fun s W ⟨m, hm⟩ hs => by
  have h := Tryz.strings_Split s ⟨#[10]⟩ m W (by omega) hm (by decide); have hl : (Lib.splitB ⟨#[10]⟩ 0 (Lib.countB s ⟨#[10]⟩) s).map (·.data.toList) = Lib.split s.data.toList [10] := Lib.splitB_data _ _ _ _; have hn : (Lib.splitB ⟨#[10]⟩ 0 (Lib.countB s ⟨#[10]⟩) s).length = Lib.countB s ⟨#[10]⟩ + 1 := Lib.splitB_all _ (by decide) 0 _ s rfl; refine h.mono ?_; rintro e w' ⟨rfl, rfl⟩; exact ⟨_, hl, by rw [hn], rfl⟩
theorem idx_ixB (x : ByteArray) : ∀ (l : List ByteArray) (k : Nat), Lib.idxFromS l x k = ixB k (l.map (·.data.toList)) x.data.toList
  | [], k => rfl
  | a :: l, k => by
    rw [Lib.idxFromS, List.map_cons, ixB, idx_ixB x l (k + 1)]
    by_cases h : a = x
    · subst h; simp
    · rw [if_neg h, if_neg]; intro e; exact h (by rw [← by_bs a, e, by_bs])
theorem StR.flat {w : World} {A : Option Addr} {n : Nat} {l : List ByteArray} (h : StR w A n l) (hn : 0 < n) : ∃ b o, A = some ⟨b, o, none⟩ ∧ b < w.heap.size ∧ ∀ j (hj : j < l.length), w.cell? ⟨b, o + j, none⟩ = some (.string l[j]) := by
  obtain ⟨ad, rfl, hb, hc⟩ := h.2.2 hn; have hc' : ∀ j (hj : j < l.length), w.cell? (ad.add j) = some (.string l[j]) := fun j hj => hc j _ (by rw [List.getElem?_map, List.getElem?_eq_getElem hj]; rfl)
  have hl := h.1; obtain ⟨b, o, s⟩ := ad
  have hs : s = none := by
    cases s with
    | none => rfl
    | some s =>
      have c0 := hc' 0 (by omega); have e : (⟨b, o, some s⟩ : Addr).add 0 = ⟨b, o, some s⟩ := (by simp [Addr.add]); rw [e] at c0; unfold World.cell? at c0
      split at c0
      · simp at c0
      · cases c0
  subst hs; refine ⟨b, o, rfl, hb, fun j hj => ?_⟩; have cj := hc' j hj
  have e : (⟨b, o, none⟩ : Addr).add j = ⟨b, o + j, none⟩ := by
    unfold Addr.add
    by_cases h : j = 0
    · subst h; simp
    · simp [h]
  rw [e] at cj; exact cj
theorem idxC : IdxC := fun A n c l x W hl hn => by
  by_cases h0 : n = 0
  · subst h0; have : l = [] := List.eq_nil_of_length_eq_zero hl.1; subst this; exact Tryz.slices_Index_string_empty A c x W
  · obtain ⟨b, o, rfl, _, hc⟩ := hl.flat (by omega); have hln := hl.1
    have h := Tryz.slices_Index_string b o n c l x W (by omega) (by omega) (fun j hj => by
      rw [hc j hj, List.getD_eq_getElem?_getD, List.getElem?_eq_getElem hj]
      rfl)
    rw [List.take_of_length_le (by omega)] at h; have e : Lib.idxOfS l x = ixB 0 (l.map (·.data.toList)) x.data.toList := idx_ixB x l 0; rw [e] at h; exact h
end Go.Proofs.YtabkpbbjodfolaaGreatDoor
