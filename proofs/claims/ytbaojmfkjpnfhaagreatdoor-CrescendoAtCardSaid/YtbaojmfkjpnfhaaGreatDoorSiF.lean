/- Plain law: the order of items by their weights, then by their indices; what the stable sort leaves; package crescendo: fit. -/
import Derived.Test.YtbaojmfkjpnfhaaGreatDoorSiE
import Derived.Test.YtbaojmfkjpnfhaaGreatDoorCrA
namespace Go.Proofs.YtbaojmfkjpnfhaaGreatDoor
set_option linter.unusedSimpArgs false
open Go.RowKit
set_option linter.unusedVariables false

def insO (ws : List Int) (x : Int) : List Int → List Int
  | [] => [x]
  | y :: l => if dueI ws x < dueI ws y then x :: y :: l else y :: insO ws x l
def ordF (ws : List Int) : Nat → List Int
  | 0 => []
  | k+1 => insO ws (k : Int) (ordF ws k)
/-- the items in order -/
def ordL (ws : List Int) : List Int := ordF ws ws.length
theorem insO_perm (ws : List Int) (x : Int) : ∀ l, (insO ws x l).Perm (x :: l)
  | [] => List.Perm.refl _
  | y :: l => by
    rw [insO]
    split
    · exact List.Perm.refl _
    · exact ((insO_perm ws x l).cons y).trans (List.Perm.swap _ _ _)
theorem insO_srt (ws : List Int) (x : Int) : ∀ l, l.Pairwise (fun a b => dueI ws a < dueI ws b) → (∀ y ∈ l, dueI ws y ≠ dueI ws x) → (insO ws x l).Pairwise (fun a b => dueI ws a < dueI ws b)
  | [], _, _ => by rw [insO]; exact List.pairwise_singleton _ _
  | y :: l, h, hn => by
    rw [List.pairwise_cons] at h
    rw [insO]
    split
    · rename_i h1
      refine List.pairwise_cons.2 ⟨fun z hz => ?_, List.pairwise_cons.2 h⟩
      rcases List.mem_cons.1 hz with rfl | hz
      · exact h1
      · exact Int.lt_trans h1 (h.1 z hz)
    · rename_i h1
      refine List.pairwise_cons.2 ⟨fun z hz => ?_, insO_srt ws x l h.2 (fun z hz => hn z (List.mem_cons_of_mem _ hz))⟩
      rcases List.mem_cons.1 ((insO_perm ws x l).mem_iff.1 hz) with rfl | hz
      · have := hn y List.mem_cons_self
        omega
      · exact h.1 z hz
theorem due_ne {ws : List Int} (hw : ws.length ≤ 1000) {x y : Int} (hx : 0 ≤ x ∧ x < (ws.length : Int)) (hy : 0 ≤ y ∧ y < (ws.length : Int)) (hne : x ≠ y) : dueI ws x ≠ dueI ws y := by
  unfold dueI
  generalize gt ws x.toNat = p
  generalize gt ws y.toNat = q
  omega
theorem ordF_mem (ws : List Int) : ∀ k z, z ∈ ordF ws k ↔ 0 ≤ z ∧ z < (k : Int)
  | 0, z => ⟨fun h => (by cases h), fun h => (by omega)⟩
  | k+1, z => by
    rw [ordF, (insO_perm ws _ _).mem_iff, List.mem_cons, ordF_mem ws k z]
    omega
theorem ordF_srt {ws : List Int} (hw : ws.length ≤ 1000) : ∀ k, k ≤ ws.length → (ordF ws k).Pairwise (fun a b => dueI ws a < dueI ws b)
  | 0, _ => List.Pairwise.nil
  | k+1, hk => by
    rw [ordF]
    refine insO_srt ws _ _ (ordF_srt hw k (by omega)) fun y hy => ?_
    have := (ordF_mem ws k y).1 hy
    exact due_ne hw (by omega) (by omega) (by omega)
theorem ordF_len (ws : List Int) : ∀ k, (ordF ws k).length = k
  | 0 => rfl
  | k+1 => by rw [ordF, (insO_perm ws _ _).length_eq, List.length_cons, ordF_len ws k]
theorem srt_uniq {f : Int → Int} : ∀ {a b : List Int}, a.Pairwise (fun x y => f x < f y) → b.Pairwise (fun x y => f x < f y) → (∀ z, z ∈ a ↔ z ∈ b) → a = b
  | [], [], _, _, _ => rfl
  | [], y :: b, _, _, h => by have := (h y).2 List.mem_cons_self; cases this
  | x :: a, [], _, _, h => by have := (h x).1 List.mem_cons_self; cases this
  | x :: a, y :: b, ha, hb, h => by
    rw [List.pairwise_cons] at ha hb
    have hxy : x = y := by
      rcases List.mem_cons.1 ((h x).1 List.mem_cons_self) with e | e
      · exact e
      · rcases List.mem_cons.1 ((h y).2 List.mem_cons_self) with e2 | e2
        · exact e2.symm
        · have h1 := hb.1 x e
          have h2 := ha.1 y e2
          omega
    subst hxy
    congr 1
    refine srt_uniq ha.2 hb.2 fun z => ?_
    constructor
    · intro hz
      rcases List.mem_cons.1 ((h z).1 (List.mem_cons_of_mem _ hz)) with e | e
      · subst e
        have := ha.1 z hz
        omega
      · exact e
    · intro hz
      rcases List.mem_cons.1 ((h z).2 (List.mem_cons_of_mem _ hz)) with e | e
      · subst e
        have := hb.1 z hz
        omega
      · exact e
/-- what the sort leaves is the order -/
theorem ordL_of {ws : List Int} (hw : ws.length ≤ 1000) {e : Nat → Int} (hp : Pm 0 ws.length (fun k => (k : Int)) e) (hs : Srt (dueI ws) e 0 ws.length) : (List.range ws.length).map e = ordL ws := by
  have hperm := hp.perm
  have hmem : ∀ z, z ∈ (List.range ws.length).map e ↔ 0 ≤ z ∧ z < (ws.length : Int) := fun z => by
    rw [hperm.mem_iff, List.mem_map]
    constructor
    · rintro ⟨k, hk, rfl⟩
      have := List.mem_range.1 hk
      omega
    · intro hz
      exact ⟨z.toNat, List.mem_range.2 (by omega), by omega⟩
  have hnd : ((List.range ws.length).map e).Nodup := hperm.nodup_iff.2 (by
    rw [List.nodup_iff_pairwise_ne, List.pairwise_map]
    exact (List.nodup_iff_pairwise_ne.1 List.nodup_range).imp (fun h e => h (by omega)))
  refine srt_uniq (f := dueI ws) ?_ (ordF_srt hw _ (Nat.le_refl _)) fun z => by rw [hmem z]; exact (ordF_mem ws _ z).symm
  rw [List.pairwise_iff_getElem]
  intro i j hi hj hij
  have hi' : i < ws.length := by simpa using hi
  have hj' : j < ws.length := by simpa using hj
  have h1 := hs i j (Nat.zero_le _) (by omega) hj'
  rw [List.getElem_map, List.getElem_map, List.getElem_range, List.getElem_range]
  have hne : e i ≠ e j := fun h => by
    have := (List.pairwise_iff_getElem.1 (List.nodup_iff_pairwise_ne.1 hnd)) i j hi hj hij
    rw [List.getElem_map, List.getElem_map, List.getElem_range, List.getElem_range] at this
    exact this h
  have b1 := (hmem (e i)).1 (List.mem_map.2 ⟨i, List.mem_range.2 hi', rfl⟩)
  have b2 := (hmem (e j)).1 (List.mem_map.2 ⟨j, List.mem_range.2 hj', rfl⟩)
  have := due_ne hw b1 b2 hne
  omega
set_option maxHeartbeats 3200000 in
set_option maxRecDepth 100000 in
/-- how many of the last items fit into some groups -/
theorem crfit_any (A : Option Addr) (n c : Nat) (l : List Int) (g : Nat) (S : Int) (w : World) (hl : II w A n l) (hn : n ≤ 1000) (hg : g ≤ 1000) (hb : ∀ j, 0 ≤ gt l j ∧ gt l j ≤ 1073741824) (hS : 0 ≤ S ∧ S ≤ 1099511627776) :
    Calls Tryz.prog 74 #[.slice A n c, .int .i64 (g : Int), .int .i64 S] w fun e w' => e = .returned (.int .i64 ((n - rem l S g : Nat) : Int)) ∧ w' = w := by
  have HL : Sl _ := ⟨hl⟩
  have HB : Sl _ := ⟨hb⟩
  have HLN : Sl (l.length = n) := ⟨hl.1⟩
  obtain ⟨hS0, hS1⟩ := hS
  obtain ⟨r, hr⟩ : ∃ r, rem l S g = r := ⟨_, rfl⟩
  have HR : Sl _ := ⟨hr⟩
  rw [hr]
  have hrn : r ≤ n := by rw [← hr, ← hl.1]; exact rem_le _ _ _
  clear hl hb hr
  go_enter Tryz.func74, Tryz.ntmps74
  go_wp2_with fail
  go_loop [1, 7, 8] (fun s1 s7 s8 => ∃ (k m : Nat) (v8 : Value), k ≤ g ∧ s1 = .int .i64 k ∧ s7 = .int .i64 m ∧ v8 = s8 ∧ Sl (m = rem l S (g - k) ∧ m ≤ n)) (fun s1 _ _ => (RowKit.intOf s1).toNat)
  case atStart => exact ⟨g, n, _, Nat.le_refl _, rfl, rfl, rfl, ⟨by rw [Nat.sub_self]; exact HLN.out.symm, Nat.le_refl _⟩⟩
  case round =>
    obtain ⟨k, m, v8, hk, rfl, rfl, rfl, HM⟩ := hrel
    by_cases hk0 : k = 0
    · have hkd : decide ((0 : Int) < (k : Int)) = false := decide_eq_false (by omega)
      have hkI : ¬ (0 : Int) < (k : Int) := by omega
      have hkN : ¬ 0 < k := by omega
      have hkNd : decide (0 < k) = false := decide_eq_false hkN
      have HRM : Sl (r = m) := ⟨by rw [HM.out.1, hk0, Nat.sub_zero, HR.out]⟩
      have hmn : (m : Int) ≤ (n : Int) := by have := HM.out.2; omega
      clear hk0
      go_wp2_with fail
      go_ret
      exact ⟨ret_int (by have := HRM.out; have := HM.out.2; omega), rfl⟩
    · obtain ⟨k', hk'⟩ : ∃ k', k' + 1 = k := ⟨k - 1, by omega⟩
      have hkd : decide ((0 : Int) < (k : Int)) = true := decide_eq_true (by omega)
      have hkI : (0 : Int) < (k : Int) := by omega
      have hkN : 0 < k := by omega
      have hkNd : decide (0 < k) = true := decide_eq_true hkN
      have hkp : (k : Int) - 1 = (k' : Int) := by omega
      have HNX : Sl (grd l S m 0 = rem l S (g - k')) := ⟨by rw [show g - k' = (g - k) + 1 by omega, rem, ← HM.out.1]⟩
      have HKK : Sl (k' + 1 = k) := ⟨hk'⟩
      have hkw : IntKind.i64.wrap (k' : Int) = (k' : Int) := by rw [IntKind.wrap_i64]; omega
      clear hk' hk0
      go_wp2_with fail
      go_loop [7, 8] (fun s7 s8 => ∃ (t : Nat) (s : Int), s7 = .int .i64 t ∧ s8 = .int .i64 s ∧ Sl (0 ≤ s ∧ s ≤ S) ∧ Sl (t ≤ n ∧ grd l S t s = grd l S m 0)) (fun s7 _ => (RowKit.intOf s7).toNat)
      case atStart => exact ⟨m, 0, rfl, rfl, ⟨Int.le_refl _, hS0⟩, ⟨HM.out.2, rfl⟩⟩
      case round =>
        obtain ⟨t, s, rfl, rfl, HS, HT⟩ := hrel
        by_cases ht0 : t = 0
        · have htd : decide ((0 : Int) < (t : Int)) = false := decide_eq_false (by omega)
          have htI : ¬ (0 : Int) < (t : Int) := by omega
          have htN : ¬ 0 < t := by omega
          have htNd : decide (0 < t) = false := decide_eq_false htN
          have HE : Sl (t = rem l S (g - k') ∧ t ≤ n) := ⟨by rw [← HNX.out, ← HT.out.2, ht0]; rfl, HT.out.1⟩
          clear ht0
          go_wp2_with fail
          exact ⟨⟨k', t, _, by have := HKK.out; omega, rfl, rfl, rfl, HE⟩, by have := HKK.out; simp [RowKit.intOf]; omega⟩
        · obtain ⟨t', ht'⟩ : ∃ t', t' + 1 = t := ⟨t - 1, by omega⟩
          have htn := HT.out.1
          obtain ⟨ad, rfl, hab, c1⟩ := HL.out.cell (j := t') (by omega)
          have hgb := HB.out t'
          have hss := HS.out
          have HG : Sl (grd l S t s = if s + gt l t' ≤ S then grd l S t' (s + gt l t') else t' + 1) := ⟨by rw [← ht', grd]⟩
          obtain ⟨z, hz⟩ : ∃ z, gt l t' = z := ⟨_, rfl⟩
          rw [hz] at c1 hgb HG
          have htd : decide ((0 : Int) < (t : Int)) = true := decide_eq_true (by omega)
          have htI : (0 : Int) < (t : Int) := by omega
          have htN : 0 < t := by omega
          have htNd : decide (0 < t) = true := decide_eq_true htN
          have htp : (t : Int) - 1 = (t' : Int) := by omega
          have htw : IntKind.i64.wrap (t' : Int) = (t' : Int) := by rw [IntKind.wrap_i64]; omega
          have ht'N : t' < n := by omega
          have ht'I : (t' : Int) < (n : Int) := by omega
          have HTT : Sl (t' + 1 = t) := ⟨ht'⟩
          have hs1 : 0 ≤ s := hss.1
          have hs2 : s ≤ 1099511627776 := by omega
          have hz1 : 0 ≤ z := hgb.1
          have hz2 : z ≤ 1073741824 := hgb.2
          have hswr : IntKind.i64.wrap (s + z) = s + z := by rw [IntKind.wrap_i64]; omega
          clear hz ht' ht0 hgb hss htn
          by_cases hfit : s + z ≤ S
          · have hfd : decide (s + z ≤ S) = true := decide_eq_true hfit
            have HS2 : Sl (0 ≤ s + z ∧ s + z ≤ S) := ⟨by omega⟩
            have HT2 : Sl (t' ≤ n ∧ grd l S t' (s + z) = grd l S m 0) := ⟨by omega, by rw [← HT.out.2, HG.out, if_pos hfit]⟩
            go_wp2_with fail
            exact ⟨⟨t', s + z, rfl, rfl, HS2, HT2⟩, by have := HTT.out; simp [RowKit.intOf]; omega⟩
          · have hfd : decide (s + z ≤ S) = false := decide_eq_false hfit
            have HE : Sl (t = rem l S (g - k') ∧ t ≤ n) := ⟨by rw [← HNX.out, ← HT.out.2, HG.out, if_neg hfit]; exact HTT.out.symm, HT.out.1⟩
            go_wp2_with fail
            exact ⟨⟨k', t, _, by have := HKK.out; omega, rfl, rfl, rfl, HE⟩, by have := HKK.out; simp [RowKit.intOf]; omega⟩
end Go.Proofs.YtbaojmfkjpnfhaaGreatDoor
