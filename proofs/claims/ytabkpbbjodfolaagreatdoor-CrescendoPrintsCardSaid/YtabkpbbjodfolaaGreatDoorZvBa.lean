/- Plain law: items in a row put into groups: the last ones as long as they fit (program), and the least step of all ends (document). No program in sight. -/
import Derived.Test.YtabkpbbjodfolaaGreatDoorZvA
import Derived.Test.YtabkpbbjodfolaaGreatDoorZvAa
namespace Go.Proofs.YtabkpbbjodfolaaGreatDoor
set_option linter.unusedSimpArgs false
set_option linter.unusedVariables false
def psm (l : List Int) : Nat → Int
  | 0 => 0
  | k+1 => psm l k + gt l k
def grd (l : List Int) (S : Int) : Nat → Int → Nat
  | 0, _ => 0
  | k+1, s => if s + gt l k ≤ S then grd l S k (s + gt l k) else k + 1
def rem (l : List Int) (S : Int) : Nat → Nat
  | 0 => l.length
  | g+1 => grd l S (rem l S g) 0
theorem psm_mono {l : List Int} (h : ∀ j, 0 ≤ gt l j) : ∀ {i k : Nat}, i ≤ k → psm l i ≤ psm l k
  | i, 0, hi => by rw [show i = 0 by omega]; exact Int.le_refl _
  | i, k+1, hi => by
    rcases Nat.lt_or_ge i (k + 1) with h1 | h1
    · have := psm_mono h (i := i) (k := k) (by omega); have := h k; rw [psm]; omega
    · rw [show i = k + 1 by omega]; exact Int.le_refl _
theorem psm_pos {l : List Int} (h : ∀ j, 0 ≤ gt l j) (k : Nat) : 0 ≤ psm l k := psm_mono h (Nat.zero_le k)
theorem grd_le (l : List Int) (S : Int) : ∀ k s, grd l S k s ≤ k
  | 0, _ => Nat.le_refl _
  | k+1, s => by
    rw [grd]
    split
    · have := grd_le l S k (s + gt l k); omega
    · exact Nat.le_refl _
theorem grd_iff {l : List Int} (h : ∀ j, 0 ≤ gt l j) {S : Int} : ∀ {k : Nat} {s : Int}, s ≤ S → ∀ i, i ≤ k → (grd l S k s ≤ i ↔ s + (psm l k - psm l i) ≤ S)
  | 0, s, hs, i, hi => by
    rw [show i = 0 by omega]; exact ⟨fun _ => by omega, fun _ => Nat.le_refl _⟩
  | k+1, s, hs, i, hi => by
    rw [grd]
    by_cases hc : s + gt l k ≤ S
    · rw [if_pos hc]; rcases Nat.lt_or_ge i (k + 1) with h1 | h1
      · rw [grd_iff h hc i (by omega)]; show s + gt l k + (psm l k - psm l i) ≤ S ↔ s + (psm l k + gt l k - psm l i) ≤ S; constructor <;> intro _ <;> omega
      · rw [show i = k + 1 by omega]; have := grd_le l S k (s + gt l k); exact ⟨fun _ => by omega, fun _ => by omega⟩
    · rw [if_neg hc]; constructor
      · intro h1; rw [show i = k + 1 by omega]; omega
      · intro h1; rcases Nat.lt_or_ge i (k + 1) with h2 | h2
        · have h3 := psm_mono h (i := i) (k := k) (by omega); have e : psm l (k + 1) = psm l k + gt l k := rfl; omega
        · exact h2
theorem rem_le (l : List Int) (S : Int) : ∀ g, rem l S g ≤ l.length
  | 0 => Nat.le_refl _
  | g+1 => Nat.le_trans (grd_le l S _ 0) (rem_le l S g)
def mnF (f : Nat → Int) (i : Nat) : Nat → Int
  | 0 => f i
  | t+1 => if f (i + (t + 1)) < mnF f i t then f (i + (t + 1)) else mnF f i t
theorem mnF_le {f : Nat → Int} {i : Nat} {S : Int} : ∀ {t : Nat}, mnF f i t ≤ S ↔ ∃ k, i ≤ k ∧ k ≤ i + t ∧ f k ≤ S
  | 0 => ⟨fun h => ⟨i, Nat.le_refl _, Nat.le_refl _, h⟩, fun ⟨k, h1, h2, h3⟩ => by rw [show k = i by omega] at h3; exact h3⟩
  | t+1 => by
    rw [mnF]; have ih := mnF_le (f := f) (i := i) (S := S) (t := t)
    by_cases hc : f (i + (t + 1)) < mnF f i t
    · rw [if_pos hc]; constructor
      · intro h; exact ⟨_, by omega, Nat.le_refl _, h⟩
      · rintro ⟨k, h1, h2, h3⟩; rcases Nat.lt_or_ge k (i + (t + 1)) with h4 | h4
        · have := ih.2 ⟨k, h1, by omega, h3⟩; omega
        · rw [show k = i + (t + 1) by omega] at h3; exact h3
    · rw [if_neg hc]; rw [ih]; constructor
      · rintro ⟨k, h1, h2, h3⟩; exact ⟨k, h1, by omega, h3⟩
      · rintro ⟨k, h1, h2, h3⟩; rcases Nat.lt_or_ge k (i + (t + 1)) with h4 | h4
        · exact ⟨k, h1, by omega, h3⟩
        · rw [show k = i + (t + 1) by omega] at h3; have h5 : mnF f i t ≤ S := (by omega); exact ih.1 h5
def lst (l : List Int) : Nat → Nat → Int
  | 0, i => psm l l.length - psm l i
  | g+1, i => mnF (fun k => max (psm l k - psm l i) (lst l g k)) i (l.length - i)
theorem lst_rem {l : List Int} (h : ∀ j, 0 ≤ gt l j) {S : Int} (hS : 0 ≤ S) : ∀ (g i : Nat), i ≤ l.length → (lst l g i ≤ S ↔ rem l S (g + 1) ≤ i)
  | 0, i, hi => by
    have := grd_iff h (S := S) (k := l.length) (s := 0) hS i hi; show psm l l.length - psm l i ≤ S ↔ grd l S l.length 0 ≤ i; rw [this, Int.zero_add]
  | g+1, i, hi => by
    rw [lst, mnF_le]; have ih := fun k hk => lst_rem h hS g k hk
    have hr := rem_le l S (g + 1); have hsum : ∀ k, i ≤ k → k ≤ rem l S (g + 1) → psm l k - psm l i ≤ psm l (rem l S (g + 1)) - psm l i := fun k _ hk => by have := psm_mono h hk; omega
    show _ ↔ grd l S (rem l S (g + 1)) 0 ≤ i; constructor
    · rintro ⟨k, h1, h2, h3⟩; have h4 : lst l g k ≤ S := (by omega); have h5 := (ih k (by omega)).1 h4; have h6 : psm l k - psm l i ≤ S := (by omega); rcases Nat.lt_or_ge i (rem l S (g + 1)) with h7 | h7
      · rw [grd_iff h hS i (by omega)]; have := psm_mono h h5; omega
      · exact Nat.le_trans (grd_le l S _ 0) h7
    · intro h1; rcases Nat.lt_or_ge i (rem l S (g + 1)) with h7 | h7
      · refine ⟨rem l S (g + 1), by omega, by omega, ?_⟩; have h8 := (ih (rem l S (g + 1)) hr).2 (Nat.le_refl _); rw [grd_iff h hS i (by omega)] at h1; omega
      · refine ⟨i, Nat.le_refl _, by omega, ?_⟩; have h8 := (ih i hi).2 h7; omega
theorem lst_pos {l : List Int} (h : ∀ j, 0 ≤ gt l j) : ∀ (g i : Nat), i ≤ l.length → 0 ≤ lst l g i ∧ lst l g i ≤ psm l l.length
  | 0, i, hi => by
    have h1 := psm_mono h hi; have h2 := psm_pos h i; show 0 ≤ psm l l.length - psm l i ∧ psm l l.length - psm l i ≤ psm l l.length; omega
  | g+1, i, hi => by
    refine ⟨?_, ?_⟩
    · rcases Int.lt_or_le (lst l (g + 1) i) 0 with h1 | h1
      · have h2 : lst l (g + 1) i ≤ -1 := (by omega); rw [lst, mnF_le] at h2; obtain ⟨k, k1, k2, k3⟩ := h2; have := psm_mono h k1; omega
      · exact h1
    · rw [lst, mnF_le]; refine ⟨l.length, hi, by omega, ?_⟩; have h1 := (lst_pos h g l.length (Nat.le_refl _)).2; have h2 := psm_pos h i; omega
theorem fit_iff {l : List Int} (h : ∀ j, 0 ≤ gt l j) {S : Int} (hS : 0 ≤ S) (g : Nat) : rem l S (g + 1) = 0 ↔ lst l g 0 ≤ S := by
  rw [lst_rem h hS g 0 (Nat.zero_le _)]; omega
end Go.Proofs.YtabkpbbjodfolaaGreatDoor
namespace Go.Proofs.YtabkpbbjodfolaaGreatDoor
set_option linter.unusedSimpArgs false
open Go.RowKit
set_option linter.unusedVariables false
def insO (ws : List Int) (x : Int) : List Int → List Int
  | [] => [x]
  | y :: l => if dueI ws x < dueI ws y then x :: y :: l else y :: insO ws x l
def ordF (ws : List Int) : Nat → List Int
  | 0 => []
  | k+1 => insO ws (k : Int) (ordF ws k)
def ordL (ws : List Int) : List Int := ordF ws ws.length
theorem insO_perm (ws : List Int) (x : Int) : ∀ l, (insO ws x l).Perm (x :: l)
  | [] => List.Perm.refl _
  | y :: l => by
    rw [insO]
    split
    · exact List.Perm.refl _
    · exact ((insO_perm ws x l).cons y).trans (List.Perm.swap _ _ _)
theorem insO_srt (ws : List Int) (x : Int) : ∀ l, l.Pairwise (fun a b => dueI ws a < dueI ws b) → (∀ y ∈ l, dueI ws y ≠ dueI ws x) → (insO ws x l).Pairwise (fun a b => dueI ws a < dueI ws b)
  | [], _, _ => by rw [insO]; exact List.pairwise_singleton _ _
  | y :: l, h, hn => by
    rw [List.pairwise_cons] at h; rw [insO]
    split
    · rename_i h1; refine List.pairwise_cons.2 ⟨fun z hz => ?_, List.pairwise_cons.2 h⟩; rcases List.mem_cons.1 hz with rfl | hz
      · exact h1
      · exact Int.lt_trans h1 (h.1 z hz)
    · rename_i h1; refine List.pairwise_cons.2 ⟨fun z hz => ?_, insO_srt ws x l h.2 (fun z hz => hn z (List.mem_cons_of_mem _ hz))⟩; rcases List.mem_cons.1 ((insO_perm ws x l).mem_iff.1 hz) with rfl | hz
      · have := hn y List.mem_cons_self; omega
      · exact h.1 z hz
theorem due_ne {ws : List Int} (hw : ws.length ≤ 1000) {x y : Int} (hx : 0 ≤ x ∧ x < (ws.length : Int)) (hy : 0 ≤ y ∧ y < (ws.length : Int)) (hne : x ≠ y) : dueI ws x ≠ dueI ws y := by
  unfold dueI; generalize gt ws x.toNat = p; generalize gt ws y.toNat = q; omega
theorem ordF_mem (ws : List Int) : ∀ k z, z ∈ ordF ws k ↔ 0 ≤ z ∧ z < (k : Int)
  | 0, z => ⟨fun h => (by cases h), fun h => (by omega)⟩
  | k+1, z => by
    rw [ordF, (insO_perm ws _ _).mem_iff, List.mem_cons, ordF_mem ws k z]; omega
theorem ordF_srt {ws : List Int} (hw : ws.length ≤ 1000) : ∀ k, k ≤ ws.length → (ordF ws k).Pairwise (fun a b => dueI ws a < dueI ws b)
  | 0, _ => List.Pairwise.nil
  | k+1, hk => by
    rw [ordF]; refine insO_srt ws _ _ (ordF_srt hw k (by omega)) fun y hy => ?_
    have := (ordF_mem ws k y).1 hy; exact due_ne hw (by omega) (by omega) (by omega)
theorem ordF_len (ws : List Int) : ∀ k, (ordF ws k).length = k
  | 0 => rfl
  | k+1 => by rw [ordF, (insO_perm ws _ _).length_eq, List.length_cons, ordF_len ws k]
theorem srt_uniq {f : Int → Int} : ∀ {a b : List Int}, a.Pairwise (fun x y => f x < f y) → b.Pairwise (fun x y => f x < f y) → (∀ z, z ∈ a ↔ z ∈ b) → a = b
  | [], [], _, _, _ => rfl
  | [], y :: b, _, _, h => by have := (h y).2 List.mem_cons_self; cases this
  | x :: a, [], _, _, h => by have := (h x).1 List.mem_cons_self; cases this
  | x :: a, y :: b, ha, hb, h => by
    rw [List.pairwise_cons] at ha hb
    have hxy : x = y := by
      rcases List.mem_cons.1 ((h x).1 List.mem_cons_self) with e | e
      · exact e
      · rcases List.mem_cons.1 ((h y).2 List.mem_cons_self) with e2 | e2
        · exact e2.symm
        · have h1 := hb.1 x e; have h2 := ha.1 y e2; omega
    subst hxy; congr 1; refine srt_uniq ha.2 hb.2 fun z => ?_
    constructor
    · intro hz; rcases List.mem_cons.1 ((h z).1 (List.mem_cons_of_mem _ hz)) with e | e
      · subst e; have := ha.1 z hz; omega
      · exact e
    · intro hz; rcases List.mem_cons.1 ((h z).2 (List.mem_cons_of_mem _ hz)) with e | e
      · subst e; have := hb.1 z hz; omega
      · exact e
theorem ordL_of {ws : List Int} (hw : ws.length ≤ 1000) {e : Nat → Int} (hp : Pm 0 ws.length (fun k => (k : Int)) e) (hs : Srt (dueI ws) e 0 ws.length) : (List.range ws.length).map e = ordL ws := by
  have hperm := hp.perm
  have hmem : ∀ z, z ∈ (List.range ws.length).map e ↔ 0 ≤ z ∧ z < (ws.length : Int) := fun z => by
    rw [hperm.mem_iff, List.mem_map]; constructor
    · rintro ⟨k, hk, rfl⟩; have := List.mem_range.1 hk; omega
    · intro hz; exact ⟨z.toNat, List.mem_range.2 (by omega), by omega⟩
  have hnd : ((List.range ws.length).map e).Nodup := hperm.nodup_iff.2 (by
    rw [List.nodup_iff_pairwise_ne, List.pairwise_map]
    exact (List.nodup_iff_pairwise_ne.1 List.nodup_range).imp (fun h e => h (by omega)))
  refine srt_uniq (f := dueI ws) ?_ (ordF_srt hw _ (Nat.le_refl _)) fun z => by rw [hmem z]; exact (ordF_mem ws _ z).symm
  rw [List.pairwise_iff_getElem]; intro i j hi hj hij; have hi' : i < ws.length := (by simpa using hi); have hj' : j < ws.length := (by simpa using hj); have h1 := hs i j (Nat.zero_le _) (by omega) hj'; rw [List.getElem_map, List.getElem_map, List.getElem_range, List.getElem_range]
  have hne : e i ≠ e j := fun h => by
    have := (List.pairwise_iff_getElem.1 (List.nodup_iff_pairwise_ne.1 hnd)) i j hi hj hij; rw [List.getElem_map, List.getElem_map, List.getElem_range, List.getElem_range] at this; exact this h
  have b1 := (hmem (e i)).1 (List.mem_map.2 ⟨i, List.mem_range.2 hi', rfl⟩); have b2 := (hmem (e j)).1 (List.mem_map.2 ⟨j, List.mem_range.2 hj', rfl⟩); have := due_ne hw b1 b2 hne; omega
set_option maxHeartbeats 3200000 in
set_option maxRecDepth 100000 in
theorem crfit_any (A : Option Addr) (n c : Nat) (l : List Int) (g : Nat) (S : Int) (w : World) (hl : II w A n l) (hn : n ≤ 1000) (hg : g ≤ 1000) (hb : ∀ j, 0 ≤ gt l j ∧ gt l j ≤ 1073741824) (hS : 0 ≤ S ∧ S ≤ 1099511627776) :
    Calls Tryz.prog 61 #[.slice A n c, .int .i64 (g : Int), .int .i64 S] w fun e w' => e = .returned (.int .i64 ((n - rem l S g : Nat) : Int)) ∧ w' = w := by
  have HL : Sl _ := ⟨hl⟩; have HB : Sl _ := ⟨hb⟩; have HLN : Sl (l.length = n) := ⟨hl.1⟩; obtain ⟨hS0, hS1⟩ := hS; obtain ⟨r, hr⟩ : ∃ r, rem l S g = r := ⟨_, rfl⟩; have HR : Sl _ := ⟨hr⟩; rw [hr]; have hrn : r ≤ n := (by rw [← hr, ← hl.1]; exact rem_le _ _ _); clear hl hb hr; go_enter Tryz.func61, Tryz.ntmps61; go_wp2_with fail
  go_loop [1, 7, 8] (fun s1 s7 s8 => ∃ (k m : Nat) (v8 : Value), k ≤ g ∧ s1 = .int .i64 k ∧ s7 = .int .i64 m ∧ v8 = s8 ∧ Sl (m = rem l S (g - k) ∧ m ≤ n)) (fun s1 _ _ => (RowKit.intOf s1).toNat)
  case atStart => exact ⟨g, n, _, Nat.le_refl _, rfl, rfl, rfl, ⟨by rw [Nat.sub_self]; exact HLN.out.symm, Nat.le_refl _⟩⟩
  case round =>
    obtain ⟨k, m, v8, hk, rfl, rfl, rfl, HM⟩ := hrel
    by_cases hk0 : k = 0
    · have hkd : decide ((0 : Int) < (k : Int)) = false := decide_eq_false (by omega); have hkI : ¬ (0 : Int) < (k : Int) := (by omega); have hkN : ¬ 0 < k := (by omega); have hkNd : decide (0 < k) = false := decide_eq_false hkN; have HRM : Sl (r = m) := ⟨by rw [HM.out.1, hk0, Nat.sub_zero, HR.out]⟩; have hmn : (m : Int) ≤ (n : Int) := (by have := HM.out.2; omega); clear hk0; go_wp2_with fail; go_ret; exact ⟨ret_int (by have := HRM.out; have := HM.out.2; omega), rfl⟩
    · obtain ⟨k', hk'⟩ : ∃ k', k' + 1 = k := ⟨k - 1, by omega⟩; have hkd : decide ((0 : Int) < (k : Int)) = true := decide_eq_true (by omega); have hkI : (0 : Int) < (k : Int) := (by omega); have hkN : 0 < k := (by omega); have hkNd : decide (0 < k) = true := decide_eq_true hkN; have hkp : (k : Int) - 1 = (k' : Int) := (by omega); have HNX : Sl (grd l S m 0 = rem l S (g - k')) := ⟨by rw [show g - k' = (g - k) + 1 by omega, rem, ← HM.out.1]⟩; have HKK : Sl (k' + 1 = k) := ⟨hk'⟩; have hkw : IntKind.i64.wrap (k' : Int) = (k' : Int) := (by rw [IntKind.wrap_i64]; omega); clear hk' hk0; go_wp2_with fail
      go_loop [7, 8] (fun s7 s8 => ∃ (t : Nat) (s : Int), s7 = .int .i64 t ∧ s8 = .int .i64 s ∧ Sl (0 ≤ s ∧ s ≤ S) ∧ Sl (t ≤ n ∧ grd l S t s = grd l S m 0)) (fun s7 _ => (RowKit.intOf s7).toNat)
      case atStart => exact ⟨m, 0, rfl, rfl, ⟨Int.le_refl _, hS0⟩, ⟨HM.out.2, rfl⟩⟩
      case round =>
        obtain ⟨t, s, rfl, rfl, HS, HT⟩ := hrel
        by_cases ht0 : t = 0
        · have htd : decide ((0 : Int) < (t : Int)) = false := decide_eq_false (by omega); have htI : ¬ (0 : Int) < (t : Int) := (by omega); have htN : ¬ 0 < t := (by omega); have htNd : decide (0 < t) = false := decide_eq_false htN; have HE : Sl (t = rem l S (g - k') ∧ t ≤ n) := ⟨by rw [← HNX.out, ← HT.out.2, ht0]; rfl, HT.out.1⟩; clear ht0; go_wp2_with fail; exact ⟨⟨k', t, _, by have := HKK.out; omega, rfl, rfl, rfl, HE⟩, by have := HKK.out; simp [RowKit.intOf]; omega⟩
        · obtain ⟨t', ht'⟩ : ∃ t', t' + 1 = t := ⟨t - 1, by omega⟩; have htn := HT.out.1; obtain ⟨ad, rfl, hab, c1⟩ := HL.out.cell (j := t') (by omega); have hgb := HB.out t'; have hss := HS.out; have HG : Sl (grd l S t s = if s + gt l t' ≤ S then grd l S t' (s + gt l t') else t' + 1) := ⟨by rw [← ht', grd]⟩; obtain ⟨z, hz⟩ : ∃ z, gt l t' = z := ⟨_, rfl⟩; rw [hz] at c1 hgb HG; have htd : decide ((0 : Int) < (t : Int)) = true := decide_eq_true (by omega); have htI : (0 : Int) < (t : Int) := (by omega); have htN : 0 < t := (by omega); have htNd : decide (0 < t) = true := decide_eq_true htN; have htp : (t : Int) - 1 = (t' : Int) := (by omega); have htw : IntKind.i64.wrap (t' : Int) = (t' : Int) := (by rw [IntKind.wrap_i64]; omega); have ht'N : t' < n := (by omega); have ht'I : (t' : Int) < (n : Int) := (by omega); have HTT : Sl (t' + 1 = t) := ⟨ht'⟩; have hs1 : 0 ≤ s := hss.1; have hs2 : s ≤ 1099511627776 := (by omega); have hz1 : 0 ≤ z := hgb.1; have hz2 : z ≤ 1073741824 := hgb.2; have hswr : IntKind.i64.wrap (s + z) = s + z := (by rw [IntKind.wrap_i64]; omega); clear hz ht' ht0 hgb hss htn
          by_cases hfit : s + z ≤ S
          · have hfd : decide (s + z ≤ S) = true := decide_eq_true hfit; have HS2 : Sl (0 ≤ s + z ∧ s + z ≤ S) := ⟨by omega⟩; have HT2 : Sl (t' ≤ n ∧ grd l S t' (s + z) = grd l S m 0) := ⟨by omega, by rw [← HT.out.2, HG.out, if_pos hfit]⟩; go_wp2_with fail; exact ⟨⟨t', s + z, rfl, rfl, HS2, HT2⟩, by have := HTT.out; simp [RowKit.intOf]; omega⟩
          · have hfd : decide (s + z ≤ S) = false := decide_eq_false hfit; have HE : Sl (t = rem l S (g - k') ∧ t ≤ n) := ⟨by rw [← HNX.out, ← HT.out.2, HG.out, if_neg hfit]; exact HTT.out.symm, HT.out.1⟩; go_wp2_with fail; exact ⟨⟨k', t, _, by have := HKK.out; omega, rfl, rfl, rfl, HE⟩, by have := HKK.out; simp [RowKit.intOf]; omega⟩
end Go.Proofs.YtabkpbbjodfolaaGreatDoor
namespace Go.Proofs.YtabkpbbjodfolaaGreatDoor
set_option linter.unusedSimpArgs false
open Go.RowKit
set_option linter.unusedVariables false
theorem own_own_ne {w : World} {b b' s s' n n' : Nat} {e e' : TypeId} {v v' : Value} {xs xs' : List Value} (h : w.ownsRow b e s v n xs) (h' : w.ownsRow b' e' s' v' n' xs') (he : e ≠ e') (k : Nat) (hk : v.ownBlock = some k) : v'.ownBlock ≠ some k := by
  rcases h'.2 with ⟨rfl, _⟩ | ⟨g, cap, cur, rfl, _, hh, _⟩
  · simp [Value.ownBlock]
  · intro hk2; have hg : g = k := (by simpa [Value.ownBlock] using hk2); subst hg; exact own_blk_ne (t := e') (cs := cur) h hh he hk
theorem OI.alloc {w : World} {base : Nat} {A : Option Addr} {n c : Nat} {l : List Int} (h : OI w base A n c l) (o : Obj) : OI (w.alloc o) base A n c l := World.ownsRow.alloc h o
theorem II.made (w : World) (z : Int) (t : TypeId) : II (w.alloc (.cells #[.int .i64 z] t)) (some ⟨w.heap.size, 0, none⟩) 1 [z] := by
  refine ⟨rfl, rfl, fun _ => ⟨⟨w.heap.size, 0, none⟩, rfl, by simp, fun j u hu => ?_⟩⟩
  have hj : j = 0 := by
    have := (List.getElem?_eq_some_iff.1 hu).1; simp at this; exact this
  subst hj; have : u = .int .i64 z := (by simpa [iv] using hu.symm); rw [this]; exact (Blk.new w t #[.int .i64 z]).cell 0
def OL (w : World) (base : Nat) (A : Option Addr) (n c : Nat) (l : List Int) : Prop := w.ownsRow base 2 1 (.slice A n c) n (l.map iv)
theorem OL.len {w : World} {base : Nat} {A : Option Addr} {n c : Nat} {l : List Int} (h : OL w base A n c l) : l.length = n := by
  have := h.1; simpa using this
theorem OL.ii {w : World} {base : Nat} {A : Option Addr} {n c : Nat} {l : List Int} (h : OL w base A n c l) : II w A n l := ⟨h.len, Reads.of_own h⟩
theorem OL.nil (w : World) (base : Nat) : OL w base none 0 0 [] := World.ownsRow_nil _ _ _ _
theorem OL.alloc {w : World} {base : Nat} {A : Option Addr} {n c : Nat} {l : List Int} (h : OL w base A n c l) (o : Obj) : OL (w.alloc o) base A n c l := World.ownsRow.alloc h o
theorem OL.below {w w' : World} {base : Nat} {A : Option Addr} {n c : Nat} {l : List Int} (h : OL w base A n c l) (hb : Below w.heap.size w w') : OL w' base A n c l :=
  own_mv h (Mv.of_below hb) (fun k hk => by have := (World.ownsRow.lt h k hk).2; omega)
theorem OL.grown {w w' : World} {row : Option Nat} {base : Nat} {A : Option Addr} {n c : Nat} {l : List Int} (h : OL w base A n c l) (hg : w.grownBy w' row) (hne : ∀ k, (Value.slice A n c).ownBlock = some k → row ≠ some k) : OL w' base A n c l := by
  refine World.ownsRow.kept h hg ?_
  cases hb : (Value.slice A n c).ownBlock with
  | none => exact .inl rfl
  | some k => exact .inr (fun e => hne k hb e.symm)
theorem infoL64 : ∃ i, Tryz.prog.info? 2 = some i ∧ i.zero = some (.int .i64 0) ∧ i.size = 1 ∧ i.bytes = 8 := by
  have h : (Tryz.prog.info? 2).map (fun i => (i.zero, i.size, i.bytes)) = some (some (.int .i64 0), 1, 8) := (by kernel_rfl); obtain ⟨i, hi, he⟩ := Option.map_eq_some_iff.1 h; injection he with e1 e2
  injection e2 with e2 e3
  exact ⟨i, hi, e1, e2, e3⟩
theorem wpList_append_ol {ops : Array Oper} {rest : List Oper} {o : Oper} {a : Act} {w : World} {Q : Exit → Act → World → Prop} (hgd : o.guard = none) (s x : Operand)
    (ho : o.op = .call { callee := .builtin .append, args := #[s, x], argTypes := #[60, 60] })
    (base : Nat) (A : Option Addr) (n c : Nat) (l : List Int) (hs : a.eval s = .slice A n c) (hown : OL w base A n c l)
    (B : Option Addr) (m d : Nat) (k : List Int) (hx : a.eval x = .slice B m d) (hr : II w B m k) (hnm : n + m ≤ 1000000) (hbase : base ≤ w.heap.size)
    (h : ∀ A' c' w', OL w' base A' (n + m) c' (l ++ k) → w.grownBy w' (Value.slice A n c).ownBlock → ((Value.slice A' (n + m) c').ownBlock = (Value.slice A n c).ownBlock ∨ (Value.slice A' (n + m) c').ownBlock = some w.heap.size) → wpList Tryz.prog ops Q rest (a.put o.dst (.slice A' (n + m) c')) w') :
    wpList Tryz.prog ops Q (o :: rest) a w := by
  obtain ⟨i, h1, h2, h3, h4⟩ := infoL64; refine wpList_append_any w hgd s x _ ho base 2 i _ 1 8 Tryz.underlying60 h1 h2 h3 h4 rfl (by decide) _ n _ hs hown w.heap.size B m d (k.map iv) hx hr.2 (fun u hu => ?_) (by unfold maxLen; omega) (by omega) hbase (fun v' w' h5 h6 h7 => ?_)
  · obtain ⟨z, _, rfl⟩ := List.mem_map.1 hu; rfl
  · rw [← List.map_append] at h5; rcases h5.2 with ⟨rfl, h0⟩ | ⟨g, cap, cur, rfl, _⟩
    · have hn0 : n + m = 0 := h0; have e : Value.slice none 0 0 = Value.slice none (n + m) 0 := (by rw [hn0]); rw [e] at h5 h7 ⊢; exact h _ _ _ h5 h6 h7
    · exact h _ _ _ h5 h6 h7
structure SlV where
  A : Option Addr
  n : Nat
  c : Nat
  l : List Int
def SlV.val (s : SlV) : Value := .slice s.A s.n s.c
structure OG (w : World) (base : Nat) (A : Option Addr) (n c : Nat) (L : List SlV) : Prop where
  row : w.ownsRow base 43 1 (.slice A n c) n (L.map SlV.val)
  all : ∀ s ∈ L, OI w base s.A s.n s.c s.l
theorem OG.nil (w : World) (base : Nat) : OG w base none 0 0 [] := ⟨World.ownsRow_nil _ _ _ _, fun s hs => by cases hs⟩
theorem OG.len {w : World} {base : Nat} {A : Option Addr} {n c : Nat} {L : List SlV} (h : OG w base A n c L) : L.length = n := by
  have := h.row.1; simpa using this
theorem OG.below {w w' : World} {base : Nat} {A : Option Addr} {n c : Nat} {L : List SlV} (h : OG w base A n c L) (hb : Below w.heap.size w w') : OG w' base A n c L :=
  ⟨own_mv h.row (Mv.of_below hb) (fun k hk => by have := (World.ownsRow.lt h.row k hk).2; omega), fun s hs => (h.all s hs).below hb⟩
theorem infoSl : ∃ i, Tryz.prog.info? 43 = some i ∧ i.zero = some (.slice none 0 0) ∧ i.size = 1 ∧ i.bytes = 24 := by
  have h : (Tryz.prog.info? 43).map (fun i => (i.zero, i.size, i.bytes)) = some (some (.slice none 0 0), 1, 24) := (by kernel_rfl); obtain ⟨i, hi, he⟩ := Option.map_eq_some_iff.1 h; injection he with e1 e2
  injection e2 with e2 e3
  exact ⟨i, hi, e1, e2, e3⟩
theorem wpList_append_og {ops : Array Oper} {rest : List Oper} {o : Oper} {a : Act} {w : World} {Q : Exit → Act → World → Prop} (hgd : o.guard = none) (s x : Operand)
    (ho : o.op = .call { callee := .builtin .append, args := #[s, x], argTypes := #[57, 57] })
    (base : Nat) (A : Option Addr) (n c : Nat) (L : List SlV) (hs : a.eval s = .slice A n c) (w0 : World) (t : TypeId) (y : SlV) (hw : w = w0.alloc (.cells #[y.val] t)) (hown : OG w0 base A n c L)
    (hy : OI w0 base y.A y.n y.c y.l) (hx : a.eval x = .slice (some ⟨w0.heap.size, 0, none⟩) 1 1) (hnm : n + 1 ≤ 1000000) (hbase : base ≤ w0.heap.size)
    (h : ∀ A' c' w', OG w' base A' (n + 1) c' (L ++ [y]) → w.grownBy w' (Value.slice A n c).ownBlock → wpList Tryz.prog ops Q rest (a.put o.dst (.slice A' (n + 1) c')) w') :
    wpList Tryz.prog ops Q (o :: rest) a w := by
  obtain ⟨i, h1, h2, h3, h4⟩ := infoSl; subst hw; have hb : Below w0.heap.size w0 (w0.alloc (.cells #[y.val] t)) := (Below.refl _ _).alloc (Nat.le_refl _) _; have hO := hown.below hb; have hY := hy.below hb; refine wpList_append_any _ hgd s x _ ho base 43 i _ 1 24 Tryz.underlying57 h1 h2 h3 h4 rfl (by decide) _ n _ hs hO.row (w0.alloc (.cells #[y.val] t)).heap.size (some ⟨w0.heap.size, 0, none⟩) 1 1 [y.val] hx ?_ (fun u hu => ?_) (by unfold maxLen; omega) (by omega) (Nat.le_trans hbase hb.size) (fun v' w' h5 h6 h7 => ?_)
  · refine ⟨rfl, fun _ => ⟨⟨w0.heap.size, 0, none⟩, rfl, by simp, fun j u hu => ?_⟩⟩
    have hj : j = 0 := by
      have := (List.getElem?_eq_some_iff.1 hu).1; simp at this; exact this
    subst hj; have : u = y.val := (by simpa using hu.symm); rw [this]; exact (Blk.new w0 t #[y.val]).cell 0
  · have : u = y.val := (by simpa using hu); rw [this]; rfl
  · rw [show L.map SlV.val ++ [y.val] = (L ++ [y]).map SlV.val by simp] at h5
    have hall : ∀ z ∈ L ++ [y], OI w' base z.A z.n z.c z.l := fun z hz => by
      have h0 : OI (w0.alloc (.cells #[y.val] t)) base z.A z.n z.c z.l := by
        rcases List.mem_append.1 hz with hz | hz
        · exact hO.all z hz
        · rw [List.mem_singleton.1 hz]; exact hY
      exact h0.grown h6 (fun k hk => own_own_ne h0 hO.row (by decide) k hk)
    rcases h5.2 with ⟨rfl, h0⟩ | ⟨g, cap, cur, rfl, _⟩
    · cases h0
    · exact h _ _ _ ⟨h5, hall⟩ h6
theorem OG.rd {w : World} {base : Nat} {A : Option Addr} {n c : Nat} {L : List SlV} (h : OG w base A n c L) : RowG w A n 1 (fun s => [SlV.val s]) L := by
  refine ⟨h.len, ?_, fun _ => rfl⟩; have := Reads.of_own h.row
  have e : ∀ L : List SlV, L.flatMap (fun s => [SlV.val s]) = L.map SlV.val := fun L => by
    induction L with
    | nil => rfl
    | cons y L ih => rw [List.flatMap_cons, ih]; rfl
  rw [e]; exact this
def grpE (l : List Int) (S : Int) : Nat → Nat → List (Nat × Nat)
  | 0, _ => []
  | n+1, f => (f, max f (rem l S n)) :: grpE l S n (max f (rem l S n))
def cutL (od : List Int) (p : Nat × Nat) : List Int := (od.take p.2).drop p.1
def wtL (ws : List Int) : List Int := (ordL ws).map fun x => gt ws x.toNat
def rngW (ws : List Int) (k : Nat) : Int := if gt ws k < 0 ∨ 1073741824 < gt ws k then 7 else 0
def planE (ws : List Int) (steps : Int) : Int := if 80 < ws.length then 3 else if steps < 1 ∨ 60 < steps then 2 else fstE (rngW ws) ws.length 0
def planS (ws : List Int) (steps : Int) : Int := if planE ws steps = 0 then lst (wtL ws) (steps.toNat - 1) 0 else 0
def planG (ws : List Int) (steps : Int) : List (List Int) := if planE ws steps = 0 then (grpE (wtL ws) (planS ws steps) steps.toNat 0).map (cutL (ordL ws)) else []
theorem rngW_ok {ws : List Int} (h : fstE (rngW ws) ws.length 0 = 0) (j : Nat) : 0 ≤ gt ws j ∧ gt ws j ≤ 1073741824 := by
  rcases Nat.lt_or_ge j ws.length with hj | hj
  · have := fstE_zero h j (Nat.zero_le _) (by omega); unfold rngW at this
    split at this
    · cases this
    · omega
  · rw [gt, List.getElem?_eq_none hj]; exact ⟨Int.le_refl _, by decide⟩
theorem wtL_len (ws : List Int) : (wtL ws).length = ws.length := by rw [wtL, List.length_map]; exact ordF_len ws _
theorem wtL_bd {ws : List Int} (h : fstE (rngW ws) ws.length 0 = 0) (j : Nat) : 0 ≤ gt (wtL ws) j ∧ gt (wtL ws) j ≤ 1073741824 := by
  unfold wtL; rcases Nat.lt_or_ge j (ordL ws).length with hj | hj
  · rw [gt, List.getElem?_map, List.getElem?_eq_getElem hj]; exact rngW_ok h _
  · rw [gt, List.getElem?_map, List.getElem?_eq_none hj]; simp
theorem psm_le {l : List Int} (h : ∀ j, 0 ≤ gt l j ∧ gt l j ≤ 1073741824) : ∀ k, 0 ≤ psm l k ∧ psm l k ≤ (k : Int) * 1073741824
  | 0 => by rw [psm]; omega
  | k+1 => by
    have ih := psm_le h k; have h1 := h k; rw [psm, Int.natCast_succ, Int.add_mul]; omega
end Go.Proofs.YtabkpbbjodfolaaGreatDoor
namespace Go.Proofs.YtabkpbbjodfolaaGreatDoor
set_option linter.unusedSimpArgs false
open Go.RowKit
set_option linter.unusedVariables false
set_option maxHeartbeats 3200000 in
set_option maxRecDepth 100000 in
theorem sort0_any (A : Option Addr) (c gf : Nat) (w : World) :
    Calls Tryz.prog 58 #[.slice A 0 c, .func (.func 59) #[] #[.pointer (some ⟨gf, 0, none⟩)]] w fun e w' => e = .returned (.tuple #[]) ∧ w' = w := by
  have HI : Sl (∀ W : World, Calls Tryz.prog 156 #[.slice A 0 c, .int .i64 0, .int .i64 0, .func (.func 59) #[] #[.pointer (some ⟨gf, 0, none⟩)]] W fun e w' => e = .returned (.tuple #[]) ∧ w' = W) := ⟨fun W => by
    go_enter Tryz.func156, Tryz.ntmps156; go_wp2_with fail
    go_loop [8] (fun s8 => s8 = .int .i64 1) (fun _ => 0)
    case atStart => rfl
    case round =>
      subst hrel; go_wp2_with fail; go_end0
      exact ⟨rfl, rfl⟩⟩
  have HS : Sl (Calls Tryz.prog 114 #[.slice A 0 c, .int .i64 0, .func (.func 59) #[] #[.pointer (some ⟨gf, 0, none⟩)]] w fun e w' => e = .returned (.tuple #[]) ∧ w' = w) := ⟨by
    go_enter Tryz.func114, Tryz.ntmps114; go_wp2_with fail
    go_loop [7, 8] (fun s7 s8 => s7 = .int .i64 0 ∧ s8 = .int .i64 20) (fun _ _ => 0)
    case atStart => exact ⟨rfl, rfl⟩
    case round =>
      obtain ⟨rfl, rfl⟩ := hrel; go_wp2_with fail; refine (HI.out _).mono ?_; rintro e w1 ⟨rfl, rfl⟩; go_wp2_with fail
      go_loop [6] (fun s6 => s6 = .int .i64 20) (fun _ => 0)
      case atStart => rfl
      case round =>
        subst hrel; go_wp2_with fail; go_end0
        exact ⟨rfl, rfl⟩⟩
  go_enter Tryz.func58, Tryz.ntmps58; go_wp2_with fail; refine HS.out.mono ?_; rintro e w1 ⟨rfl, rfl⟩; go_wp2_with fail; go_end0; exact ⟨rfl, rfl⟩
def PlnR (base : Nat) (G : List (List Int)) (s e : Int) (en : Ending) (w' : World) : Prop := ∃ A k c L, en = .returned (.tuple #[.slice A k c, .int .i64 s, .int .i64 e]) ∧ OG w' base A k c L ∧ L.map SlV.l = G
theorem PlnR.no {base : Nat} {e : Int} {w' : World} : PlnR base [] 0 e (.returned (.tuple #[.slice none 0 0, .int .i64 0, .int .i64 e])) w' := ⟨none, 0, 0, [], rfl, OG.nil _ _, rfl⟩
def nums (n : Nat) : List Int := (List.range n).map fun k : Nat => (k : Int)
theorem nums_succ (n : Nat) : nums (n + 1) = nums n ++ [(n : Int)] := by
  unfold nums; rw [List.range_succ, List.map_append]; rfl
theorem nums_at {n k : Nat} (h : k < n) : gt (nums n) k = (k : Int) := by
  unfold nums; rw [gt, List.getElem?_map, List.getElem?_range h]; rfl
theorem OI.irow {w : World} {base g n c : Nat} {l : List Int} (h : OI w base (some ⟨g, 0, none⟩) n c l) : IRow w g n (gt l) := by
  have hl := h.len; rcases h.2 with ⟨h0, _⟩ | ⟨b, cap, cur, e1, _, hh, hnc, _, hcs, _⟩
  · cases h0
  · injection e1 with e1
    injection e1 with e1
    injection e1 with e1
    subst e1; refine ⟨_, cur, hh, by omega, fun j hj => ?_⟩; obtain ⟨ad, e, _, hc⟩ := h.ii.cell hj; injection e with e
    subst e; rw [Addr.add_mid, Nat.zero_add] at hc; have hB : Blk w g 3 cur := hh; rw [← hB.cell j, hc]
theorem IRow.ii {w : World} {g n : Nat} {f : Nat → Int} (h : IRow w g n f) {l : List Int} (hl : (List.range n).map f = l) : II w (some ⟨g, 0, none⟩) n l := by
  subst hl; refine ⟨by simp, by simp, fun hn => ⟨⟨g, 0, none⟩, rfl, h.lt, fun j u hu => ?_⟩⟩; have hj : j < n := (by have := (List.getElem?_eq_some_iff.1 hu).1; simpa using this); rw [Addr.add_mid, Nat.zero_add, h.cell hj]; rw [List.getElem?_map, List.getElem?_map, List.getElem?_range hj] at hu; exact hu
theorem II.take {w : World} {A : Option Addr} {n : Nat} {l : List Int} (h : II w A n l) {u : Nat} (hu : u ≤ n) : II w A u (l.take u) := by
  have hl := h.1; refine ⟨by rw [List.length_take]; omega, by simp; omega, fun h0 => ?_⟩; obtain ⟨ad, e, hb, hc⟩ := h.2.2 (by omega); refine ⟨ad, e, hb, fun j v hv => hc j v ?_⟩; have hj : j < u := (by have := (List.getElem?_eq_some_iff.1 hv).1; simp at this; omega); rw [List.getElem?_map, List.getElem?_take_of_lt hj] at hv; rw [List.getElem?_map]; exact hv
theorem II.drop {w : World} {A : Option Addr} {n c : Nat} {l : List Int} (h : II w A n l) {k : Nat} (hk : k ≤ n) (hc : n ≤ c) : II w (if c = k then A else A.map (·.add k)) (n - k) (l.drop k) := by
  have := Reads.cut h.2 (cap := c) hk hc; rw [Nat.mul_one] at this; exact ⟨by rw [List.length_drop, h.1], by rw [List.map_drop]; exact this⟩
theorem ne_L64 : 3 ≠ 60 := by decide
theorem gtI_get {l : List Int} {i : Nat} (h : i < l.length) : gt l i = l[i] := by rw [gt, List.getElem?_eq_getElem h]; rfl
theorem wt_gt (ws : List Int) {k : Nat} (hk : k < ws.length) : gt (wtL ws) k = gt ws (gt (ordL ws) k).toNat := by
  have ho : k < (ordL ws).length := (by rw [ordL, ordF_len]; exact hk); have hl : k < (wtL ws).length := (by rw [wtL_len]; exact hk); rw [gtI_get hl, gtI_get ho]; exact List.getElem_map _
theorem wt_take (ws : List Int) {k : Nat} (hk : k < ws.length) : (wtL ws).take (k + 1) = (wtL ws).take k ++ [gt ws (gt (ordL ws) k).toNat] := by
  have hl : k < (wtL ws).length := (by rw [wtL_len]; exact hk); rw [← wt_gt ws hk, List.take_add_one, List.getElem?_eq_getElem hl, gtI_get hl]; rfl
end Go.Proofs.YtabkpbbjodfolaaGreatDoor
