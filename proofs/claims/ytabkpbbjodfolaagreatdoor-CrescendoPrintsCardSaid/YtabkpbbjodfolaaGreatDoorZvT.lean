/- Names of a valid specification are such as the plain law of frames' texts asks; the texts of package crescendo are those of the plain law. -/
import Derived.Test.YtabkpbbjodfolaaGreatDoorZvO
import Derived.Test.YtabkpbbjodfolaaGreatDoorZvP
import Derived.Test.YtabkpbbjodfolaaGreatDoorZvS
namespace Go.Proofs.YtabkpbbjodfolaaGreatDoor
set_option linter.unusedSimpArgs false
open Go.RowKit
set_option linter.unusedVariables false
def SNb (o : SpO) : List By := (snm o).map (·.data.toList)
def CNb (o : SpO) : List By := (cnm o).map (·.data.toList)
theorem nm_range {nm : ByteArray} (h : nmB nm = true) : ∀ x ∈ nm.data.toList, 48 ≤ x.toNat ∧ x.toNat ≤ 122 ∧ x.toNat ≠ 64 := by
  intro x hx; rw [← nameC_nmB] at h; unfold nameC at h; rw [decide_eq_true_eq] at h; obtain ⟨j, hj, e⟩ := List.getElem_of_mem hx; have hj2 : j < nm.size := (by simpa using hj); have e2 : nm[j] = x := (by rw [← e]; simp [ByteArray.getElem_eq_getElem_data]); have hc := h.2 j hj2; rw [e2] at hc; unfold okC letC at hc; simp only [Bool.or_eq_true, Bool.and_eq_true, decide_eq_true_eq] at hc; omega
theorem nm_not {nm : ByteArray} (h : nmB nm = true) {x : UInt8} (hx : ¬ (48 ≤ x.toNat ∧ x.toNat ≤ 122 ∧ x.toNat ≠ 64)) : x ∉ nm.data.toList := fun e => hx (nm_range h x e)
theorem split64 {a a' b b' : List UInt8} (ha : (64 : UInt8) ∉ a) (ha' : (64 : UInt8) ∉ a') (h : a ++ 64 :: b = a' ++ 64 :: b') : a = a' ∧ b = b' := by
  induction a generalizing a' with
  | nil =>
    cases a' with
    | nil => injection h with _ h2; exact ⟨rfl, h2⟩
    | cons y a' => injection h with h1 _; exact absurd (h1 ▸ List.mem_cons_self) ha'
  | cons x a ih =>
    cases a' with
    | nil => injection h with h1 _; exact absurd (h1 ▸ List.mem_cons_self) ha
    | cons y a' =>
      injection h with h1 h2
      obtain ⟨r1, r2⟩ := ih (fun e => ha (List.mem_cons_of_mem _ e)) (fun e => ha' (List.mem_cons_of_mem _ e)) h2; exact ⟨by rw [h1, r1], r2⟩
theorem ba_eq {a b : ByteArray} (h : a.data.toList = b.data.toList) : a = b := by
  cases a; cases b
  simp only [ByteArray.mk.injEq]; exact Array.toList_inj.1 h
theorem rgt_of {x : By} (h0 : x ≠ []) (hl : x.length ≤ 200) (h : ∀ c ∈ x, c = 43 ∨ c = 64 ∨ (48 ≤ c.toNat ∧ c.toNat ≤ 122)) : rgt x = true := by
  unfold rgt prt; simp only [Bool.and_eq_true, decide_eq_true_eq, List.all_eq_true]; refine ⟨⟨⟨h0, hl⟩, fun c hc => ?_⟩, fun e => ?_⟩
  · rcases h c hc with rfl | rfl | h1
    · decide
    · decide
    · omega
  · rcases h 34 e with h1 | h1 | h1
    · cases h1
    · cases h1
    · simp at h1
def dnm (o : SpO) (x : SpV) : ByteArray := (o.ds[x.dv.toNat]?.getD dv0).nm
theorem nmSt_by (o : SpO) (x : SpV) : (nmSt o x).data.toList = x.nm.data.toList ++ 64 :: (dnm o x).data.toList := by
  unfold nmSt dnm; simp [ByteArray.data_append]
theorem nmCp_by (x : CpV) : ((⟨#[43]⟩ ++ x.nm : ByteArray)).data.toList = 43 :: x.nm.data.toList := by simp [ByteArray.data_append]
theorem twB_no {α : Type} {p : α → Bool} {L : List α} {j : Nat} (h : ¬ (twB p L j = true)) {i : Nat} (hi : i < j) {y : α} (hy : L[i]? = some y) : p y = false := by
  rw [twB_iff] at h
  cases hp : p y with
  | false => rfl
  | true => exact absurd ⟨y, List.mem_of_getElem? (by rw [List.getElem?_take_of_lt hi]; exact hy), hp⟩ h
theorem ref_parts {o : SpO} (h1 : o.ds.length = o.n1) (h2 : o.rs.length = o.n2) (h3 : o.ss.length = o.n3) (h4 : o.cs.length = o.n4) (h : specE o = 0) :
    (o.n3 ≤ 80 ∧ o.n4 ≤ 24) ∧ (∀ j, j < o.n1 → rdvE o j = 0) ∧ (∀ j, j < o.n3 → rstE o j = 0) ∧ ∀ j, j < o.n4 → rcpE o j = 0 := by
  rw [← refE_specE o h1 h2 h3 h4] at h; unfold refE at h
  split at h
  · cases h
  · rename_i hb
    split at h
    · rename_i k1
      split at h
      · split at h
        · rename_i k3; refine ⟨by omega, fun j hj => fstE_zero k1 j (Nat.zero_le _) (by omega), fun j hj => ?_, fun j hj => fstE_zero h j (Nat.zero_le _) (by omega)⟩; have := fstE_zero k3 j (Nat.zero_le _) (by omega); unfold rsaE at this; simp only [] at this
          split at this
          · assumption
          · exact this
        · rename_i k3; exact absurd h k3
      · rename_i k2; exact absurd h k2
    · rename_i k1; exact absurd h k1
theorem nmOk_of {o : SpO} (h1 : o.ds.length = o.n1) (h2 : o.rs.length = o.n2) (h3 : o.ss.length = o.n3) (h4 : o.cs.length = o.n4) (h : specE o = 0) : NmOk (SNb o) (CNb o) ∧ (SNb o).length = o.n3 ∧ (CNb o).length = o.n4 ∧ o.n3 + o.n4 ≤ 104 := by
  obtain ⟨g1, g2, g3⟩ := specE_nm h; obtain ⟨⟨b1, b2⟩, r1, r3, r4⟩ := ref_parts h1 h2 h3 h4 h
  have hdn : ∀ x ∈ o.ss, ∃ d, o.ds[x.dv.toNat]? = some d ∧ dnm o x = d.nm ∧ nmB d.nm = true := fun x hx => by
    have hb := (g2 x hx).2; have hl : x.dv.toNat < o.ds.length := (by omega); refine ⟨o.ds[x.dv.toNat], List.getElem?_eq_getElem hl, ?_, g1 _ (List.getElem_mem _)⟩; unfold dnm; rw [List.getElem?_eq_getElem hl]; rfl
  refine ⟨⟨?_, ?_, fun x hx => ?_, fun x hx => ?_⟩, by simp [SNb, snm, h3], by simp [CNb, cnm, h4], by omega⟩
  · show List.Pairwise (· ≠ ·) _; rw [List.pairwise_iff_getElem]; intro i j hi hj hij e; simp only [SNb, snm, List.length_map] at hi hj; simp only [SNb, snm, List.getElem_map] at e; rw [nmSt_by, nmSt_by] at e; have hxi := List.getElem_mem hi; have hxj := List.getElem_mem hj; obtain ⟨e1, e2⟩ := split64 (nm_not (g2 _ hxi).1 (by decide)) (nm_not (g2 _ hxj).1 (by decide)) e; have e1 := ba_eq e1; have e2 := ba_eq e2; obtain ⟨d, hd, ed, _⟩ := hdn _ hxi; obtain ⟨d', hd', ed', _⟩ := hdn _ hxj
    have hdv : o.ss[i].dv = o.ss[j].dv := by
      have hbi := (g2 _ hxi).2; have hbj := (g2 _ hxj).2
      have key : ∀ a b : Nat, a < b → b < o.n1 → ∀ y z, o.ds[a]? = some y → o.ds[b]? = some z → y.nm ≠ z.nm := fun a b hab hb y z hy hz en => by
        have := r1 b hb; unfold rdvE at this; simp only [hz, Option.getD_some] at this; rw [if_pos (g1 z (List.mem_of_getElem? hz))] at this
        split at this
        · cases this
        · rename_i ht; have := twB_no ht hab hy; rw [en] at this; simp at this
      have hn : d.nm = d'.nm := (by rw [← ed, ← ed', e2]); rcases Nat.lt_trichotomy o.ss[i].dv.toNat o.ss[j].dv.toNat with hlt | heq | hgt
      · exact absurd hn (key _ _ hlt (by omega) d d' hd hd')
      · omega
      · exact absurd hn.symm (key _ _ hgt (by omega) d' d hd' hd)
    have := r3 j (by omega); unfold rstE at this; simp only [List.getElem?_eq_getElem hj, Option.getD_some] at this; rw [if_neg (by rw [(g2 _ hxj).1]; decide)] at this
    split at this
    · cases this
    · split at this
      · cases this
      · rename_i ht; have := twB_no ht hij (List.getElem?_eq_getElem hi); simp [hdv, e1] at this
  · show List.Pairwise (· ≠ ·) _; rw [List.pairwise_iff_getElem]; intro i j hi hj hij e; simp only [CNb, cnm, List.length_map] at hi hj; simp only [CNb, cnm, List.getElem_map] at e; rw [nmCp_by, nmCp_by] at e; injection e with _ e
    have e1 := ba_eq e; have hxj := List.getElem_mem hj; have := r4 j (by omega); unfold rcpE at this; simp only [List.getElem?_eq_getElem hj, Option.getD_some] at this; rw [if_pos (g3 _ hxj)] at this
    split at this
    · cases this
    · rename_i ht; have := twB_no ht hij (List.getElem?_eq_getElem hi); simp [e1] at this
  · obtain ⟨y, hy, rfl⟩ := List.mem_map.1 hx; have hs33 := (nms_size h).1 y hy; obtain ⟨z, hz, rfl⟩ := List.mem_map.1 hy; obtain ⟨d, _, ed, hd⟩ := hdn z hz; have hnz := (g2 z hz).1; have hsz := (nmB_size hnz).1; have hl : (nmSt o z).data.toList.length ≤ 33 := hs33; rw [nmSt_by] at hl ⊢
    have hne : z.nm.data.toList ≠ [] := by
      intro e0; have : z.nm.data.toList.length = 0 := (by rw [e0]; rfl); have : z.nm.size = 0 := this; omega
    refine ⟨rgt_of (by simp) (by omega) (fun c hc => ?_), ?_, by simp, hl⟩
    · rcases List.mem_append.1 hc with hc | hc
      · exact .inr (.inr (by have := nm_range hnz c hc; omega))
      · rcases List.mem_cons.1 hc with rfl | hc
        · exact .inr (.inl rfl)
        · rw [ed] at hc; exact .inr (.inr (by have := nm_range hd c hc; omega))
    · cases hq : z.nm.data.toList with
      | nil => exact absurd hq hne
      | cons a b =>
        intro e; simp only [List.cons_append, List.head?_cons, Option.some.injEq] at e; have := nm_range hnz a (by rw [hq]; simp); rw [e] at this; simp at this
  · obtain ⟨y, hy, rfl⟩ := List.mem_map.1 hx; have hs33 := (nms_size h).2 y hy; obtain ⟨z, hz, rfl⟩ := List.mem_map.1 hy; have hl : ((⟨#[43]⟩ ++ z.nm : ByteArray)).data.toList.length ≤ 33 := hs33; rw [nmCp_by] at hl ⊢; refine ⟨rgt_of (by simp) (by omega) (fun c hc => ?_), rfl, hl⟩; rcases List.mem_cons.1 hc with rfl | hc
    · exact .inl rfl
    · exact .inr (.inr (by have := nm_range (g3 z hz) c hc; omega))
theorem drwE_asc {l : List Int} {N : Nat} : drwE l (N : Int) = 0 ↔ ascK N l := by
  constructor
  · intro h; refine ⟨List.pairwise_iff_getElem.2 fun i j hi hj hij => ?_, fun x hx => ?_⟩
    · have := (drwE_ok h hj).2 i hij; rw [gt, gt, List.getElem?_eq_getElem hi, List.getElem?_eq_getElem hj] at this; exact this
    · obtain ⟨i, hi, rfl⟩ := List.getElem_of_mem hx; have := (drwE_ok h hi).1; rw [gt, List.getElem?_eq_getElem hi] at this; exact this
  · intro h; refine fstE_all fun j _ hj => ?_
    have hj : j < l.length := (by omega); have h1 := h.2 l[j] (List.getElem_mem _); unfold drwK; have e : gt l j = l[j] := (by rw [gt, List.getElem?_eq_getElem hj]; rfl); rw [e, if_neg (by omega), if_neg]; rintro ⟨h0, h2⟩; have e2 : gt l (j - 1) = l[j - 1] := (by rw [gt, List.getElem?_eq_getElem (by omega)]; rfl); rw [e2] at h2; have := List.pairwise_iff_getElem.1 h.1 (j - 1) j (by omega) hj (by omega); omega
theorem regE_rv {o : SpO} {r : RgV} (hs : (SNb o).length = o.n3) (hc : (CNb o).length = o.n4) : regE o r = 0 ↔ rvOk (SNb o) (CNb o) r.v := by
  unfold regE rvOk RgV.v; rw [hs, hc, ← drwE_asc, ← drwE_asc]; constructor
  · intro h
    split at h
    · rename_i h1; exact ⟨h1, h⟩
    · rename_i h1; exact absurd h h1
  · rintro ⟨h1, h2⟩; rw [if_pos h1]; exact h2
theorem joinTail_jn : ∀ (x : By) (l : List By), x ++ Lib.joinTail [32] l = jn (x :: l)
  | x, [] => by simp [Lib.joinTail, jn]
  | x, y :: l => by
    rw [jn_cons (by simp), ← joinTail_jn y l]; simp [Lib.joinTail]
theorem joinB_by (l : List ByteArray) : (joinB l).data.toList = jn (l.map (·.data.toList)) := by
  show Lib.join (l.map (·.data.toList)) [32] = _
  cases l with
  | nil => rfl
  | cons x l => rw [List.map_cons, Lib.join_cons, joinTail_jn]
theorem lineB_by (kw : ByteArray) (X : List ByteArray) : (lineB kw X).data.toList = jn (kw.data.toList :: (X.map (·.data.toList)).take 20) ++ [10] := by
  unfold lineB; rw [ByteArray.data_append, Array.toList_append, joinB_by, List.map_cons, List.map_take]
theorem frmT_by : ∀ (f : Nat) (kw : ByteArray) (X : List ByteArray), (frmT f kw X).data.toList = lnK (frL f kw.data.toList (X.map (·.data.toList)))
  | 0, kw, X => by
    rw [frmT, lineB_by, frL]; simp [lnK]
  | f + 1, kw, X => by
    rw [frmT, frL, List.length_map]
    split
    · rw [ByteArray.data_append, Array.toList_append, lineB_by, frmT_by f kMo (X.drop 20), List.map_drop]; rfl
    · rw [lineB_by]; simp [lnK]
theorem frmN_by (o : SpO) (r : RgV) : (frmN o r).map (·.data.toList) = nmL (SNb o) (CNb o) r.v := by
  unfold frmN nmL RgV.v SNb CNb; rw [List.map_append, List.map_map, List.map_map]
  have key : ∀ (l : List ByteArray) (i : Nat), (l[i]?.getD ⟨#[]⟩).data.toList = (l.map (·.data.toList))[i]?.getD [] := fun l i => by
    rw [List.getElem?_map]
    cases l[i]? <;> rfl
  congr 1
  · exact List.map_congr_left fun i _ => key _ _
  · exact List.map_congr_left fun i _ => key _ _
theorem prtX_by (o : SpO) : ∀ L : List RgV, (prtX o L).data.toList = lnK (prL (SNb o) (CNb o) (L.map RgV.v)) := by
  intro L
  have key : ∀ (L : List RgV) (s : ByteArray), (L.foldl (fun s r => s ++ frmX o r) s).data.toList = s.data.toList ++ lnK (prL (SNb o) (CNb o) (L.map RgV.v)) := by
    intro L
    induction L with
    | nil => intro s; simp [prL, lnK]
    | cons r L ih =>
      intro s; rw [List.foldl_cons, ih, ByteArray.data_append, Array.toList_append, List.map_cons]; have e : prL (SNb o) (CNb o) (r.v :: L.map RgV.v) = frL 5 kF (nmL (SNb o) (CNb o) r.v) ++ prL (SNb o) (CNb o) (L.map RgV.v) := (by simp [prL]); rw [e, lnK_app]
      have e2 : (frmX o r).data.toList = lnK (frL 5 kF (nmL (SNb o) (CNb o) r.v)) := by
        unfold frmX; rw [frmT_by, frmN_by]; rfl
      rw [e2, List.append_assoc]
  unfold prtX; rw [key]; rfl
end Go.Proofs.YtabkpbbjodfolaaGreatDoor
