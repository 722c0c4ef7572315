/- Plain law: the reference's error of a specification is that of the program. No program in sight. -/
import Derived.Test.YtabkpbbjodfolaaGreatDoorZvK
import Derived.Test.YtabkpbbjodfolaaGreatDoorZvB
import Derived.Test.YtabkpbbjodfolaaGreatDoorZvE
import Derived.Test.YtabkpbbjodfolaaGreatDoorZvM
import Derived.Sort.OwnSortedInts
namespace Go.Proofs.YtabkpbbjodfolaaGreatDoor
set_option linter.unusedSimpArgs false
open Go.RowKit
set_option linter.unusedVariables false
def KK (k nm : ByteArray) : List UInt8 := (keyN k nm).data.toList
theorem KK_eq (k nm : ByteArray) : KK k nm = k.data.toList ++ 32 :: nm.data.toList := by
  unfold KK keyN; simp
theorem KK_inj {k a b : ByteArray} (h : KK k a = KK k b) : a = b := by
  rw [KK_eq, KK_eq] at h; have h1 := List.append_cancel_left h; injection h1 with _ h2
  exact ByteArray.ext (Array.toList_inj.1 h2)
theorem split32 {a a' b b' : List UInt8} (ha : ∀ x ∈ a, x ≠ 32) (ha' : ∀ x ∈ a', x ≠ 32) (h : a ++ 32 :: b = a' ++ 32 :: b') : a = a' ∧ b = b' := by
  induction a generalizing a' with
  | nil =>
    cases a' with
    | nil => injection h with _ h2; exact ⟨rfl, h2⟩
    | cons y a' => injection h with h1 _; exact absurd h1.symm (ha' y List.mem_cons_self)
  | cons x a ih =>
    cases a' with
    | nil => injection h with h1 _; exact absurd h1 (ha x List.mem_cons_self)
    | cons y a' =>
      injection h with h1 h2
      obtain ⟨r1, r2⟩ := ih (fun z hz => ha z (List.mem_cons_of_mem _ hz)) (fun z hz => ha' z (List.mem_cons_of_mem _ hz)) h2; exact ⟨by rw [h1, r1], r2⟩
theorem runE_fst {α : Type} {f : Keys → α → Int} {g : Keys → α → Keys} {R : Nat → Int} {I : Nat → Keys → Prop} {L : List α} (hs : ∀ i x l, L[i]? = some x → I i l → f l x = R i ∧ (R i = 0 → I (i + 1) (g l x))) :
    ∀ (n i : Nat) (l : Keys), L.length = i + n → I i l → (runE f g (L.drop i) l).1 = fstE R n i ∧ (fstE R n i = 0 → I (i + n) (runE f g (L.drop i) l).2)
  | 0, i, l, hn, hI => by
    rw [List.drop_eq_nil_of_le (by omega)]; exact ⟨rfl, fun _ => hI⟩
  | n+1, i, l, hn, hI => by
    have hi : i < L.length := (by omega); rw [List.drop_eq_getElem_cons hi, runE, fstE]; obtain ⟨h1, h2⟩ := hs i L[i] l (List.getElem?_eq_getElem hi) hI; rw [h1]
    by_cases h0 : R i = 0
    · rw [if_pos h0, if_pos h0, show i + (n + 1) = i + 1 + n by omega]; exact runE_fst hs n (i + 1) _ (by omega) (h2 h0)
    · rw [if_neg h0, if_neg h0]; exact ⟨rfl, fun h => absurd h h0⟩
def KInv {α : Type} (B : List UInt8 → Prop) (K : α → List UInt8) (L : List α) (i : Nat) (l : Keys) : Prop := ∀ key, key ∈ l ↔ B key ∨ ∃ y ∈ L.take i, key = K y
theorem KInv.step {α : Type} {B : List UInt8 → Prop} {K : α → List UInt8} {L : List α} {i : Nat} {l : Keys} {x : α} (h : KInv B K L i l) (hx : L[i]? = some x) : KInv B K L (i + 1) (K x :: l) := fun key => by
  rw [List.mem_cons, h key, List.take_add_one, hx]; constructor
  · rintro (rfl | h1 | ⟨y, hy, rfl⟩)
    · exact .inr ⟨x, by simp, rfl⟩
    · exact .inl h1
    · exact .inr ⟨y, by simp [hy], rfl⟩
  · rintro (h1 | ⟨y, hy, rfl⟩)
    · exact .inr (.inl h1)
    · rcases List.mem_append.1 hy with hy | hy
      · exact .inr (.inr ⟨y, hy, rfl⟩)
      · have : y = x := (by simpa using hy); rw [this]; exact .inl rfl
theorem KInv.mem {α : Type} {B : List UInt8 → Prop} {K : α → List UInt8} {L : List α} {i : Nat} {l : Keys} (h : KInv B K L i l) {key : List UInt8} (hB : ¬ B key) : key ∈ l ↔ ∃ y ∈ L.take i, K y = key := by
  rw [h key]; constructor
  · rintro (h1 | ⟨y, hy, e⟩)
    · exact absurd h1 hB
    · exact ⟨y, hy, e.symm⟩
  · rintro ⟨y, hy, e⟩; exact .inr ⟨y, hy, e.symm⟩
theorem KInv.next {α β : Type} {B : List UInt8 → Prop} {K : α → List UInt8} {L : List α} {l : Keys} {n : Nat} (h : KInv B K L n l) (hn : L.length ≤ n) (K2 : β → List UInt8) (M : List β) : KInv (fun key => B key ∨ ∃ y ∈ L, key = K y) K2 M 0 l := fun key => by
  rw [h key, List.take_of_length_le hn, List.take_zero]; constructor
  · exact fun h => .inl h
  · rintro (h1 | ⟨y, hy, _⟩)
    · exact h1
    · cases hy
def twB {α : Type} (p : α → Bool) (L : List α) (i : Nat) : Bool := (L.take i).any p
theorem twB_iff {α : Type} {p : α → Bool} {L : List α} {i : Nat} : twB p L i = true ↔ ∃ y ∈ L.take i, p y = true := List.any_eq_true
theorem twB_succ {α : Type} {p : α → Bool} {L : List α} {i : Nat} {x : α} (hx : L[i]? = some x) : twB p L (i + 1) = (twB p L i || p x) := by
  unfold twB; rw [List.take_add_one, hx, List.any_append]; simp
def rdvE (o : SpO) (i : Nat) : Int :=
  let x := o.ds[i]?.getD dv0
  if nmB x.nm = true then (if twB (fun y => decide (y.nm = x.nm)) o.ds i = true then 8 else if wiB x.lo 0 127 && wiB x.hi x.lo (min 127 (x.lo + 60)) then 0 else 7) else 6
def rrkE (o : SpO) (i : Nat) : Int :=
  let x := o.rs[i]?.getD rn0
  if nmB x.nm = true then (if twB (fun y => decide (y.nm = x.nm)) o.rs i = true then 8 else if wiB x.kd 1 4 && decide (vF x.fn x.fd) then (if wiB x.ct 1 97 && wiB x.lo 0 (128 - x.ct) then 0 else 7) else 2) else 6
def st0 : SpV := ⟨⟨#[]⟩, 0, 0, 0, none, 0, 0, []⟩
def cp0 : CpV := ⟨⟨#[]⟩, 0, 0, 0, 0, false⟩
def rstE (o : SpO) (i : Nat) : Int :=
  let x := o.ss[i]?.getD st0
  if nmB x.nm = false then 6 else if wiB x.dv 0 ((o.n1 : Int) - 1) = false then 4
  else if twB (fun y => decide (y.dv = x.dv) && decide (y.nm = x.nm)) o.ss i = true then 8 else if decide (vF x.fn x.fd) = false ∨ x.n = 0 then 2 else if 12 < x.n then 3 else 0
def pr0 : PrV := ⟨0, 0, 0, 0⟩
def rsaE (o : SpO) (i : Nat) : Int :=
  let x := o.ss[i]?.getD st0
  if rstE o i = 0 then fstE (fun k => prtE o.rs (o.ds[x.dv.toNat]?.getD dv0) (x.ps[k]?.getD pr0)) x.ps.length 0 else rstE o i
def rcpE (o : SpO) (i : Nat) : Int :=
  let x := o.cs[i]?.getD cp0
  if nmB x.nm = true then (if twB (fun y => decide (y.nm = x.nm)) o.cs i = true then 8 else if wiB x.fr 0 ((o.n1 : Int) - 1) && wiB x.tt 0 ((o.n1 : Int) - 1) then
    (if ((x.sh == -12) || ((x.sh == 12) || ((x.sh == 0) && (x.fr != x.tt)))) && (wiB x.on 0 2 && !(x.th && (x.on != 0))) then 0 else 2) else 4) else 6
def refE (o : SpO) : Int :=
  if 6 < o.n1 ∨ 40 < o.n2 ∨ 80 < o.n3 ∨ 24 < o.n4 then 3
  else if fstE (rdvE o) o.n1 0 = 0 then (if fstE (rrkE o) o.n2 0 = 0 then (if fstE (rsaE o) o.n3 0 = 0 then fstE (rcpE o) o.n4 0 else fstE (rsaE o) o.n3 0) else fstE (rrkE o) o.n2 0) else fstE (rdvE o) o.n1 0
theorem nmd_eq {α : Type} {B : List UInt8 → Prop} {K : α → List UInt8} {L : List α} {i : Nat} {l : Keys} (h : KInv B K L i l) {k nm : ByteArray} (hB : ¬ B (KK k nm)) {p : α → Bool} (hp : nmB nm = true → ∀ y ∈ L.take i, K y = KK k nm ↔ p y = true) :
    nmdE l k nm = (if nmB nm = true then (if twB p L i = true then 8 else 0) else 6) := by
  unfold nmdE
  by_cases hn : nmB nm = true
  · rw [if_pos hn, if_pos hn]
    have : (keyN k nm).data.toList ∈ l ↔ twB p L i = true := by
      rw [twB_iff]; refine (h.mem (key := KK k nm) hB).trans ⟨?_, ?_⟩
      · rintro ⟨y, hy, e⟩; exact ⟨y, hy, (hp hn y hy).1 e⟩
      · rintro ⟨y, hy, e⟩; exact ⟨y, hy, (hp hn y hy).2 e⟩
    by_cases hm : twB p L i = true
    · rw [if_pos hm, if_pos (this.2 hm)]
    · rw [if_neg hm, if_neg (fun hh => hm (this.1 hh))]
  · rw [if_neg hn, if_neg hn]
theorem nmd_next {α : Type} {B : List UInt8 → Prop} {K : α → List UInt8} {L : List α} {i : Nat} {l : Keys} (h : KInv B K L i l) {k nm : ByteArray} {x : α} (hx : L[i]? = some x) (hK : K x = KK k nm) (h0 : nmdE l k nm = 0) : KInv B K L (i + 1) (nmdL l k nm) := by
  unfold nmdE at h0
  have hn : nmB nm = true := by
    by_cases hn : nmB nm = true
    · exact hn
    · rw [if_neg hn] at h0; cases h0
  rw [if_pos hn] at h0; have hm : (keyN k nm).data.toList ∉ l := fun hm => by rw [if_pos hm] at h0; cases h0
  unfold nmdL; rw [if_pos ⟨hn, hm⟩]; have := h.step hx
  rwa [hK] at this
theorem dec1 {n : Nat} (h : n < 10) : Lib.decDigits n = [UInt8.ofNat (48 + n)] := by rw [Lib.decDigits, dif_pos h]
theorem dig_no32 {n : Nat} (h : n < 10) : ∀ x ∈ Lib.decDigits n, x ≠ 32 := by
  rw [dec1 h]; intro x hx; have : x = UInt8.ofNat (48 + n) := (by simpa using hx); subst this; have : ∀ n : Nat, n < 10 → UInt8.ofNat (48 + n) ≠ 32 := (by decide); exact this n h
theorem dec_inj {n m : Nat} (h : n < 10) (h' : m < 10) (e : Lib.decDigits n = Lib.decDigits m) : n = m := by
  rw [dec1 h, dec1 h'] at e; injection e with e _
  have : ∀ n : Nat, n < 10 → ∀ m : Nat, m < 10 → UInt8.ofNat (48 + n) = UInt8.ofNat (48 + m) → n = m := (by decide); exact this n h m h' e
theorem kSt_eq (d : Int) : (kSt d).data.toList = [115, 116, 111, 112, 32] ++ Lib.decDigits d.toNat := by
  unfold kSt; simp
theorem KSt_inj {d d' : Int} {a b : ByteArray} (ha : nmB a = true) (hb : nmB b = true) (hd : 0 ≤ d ∧ d < 10) (hd' : 0 ≤ d' ∧ d' < 10) (h : KK (kSt d) a = KK (kSt d') b) : d = d' ∧ a = b := by
  rw [KK_eq, KK_eq, kSt_eq, kSt_eq, List.append_assoc, List.append_assoc] at h; obtain ⟨h1, h2⟩ := split32 (dig_no32 (by omega)) (dig_no32 (by omega)) (List.append_cancel_left h); have := dec_inj (by omega) (by omega) h1; exact ⟨by omega, ByteArray.ext (Array.toList_inj.1 h2)⟩
theorem KK_ne {k k' a b : ByteArray} (h : k.data.toList.head? ≠ k'.data.toList.head?) (h1 : k.data.toList ≠ []) (h2 : k'.data.toList ≠ []) : KK k a ≠ KK k' b := fun e => by
  rw [KK_eq, KK_eq] at e; have := congrArg List.head? e; obtain ⟨x, l, hx⟩ := List.exists_cons_of_ne_nil h1; obtain ⟨y, m, hy⟩ := List.exists_cons_of_ne_nil h2; rw [hx, hy] at this h; exact h this
theorem KSt_ne {k a b : ByteArray} (d : Int) (h : k.data.toList.head? ≠ some 115) (h1 : k.data.toList ≠ []) : KK k a ≠ KK (kSt d) b :=
  KK_ne (by rw [kSt_eq]; exact h) h1 (by rw [kSt_eq]; simp)
theorem wi_iff {a b c : Int} : wiB a b c = true ↔ b ≤ a ∧ a ≤ c := by
  unfold wiB; simp
def BD0 : List UInt8 → Prop := fun _ => False
def KD (y : DvV) : List UInt8 := KK kDv y.nm
def KR (y : RnV) : List UInt8 := KK kRn y.nm
def KS (y : SpV) : List UInt8 := KK (kSt y.dv) y.nm
def KC (y : CpV) : List UInt8 := KK kCp y.nm
def BR (o : SpO) : List UInt8 → Prop := fun key => BD0 key ∨ ∃ y ∈ o.ds, key = KD y
def BS (o : SpO) : List UInt8 → Prop := fun key => BR o key ∨ ∃ y ∈ o.rs, key = KR y
def BC (o : SpO) : List UInt8 → Prop := fun key => BS o key ∨ ∃ y ∈ o.ss, key = KS y
theorem BR_rn (o : SpO) (a : ByteArray) : ¬ BR o (KK kRn a) := by
  rintro (h | ⟨y, _, h⟩)
  · exact h
  · exact KK_ne (by decide) (by decide) (by decide) h
theorem BS_st (o : SpO) (d : Int) (a : ByteArray) : ¬ BS o (KK (kSt d) a) := by
  rintro ((h | ⟨y, _, h⟩) | ⟨y, _, h⟩)
  · exact h
  · exact KSt_ne d (by decide) (by decide) h.symm
  · exact KSt_ne d (by decide) (by decide) h.symm
theorem BC_cp (o : SpO) (a : ByteArray) : ¬ BC o (KK kCp a) := by
  rintro (((h | ⟨y, _, h⟩) | ⟨y, _, h⟩) | ⟨y, _, h⟩)
  · exact h
  · exact KK_ne (by decide) (by decide) (by decide) h
  · exact KK_ne (by decide) (by decide) (by decide) h
  · exact KSt_ne y.dv (by decide) (by decide) h
theorem ds_run (o : SpO) (h1 : o.ds.length = o.n1) : (runE divE divL o.ds []).1 = fstE (rdvE o) o.n1 0 ∧ (fstE (rdvE o) o.n1 0 = 0 → KInv (BR o) KR o.rs 0 (runE divE divL o.ds []).2) := by
  have hh := runE_fst (f := divE) (g := divL) (R := rdvE o) (I := fun i l => KInv BD0 KD o.ds i l) (L := o.ds) (fun i x l hx hI => by
    have hR : rdvE o i = if nmB x.nm = true then (if twB (fun y => decide (y.nm = x.nm)) o.ds i = true then 8 else if wiB x.lo 0 127 && wiB x.hi x.lo (min 127 (x.lo + 60)) then 0 else 7) else 6 := (by unfold rdvE; rw [hx]; rfl)
    have hE : divE l x = if nmdE l kDv x.nm = 0 then (if wiB x.lo 0 127 && wiB x.hi x.lo (min 127 (x.lo + 60)) then 0 else 7) else nmdE l kDv x.nm := rfl
    have hN := nmd_eq hI (k := kDv) (nm := x.nm) (fun h => h) (p := fun y => decide (y.nm = x.nm)) (fun _ y _ => by
      rw [decide_eq_true_iff]
      exact ⟨fun h => KK_inj h, fun h => by unfold KD; rw [h]⟩)
    have hEq : divE l x = rdvE o i := by
      rw [hE, hR, hN]
      by_cases a1 : nmB x.nm = true
      · rw [if_pos a1]
        by_cases a2 : twB (fun y => decide (y.nm = x.nm)) o.ds i = true
        · rw [if_pos a2, if_pos a1, if_pos a2]; rfl
        · rw [if_neg a2, if_pos a1, if_neg a2]; rfl
      · rw [if_neg a1, if_neg a1]; rfl
    refine ⟨hEq, fun h0 => nmd_next hI hx rfl ?_⟩; rw [← hEq, hE] at h0
    by_cases a3 : nmdE l kDv x.nm = 0
    · exact a3
    · rw [if_neg a3] at h0; exact h0) o.n1 0 [] (by omega) (fun key => by simp [BD0])
  rw [List.drop_zero, Nat.zero_add] at hh; exact ⟨hh.1, fun h0 => (hh.2 h0).next (by omega) KR o.rs⟩
theorem rs_run (o : SpO) (h2 : o.rs.length = o.n2) {l : Keys} (hl : KInv (BR o) KR o.rs 0 l) : (runE rnkE rnkL o.rs l).1 = fstE (rrkE o) o.n2 0 ∧ (fstE (rrkE o) o.n2 0 = 0 → KInv (BS o) KS o.ss 0 (runE rnkE rnkL o.rs l).2) := by
  have hh := runE_fst (f := rnkE) (g := rnkL) (R := rrkE o) (I := fun i l => KInv (BR o) KR o.rs i l) (L := o.rs) (fun i x l hx hI => by
    have hR : rrkE o i = if nmB x.nm = true then (if twB (fun y => decide (y.nm = x.nm)) o.rs i = true then 8 else if wiB x.kd 1 4 && decide (vF x.fn x.fd) then (if wiB x.ct 1 97 && wiB x.lo 0 (128 - x.ct) then 0 else 7) else 2) else 6 := (by unfold rrkE; rw [hx]; rfl)
    have hE : rnkE l x = if nmdE l kRn x.nm = 0 then (if wiB x.kd 1 4 && decide (vF x.fn x.fd) then (if wiB x.ct 1 97 && wiB x.lo 0 (128 - x.ct) then 0 else 7) else 2) else nmdE l kRn x.nm := rfl
    have hN := nmd_eq hI (k := kRn) (nm := x.nm) (BR_rn o _) (p := fun y => decide (y.nm = x.nm)) (fun _ y _ => by
      rw [decide_eq_true_iff]
      exact ⟨fun h => KK_inj h, fun h => by unfold KR; rw [h]⟩)
    have hEq : rnkE l x = rrkE o i := by
      rw [hE, hR, hN]
      by_cases a1 : nmB x.nm = true
      · rw [if_pos a1]
        by_cases a2 : twB (fun y => decide (y.nm = x.nm)) o.rs i = true
        · rw [if_pos a2, if_pos a1, if_pos a2]; rfl
        · rw [if_neg a2, if_pos a1, if_neg a2]; rfl
      · rw [if_neg a1, if_neg a1]; rfl
    refine ⟨hEq, fun h0 => nmd_next hI hx rfl ?_⟩; rw [← hEq, hE] at h0
    by_cases a3 : nmdE l kRn x.nm = 0
    · exact a3
    · rw [if_neg a3] at h0; exact h0) o.n2 0 l (by omega) hl
  rw [List.drop_zero, Nat.zero_add] at hh; exact ⟨hh.1, fun h0 => (hh.2 h0).next (by omega) KS o.ss⟩
theorem parts_run (rs : List RnV) (d : DvV) (ps : List PrV) (l : Keys) : (runE (fun _ p => prtE rs d p) (fun l _ => l) ps l).1 = fstE (fun k => prtE rs d (ps[k]?.getD pr0)) ps.length 0 := by
  have hh := runE_fst (f := fun (_ : Keys) p => prtE rs d p) (g := fun l _ => l) (R := fun k => prtE rs d (ps[k]?.getD pr0)) (I := fun _ _ => True) (L := ps) (fun i x l hx _ => ⟨by rw [hx]; rfl, fun _ => trivial⟩) ps.length 0 l (by omega) trivial; rw [List.drop_zero] at hh; exact hh.1
def stV1 (o : SpO) (y : SpV) : Prop := nmB y.nm = true ∧ wiB y.dv 0 ((o.n1 : Int) - 1) = true
theorem ss_run (o : SpO) (h1 : o.n1 ≤ 6) (h3 : o.ss.length = o.n3) {l : Keys} (hl : KInv (BS o) KS o.ss 0 l) : (runE (stpsE o) (stpL o.n1) o.ss l).1 = fstE (rsaE o) o.n3 0 ∧ (fstE (rsaE o) o.n3 0 = 0 → KInv (BC o) KC o.cs 0 (runE (stpsE o) (stpL o.n1) o.ss l).2) := by
  have hh := runE_fst (f := stpsE o) (g := stpL o.n1) (R := rsaE o) (I := fun i l => KInv (BS o) KS o.ss i l ∧ ∀ y ∈ o.ss.take i, stV1 o y) (L := o.ss) (fun i x l hx hI => by
    obtain ⟨hI, hV⟩ := hI; have hR : rstE o i = if nmB x.nm = false then 6 else if wiB x.dv 0 ((o.n1 : Int) - 1) = false then 4 else if twB (fun y => decide (y.dv = x.dv) && decide (y.nm = x.nm)) o.ss i = true then 8 else if decide (vF x.fn x.fd) = false ∨ x.n = 0 then 2 else if 12 < x.n then 3 else 0 := (by unfold rstE; rw [hx]; rfl)
    have hRA : rsaE o i = if rstE o i = 0 then fstE (fun k => prtE o.rs (o.ds[x.dv.toNat]?.getD dv0) (x.ps[k]?.getD pr0)) x.ps.length 0 else rstE o i := (by unfold rsaE; rw [hx]; rfl)
    have hE : stpE o.n1 l x = if nmB x.nm = false then 6 else if wiB x.dv 0 ((o.n1 : Int) - 1) = false then 4 else if nmdE l (kSt x.dv) x.nm = 0 then (if decide (vF x.fn x.fd) = false ∨ x.n = 0 then 2 else if 12 < x.n then 3 else 0) else nmdE l (kSt x.dv) x.nm := rfl
    have hEA : stpsE o l x = if stpE o.n1 l x = 0 then (runE (fun _ p => prtE o.rs (o.ds[x.dv.toNat]?.getD dv0) p) (fun l _ => l) x.ps l).1 else stpE o.n1 l x := rfl
    have hL : stpL o.n1 l x = if nmB x.nm = false then l else if wiB x.dv 0 ((o.n1 : Int) - 1) = false then l else nmdL l (kSt x.dv) x.nm := rfl
    have hEq : stpE o.n1 l x = rstE o i := by
      rw [hE, hR]
      by_cases a0 : nmB x.nm = false
      · rw [if_pos a0, if_pos a0]
      have a0' : nmB x.nm = true := (by simpa using a0); rw [if_neg a0, if_neg a0]
      by_cases b0 : wiB x.dv 0 ((o.n1 : Int) - 1) = false
      · rw [if_pos b0, if_pos b0]
      have b0' : wiB x.dv 0 ((o.n1 : Int) - 1) = true := (by simpa using b0); rw [if_neg b0, if_neg b0]
      have hN := nmd_eq hI (k := kSt x.dv) (nm := x.nm) (BS_st o _ _) (p := fun y => decide (y.dv = x.dv) && decide (y.nm = x.nm)) (fun _ y hy => by
        rw [Bool.and_eq_true, decide_eq_true_iff, decide_eq_true_iff]; obtain ⟨v1, v2⟩ := hV y hy; have w1 := wi_iff.1 v2; have w2 := wi_iff.1 b0'
        exact ⟨fun h => KSt_inj v1 a0' (by omega) (by omega) h, fun h => by unfold KS; rw [h.1, h.2]⟩)
      rw [hN, if_pos a0']
      by_cases a2 : twB (fun y => decide (y.dv = x.dv) && decide (y.nm = x.nm)) o.ss i = true
      · rw [if_pos a2, if_pos a2]; rfl
      · rw [if_neg a2, if_neg a2]; rfl
    have hEqA : stpsE o l x = rsaE o i := (by rw [hEA, hRA, hEq, parts_run]); refine ⟨hEqA, fun h0 => ?_⟩; rw [hRA] at h0
    have h0 : stpE o.n1 l x = 0 := by
      rw [hEq]
      by_cases a3 : rstE o i = 0
      · exact a3
      · rw [if_neg a3] at h0; exact absurd h0 a3
    rw [hE] at h0
    by_cases a0 : nmB x.nm = false
    · rw [if_pos a0] at h0; cases h0
    rw [if_neg a0] at h0
    by_cases b0 : wiB x.dv 0 ((o.n1 : Int) - 1) = false
    · rw [if_pos b0] at h0; cases h0
    rw [if_neg b0] at h0
    have h00 : nmdE l (kSt x.dv) x.nm = 0 := by
      by_cases a3 : nmdE l (kSt x.dv) x.nm = 0
      · exact a3
      · rw [if_neg a3] at h0; exact absurd h0 a3
    rw [hL, if_neg a0, if_neg b0]; refine ⟨nmd_next hI hx rfl h00, fun y hy => ?_⟩; rw [List.take_add_one, hx] at hy; rcases List.mem_append.1 hy with hy | hy
    · exact hV y hy
    · have : y = x := (by simpa using hy); rw [this]
      exact ⟨by simpa using a0, by simpa using b0⟩) o.n3 0 l (by omega) ⟨hl, fun y hy => by rw [List.take_zero] at hy; cases hy⟩
  rw [List.drop_zero, Nat.zero_add] at hh; exact ⟨hh.1, fun h0 => (hh.2 h0).1.next (by omega) KC o.cs⟩
theorem cs_run (o : SpO) (h4 : o.cs.length = o.n4) {l : Keys} (hl : KInv (BC o) KC o.cs 0 l) : (runE (cplE o.n1) cplL o.cs l).1 = fstE (rcpE o) o.n4 0 := by
  have hh := runE_fst (f := cplE o.n1) (g := cplL) (R := rcpE o) (I := fun i l => KInv (BC o) KC o.cs i l) (L := o.cs) (fun i x l hx hI => by
    have hN := nmd_eq hI (k := kCp) (nm := x.nm) (BC_cp o _) (p := fun y => decide (y.nm = x.nm)) (fun _ y _ => by
      rw [decide_eq_true_iff]
      exact ⟨fun h => KK_inj h, fun h => by unfold KC; rw [h]⟩)
    obtain ⟨T, hT⟩ : ∃ T : Int, (if wiB x.fr 0 ((o.n1 : Int) - 1) && wiB x.tt 0 ((o.n1 : Int) - 1) then
      (if ((x.sh == -12) || ((x.sh == 12) || ((x.sh == 0) && (x.fr != x.tt)))) && (wiB x.on 0 2 && !(x.th && (x.on != 0))) then (0 : Int) else 2) else 4) = T := ⟨_, rfl⟩
    have hR : rcpE o i = if nmB x.nm = true then (if twB (fun y => decide (y.nm = x.nm)) o.cs i = true then 8 else T) else 6 := (by unfold rcpE; rw [hx, ← hT]; rfl)
    have hE : cplE o.n1 l x = if nmdE l kCp x.nm = 0 then T else nmdE l kCp x.nm := (by rw [← hT]; rfl)
    have hEq : cplE o.n1 l x = rcpE o i := by
      rw [hE, hR, hN]
      by_cases a1 : nmB x.nm = true
      · rw [if_pos a1]
        by_cases a2 : twB (fun y => decide (y.nm = x.nm)) o.cs i = true
        · rw [if_pos a2, if_pos a1, if_pos a2]; rfl
        · rw [if_neg a2, if_pos a1, if_neg a2]; rfl
      · rw [if_neg a1, if_neg a1]; rfl
    refine ⟨hEq, fun h0 => nmd_next hI hx rfl ?_⟩; rw [← hEq, hE] at h0
    by_cases a3 : nmdE l kCp x.nm = 0
    · exact a3
    · rw [if_neg a3] at h0; exact absurd h0 a3) o.n4 0 l (by omega) hl
  rw [List.drop_zero] at hh; exact hh.1
theorem refE_specE (o : SpO) (h1 : o.ds.length = o.n1) (h2 : o.rs.length = o.n2) (h3 : o.ss.length = o.n3) (h4 : o.cs.length = o.n4) : refE o = specE o := by
  unfold refE specE
  by_cases hb : 6 < o.n1 ∨ 40 < o.n2 ∨ 80 < o.n3 ∨ 24 < o.n4
  · rw [if_pos hb, if_pos hb]
  rw [if_neg hb, if_neg hb]; obtain ⟨a1, a2⟩ := ds_run o h1; simp only []; rw [a1]
  by_cases c1 : fstE (rdvE o) o.n1 0 = 0
  · rw [if_pos c1, if_pos c1]; obtain ⟨b1, b2⟩ := rs_run o h2 (a2 c1); rw [b1]
    by_cases c2 : fstE (rrkE o) o.n2 0 = 0
    · rw [if_pos c2, if_pos c2]; obtain ⟨d1, d2⟩ := ss_run o (by omega) h3 (b2 c2); rw [d1]
      by_cases c3 : fstE (rsaE o) o.n3 0 = 0
      · rw [if_pos c3, if_pos c3, cs_run o h4 (d2 c3)]
      · rw [if_neg c3, if_neg c3]
    · rw [if_neg c2, if_neg c2]
  · rw [if_neg c1, if_neg c1]
end Go.Proofs.YtabkpbbjodfolaaGreatDoor
namespace Go.Proofs.YtabkpbbjodfolaaGreatDoor
set_option linter.unusedSimpArgs false
open Go.RowKit
set_option linter.unusedVariables false
def letC (b : UInt8) : Bool := (decide (65 ≤ b.toNat) && decide (b.toNat ≤ 90)) || (decide (97 ≤ b.toNat) && decide (b.toNat ≤ 122))
def okC (i : Nat) (b : UInt8) : Bool := letC b || (decide (i ≠ 0) && (decide (b.toNat = 95) || (decide (48 ≤ b.toNat) && decide (b.toNat ≤ 57))))
def nameC (s : ByteArray) : Bool := decide ((1 ≤ s.size ∧ s.size ≤ 16) ∧ ∀ i, (h : i < s.size) → okC i s[i] = true)
theorem nameC_false {s : ByteArray} {k : Nat} (hk : k < s.size) (h : okC k s[k] = false) : nameC s = false := by
  unfold nameC; rw [decide_eq_false_iff_not]; rintro ⟨_, h2⟩; rw [h2 k hk] at h
  cases h
theorem nameC_size {s : ByteArray} (h : s.size < 1 ∨ 16 < s.size) : nameC s = false := by
  unfold nameC; rw [decide_eq_false_iff_not]; rintro ⟨h1, _⟩; omega
theorem nameC_true {s : ByteArray} (h : 1 ≤ s.size ∧ s.size ≤ 16) (h2 : ∀ i, (h : i < s.size) → okC i s[i] = true) : nameC s = true := by
  unfold nameC; rw [decide_eq_true_iff]; exact ⟨h, h2⟩
theorem r1let_c (b : UInt8) (w : World) : Calls Tryz.prog 158 #[.int .u8 (b.toNat : Int)] w fun e w' => e = .returned (.bool (letC b)) ∧ w' = w := by
  by_cases h1 : 97 ≤ b.toNat
  · have b1 : decide ((97 : Int) ≤ (b.toNat : Int)) = true := (by rw [decide_eq_true_iff]; omega)
    by_cases h2 : b.toNat ≤ 122
    · have b2 : decide ((b.toNat : Int) ≤ 122) = true := (by rw [decide_eq_true_iff]; omega); have HF : Sl (letC b = true) := ⟨by unfold letC; rw [decide_eq_true h1, decide_eq_true h2]; simp⟩; clear h1 h2; go_enter Tryz.func158, Tryz.ntmps158; go_wp2_with fail; go_ret; rw [HF.out]; exact ⟨rfl, rfl⟩
    · have b2 : decide ((b.toNat : Int) ≤ 122) = false := (by rw [decide_eq_false_iff_not]; omega); have b3 : decide ((65 : Int) ≤ (b.toNat : Int)) = true := (by rw [decide_eq_true_iff]; omega); have b4 : decide ((b.toNat : Int) ≤ 90) = false := (by rw [decide_eq_false_iff_not]; omega); have HF : Sl (letC b = false) := ⟨by unfold letC; rw [decide_eq_false h2, decide_eq_false (p := b.toNat ≤ 90) (by omega)]; simp⟩; clear h1 h2; go_enter Tryz.func158, Tryz.ntmps158; go_wp2_with fail; go_ret; rw [HF.out]; exact ⟨rfl, rfl⟩
  · have b1 : decide ((97 : Int) ≤ (b.toNat : Int)) = false := (by rw [decide_eq_false_iff_not]; omega)
    by_cases h3 : 65 ≤ b.toNat
    · have b3 : decide ((65 : Int) ≤ (b.toNat : Int)) = true := (by rw [decide_eq_true_iff]; omega)
      by_cases h4 : b.toNat ≤ 90
      · have b4 : decide ((b.toNat : Int) ≤ 90) = true := (by rw [decide_eq_true_iff]; omega); have HF : Sl (letC b = true) := ⟨by unfold letC; rw [decide_eq_true h3, decide_eq_true h4]; simp⟩; clear h1 h3 h4; go_enter Tryz.func158, Tryz.ntmps158; go_wp2_with fail; go_ret; rw [HF.out]; exact ⟨rfl, rfl⟩
      · have b4 : decide ((b.toNat : Int) ≤ 90) = false := (by rw [decide_eq_false_iff_not]; omega); have HF : Sl (letC b = false) := ⟨by unfold letC; rw [decide_eq_false h4, decide_eq_false h1]; simp⟩; clear h1 h3 h4; go_enter Tryz.func158, Tryz.ntmps158; go_wp2_with fail; go_ret; rw [HF.out]; exact ⟨rfl, rfl⟩
    · have b3 : decide ((65 : Int) ≤ (b.toNat : Int)) = false := (by rw [decide_eq_false_iff_not]; omega); have HF : Sl (letC b = false) := ⟨by unfold letC; rw [decide_eq_false h3, decide_eq_false h1]; simp⟩; clear h1 h3; go_enter Tryz.func158, Tryz.ntmps158; go_wp2_with fail; go_ret; rw [HF.out]; exact ⟨rfl, rfl⟩
theorem r1dig_c (b : UInt8) (w : World) : Calls Tryz.prog 159 #[.int .u8 (b.toNat : Int)] w fun e w' => e = .returned (.bool (decide (48 ≤ b.toNat) && decide (b.toNat ≤ 57))) ∧ w' = w := by
  by_cases h : 48 ≤ b.toNat
  · have hb : decide ((48 : Int) ≤ (b.toNat : Int)) = true := (by rw [decide_eq_true_iff]; omega); go_enter Tryz.func159, Tryz.ntmps159; go_wp2_with fail; go_ret; rw [decide_eq_true h, Bool.true_and]
    by_cases h2 : b.toNat ≤ 57
    · rw [decide_eq_true h2, decide_eq_true (by omega)]; exact ⟨rfl, rfl⟩
    · rw [decide_eq_false h2, decide_eq_false (by omega)]; exact ⟨rfl, rfl⟩
  · have hb : decide ((48 : Int) ≤ (b.toNat : Int)) = false := (by rw [decide_eq_false_iff_not]; omega); go_enter Tryz.func159, Tryz.ntmps159; go_wp2_with fail; go_ret; rw [decide_eq_false h, Bool.false_and]; exact ⟨rfl, rfl⟩
set_option maxHeartbeats 1600000 in
set_option maxRecDepth 100000 in
theorem r1nam_c (s : ByteArray) (w : World) (hs : s.size ≤ maxLen) : Calls Tryz.prog 116 #[.string s] w fun e w' => e = .returned (.bool (nameC s)) ∧ Below w.heap.size w w' := by
  unfold maxLen at hs
  by_cases h1 : s.size < 1
  · have HF : Sl (nameC s = false) := ⟨nameC_size (.inl h1)⟩; go_enter Tryz.func116, Tryz.ntmps116; go_wp2_with fail; go_ret; rw [HF.out]; exact ⟨rfl, Below.refl _ _⟩
  by_cases h2 : 16 < s.size
  · have HF : Sl (nameC s = false) := ⟨nameC_size (.inr h2)⟩; go_enter Tryz.func116, Tryz.ntmps116; go_wp2_with fail; go_ret; rw [HF.out]; exact ⟨rfl, Below.refl _ _⟩
  have h0 : 0 < s.size := (by omega); have HL0 : Sl (∀ W : World, Calls Tryz.prog 158 #[.int .u8 (s[0].toNat : Int)] W fun e w' => e = .returned (.bool (letC s[0])) ∧ w' = W) := ⟨fun W => r1let_c s[0] W⟩; have HOK0 : Sl (okC 0 s[0] = letC s[0]) := ⟨by unfold okC; simp⟩; have HF0 : Sl (okC 0 s[0] = false → nameC s = false) := ⟨fun h => nameC_false h0 h⟩; generalize hL : letC s[0] = L at *
  go_enter Tryz.func116, Tryz.ntmps116; go_wp2_with fail; refine (HL0.out _).mono ?_; rintro e w1 ⟨rfl, rfl⟩
  cases L
  · have HF : Sl _ := ⟨HF0.out HOK0.out⟩; clear HF0 HOK0 hL; go_wp2_with fail; go_ret; rw [HF.out]; exact ⟨rfl, Below.refl _ _⟩
  have HLT : Sl (letC s[0] = true) := ⟨hL⟩; clear hL HF0 HOK0 HL0; go_wp2_with fail
  go_loopw [3] (fun s3 wr => ∃ k : Nat, k ≤ s.size ∧ s3 = .int .i64 k ∧ Sl (∀ i, (h : i < s.size) → i < k → okC i s[i] = true) ∧ Below w1.heap.size w1 wr) (fun s3 _ => s.size - (RowKit.intOf s3).toNat)
  case atStart => exact ⟨0, Nat.zero_le _, rfl, ⟨fun i _ h => absurd h (Nat.not_lt_zero _)⟩, Below.refl _ _⟩
  case round =>
    obtain ⟨k, hk, rfl, HV, hB⟩ := hrel
    by_cases hlt : k < s.size
    · have HL : Sl (∀ W : World, Calls Tryz.prog 158 #[.int .u8 (s[k].toNat : Int)] W fun e w' => e = .returned (.bool (letC s[k])) ∧ w' = W) := ⟨fun W => r1let_c s[k] W⟩; have HD : Sl (∀ W : World, Calls Tryz.prog 159 #[.int .u8 (s[k].toNat : Int)] W fun e w' => e = .returned (.bool (decide (48 ≤ s[k].toNat) && decide (s[k].toNat ≤ 57))) ∧ w' = W) := ⟨fun W => r1dig_c s[k] W⟩; have hb8 : (s[k].toNat : Int) < 256 := (by have := s[k].toNat_lt; omega); have HOK : Sl (okC k s[k] = (letC s[k] || (decide (k ≠ 0) && (decide (s[k].toNat = 95) || (decide (48 ≤ s[k].toNat) && decide (s[k].toNat ≤ 57)))))) := ⟨rfl⟩
      have HNX : Sl (okC k s[k] = true → ∀ i, (h : i < s.size) → i < k + 1 → okC i s[i] = true) := ⟨fun h i hi h2 => by
        rcases Nat.lt_or_ge i k with g | g
        · exact HV.out i hi g
        · obtain rfl : i = k := (by omega)
          exact h⟩
      have HNF : Sl (okC k s[k] = false → nameC s = false) := ⟨fun h => nameC_false hlt h⟩; have HK0 : Sl (letC s[k] = false → k ≠ 0) := ⟨fun h h2 => by subst h2; rw [HLT.out] at h; cases h⟩; clear HV; generalize hL : letC s[k] = L at *
      generalize (decide (48 ≤ s[k].toNat) && decide (s[k].toNat ≤ 57)) = D at *
      clear hL; go_wp2_with fail; refine (HL.out _).mono ?_; rintro e w2 ⟨rfl, rfl⟩
      cases L
      · have h0 := HK0.out rfl; clear HK0
        cases D
        · by_cases h5 : s[k].toNat = 95
          · have hT := HNX.out (by rw [HOK.out, decide_eq_true h0, decide_eq_true h5]; rfl); have HT : Sl _ := ⟨hT⟩; have h95 : ((s[k].toNat : Int) != 95) = false := (by rw [bne_eq_false_iff_eq]; omega); clear hT HNF HNX HOK h5; go_wp2_with fail; refine (HD.out _).mono ?_; rintro e w3 ⟨rfl, rfl⟩; go_wp2_with fail; exact ⟨⟨k + 1, hlt, by go_num, HT, hB⟩, by simp [RowKit.intOf]; try omega⟩
          · have h95 : ((s[k].toNat : Int) != 95) = true := (by rw [bne_iff_ne]; omega); have HF := HNF.out (by rw [HOK.out, decide_eq_false h5, Bool.or_false, Bool.and_false]; rfl); have HFS : Sl _ := ⟨HF⟩; clear HF HNF HNX HOK h5; go_wp2_with fail; refine (HD.out _).mono ?_; rintro e w3 ⟨rfl, rfl⟩; go_wp2_with fail; go_ret; rw [HFS.out]; exact ⟨rfl, hB⟩
        · have hT := HNX.out (by rw [HOK.out, decide_eq_true h0, Bool.or_true]; rfl); have HT : Sl _ := ⟨hT⟩; clear hT HNF HNX HOK; go_wp2_with fail; refine (HD.out _).mono ?_; rintro e w3 ⟨rfl, rfl⟩; go_wp2_with fail; exact ⟨⟨k + 1, hlt, by go_num, HT, hB⟩, by simp [RowKit.intOf]; try omega⟩
      · have hT := HNX.out (by rw [HOK.out]; rfl); have HT : Sl _ := ⟨hT⟩; clear hT HNF HNX HOK HK0; go_wp2_with fail; exact ⟨⟨k + 1, hlt, by go_num, HT, hB⟩, by simp [RowKit.intOf]; try omega⟩
    · have hke : k = s.size := (by omega); have HF : Sl (nameC s = true) := ⟨nameC_true ⟨by omega, by omega⟩ fun i hi => HV.out i hi (by omega)⟩; clear HV; go_wp2_with fail; go_ret; rw [HF.out]; exact ⟨rfl, hB⟩
theorem letC_ltrI (b : UInt8) : letC b = ltrI (b.toNat : Int) := by
  have : ∀ n : Nat, n < 256 → ((decide (65 ≤ n) && decide (n ≤ 90)) || (decide (97 ≤ n) && decide (n ≤ 122))) = ltrI (n : Int) := (by decide +kernel); exact this b.toNat b.toNat_lt
theorem okC_nmC (i : Nat) (b : UInt8) : okC i b = nmC i (b.toNat : Int) := by
  have hd : (decide (48 ≤ b.toNat) && decide (b.toNat ≤ 57)) = digI (b.toNat : Int) := by
    have : ∀ n : Nat, n < 256 → (decide (48 ≤ n) && decide (n ≤ 57)) = digI (n : Int) := (by decide +kernel); exact this b.toNat b.toNat_lt
  have h5 : decide (b.toNat = 95) = decide ((b.toNat : Int) = 95) := decide_eq_decide.2 (by omega); unfold okC nmC; rw [letC_ltrI, hd, h5]; simp
theorem nameC_nmB (s : ByteArray) : nameC s = nmB s := by
  by_cases h : ∀ i, (h : i < s.size) → okC i s[i] = true
  · rw [nm_end fun k hk => by rw [← okC_nmC]; exact h k hk]; unfold nameC; rw [← Bool.decide_and]; exact decide_eq_decide.2 ⟨fun h1 => h1.1, fun h1 => ⟨h1, h⟩⟩
  · have h2 : ∃ i, ∃ h : i < s.size, okC i s[i] = false := by
      refine Classical.byContradiction fun hn => h fun i hi => ?_
      cases hc : okC i s[i] with
      | true => rfl
      | false => exact absurd ⟨i, hi, hc⟩ hn
    obtain ⟨i, hi, hc⟩ := h2; rw [nameC_false hi hc, nm_bad hi (by rw [← okC_nmC]; exact hc)]
theorem rname_any (s : ByteArray) (w : World) (hs : s.size ≤ maxLen) : Calls Tryz.prog 116 #[.string s] w fun e w' => e = .returned (.bool (nmB s)) ∧ Below w.heap.size w w' := by
  rw [← nameC_nmB]; exact r1nam_c s w hs
end Go.Proofs.YtabkpbbjodfolaaGreatDoor
namespace Go.Proofs.YtabkpbbjodfolaaGreatDoor
set_option linter.unusedSimpArgs false
open Go.RowKit
set_option linter.unusedVariables false
theorem grown_of_mv {w w' : World} {g : Nat} (hm : Mv g w w') : w.grownBy w' (some g) := ⟨hm.os, hm.tape, hm.output, hm.size, fun k hk hne => hm.block k hk (fun e => hne (by rw [e]))⟩
theorem grown_of_below {w w' : World} {row : Option Nat} (hb : Below w.heap.size w w') : w.grownBy w' row := ⟨hb.os, hb.tape, hb.output, hb.size, fun k hk _ => hb.block k hk⟩
theorem below_grown {B : Nat} {w0 w w' : World} {row : Option Nat} (h : Below B w0 w) (hg : w.grownBy w' row) (hB : B ≤ w.heap.size) (hr : ∀ k, row = some k → B ≤ k) : Below B w0 w' := by
  obtain ⟨h1, h2, h3, h4, h5⟩ := hg; exact ⟨h1.trans h.os, h2.trans h.tape, h3.trans h.output, Nat.le_trans h.size h4, fun k hk => (h5 k (by omega) (fun e => by have := hr k e.symm; omega)).trans (h.block k hk)⟩
theorem blk_grown {w w' : World} {row : Option Nat} {g : Nat} {t : TypeId} {cs : Array Value} (h : Blk w g t cs) (hg : w.grownBy w' row) (hne : row ≠ some g) : Blk w' g t cs := (hg.block g h.lt (fun e => hne e.symm)).trans h
theorem Lg.grown {b w w' : World} {row : Option Nat} {l : List (Nat × TypeId × Array Value)} (h : Lg b w l) (hg : w.grownBy w' row) (hr : ∀ k, row = some k → b.heap.size ≤ k) (hne : ∀ p ∈ l, row ≠ some p.1) : Lg b w' l :=
  ⟨⟨below_grown h.bl hg h.bl.size hr, fun p hp => blk_grown (h.ld.all p hp) hg (hne p hp), h.ld.ge⟩, h.nd⟩
theorem Lg.set {w W W' : World} {l : List (Nat × TypeId × Array Value)} (h : Lg w W l) (k : Nat) {g : Nat} {t t' : TypeId} {cs cs' : Array Value} (hk : l[k]? = some (g, t, cs)) (hm : Mv g W W') (zb : Blk W' g t' cs') : Lg w W' (l.set k (g, t', cs')) := by
  induction l generalizing k with
  | nil => cases hk
  | cons p l ih =>
    cases k with
    | zero =>
      have e : p = (g, t, cs) := (by simpa using hk); subst e; exact h.upd hm zb
    | succ k =>
      have hk1 : l[k]? = some (g, t, cs) := (by simpa using hk); have h1 := ih h.drop k hk1; have hne : p.1 ≠ g := fun e => (List.nodup_cons.1 h.nd).1 (by rw [e]; exact List.mem_map.2 ⟨_, List.mem_of_getElem? hk1, rfl⟩)
      rw [List.set_cons_succ]; refine ⟨⟨h1.ld.bl, fun q hq => ?_, fun q hq => ?_⟩, ?_⟩
      · rcases List.mem_cons.1 hq with rfl | hq
        · exact (h.ld.all q List.mem_cons_self).mv hm hne
        · exact h1.ld.all q hq
      · rcases List.mem_cons.1 hq with rfl | hq
        · exact h.ld.ge q List.mem_cons_self
        · exact h1.ld.ge q hq
      · have e : (l.set k (g, t', cs')).map Prod.fst = l.map Prod.fst := by
          rw [List.map_set]; apply List.ext_getElem?; intro i
          by_cases hi : i = k
          · subst hi; rw [List.getElem?_set_self (by rw [List.length_map]; exact (List.getElem?_eq_some_iff.1 hk1).1), List.getElem?_map, hk1]; rfl
          · rw [List.getElem?_set_ne (fun e => hi e.symm)]
        rw [List.map_cons, e]; exact h.nd
theorem OI.grown {w w' : World} {row : Option Nat} {base : Nat} {A : Option Addr} {n c : Nat} {l : List Int} (h : OI w base A n c l) (hg : w.grownBy w' row) (hne : ∀ k, (Value.slice A n c).ownBlock = some k → row ≠ some k) : OI w' base A n c l := by
  refine World.ownsRow.kept h hg ?_
  cases hb : (Value.slice A n c).ownBlock with
  | none => exact .inl rfl
  | some k => exact .inr (fun e => hne k hb e.symm)
theorem OI.ne_blk {w : World} {base : Nat} {A : Option Addr} {n c : Nat} {l : List Int} {g : Nat} {t : TypeId} {cs : Array Value} (h : OI w base A n c l) (hB : Blk w g t cs) (ht : 3 ≠ t) : (Value.slice A n c).ownBlock ≠ some g := own_blk_ne h hB ht
theorem OI.nil (w : World) (base : Nat) : OI w base none 0 0 [] := World.ownsRow_nil _ _ _ _
theorem wpList_append_oi {ops : Array Oper} {rest : List Oper} {o : Oper} {a : Act} {w : World} {Q : Exit → Act → World → Prop} (hgd : o.guard = none) (s x : Operand)
    (ho : o.op = .call { callee := .builtin .append, args := #[s, x], argTypes := #[43, 43] })
    (base : Nat) (A : Option Addr) (n c : Nat) (l : List Int) (hs : a.eval s = .slice A n c) (hown : OI w base A n c l)
    (B : Option Addr) (m d : Nat) (k : List Int) (hx : a.eval x = .slice B m d) (hr : II w B m k) (hnm : n + m ≤ 1000000) (hbase : base ≤ w.heap.size)
    (h : ∀ A' c' w', OI w' base A' (n + m) c' (l ++ k) → w.grownBy w' (Value.slice A n c).ownBlock → ((Value.slice A' (n + m) c').ownBlock = (Value.slice A n c).ownBlock ∨ (Value.slice A' (n + m) c').ownBlock = some w.heap.size) → wpList Tryz.prog ops Q rest (a.put o.dst (.slice A' (n + m) c')) w') :
    wpList Tryz.prog ops Q (o :: rest) a w := by
  obtain ⟨i, h1, h2, h3, h4⟩ := infoInt; refine wpList_append_any w hgd s x _ ho base 3 i _ 1 8 Tryz.underlying43 h1 h2 h3 h4 rfl (by decide) _ n _ hs hown w.heap.size B m d (k.map iv) hx hr.2 (fun u hu => ?_) (by unfold maxLen; omega) (by omega) hbase (fun v' w' h5 h6 h7 => ?_)
  · obtain ⟨z, _, rfl⟩ := List.mem_map.1 hu; rfl
  · rw [← List.map_append] at h5; rcases h5.2 with ⟨rfl, h0⟩ | ⟨g, cap, cur, rfl, _⟩
    · have hn0 : n + m = 0 := h0; have e : Value.slice none 0 0 = Value.slice none (n + m) 0 := (by rw [hn0]); rw [e] at h5 h7 ⊢; exact h _ _ _ h5 h6 h7
    · exact h _ _ _ h5 h6 h7
def srtI (l : List Int) : List Int := l.mergeSort fun x y => decide (x ≤ y)
theorem srtI_len (l : List Int) : (srtI l).length = l.length := (List.mergeSort_perm l _).length_eq
theorem sortOI {w : World} {base : Nat} {A : Option Addr} {n c : Nat} {l : List Int} (h : OI w base A n c l) (hn : n ≤ 1000000) :
    Calls Tryz.prog 53 #[.slice A n c] w fun e w' => e = .returned (.tuple #[]) ∧ OI w' base A n c (srtI l) ∧ w.grownBy w' (Value.slice A n c).ownBlock := by
  have hl := h.len; rcases Nat.eq_zero_or_pos n with h0 | h0
  · subst h0; have hl0 : l = [] := List.eq_nil_of_length_eq_zero hl; subst hl0; refine (Tryz.slices_Sort_int_none A c w).mono fun e w' hh => ?_
    obtain ⟨rfl, rfl⟩ := hh; exact ⟨rfl, by rw [show srtI [] = [] by simp [srtI]]; exact h, World.grownBy.refl _ _⟩
  · obtain ⟨hl2, h1 | ⟨g, cap, cur, e1, hbg, hh, hnc, hcm, hcs, htake⟩⟩ := h
    · exact absurd h1.1 (by intro e; injection e with _ e2; omega)
    · injection e1 with e1 e2 e3
      subst e1 e3; rw [Nat.mul_one] at htake; have hlt : g < w.heap.size := (Array.getElem?_eq_some_iff.1 hh).1; subst hl; refine (Tryz.slices_Sort_int g 0 c l w (holds_of_blockI hh htake) hlt (by omega)).mono fun e w' h => ?_
      obtain ⟨h1, n, os, rfl⟩ := h; exact ⟨h1, ownsRow_sortedI (n := n) (os := os) (ts := srtI l) (srtI_len l) hbg hh hnc hcm hcs, grownBy_sortedI _⟩
theorem compactOI {w : World} {base : Nat} {A : Option Addr} {n c : Nat} {l : List Int} (h : OI w base A n c l) (hn : n ≤ 1000000) :
    Calls Tryz.prog 54 #[.slice A n c] w fun e w' => e = .returned (.slice A (Lib.compact l).length c) ∧ II w' A (Lib.compact l).length (Lib.compact l) ∧ (Lib.compact l).length ≤ n ∧ w.grownBy w' (Value.slice A n c).ownBlock := by
  have hl := h.len; have hcl := Lib.compact_length_le l; rcases Nat.eq_zero_or_pos n with h0 | h0
  · subst h0; have hl0 : l = [] := List.eq_nil_of_length_eq_zero hl; subst hl0; refine (Tryz.slices_Compact_int_empty A c w).mono fun e w' hh => ?_
    obtain ⟨rfl, rfl⟩ := hh; exact ⟨rfl, II.nil _ _, Nat.le_refl _, World.grownBy.refl _ _⟩
  · obtain ⟨g, hA⟩ : ∃ g, A = some ⟨g, 0, none⟩ := by
      rcases h.2 with ⟨h1, _⟩ | ⟨g, cap, cur, e1, _⟩
      · exact absurd h1 (by intro e; injection e with _ e2; omega)
      · injection e1 with e1; exact ⟨g, e1⟩
    subst hA; have hown : w.ownsRow base 3 1 (.slice (some ⟨g, 0, none⟩) n c) n (l.map iv) := h
    have hco := Tryz.slices_Compact_int_cells g 0 n c l w (by omega) (by omega) h.cap.1 (fun j hj => by
      rw [Nat.zero_add, hown.cellAt j (by omega), List.getElem?_map, List.getElem?_eq_getElem hj]
      simp [iv, List.getD, List.getElem?_eq_getElem hj]) (fun j hj => by rw [Nat.zero_add]; exact hown.frozenAt j)
    rw [List.take_of_length_le (by omega)] at hco
    obtain ⟨cur, t, hB⟩ : ∃ cur t, Blk w g t cur ∧ n ≤ cur.size := by
      rcases h.2 with ⟨h1, _⟩ | ⟨g', cap, cur, e1, _, hh, hnc, hcm, hcs, _⟩
      · cases h1
      · injection e1 with e1; injection e1 with e1; injection e1 with e1; subst e1
        exact ⟨cur, _, hh, by omega⟩
    refine hco.mono fun e w' hh => ?_
    obtain ⟨rfl, q, rfl⟩ := hh; have hB2 := Blk.setCells (w := w) ((Lib.compact l ++ List.replicate (n - (Lib.compact l).length) 0).map (Value.int .i64)) 0 (w.drewN q) cur (hB.1.drewN q); refine ⟨rfl, ⟨rfl, by simp, fun hp => ⟨⟨g, 0, none⟩, rfl, hB2.lt, fun j u hu => ?_⟩⟩, by omega, grown_of_mv (Mv.trans (Mv.drewN (Mv.refl g w) q) (Mv.setCells _ _ _ _))⟩; rw [Addr.add_mid, Nat.zero_add, hB2.cell j]; have hj : j < (Lib.compact l).length := (by have := (List.getElem?_eq_some_iff.1 hu).1; simpa using this); rw [putA_get _ _ _ _ (by simp; omega), if_pos ⟨Nat.zero_le _, by simp; omega⟩, Nat.sub_zero, List.map_append, List.getElem?_append_left (by simpa using hj)]; exact hu
def botE (o : SpO) (L : List RgV) (r : RgV) : Int := if tabE o L = 0 then regE o r else tabE o L
set_option maxHeartbeats 3200000 in
set_option maxRecDepth 100000 in
theorem both_any (o : SpO) (T : Option Addr) (n c : Nat) (L : List RgV) (r : RgV) (w : World) (hM : SpM w o) (hF : SpF o) (hT : TbM w T n c L) (hr : RgM w r) :
    Calls Tryz.prog 52 #[.agg #[.slice o.A1 o.n1 o.c1, .slice o.A2 o.n2 o.c2, .slice o.A3 o.n3 o.c3, .slice o.A4 o.n4 o.c4], .agg #[.slice T n c], .agg #[.slice r.A r.n r.c, .slice r.B r.m r.d]] w fun e w' => e = .returned (.int .i64 (botE o L r)) ∧ Below w.heap.size w w' := by
  have HE : Sl (botE o L r = if tabE o L = 0 then regE o r else tabE o L) := ⟨rfl⟩; have hb1 := (Below.refl w.heap.size w).alloc (Nat.le_refl _) (.cells #[.slice o.A1 o.n1 o.c1, .slice o.A2 o.n2 o.c2, .slice o.A3 o.n3 o.c3, .slice o.A4 o.n4 o.c4] 33); have hb2 := hb1.alloc hb1.size (.cells #[.slice T n c] 53); have hb3 := hb2.alloc hb2.size (.cells #[.slice r.A r.n r.c, .slice r.B r.m r.d] 45); have HB : Sl _ := ⟨hb3⟩; have H1 : Sl _ := ⟨fun (W : World) (hW : Below w.heap.size w W) => crCheck_any o T n c L W (hM.below hW) hF (hT.below hW)⟩; have H2 : Sl _ := ⟨fun (W : World) (hW : Below w.heap.size w W) => registration_any o r W (hr.below hW) hF⟩; have S1 := ((Blk.new w 33 #[.slice o.A1 o.n1 o.c1, .slice o.A2 o.n2 o.c2, .slice o.A3 o.n3 o.c3, .slice o.A4 o.n4 o.c4]).alloc (.cells #[.slice T n c] 53)).alloc (.cells #[.slice r.A r.n r.c, .slice r.B r.m r.d] 45); have R1 := Blk.new ((w.alloc (.cells #[.slice o.A1 o.n1 o.c1, .slice o.A2 o.n2 o.c2, .slice o.A3 o.n3 o.c3, .slice o.A4 o.n4 o.c4] 33)).alloc (.cells #[.slice T n c] 53)) 45 #[.slice r.A r.n r.c, .slice r.B r.m r.d]; rw [show ((w.alloc (.cells #[.slice o.A1 o.n1 o.c1, .slice o.A2 o.n2 o.c2, .slice o.A3 o.n3 o.c3, .slice o.A4 o.n4 o.c4] 33)).alloc (.cells #[.slice T n c] 53)).heap.size = w.heap.size + 1 + 1 by simp] at R1; have HS1 : Sl _ := ⟨S1⟩; have HR1 : Sl _ := ⟨R1⟩; obtain ⟨t, ht⟩ : ∃ t, tabE o L = t := ⟨_, rfl⟩; obtain ⟨g, hg⟩ : ∃ g, regE o r = g := ⟨_, rfl⟩; obtain ⟨v, hv⟩ : ∃ v, botE o L r = v := ⟨_, rfl⟩; rw [ht] at HE H1; rw [hg] at HE H2; rw [hv] at HE ⊢; clear hb1 hb2 hb3 hM hF hT hr ht hg hv S1 R1; go_enter Tryz.func52, Tryz.ntmps52; go_wp2_with fail; generalize ((w.alloc (.cells #[.slice o.A1 o.n1 o.c1, .slice o.A2 o.n2 o.c2, .slice o.A3 o.n3 o.c3, .slice o.A4 o.n4 o.c4] 33)).alloc (.cells #[.slice T n c] 53)).alloc (.cells #[.slice r.A r.n r.c, .slice r.B r.m r.d] 45) = wa at *
  refine (H1.out _ HB.out).mono ?_; rintro e w1 ⟨rfl, hb⟩; have HB1 : Sl _ := ⟨HB.out.trans (hb.mono HB.out.size)⟩; replace HS1 : Sl _ := ⟨HS1.out.below hb HS1.out.lt⟩; replace HR1 : Sl _ := ⟨HR1.out.below hb HR1.out.lt⟩; clear hb HB
  by_cases ht0 : t = 0
  · subst ht0; rw [if_pos rfl] at HE; have s0 := HS1.out.cell 0; have s1 := HS1.out.cell 1; have s2 := HS1.out.cell 2; have s3 := HS1.out.cell 3; have r0 := HR1.out.cell 0; have r1 := HR1.out.cell 1; simp at s0 s1 s2 s3 r0 r1; go_wp2_with fail; refine (H2.out _ HB1.out).mono ?_; rintro e w2 ⟨rfl, hb⟩; have HB2 : Sl _ := ⟨HB1.out.trans (hb.mono HB1.out.size)⟩; clear hb; go_wp2_with fail; go_ret; exact ⟨by rw [HE.out]; rfl, HB2.out⟩
  · rw [if_neg ht0] at HE; have q0 : (t != 0) = true := (by rw [bne_iff_ne]; exact ht0); clear ht0; go_wp2_with fail; go_ret; exact ⟨by rw [HE.out]; rfl, HB1.out⟩
end Go.Proofs.YtabkpbbjodfolaaGreatDoor
