/- Specifications: plain values, what the checks say of them, how they lie in memory. -/
import Derived.Test.YtbaojmfkjpnfhaaGreatDoorCsD
import Derived.Test.YtbaojmfkjpnfhaaGreatDoorHld
import Derived.Test.YtbaojmfkjpnfhaaGreatDoorMyH
namespace Go.Proofs.YtbaojmfkjpnfhaaGreatDoor
set_option linter.unusedSimpArgs false
open Go.RowKit
set_option linter.unusedVariables false

theorem flG_get {α : Type} (f : α → List Value) (sz : Nat) (hf : ∀ p, (f p).length = sz) : ∀ (l : List α) (i : Nat) (p : α) (t : Nat), l[i]? = some p → t < sz → (l.flatMap f)[i * sz + t]? = (f p)[t]?
  | [], i, p, t, h, _ => by cases h
  | y :: l, 0, p, t, h, ht => by
    have : y = p := by simpa using h
    subst this
    rw [Nat.zero_mul, Nat.zero_add, List.flatMap_cons, List.getElem?_append_left (by rw [hf]; exact ht)]
  | y :: l, i+1, p, t, h, ht => by
    have h1 : l[i]? = some p := by simpa using h
    rw [List.flatMap_cons, List.getElem?_append_right (by rw [hf, Nat.succ_mul]; omega), hf, show (i + 1) * sz + t - sz = i * sz + t by rw [Nat.succ_mul]; omega]
    exact flG_get f sz hf l i p t h1 ht
theorem flG_len {α : Type} (f : α → List Value) (sz : Nat) (hf : ∀ p, (f p).length = sz) : ∀ l : List α, (l.flatMap f).length = l.length * sz
  | [] => by simp
  | y :: l => by rw [List.flatMap_cons, List.length_append, flG_len f sz hf l, hf, List.length_cons, Nat.succ_mul]; omega
/-- a row of structs lies here -/
structure RowG {α : Type} (w : World) (A : Option Addr) (n sz : Nat) (f : α → List Value) (l : List α) : Prop where
  len : l.length = n
  rd : Reads w w.heap.size sz A n (l.flatMap f)
  fix : ∀ p, (f p).length = sz
theorem RowG.below {α : Type} {w w' : World} {A : Option Addr} {n sz : Nat} {f : α → List Value} {l : List α} (h : RowG w A n sz f l) (hb : Below w.heap.size w w') : RowG w' A n sz f l := ⟨h.len, (h.rd.below hb).more hb.size, h.fix⟩
theorem RowG.nil {α : Type} (w : World) (A : Option Addr) (sz : Nat) (f : α → List Value) (hf : ∀ p, (f p).length = sz) : RowG w A 0 sz f [] := ⟨rfl, ⟨by simp, fun h => absurd h (by omega)⟩, hf⟩
theorem RowG.at_ {α : Type} {w : World} {A : Option Addr} {n sz : Nat} {f : α → List Value} {l : List α} (h : RowG w A n sz f l) (hsz : 0 < sz) {i : Nat} (hi : i < n) :
    ∃ gb o p, A = some ⟨gb, o, none⟩ ∧ gb < w.heap.size ∧ l[i]? = some p ∧ w.rangeAt gb (o + i * sz) (f p) := by
  obtain ⟨ad, e, hb, hc⟩ := h.rd.2 (by omega)
  have hl := h.len
  have key : ∀ (t : Nat) (u : Value), (f (l[i]'(by omega)))[t]? = some u → w.cell? (ad.add (i * sz + t)) = some u := fun t u ht => by
    have htl : t < sz := by
      rcases Nat.lt_or_ge t sz with h1 | h1
      · exact h1
      · rw [List.getElem?_eq_none (by rw [h.fix]; exact h1)] at ht; cases ht
    refine hc _ _ ?_
    rw [flG_get f sz h.fix l i _ t (List.getElem?_eq_getElem (by omega)) htl]
    exact ht
  have h0 : ∃ u, (l.flatMap f)[0]? = some u := ⟨_, List.getElem?_eq_getElem (by rw [flG_len f sz h.fix]; exact Nat.mul_pos (by omega) hsz)⟩
  obtain ⟨u0, h0⟩ := h0
  have c0 := hc 0 u0 h0
  obtain ⟨gb, o, sp⟩ := ad
  have hsp : sp = none := by
    cases sp with
    | none => rfl
    | some s =>
      have e : (⟨gb, o, some s⟩ : Addr).add 0 = ⟨gb, o, some s⟩ := by simp [Addr.add]
      rw [e] at c0
      unfold World.cell? at c0
      split at c0
      · simp at c0
      · cases c0
  subst hsp
  refine ⟨gb, o, l[i]'(by omega), e, hb, List.getElem?_eq_getElem (by omega), fun t u ht => ?_⟩
  have := key t u ht
  rw [Addr.add_mid] at this
  rw [show o + i * sz + t = o + (i * sz + t) by omega]
  exact this
/-- a division, a rank, a part, a stop, a coupler -/
structure DvV where
  nm : ByteArray
  lo : Int
  hi : Int
def DvV.cells (x : DvV) : List Value := [.string x.nm, .int .i64 x.lo, .int .i64 x.hi]
structure RnV where
  nm : ByteArray
  kd : Int
  fn : Int
  fd : Int
  lo : Int
  ct : Int
def RnV.cells (x : RnV) : List Value := [.string x.nm, .int .i64 x.kd, .int .i64 x.fn, .int .i64 x.fd, .int .i64 x.lo, .int .i64 x.ct]
structure PrV where
  rk : Int
  sh : Int
  lo : Int
  hi : Int
def PrV.cells (x : PrV) : List Value := [.int .i64 x.rk, .int .i64 x.sh, .int .i64 x.lo, .int .i64 x.hi]
structure SpV where
  nm : ByteArray
  dv : Int
  fn : Int
  fd : Int
  A : Option Addr
  n : Nat
  c : Nat
  ps : List PrV
def SpV.cells (x : SpV) : List Value := [.string x.nm, .int .i64 x.dv, .int .i64 x.fn, .int .i64 x.fd, .slice x.A x.n x.c]
structure CpV where
  nm : ByteArray
  fr : Int
  tt : Int
  sh : Int
  on : Int
  th : Bool
def CpV.cells (x : CpV) : List Value := [.string x.nm, .int .i64 x.fr, .int .i64 x.tt, .int .i64 x.sh, .int .i64 x.on, .bool x.th]
/-- a specification, with the places of its rows -/
structure SpO where
  A1 : Option Addr
  n1 : Nat
  c1 : Nat
  ds : List DvV
  A2 : Option Addr
  n2 : Nat
  c2 : Nat
  rs : List RnV
  A3 : Option Addr
  n3 : Nat
  c3 : Nat
  ss : List SpV
  A4 : Option Addr
  n4 : Nat
  c4 : Nat
  cs : List CpV
def SpO.cells (o : SpO) : List Value := [.slice o.A1 o.n1 o.c1, .slice o.A2 o.n2 o.c2, .slice o.A3 o.n3 o.c3, .slice o.A4 o.n4 o.c4]
/-- the specification in memory -/
structure SpM (w : World) (o : SpO) : Prop where
  d : RowG w o.A1 o.n1 3 DvV.cells o.ds
  r : RowG w o.A2 o.n2 6 RnV.cells o.rs
  s : RowG w o.A3 o.n3 5 SpV.cells o.ss
  c : RowG w o.A4 o.n4 6 CpV.cells o.cs
  p : ∀ x ∈ o.ss, RowG w x.A x.n 4 PrV.cells x.ps
theorem SpM.below {w w' : World} {o : SpO} (h : SpM w o) (hb : Below w.heap.size w w') : SpM w' o := ⟨h.d.below hb, h.r.below hb, h.s.below hb, h.c.below hb, fun x hx => (h.p x hx).below hb⟩
/-- what an argument says beside -/
structure SpF (o : SpO) : Prop where
  cap : (o.n1 ≤ o.c1 ∧ o.c1 ≤ maxLen) ∧ (o.n2 ≤ o.c2 ∧ o.c2 ≤ maxLen) ∧ (o.n3 ≤ o.c3 ∧ o.c3 ≤ maxLen) ∧ (o.n4 ≤ o.c4 ∧ o.c4 ≤ maxLen)
  d : ∀ x ∈ o.ds, x.nm.size ≤ maxLen ∧ i64 x.lo ∧ i64 x.hi
  r : ∀ x ∈ o.rs, x.nm.size ≤ maxLen ∧ i64 x.kd ∧ i64 x.fn ∧ i64 x.fd ∧ i64 x.lo ∧ i64 x.ct
  s : ∀ x ∈ o.ss, x.nm.size ≤ maxLen ∧ i64 x.dv ∧ i64 x.fn ∧ i64 x.fd ∧ (x.n ≤ x.c ∧ x.c ≤ maxLen) ∧ ∀ p ∈ x.ps, i64 p.rk ∧ i64 p.sh ∧ i64 p.lo ∧ i64 p.hi
  c : ∀ x ∈ o.cs, x.nm.size ≤ maxLen ∧ i64 x.fr ∧ i64 x.tt ∧ i64 x.sh ∧ i64 x.on
/-- the names that were noted -/
abbrev Keys := List (List UInt8)
def wiB (a b c : Int) : Bool := decide (b ≤ a) && decide (a ≤ c)
def nmdE (l : Keys) (k nm : ByteArray) : Int := if nmB nm = true then (if (keyN k nm).data.toList ∈ l then 8 else 0) else 6
def nmdL (l : Keys) (k nm : ByteArray) : Keys := if nmB nm = true ∧ (keyN k nm).data.toList ∉ l then (keyN k nm).data.toList :: l else l
def kDv : ByteArray := ⟨#[100, 105, 118, 105, 115, 105, 111, 110]⟩
def kRn : ByteArray := ⟨#[114, 97, 110, 107]⟩
def kCp : ByteArray := ⟨#[99, 111, 117, 112, 108, 101, 114]⟩
def kSt (d : Int) : ByteArray := ⟨#[115, 116, 111, 112, 32]⟩ ++ ⟨(Lib.decDigits d.toNat).toArray⟩
def divE (l : Keys) (x : DvV) : Int := if nmdE l kDv x.nm = 0 then (if wiB x.lo 0 127 && wiB x.hi x.lo (min 127 (x.lo + 60)) then 0 else 7) else nmdE l kDv x.nm
def divL (l : Keys) (x : DvV) : Keys := nmdL l kDv x.nm
def rnkE (l : Keys) (x : RnV) : Int := if nmdE l kRn x.nm = 0 then (if wiB x.kd 1 4 && decide (vF x.fn x.fd) then (if wiB x.ct 1 97 && wiB x.lo 0 (128 - x.ct) then 0 else 7) else 2) else nmdE l kRn x.nm
def rnkL (l : Keys) (x : RnV) : Keys := nmdL l kRn x.nm
def stpE (nd : Nat) (l : Keys) (x : SpV) : Int :=
  if nmB x.nm = false then 6 else if wiB x.dv 0 ((nd : Int) - 1) = false then 4 else if nmdE l (kSt x.dv) x.nm = 0 then (if decide (vF x.fn x.fd) = false ∨ x.n = 0 then 2 else if 12 < x.n then 3 else 0) else nmdE l (kSt x.dv) x.nm
def stpL (nd : Nat) (l : Keys) (x : SpV) : Keys := if nmB x.nm = false then l else if wiB x.dv 0 ((nd : Int) - 1) = false then l else nmdL l (kSt x.dv) x.nm
def rn0 : RnV := ⟨⟨#[]⟩, 0, 0, 0, 0, 0⟩
def dv0 : DvV := ⟨⟨#[]⟩, 0, 0⟩
def prtE (rs : List RnV) (d : DvV) (p : PrV) : Int :=
  if wiB p.rk 0 ((rs.length : Int) - 1) = false then 4 else if wiB p.lo d.lo d.hi && (wiB p.hi p.lo d.hi && wiB p.sh (-96) 96) then
    (if p.lo + p.sh < (rs[p.rk.toNat]?.getD rn0).lo ∨ (rs[p.rk.toNat]?.getD rn0).lo + (rs[p.rk.toNat]?.getD rn0).ct ≤ p.hi + p.sh then 4 else 0) else 7
def cplE (nd : Nat) (l : Keys) (x : CpV) : Int :=
  if nmdE l kCp x.nm = 0 then (if wiB x.fr 0 ((nd : Int) - 1) && wiB x.tt 0 ((nd : Int) - 1) then
    (if ((x.sh == -12) || ((x.sh == 12) || ((x.sh == 0) && (x.fr != x.tt)))) && (wiB x.on 0 2 && !(x.th && (x.on != 0))) then 0 else 2) else 4) else nmdE l kCp x.nm
def cplL (l : Keys) (x : CpV) : Keys := nmdL l kCp x.nm
/-- one after the other, up to the first error -/
def runE {α : Type} (f : Keys → α → Int) (g : Keys → α → Keys) : List α → Keys → Int × Keys
  | [], l => (0, l)
  | x :: r, l => if f l x = 0 then runE f g r (g l x) else (f l x, g l x)
def stpsE (o : SpO) (l : Keys) (x : SpV) : Int :=
  if stpE o.n1 l x = 0 then (runE (fun _ p => prtE o.rs (o.ds[x.dv.toNat]?.getD dv0) p) (fun l _ => l) x.ps l).1 else stpE o.n1 l x
/-- the error of a specification -/
def specE (o : SpO) : Int :=
  if 6 < o.n1 ∨ 40 < o.n2 ∨ 80 < o.n3 ∨ 24 < o.n4 then 3
  else let a := runE divE divL o.ds []
    if a.1 = 0 then
      let b := runE rnkE rnkL o.rs a.2
      if b.1 = 0 then
        let c := runE (stpsE o) (stpL o.n1) o.ss b.2
        if c.1 = 0 then (runE (cplE o.n1) cplL o.cs c.2).1 else c.1
      else b.1
    else a.1
theorem nmdL_len (l : Keys) (k nm : ByteArray) : (nmdL l k nm).length ≤ l.length + 1 := by
  unfold nmdL
  split
  · exact Nat.le_refl _
  · omega
theorem stpL_len (nd : Nat) (l : Keys) (x : SpV) : (stpL nd l x).length ≤ l.length + 1 := by
  unfold stpL
  split
  · omega
  · split
    · omega
    · exact nmdL_len _ _ _
theorem runE_drop {α : Type} {f : Keys → α → Int} {g : Keys → α → Keys} {L : List α} {k : Nat} {x : α} (l : Keys) (hx : L[k]? = some x) :
    runE f g (L.drop k) l = if f l x = 0 then runE f g (L.drop (k + 1)) (g l x) else (f l x, g l x) := by
  obtain ⟨hk, rfl⟩ := List.getElem?_eq_some_iff.1 hx
  rw [List.drop_eq_getElem_cons hk, runE]
end Go.Proofs.YtbaojmfkjpnfhaaGreatDoor
