/- Plain law: the ratio in lowest terms with given exponents and denominator; products, quotients, powers. No program in sight. -/
import Derived.Test.YtafadpaljanghaaGreatDoorZqAc
import Derived.Deep.RegionHeld3
import Derived.ChangeKeysEq
import Derived.Test.YtafadpaljanghaaGreatDoorMyQ
import Derived.Test.YtafadpaljanghaaGreatDoorMixB
import Derived.Test.YtafadpaljanghaaGreatDoorMixE
import Derived.Test.YtafadpaljanghaaGreatDoorRgC
import Derived.Test.YtafadpaljanghaaGreatDoorMyV
namespace Go.Proofs.YtafadpaljanghaaGreatDoor
set_option linter.unusedSimpArgs false
set_option linter.unusedVariables false
end Go.Proofs.YtafadpaljanghaaGreatDoor
namespace Go.Proofs.YtafadpaljanghaaGreatDoor
set_option linter.unusedSimpArgs false
open Go.RowKit
set_option linter.unusedVariables false
end Go.Proofs.YtafadpaljanghaaGreatDoor
namespace Go.Proofs.YtafadpaljanghaaGreatDoor
set_option linter.unusedSimpArgs false
open Go.RowKit
set_option linter.unusedVariables false
end Go.Proofs.YtafadpaljanghaaGreatDoor
namespace Go.Proofs.YtafadpaljanghaaGreatDoor
set_option linter.unusedSimpArgs false
open Go.RowKit
set_option linter.unusedVariables false
end Go.Proofs.YtafadpaljanghaaGreatDoor
namespace Go.Proofs.YtafadpaljanghaaGreatDoor
set_option linter.unusedSimpArgs false
open Go.RowKit
set_option linter.unusedVariables false
end Go.Proofs.YtafadpaljanghaaGreatDoor
namespace Go.Proofs.YtafadpaljanghaaGreatDoor
set_option linter.unusedSimpArgs false
open Go.RowKit
set_option linter.unusedVariables false
end Go.Proofs.YtafadpaljanghaaGreatDoor
namespace Go.Proofs.YtafadpaljanghaaGreatDoor
set_option linter.unusedSimpArgs false
open Go.RowKit
set_option linter.unusedVariables false
end Go.Proofs.YtafadpaljanghaaGreatDoor
namespace Go.Proofs.YtafadpaljanghaaGreatDoor
set_option linter.unusedSimpArgs false
open Go.RowKit
set_option linter.unusedVariables false
theorem sgn_ge {l : List (Nat × Int)} : 0 ≤ sgn l ↔ down l ≤ up l := by
  unfold sgn
  split
  · exact ⟨fun _ => by omega, fun _ => by decide⟩
  · split
    · exact ⟨fun h => absurd h (by decide), fun h => by omega⟩
    · exact ⟨fun _ => by omega, fun _ => by decide⟩
theorem up_two (x : Int) : ∀ l : List (Nat × Int), up (l ++ [(2, x)]) = up l * 2 ^ x.toNat
  | [] => by
    rw [List.nil_append, up, up]
    split
    · rw [show x.toNat = x.natAbs by omega, Nat.mul_comm]; rfl
    · rw [show x.toNat = 0 by omega]; rfl
  | (n, k) :: l => by
    rw [List.cons_append, up, up_two x l, up]
    split
    · rw [Nat.mul_assoc]
    · rfl
theorem down_two (x : Int) : ∀ l : List (Nat × Int), down (l ++ [(2, x)]) = down l * 2 ^ (-x).toNat
  | [] => by
    rw [List.nil_append, down, down]
    split
    · rw [show (-x).toNat = 0 by omega]; rfl
    · rw [show (-x).toNat = x.natAbs by omega, Nat.mul_comm]; rfl
  | (n, k) :: l => by
    rw [List.cons_append, down, down_two x l, down]
    split
    · rfl
    · rw [Nat.mul_assoc]
theorem atM_anti {l : List (Nat × Int)} {s den m m' : Int} (hd : 1 ≤ den) (h : m ≤ m') (hs : 0 ≤ sgn (atM l s den m')) : 0 ≤ sgn (atM l s den m) := by
  rw [sgn_ge] at hs ⊢; unfold atM at hs ⊢; rw [up_two, down_two] at hs ⊢; have hmm : m * den ≤ m' * den := Int.mul_le_mul_of_nonneg_right h (by omega); rw [Int.neg_mul] at hs ⊢; rw [Int.neg_neg] at hs ⊢; generalize m * den = y at *
  generalize m' * den = y' at *
  calc down (scaled l s) * 2 ^ y.toNat ≤ down (scaled l s) * 2 ^ y'.toNat := Nat.mul_le_mul_left _ (Nat.pow_le_pow_right (by decide) (by omega))
    _ ≤ up (scaled l s) * 2 ^ (-y').toNat := hs
    _ ≤ up (scaled l s) * 2 ^ (-y).toNat := Nat.mul_le_mul_left _ (Nat.pow_le_pow_right (by decide) (by omega))
theorem FloorRes_det {l : List (Nat × Int)} {s den : Int} (hd : 1 ≤ den) {e e' : Ending} (h : FloorRes l s den (fun m => sgn (atM l s den m)) e) (h' : FloorRes l s den (fun m => sgn (atM l s den m)) e') : e = e' := by
  unfold FloorRes at h h'
  split at h
  · rename_i hc; rw [if_pos hc] at h'; rw [h, h']
  · rename_i hc; rw [if_neg hc] at h'; obtain ⟨m, _, _, h1, h2, rfl⟩ := h; obtain ⟨m', _, _, h3, h4, rfl⟩ := h'; have h2 : sgn (atM l s den (m + 1)) < 0 := h2; have h4 : sgn (atM l s den (m' + 1)) < 0 := h4; have hle : ¬ m + 1 ≤ m' := fun hlt => by have := atM_anti hd hlt h3; omega
    have hle' : ¬ m' + 1 ≤ m := fun hlt => by have := atM_anti hd hlt h1; omega
    obtain rfl : m = m' := (by omega); rfl
theorem FloorRes_shape {l : List (Nat × Int)} {s den : Int} {sg : Int → Int} {e : Ending} (h : FloorRes l s den sg e) : ∃ k b er, e = .returned (.tuple #[.int .i64 k, .bool b, .int .i64 er]) ∧ -1000000000000 ≤ k ∧ k ≤ 1000000000000 := by
  unfold FloorRes at h
  split at h
  · exact ⟨0, false, 7, h, by decide, by decide⟩
  · obtain ⟨m, h1, h2, _, _, h⟩ := h; exact ⟨m, _, 0, h, h1, by omega⟩
end Go.Proofs.YtafadpaljanghaaGreatDoor
namespace Go.Proofs.YtafadpaljanghaaGreatDoor
set_option linter.unusedSimpArgs false
open Go.RowKit
set_option linter.unusedVariables false
end Go.Proofs.YtafadpaljanghaaGreatDoor
namespace Go.Proofs.YtafadpaljanghaaGreatDoor
set_option linter.unusedSimpArgs false
open Go.RowKit
set_option linter.unusedVariables false
end Go.Proofs.YtafadpaljanghaaGreatDoor
namespace Go.Proofs.YtafadpaljanghaaGreatDoor
set_option linter.unusedSimpArgs false
set_option linter.unusedVariables false
end Go.Proofs.YtafadpaljanghaaGreatDoor
namespace Go.Proofs.YtafadpaljanghaaGreatDoor
set_option linter.unusedSimpArgs false
open Go.RowKit
set_option linter.unusedVariables false
def ftSg (num den : Nat) (m : Int) : Int := sgn (atM (ftL num den) 24 1 m)
noncomputable def semI (num den : Nat) : Int :=
  (Classical.epsilon (fun k : Int => ∃ b er, FloorRes (ftL num den) 24 1 (ftSg num den) (.returned (.tuple #[.int .i64 k, .bool b, .int .i64 er]))) + 1) / 2
theorem semI_of {num den : Nat} {k er : Int} {b : Bool} (h : FloorRes (ftL num den) 24 1 (ftSg num den) (.returned (.tuple #[.int .i64 k, .bool b, .int .i64 er]))) : semI num den = (k + 1) / 2 := by
  have hx : ∃ k : Int, ∃ b er, FloorRes (ftL num den) 24 1 (ftSg num den) (.returned (.tuple #[.int .i64 k, .bool b, .int .i64 er])) := ⟨k, b, er, h⟩; obtain ⟨b', er', h'⟩ := Classical.epsilon_spec hx; have e := FloorRes_det (den := 1) (by decide) h h'; unfold semI; generalize Classical.epsilon (fun k : Int => ∃ b er, FloorRes (ftL num den) 24 1 (ftSg num den) (.returned (.tuple #[.int .i64 k, .bool b, .int .i64 er]))) = k' at *
  simp at e; rw [e.1]
theorem okF_of {num den : Int} (h : vF num den) : ∃ n d : Nat, num = (n : Int) ∧ den = (d : Int) ∧ okF n d := by
  obtain ⟨⟨h1, h2⟩, ⟨h3, h4⟩, _⟩ := h; obtain ⟨n, rfl⟩ := Int.eq_ofNat_of_zero_le (show 0 ≤ num by omega); obtain ⟨d, rfl⟩ := Int.eq_ofNat_of_zero_le (show 0 ≤ den by omega); exact ⟨n, d, rfl, rfl, ⟨by omega, by omega⟩, by omega, by omega⟩
theorem ft_floor (A : Option Addr) (c num den : Nat) (w : World) (h : okF num den) (hl : TR w A 2 (ftL num den)) :
    Calls Tryz.prog 56 #[.slice A 2 c, .int .i64 1, .int .i64 24] w fun e w' => FloorRes (ftL num den) 24 1 (ftSg num den) e ∧ Below w.heap.size w w' :=
  Floor_any A 2 c (ftL num den) 1 24 (ftSg num den) w hl (ftL_ok h) (by decide) (by decide) (by decide) (by decide) fun m h1 h2 => sign_of _ 256 (ft_sg h h1 h2)
theorem ftL_mem (W : World) (T : TypeId) (num den : Nat) : TR (W.alloc (.cells #[.int .i64 (8 * (den : Int)), .int .i64 1, .int .i64 (num : Int), .int .i64 (-1)] T)) (some ⟨W.heap.size, 0, none⟩) 2 (ftL num den) := by
  refine ⟨rfl, rfl, fun _ => ⟨_, rfl, by simp, fun j u hj => ?_⟩⟩; have hb := Blk.new W T #[.int .i64 (8 * (den : Int)), .int .i64 1, .int .i64 (num : Int), .int .i64 (-1)]
  have e : (⟨W.heap.size, 0, none⟩ : Addr).add j = ⟨W.heap.size, j, none⟩ := by
    unfold Addr.add
    by_cases h : j = 0
    · subst h; simp
    · simp [h]
  rw [e, hb.cell]; simpa [flat, ftL] using hj
theorem shr1 (k : Int) : k >>> 1 = k / 2 := by rw [Int.shiftRight_eq_div_pow]; rfl
noncomputable def SmV (num den : Int) : Int × Int := if vF num den then (semI num.toNat den.toNat, 0) else (0, 2)
end Go.Proofs.YtafadpaljanghaaGreatDoor
namespace Go.Proofs.YtafadpaljanghaaGreatDoor
set_option linter.unusedSimpArgs false
open Go.RowKit
set_option linter.unusedVariables false
def rkP (R : List RkV) (us : List Int) (p : Nat) : RkV := R[(gt us p).toNat]?.getD rk0
noncomputable def ruP (x : Mx) (R : List RkV) (us : List Int) (p : Nat) : List Rn := x.runs p (semI (rkP R us p).num.toNat (rkP R us p).den.toNat) x.n
noncomputable def partE (x : Mx) (R : List RkV) (us : List Int) : Int :=
  if x.chk ≠ 0 then x.chk else if us.length ≠ x.lng x.n then 2 else if anyI (smBad R) us us.length = true then 2
  else if anyI (fun k => !inI R.length k) us us.length = true then 4
  else if ptsE (rkP R us) (ruP x R us) us.length ≠ 0 then ptsE (rkP R us) (ruP x R us) us.length
  else if 12 < (pts us (ruP x R us) us.length).length then 3 else 0
inductive PartR (x : Mx) (R : List RkV) (us : List Int) (B : Nat) (e : Ending) (w : World) : Prop
  | bad {E : Int} (h : partE x R us = E) (h0 : E ≠ 0) (he : e = .returned (.tuple #[.slice none 0 0, .int .i64 E]))
  | ok {v : Value} (h : partE x R us = 0) (he : e = .returned (.tuple #[v, .int .i64 0])) (ho : w.ownsRow B tPt 4 v (pts us (ruP x R us) us.length).length ((pts us (ruP x R us) us.length).flatMap ptC))
set_option maxHeartbeats 3200000 in
set_option maxRecDepth 100000 in
theorem semi2_any (num den : Nat) (h : okF num den) (w : World) : Calls Tryz.prog 25 #[.agg #[.int .i64 (num : Int), .int .i64 (den : Int)]] w fun e w' => e = .returned (.int .i64 (semI num den)) ∧ Below w.heap.size w w' ∧ (-1000000000000 ≤ semI num den ∧ semI num den ≤ 1000000000000) := by
  have X0 := Blk.new w 23 #[.int .i64 (num : Int), .int .i64 (den : Int)]; have hu := (Below.refl w.heap.size w).alloc (Nat.le_refl _) (.cells #[.int .i64 (num : Int), .int .i64 (den : Int)] 23); have hT := ftL_mem (w.alloc (.cells #[.int .i64 (num : Int), .int .i64 (den : Int)] 23)) 69 num den; rw [show (w.alloc (.cells #[.int .i64 (num : Int), .int .i64 (den : Int)] 23)).heap.size = w.heap.size + 1 by simp] at hT; have HU : Sl _ := ⟨hu.alloc (by simp) (.cells #[.int .i64 (8 * (den : Int)), .int .i64 1, .int .i64 (num : Int), .int .i64 (-1)] 69)⟩; have HF : Sl _ := ⟨ft_floor _ 2 num den _ h hT⟩; have hb1 : (den : Int) ≤ 15 ∧ (num : Int) ≤ 960 := (by have := h.1; have := h.2; omega); have hw8 : IntKind.i64.wrap (8 * (den : Int)) = 8 * (den : Int) := (by rw [IntKind.wrap_i64]; omega); clear hu X0 hT h; go_enter Tryz.func25, Tryz.ntmps25; go_wp2_with fail; refine HF.out.mono ?_; rintro e w1 ⟨hr, hb⟩; obtain ⟨k, b, er, rfl, hk1, hk2⟩ := FloorRes_shape hr; have HS : Sl (semI num den = (k + 1) / 2) := ⟨semI_of hr⟩; have HB : Sl _ := ⟨hb⟩; have hkw : IntKind.i64.wrap (k + 1) = k + 1 := (by rw [IntKind.wrap_i64]; omega); clear hr hb HF; go_wp2_with fail; go_ret; refine ⟨?_, HU.out.trans (HB.out.mono HU.out.size), by rw [HS.out]; omega⟩; rw [HS.out, ← shr1]
  first | rfl | (congr 3; done) | (simp; done) | (rw [shr1]; simp; omega)
theorem anyI_false {P : Int → Bool} {l : List Int} {n : Nat} (h : anyI P l n = false) : ∀ j, j < n → P (gt l j) = false := fun j hj => by
  unfold anyI at h; rw [List.any_eq_false] at h; have := h j (List.mem_range.2 hj); simpa using this
theorem place_ok {R : List RkV} {us : List Int} {q m : Nat} (h1 : anyI (smBad R) us q = false) (h2 : anyI (fun k => !inI m k) us q = false) (hl : R.length = m) : ∀ p, p < q → (0 ≤ gt us p ∧ gt us p < (m : Int)) ∧ vF (rkP R us p).num (rkP R us p).den := fun p hp => by
  have a1 := anyI_false h1 p hp; have a2 := anyI_false h2 p hp; have a3 : inI m (gt us p) = true := (by simpa using a2); refine ⟨inI_true a3, ?_⟩; unfold smBad at a1; rw [hl, a3, Bool.true_and] at a1
  by_cases h : vF (rkP R us p).num (rkP R us p).den
  · exact h
  · exfalso; have e : ftE (rkP R us p).num (rkP R us p).den = 2 := if_neg h; unfold rkP at e; rw [e] at a1
    cases a1
def RnB (r : Rn) : Prop := 0 ≤ r.1 ∧ r.1 ≤ r.2.1 ∧ r.2.1 ≤ 127
theorem rst_bd {out : List Rn} {f t s : Int} (h : ∀ r ∈ out, RnB r) (h0 : 0 ≤ f) (h1 : f ≤ t) (h2 : t ≤ 127) : ∀ r ∈ rst out f t s, RnB r := by
  rcases List.eq_nil_or_concat out with rfl | ⟨o, ⟨f', t', s'⟩, rfl⟩
  · rw [rst_nil]; intro r hr; simp at hr; subst hr; exact ⟨h0, h1, h2⟩
  · rw [List.concat_eq_append] at h ⊢; have hl := h (f', t', s') (by simp); unfold RnB at hl; simp only [] at hl; rw [rst_snoc]; intro r hr
    split at hr
    · rename_i hc; rcases List.mem_append.1 hr with hr | hr
      · exact h r (List.mem_append_left _ hr)
      · simp at hr; subst hr; exact ⟨hl.1, by show f' ≤ t; omega, h2⟩
    · rcases List.mem_append.1 hr with hr | hr
      · exact h r hr
      · simp at hr; subst hr; exact ⟨h0, h1, h2⟩
theorem Mx.Fine.runs_bd {x : Mx} (h : x.Fine) (p : Nat) (own : Int) : ∀ i, i ≤ x.n → ∀ r ∈ x.runs p own i, RnB r
  | 0, _, r, hr => by cases hr
  | i+1, hi, r, hr => by
    have ih := h.runs_bd p own i (by omega); have hf := h.fr_bd (i := i) (by omega); have hl := h.last_bd (i := i) (by omega); have hg := h.ord.last_ge (i := i) (by omega); rw [Mx.runs] at hr
    split at hr
    · exact rst_bd ih hf.1 hg hl.2 r hr
    · exact ih r hr
theorem ptOf_at {ru : List Rn} {k : Int} {t : Nat} {y : PtV} (h : (ru.map (ptOf k))[t]? = some y) : ∃ f t' s, ru[t]? = some (f, t', s) ∧ y = (k, s, f, t') := by
  rw [List.getElem?_map] at h; rcases hr : ru[t]? with _ | ⟨f, t', s⟩
  · rw [hr] at h; cases h
  · rw [hr] at h; injection h with h
    exact ⟨f, t', s, rfl, h.symm⟩
theorem ptC_one (l : List PtV) : ∀ u ∈ l.flatMap ptC, u.oneCell' = true := fun u hu => by
  obtain ⟨y, _, hu⟩ := List.mem_flatMap.1 hu; simp only [ptC, List.mem_cons, List.not_mem_nil, or_false] at hu; rcases hu with rfl | rfl | rfl | rfl <;> rfl
theorem addrP_z (ad : Addr) : ad.add 0 = ad := by simp [Addr.add]
theorem addrP_k (ad : Addr) (k : Nat) : ad.add (k + 1) = ⟨ad.block, ad.off + (k + 1), none⟩ := by simp [Addr.add]
theorem pts_few {x : Mx} (hF : x.Fine) {R : List RkV} {us : List Int} : ∀ p, (pts us (ruP x R us) p).length ≤ 12 * p
  | 0 => Nat.le_refl _
  | p+1 => by
    rw [pts, List.length_append, List.length_map]; have h1 := pts_few hF (R := R) (us := us) p; have h2 : (ruP x R us p).length ≤ x.n := x.runs_len p _ x.n; have h3 := hF.n1; omega
set_option maxHeartbeats 6400000 in
set_option maxRecDepth 100000 in
theorem partsP_any (a b : Int) (A : Option Addr) (n c : Nat) (L : List Bk) (B : Option Addr) (m d : Nat) (R : List RkV) (C : Option Addr) (q f : Nat) (us : List Int) (w : World) (hM : MXA w A n c L) (ha : i64 a) (hb : i64 b) (hR : RKS w B m R) (hm : m ≤ 9223372036854775807) (hU : II w C q us) (hq : q ≤ 9223372036854775807) :
    Calls Tryz.prog 13 #[.agg #[.int .i64 a, .int .i64 b, .slice A n c], .slice B m d, .slice C q f] w fun e w' => PartR (mxO a b L) R us w.heap.size e w' ∧ Below w.heap.size w w' := by
  have hmf : ∀ (fn : Fn) (first cap : Array Value) (w : World), (Instr.makeFunc fn first cap).run Tryz.prog w = .ok (.func fn first cap) w := fun _ _ _ _ => rfl
  have HU : Sl (Below w.heap.size w ((w.alloc (.cells #[.int .i64 a, .int .i64 b, .slice A n c] 34)).alloc (.cells #[.slice B m d] 35))) := ⟨((Below.refl _ _).alloc (Nat.le_refl _) _).alloc (by simp) _⟩; have HBK : Sl _ := ⟨Blk.alloc (Blk.new w 34 #[.int .i64 a, .int .i64 b, .slice A n c]) (.cells #[.slice B m d] 35)⟩; have HBR : Sl (Blk ((w.alloc (.cells #[.int .i64 a, .int .i64 b, .slice A n c] 34)).alloc (.cells #[.slice B m d] 35)) (w.heap.size + 1) 35 #[.slice B m d]) := ⟨by have h := Blk.new (w.alloc (.cells #[.int .i64 a, .int .i64 b, .slice A n c] 34)) 35 #[.slice B m d]; simpa using h⟩; have HM : Sl _ := ⟨hM.below HU.out⟩; have HRK : Sl _ := ⟨hR.below HU.out⟩; have HUS : Sl _ := ⟨II.below hU HU.out⟩; have HCK : Sl _ := ⟨Check_any a b A n c L _ HM.out ha hb⟩; have HL : Sl (L.length = n) := ⟨hM.mx.len⟩; have HUL : Sl (us.length = q) := ⟨hU.1⟩; clear hM ha hb hR hU; obtain ⟨i2, z2, hi0, hz0, hz1, hz2, hz3⟩ := infoPae; have HI : Sl _ := ⟨And.intro hi0 (And.intro hz0 (And.intro hz1 (And.intro hz2 hz3)))⟩; clear hi0 hz0 hz1 hz2 hz3; obtain ⟨r, hr⟩ : ∃ r, (mxO a b L).chk = r := ⟨_, rfl⟩; rw [hr] at HCK; obtain ⟨x, hx⟩ : ∃ x, mxO a b L = x := ⟨_, rfl⟩; rw [hx] at hr ⊢; have HR : Sl _ := ⟨hr⟩; have HX : Sl _ := ⟨hx⟩; clear hx hr; go_enter Tryz.func13, Tryz.ntmps13; go_wp2_with fail; generalize (w.alloc (.cells #[.int .i64 a, .int .i64 b, .slice A n c] 34)).alloc (.cells #[.slice B m d] 35) = w0 at *
  refine HCK.out.mono ?_; rintro e w1 ⟨rfl, hb⟩; replace HU : Sl (Below w.heap.size w w1) := ⟨HU.out.trans (hb.mono HU.out.size)⟩; replace HBK : Sl (Blk w1 w.heap.size _ _) := ⟨HBK.out.below hb HBK.out.lt⟩; replace HBR : Sl (Blk w1 (w.heap.size + 1) _ _) := ⟨HBR.out.below hb HBR.out.lt⟩; replace HM : Sl (MXA w1 A n c L) := ⟨HM.out.below hb⟩; replace HRK : Sl (RKS w1 B m R) := ⟨HRK.out.below hb⟩; replace HUS : Sl (II w1 C q us) := ⟨II.below HUS.out hb⟩; clear hb HCK
  by_cases h0 : r = 0
  · have h0b : (r != 0) = false := (by rw [h0]; rfl); have HCH : Sl (x.chk = 0) := ⟨by rw [HR.out, h0]⟩; have HF : Sl x.Fine := ⟨Mx.fine (Mx.chk_ok HCH.out).1⟩; have HXN : Sl (x.n = n) := ⟨by rw [← HX.out]; exact HL.out⟩; have hn12 : n ≤ 12 := (by rw [← HXN.out]; exact HF.out.n1); have c0 := HBK.out.cell 0; have c1 := HBK.out.cell 1; have c2 := HBK.out.cell 2; simp at c0 c1 c2; clear HR; go_wp2_with fail
    go_loopw [9, 11, 27] (fun s9 s11 s27 wr => ∃ (i : Nat) (v11 : Value), i ≤ n ∧ s27 = .int .i64 i ∧ s9 = .int .i64 (x.lng i : Nat) ∧ s11 = v11 ∧ Sl (Below w1.heap.size w1 wr)) (fun _ _ s27 _ => n - (RowKit.intOf s27).toNat)
    case atStart => exact ⟨0, _, Nat.zero_le _, rfl, rfl, rfl, ⟨Below.refl _ _⟩⟩
    case round =>
      clear c0 c1 c2; obtain ⟨i, v11, hi, rfl, rfl, rfl, HQ⟩ := hrel
      by_cases hin : i < n
      · have hiI : (i : Int) < (n : Int) := (by omega); have hid : decide ((i : Int) < (n : Int)) = true := decide_eq_true hiI; obtain ⟨bk, hbk⟩ : ∃ bk, L[i]? = some bk := ⟨_, List.getElem?_eq_getElem (by rw [HL.out]; exact hin)⟩; have hmw := HM.out.below HQ.out; obtain ⟨ad, rfl, _, p1, p2⟩ := hmw.mx.cells2 hbk; have hat := mxO_at (a := a) (b := b) hbk; rw [HX.out] at hat; have hii := hmw.mx.rk bk (List.mem_of_getElem? hbk); obtain ⟨fr, BA, bn, bc, bl⟩ := bk; simp only [] at p1 p2 hat hii; have HLN : Sl (x.lng (i + 1) = max (x.lng i) bn) := ⟨by rw [Mx.lng, hat.2, hii.1]⟩; have hlb : x.lng i ≤ 8 := Mx.lng_le fun j hj => HF.out.k1 j (by rw [HXN.out]; omega)
        obtain ⟨mx, hmx⟩ : ∃ z, x.lng i = z := ⟨_, rfl⟩; rw [hmx] at hlb HLN ⊢; have hmxI : max (mx : Int) (bn : Int) = ((max mx bn : Nat) : Int) := (by omega); clear hii hmw hbk hat hmx; go_wp2_with fail; exact ⟨⟨i + 1, _, hin, by go_num, by rw [HLN.out], rfl, ⟨HQ.out.alloc HQ.out.size _⟩⟩, by simp [RowKit.intOf]; omega⟩
      · obtain rfl : i = n := (by omega); have hid : decide ((i : Int) < (i : Int)) = false := decide_eq_false (by omega); have hiI : ¬ (i : Int) < (i : Int) := (by omega); obtain ⟨mx, hmx⟩ : ∃ z, x.lng i = z := ⟨_, rfl⟩; have HMX : Sl (x.lng x.n = mx) := ⟨by rw [HXN.out]; exact hmx⟩; rw [hmx]; clear hmx
        by_cases hq0 : q = mx
        · subst hq0; have hqb : ((q : Int) != (q : Int)) = false := (by simp); have HE1 : Sl (us.length = x.lng x.n) := ⟨by rw [HUL.out, HMX.out]⟩
          have HE2 : Sl (partE x R us = if anyI (smBad R) us q = true then 2 else if anyI (fun k => !inI m k) us q = true then 4 else if ptsE (rkP R us) (ruP x R us) q ≠ 0 then ptsE (rkP R us) (ruP x R us) q else if 12 < (pts us (ruP x R us) q).length then 3 else 0) := ⟨by
            unfold partE; rw [if_neg (by rw [HCH.out]; decide), if_neg (by rw [HE1.out]; simp), HUL.out, HRK.out.len]⟩
          go_wp2_with fail; have HW2 : Sl (Below w1.heap.size w1 (wr.alloc (.cells #[.func (.func 32) #[] #[.pointer (some ⟨w.heap.size + 1, 0, none⟩)]] 31))) := ⟨HQ.out.alloc HQ.out.size _⟩; have HPF : Sl (Blk (wr.alloc (.cells #[.func (.func 32) #[] #[.pointer (some ⟨w.heap.size + 1, 0, none⟩)]] 31)) wr.heap.size 31 #[.func (.func 32) #[] #[.pointer (some ⟨w.heap.size + 1, 0, none⟩)]]) := ⟨Blk.new _ _ _⟩; obtain ⟨gf, hgf⟩ : ∃ g, wr.heap.size = g := ⟨_, rfl⟩; rw [hgf] at HPF ⊢; have HGF : Sl (w1.heap.size ≤ gf) := ⟨by rw [← hgf]; exact HQ.out.size⟩; clear hgf; generalize wr.alloc (.cells #[.func (.func 32) #[] #[.pointer (some ⟨w.heap.size + 1, 0, none⟩)]] 31) = w2 at *
          have HB2 : Sl (Blk w2 (w.heap.size + 1) 35 #[.slice B m d]) := ⟨HBR.out.below HW2.out HBR.out.lt⟩; have HS1 : Sl _ := ⟨hasSmRk_any C q f us ⟨gf, 0, none⟩ ⟨w.heap.size + 1, 0, none⟩ B m d R w2 HPF.out.lt HB2.out.lt (by rw [HPF.out.cell]; rfl) (by rw [HB2.out.cell]; rfl) hm (HRK.out.below HW2.out) (II.below HUS.out HW2.out) hq⟩; obtain ⟨s1, hs1⟩ : ∃ b, anyI (smBad R) us q = b := ⟨_, rfl⟩; rw [hs1] at HS1 HE2; have HSMB : Sl _ := ⟨hs1⟩; clear hs1; refine HS1.out.mono ?_; rintro e w3 ⟨rfl, hb3⟩; have HPF3 : Sl _ := ⟨HPF.out.below hb3 HPF.out.lt⟩; have HB3 : Sl _ := ⟨HB2.out.below hb3 HB2.out.lt⟩; have HW3 : Sl (Below w1.heap.size w1 w3) := ⟨HW2.out.trans (hb3.mono HW2.out.size)⟩; clear hb3 HPF HB2 HS1 HW2
          cases s1
          · have HS3 : Sl _ := ⟨hasOutRk_any C q f us ⟨gf, 0, none⟩ ⟨w.heap.size + 1, 0, none⟩ B m d w3 (by rw [HPF3.out.cell]; rfl) (by rw [HB3.out.cell]; rfl) hm (II.below HUS.out HW3.out) hq⟩; obtain ⟨s3, hs3⟩ : ∃ b, anyI (fun k => !inI m k) us q = b := ⟨_, rfl⟩; rw [hs3] at HS3 HE2; have HALL : Sl _ := ⟨hs3⟩; clear hs3; go_wp2_with fail; refine HS3.out.mono ?_; rintro e w4 ⟨rfl, rfl⟩
            cases s3
            · have HPL : Sl _ := ⟨place_ok HSMB.out HALL.out HRK.out.len⟩; go_wp2_with fail
              go_loopw [13, 14, 15, 16, 18, 50, 66] (fun s13 s14 s15 s16 s18 s50 s66 wr => ∃ (p : Nat) (v v14 v15 v16 v18 v66 : Value), p ≤ q ∧ s50 = .int .i64 p ∧ v = s13 ∧ s14 = v14 ∧ s15 = v15 ∧ s16 = v16 ∧ s18 = v18 ∧ s66 = v66 ∧ Sl (ptsE (rkP R us) (ruP x R us) p = 0 ∧ wr.ownsRow w4.heap.size tPt 4 v (pts us (ruP x R us) p).length ((pts us (ruP x R us) p).flatMap ptC) ∧ Below w4.heap.size w4 wr)) (fun _ _ _ _ _ s50 _ _ => q - (RowKit.intOf s50).toNat)
              case atStart => exact ⟨0, _, _, _, _, _, _, Nat.zero_le _, rfl, rfl, rfl, rfl, rfl, rfl, rfl, ⟨rfl, World.ownsRow_nil _ _ _ _, Below.refl _ _⟩⟩
              case round =>
                obtain ⟨p, v, v14, v15, v16, v18, v66, hp, rfl, rfl, rfl, rfl, rfl, rfl, rfl, HP⟩ := hrel
                by_cases hpq : p < q
                · have hpI : (p : Int) < (q : Int) := (by omega); have hpd : decide ((p : Int) < (q : Int)) = true := decide_eq_true hpI
                  have hq8 : q ≤ 8 := by
                    have h1 := HE1.out; rw [HUL.out] at h1; have h2 : x.lng x.n ≤ 8 := Mx.lng_le fun j hj => HF.out.k1 j hj
                    omega
                  obtain ⟨hkb, hvf⟩ := HPL.out p hpq; have HWr : Sl (Below w1.heap.size w1 wr) := ⟨HW3.out.trans (HP.out.2.2.mono HW3.out.size)⟩; obtain ⟨au, hau, _, cu⟩ := (II.below HUS.out HWr.out).cell (j := p) hpq; subst hau; obtain ⟨kn, hkn⟩ := Int.eq_ofNat_of_zero_le hkb.1; rw [hkn] at hkb cu; have hkm : kn < m := (by omega); have hkmI : (kn : Int) < (m : Int) := hkb.2; obtain ⟨ar, rr, hB, hri, _, _, c2, c3, c4, c5⟩ := (HRK.out.below HWr.out).cells hkm; subst hB; have HRP : Sl (rkP R us p = rr) := ⟨by unfold rkP; rw [hkn, Int.toNat_natCast, hri]; rfl⟩; rw [HRP.out] at hvf; obtain ⟨nu, de, hnu, hde, hok⟩ := okF_of hvf; have HRU : Sl (ruP x R us p = x.runs p (semI nu de) x.n) := ⟨by unfold ruP; rw [HRP.out, hnu, hde, Int.toNat_natCast, Int.toNat_natCast]⟩; rw [hnu] at c2; rw [hde] at c3; have d2 : wr.cell? ⟨(ar.add (kn * 6)).block, (ar.add (kn * 6)).off + 2, none⟩ = some (.int .i64 (nu : Int)) := c2; have d3 : wr.cell? ⟨(ar.add (kn * 6)).block, (ar.add (kn * 6)).off + 2 + 1, none⟩ = some (.int .i64 (de : Int)) := c3; have HSM : Sl _ := ⟨fun W : World => semi2_any nu de hok W⟩
                  have HBX : Sl (∀ W : World, Below w1.heap.size w1 W → W.cell? ⟨w.heap.size + 1, 0, none⟩ = some (.slice (some ar) m d) ∧ W.cell? ⟨(ar.add (kn * 6)).block, (ar.add (kn * 6)).off + 4, none⟩ = some (.int .i64 rr.low) ∧ W.cell? ⟨(ar.add (kn * 6)).block, (ar.add (kn * 6)).off + 5, none⟩ = some (.int .i64 rr.cnt)) := ⟨fun W h => by
                    have e := HBR.out.below h HBR.out.lt; obtain ⟨ar', rr', e1, hr', _, _, _, _, k4, k5⟩ := (HRK.out.below h).cells hkm; injection e1 with e1
                    subst e1; have e2 : rr' = rr := (by rw [hri] at hr'; injection hr' with hr'; exact hr'.symm); subst e2
                    exact ⟨by rw [e.cell]; rfl, k4, k5⟩⟩
                  obtain ⟨e0, _, _⟩ := HBX.out wr HWr.out; have HK0 : Sl (gt us p = (kn : Int)) := ⟨hkn⟩; obtain ⟨own, hown⟩ : ∃ o, semI nu de = o := ⟨_, rfl⟩; rw [hown] at HSM HRU; clear hkn hkb c2 c3 c4 c5 hri hvf hnu hde hok hown; go_wp2_with fail; refine (HSM.out _).mono ?_; rintro e w5 ⟨rfl, hb5, hob⟩; have HW5 : Sl (Below w1.heap.size w1 w5) := ⟨HWr.out.trans (hb5.mono HWr.out.size)⟩; have HO5 : Sl (w5.ownsRow w4.heap.size tPt 4 v (pts us (ruP x R us) p).length ((pts us (ruP x R us) p).flatMap ptC)) := ⟨own_mv HP.out.2.1 (Mv.of_below hb5) (fun z hz => by have := (HP.out.2.1.lt z hz).2; omega)⟩; have HX5 : Sl (Below w4.heap.size w4 w5) := ⟨HP.out.2.2.trans (hb5.mono HP.out.2.2.size)⟩; have HPE : Sl (ptsE (rkP R us) (ruP x R us) p = 0) := ⟨HP.out.1⟩; have HRN : Sl _ := ⟨mruns_any w.heap.size a b A i c L x HX.out p (kn : Int) own w5 (HBK.out.below HW5.out HBK.out.lt) (HM.out.below HW5.out) HF.out (by omega) hob⟩; clear hb5 hob HSM HP e0 cu d2 d3; go_wp2_with fail; refine HRN.out.mono ?_; rintro e w6 ⟨⟨v16', rfl, hown6⟩, hb6⟩; have HW6 : Sl (Below w1.heap.size w1 w6) := ⟨HW5.out.trans (hb6.mono HW5.out.size)⟩; have HO6 : Sl (w6.ownsRow w4.heap.size tPt 4 v (pts us (ruP x R us) p).length ((pts us (ruP x R us) p).flatMap ptC)) := ⟨own_mv HO5.out (Mv.of_below hb6) (fun z hz => by have := (HO5.out.lt z hz).2; omega)⟩; have HX6 : Sl (Below w4.heap.size w4 w6) := ⟨HX5.out.trans (hb6.mono HX5.out.size)⟩; obtain ⟨A6, c6, e6, hrd⟩ := own_slice2 hown6; subst e6; have HBD : Sl (∀ y ∈ x.runs p own x.n, RnB y) := ⟨HF.out.runs_bd p own x.n (Nat.le_refl _)⟩; have HNL : Sl ((x.runs p own x.n).length ≤ 12) := ⟨by have := x.runs_len p own x.n; rw [HXN.out] at this ⊢; omega⟩; obtain ⟨ru, hru⟩ : ∃ l, x.runs p own x.n = l := ⟨_, rfl⟩; rw [hru] at HBD HNL hrd HRU ⊢; obtain ⟨nl, hnl⟩ : ∃ z, ru.length = z := ⟨_, rfl⟩; rw [hnl] at HNL hrd ⊢; have HNL2 : Sl _ := ⟨hnl⟩; have hnl12 := HNL.out; have HRD : Sl _ := ⟨hrd⟩; clear hrd hown6 hb6 hru hnl HRN HO5 HX5 HNL; go_wp2_with fail
                  go_loopw [18, 66] (fun s18 s66 wq => ∃ (t : Nat) (v18 : Value), t ≤ nl ∧ s66 = .int .i64 t ∧ s18 = v18 ∧ Sl ((∀ j y, j < t → ru[j]? = some y → rnE rr y = 0) ∧ Below w6.heap.size w6 wq)) (fun _ s66 _ => nl - (RowKit.intOf s66).toNat)
                  case atStart => exact ⟨0, _, Nat.zero_le _, rfl, rfl, ⟨fun j y hj => absurd hj (Nat.not_lt_zero _), Below.refl _ _⟩⟩
                  case round =>
                    obtain ⟨t, v18, ht, rfl, rfl, HT⟩ := hrel; have HWq : Sl (Below w1.heap.size w1 wr) := ⟨HW6.out.trans (HT.out.2.mono HW6.out.size)⟩
                    by_cases htn : t < nl
                    · have htI : (t : Int) < (nl : Int) := (by omega); have htd : decide ((t : Int) < (nl : Int)) = true := decide_eq_true htI; obtain ⟨al, y, hA6, hy, hc⟩ := flatS_cells ((HRD.out.below HT.out.2)) (fun _ => rfl) (by rw [List.length_map]; exact HNL2.out) htn; subst hA6; obtain ⟨f, t', s, hrt, hye⟩ := ptOf_at hy; subst hye; have y0 := hc 0 _ rfl; have y1 := hc 1 _ rfl; have y2 := hc 2 _ rfl; have y3 := hc 3 _ rfl; rw [addrP_z] at y0; rw [addrP_k] at y1 y2 y3; have hbd := HBD.out _ (List.mem_of_getElem? hrt); unfold RnB at hbd; simp only [] at hbd; have HRT : Sl _ := ⟨hrt⟩; clear hc hy hrt
                      have HER : Sl (∀ E : Int, rnE rr (f, t', s) = E → E ≠ 0 → partE x R us = E) := ⟨fun E h1 h2 => by
                        have a1 : rnsE (rkP R us p) (ruP x R us p) = E := (by rw [HRP.out, HRU.out, rnsE_hit HT.out.1 HRT.out (by rw [h1]; exact h2), h1]); have a2 := ptsE_hit HPE.out (by rw [a1]; exact h2) hpq; rw [a1] at a2; rw [HE2.out, a2]
                        simp [h2]⟩
                      have HHP : Sl (rr.hasP (f + s) (t' + s) = (rr.has (f + s) && rr.has (t' + s))) := ⟨RkV.hasP_has (by omega)⟩; have HRE : Sl (rnE rr (f, t', s) = if s < -96 ∨ 96 < s then 7 else if (rr.has (f + s) && rr.has (t' + s)) = true then 0 else 4) := ⟨rfl⟩; have HWZ : Sl (Below w6.heap.size w6 (wr.alloc (.cells #[.int .i64 (kn : Int), .int .i64 s, .int .i64 f, .int .i64 t'] tPt))) := ⟨HT.out.2.alloc HT.out.2.size _⟩; have XN : Sl (Blk (wr.alloc (.cells #[.int .i64 (kn : Int), .int .i64 s, .int .i64 f, .int .i64 t'] tPt)) wr.heap.size tPt #[.int .i64 (kn : Int), .int .i64 s, .int .i64 f, .int .i64 t']) := ⟨Blk.new _ _ _⟩
                      by_cases hs1 : s < -96
                      · have hs1d : decide (s < -96) = true := decide_eq_true hs1; have HE3 : Sl (partE x R us = 7) := ⟨HER.out 7 (by rw [HRE.out, if_pos (.inl hs1)]) (by decide)⟩; go_wp2_with fail; go_ret2; exact ⟨PartR.bad HE3.out (by decide) rfl, HU.out.trans ((HW6.out.trans (HWZ.out.mono HW6.out.size)).mono HU.out.size)⟩
                      · have hs1d : decide (s < -96) = false := decide_eq_false hs1
                        by_cases hs2 : 96 < s
                        · have hs2d : decide (96 < s) = true := decide_eq_true hs2; have HE3 : Sl (partE x R us = 7) := ⟨HER.out 7 (by rw [HRE.out, if_pos (.inr hs2)]) (by decide)⟩; go_wp2_with fail; go_ret2; exact ⟨PartR.bad HE3.out (by decide) rfl, HU.out.trans ((HW6.out.trans (HWZ.out.mono HW6.out.size)).mono HU.out.size)⟩
                        · have hs2d : decide (96 < s) = false := decide_eq_false hs2; rw [if_neg (by omega)] at HRE; have hw1 : IntKind.i64.wrap (f + s) = f + s := (by rw [IntKind.wrap_i64]; omega); have hw2 : IntKind.i64.wrap (t' + s) = t' + s := (by rw [IntKind.wrap_i64]; omega); have hif : i64 (f + s) := (by unfold i64; omega); have hit : i64 (t' + s) := (by unfold i64; omega); go_wp2_with fail; obtain ⟨g18, hg18⟩ : ∃ g, wr.heap.size = g := ⟨_, rfl⟩; rw [hg18] at XN
                          (try rw [hg18])
                          clear hg18 y0 y1 y2 y3; generalize wr.alloc (.cells #[.int .i64 (kn : Int), .int .i64 s, .int .i64 f, .int .i64 t'] tPt) = wz at *
                          have HWY : Sl (Below w1.heap.size w1 wz) := ⟨HW6.out.trans (HWZ.out.mono HW6.out.size)⟩; obtain ⟨e0, q4, q5⟩ := HBX.out wz HWY.out; have x1 := XN.out.cell 1; have x2 := XN.out.cell 2; have x3 := XN.out.cell 3; simp at x1 x2 x3; obtain ⟨hh, hhe⟩ : ∃ z, rr.hasP (f + s) (t' + s) = z := ⟨_, rfl⟩; have VA : Sl (∀ z, Calls Tryz.prog 37 #[.pointer (some (ar.add (kn * 6))), .int .i64 (f + s), .int .i64 (t' + s)] (wz.drewN z) fun e w'' => e = .returned (.bool hh) ∧ ∃ k, w'' = wz.drewN k) := ⟨fun z => (mhas_any (ar.add (kn * 6)) rr (f + s) (t' + s) (wz.drewN z) q4 q5 hif hit).mono fun e w'' h => ⟨by rw [h.1, hhe], by obtain ⟨k, hk⟩ := h.2; exact ⟨z + k, by rw [hk, drew2]⟩⟩⟩; have HHH : Sl (hh = (rr.has (f + s) && rr.has (t' + s))) := ⟨by rw [← hhe]; exact HHP.out⟩; clear hhe q4 q5 hif hit
                          go_quiet ((go_at_call 37; (with_reducible exact VA.out _)))
                          rw [← HHH.out] at HRE
                          cases hh
                          · have HE3 : Sl (partE x R us = 4) := ⟨HER.out 4 (by rw [HRE.out]; rfl) (by decide)⟩; go_wp2_with fail; go_ret2; exact ⟨PartR.bad HE3.out (by decide) rfl, HU.out.trans ((below_drewN HWY.out _).mono HU.out.size)⟩
                          · go_wp2_with fail; refine ⟨⟨t + 1, _, htn, by go_num, rfl, ⟨fun j y hj hy => ?_, below_drewN HWZ.out _⟩⟩, by simp [RowKit.intOf]; omega⟩; rcases Nat.lt_or_ge j t with h | h
                            · exact HT.out.1 j y h hy
                            · obtain rfl : j = t := (by omega); rw [HRT.out] at hy; injection hy with hy
                              subst hy; rw [HRE.out]; rfl
                    · obtain rfl : t = nl := (by omega); have htd : decide ((t : Int) < (t : Int)) = false := decide_eq_false (by omega); have htI : ¬ (t : Int) < (t : Int) := (by omega)
                      have HRZ : Sl (rnsE (rkP R us p) (ruP x R us p) = 0) := ⟨by
                        rw [HRP.out, HRU.out, rnsE_zero]; intro y hy; obtain ⟨j, hj, e⟩ := List.getElem_of_mem hy
                        exact HT.out.1 j y (by rw [← HNL2.out]; exact hj) (by rw [List.getElem?_eq_getElem hj, e])⟩
                      have HOq : Sl (wr.ownsRow w4.heap.size tPt 4 v (pts us (ruP x R us) p).length ((pts us (ruP x R us) p).flatMap ptC)) := ⟨own_mv HO6.out (Mv.of_below HT.out.2) (fun z hz => by have := (HO6.out.lt z hz).2; omega)⟩; have HXq : Sl (Below w4.heap.size w4 wr) := ⟨HX6.out.trans (HT.out.2.mono HX6.out.size)⟩; have HRq : Sl (Reads wr w6.heap.size 4 A6 t ((ru.map (ptOf (kn : Int))).flatMap ptC)) := ⟨HRD.out.below HT.out.2⟩; have HPT : Sl (pts us (ruP x R us) (p + 1) = pts us (ruP x R us) p ++ ru.map (ptOf (kn : Int))) := ⟨by rw [pts, HRU.out, HK0.out]⟩; have HPL2 : Sl ((pts us (ruP x R us) p).length ≤ 12 * p) := ⟨pts_few HF.out p⟩; obtain ⟨np, hnp⟩ : ∃ z, (pts us (ruP x R us) p).length = z := ⟨_, rfl⟩; rw [hnp] at HOq HPL2; have HNP : Sl _ := ⟨hnp⟩; have hnp96 : np ≤ 100 := (by have := HPL2.out; omega); clear hnp; go_wp2_with (at_builtin; go_loud (refine wpList_append_any _ rfl (.tmp 94) (.tmp 95) _ rfl w4.heap.size tPt i2 z2 4 32 Tryz.underlying37 HI.out.1 HI.out.2.1 HI.out.2.2.1 HI.out.2.2.2.1 HI.out.2.2.2.2 (by decide) v np _ rfl HOq.out _ A6 t c6 _ rfl HRq.out (ptC_one _) (by unfold maxLen; omega) (by omega) HXq.out.size ?_; rintro v6 w8 hown hg hat; have XS : Sl _ := ⟨And.intro hown hg⟩; clear hown hg hat))
                      have XQ : Sl (w8.ownsRow w4.heap.size tPt 4 v6 (pts us (ruP x R us) (p + 1)).length ((pts us (ruP x R us) (p + 1)).flatMap ptC)) := ⟨by
                        rw [HPT.out, List.flatMap_append, List.length_append, List.length_map, HNP.out, HNL2.out]
                        exact XS.out.1⟩
                      have XB : Sl (Below w4.heap.size w4 w8) := ⟨HXq.out.grown XS.out.2 HXq.out.size (fun z hz => (HOq.out.lt z hz).1)⟩; exact ⟨⟨p + 1, v6, _, _, _, _, _, hpq, by go_num, rfl, rfl, rfl, rfl, rfl, rfl, ⟨by rw [ptsE, HPE.out, if_neg (by decide)]; exact HRZ.out, XQ.out, XB.out⟩⟩, by simp [RowKit.intOf]; omega⟩
                · obtain rfl : p = q := (by omega); have hid : decide ((p : Int) < (p : Int)) = false := decide_eq_false (by omega); have hiI : ¬ (p : Int) < (p : Int) := (by omega); have HW5 : Sl (Below w.heap.size w wr) := ⟨HU.out.trans ((HW3.out.trans (HP.out.2.2.mono HW3.out.size)).mono HU.out.size)⟩; have HOW : Sl (wr.ownsRow w.heap.size tPt 4 v (pts us (ruP x R us) p).length ((pts us (ruP x R us) p).flatMap ptC)) := ⟨xown_base HP.out.2.1 (by have h1 := HU.out.size; have h2 := HW3.out.size; omega)⟩; obtain ⟨A7, c7, e7, _⟩ := own_slice2 HOW.out; subst e7; obtain ⟨ln, hln⟩ : ∃ z, (pts us (ruP x R us) p).length = z := ⟨_, rfl⟩; rw [HP.out.1] at HE2; rw [hln] at HE2 HOW ⊢; have HLN : Sl _ := ⟨hln⟩; clear hln
                  by_cases hl : 12 < ln
                  · have hlI : (12 : Int) < (ln : Int) := (by omega); have hld : decide ((12 : Int) < (ln : Int)) = true := decide_eq_true hlI; go_wp2_with fail; go_ret2; exact ⟨PartR.bad (by rw [HE2.out]; simp [hl]) (by decide) rfl, HW5.out⟩
                  · have hlI : ¬ (12 : Int) < (ln : Int) := (by omega); have hld : decide ((12 : Int) < (ln : Int)) = false := decide_eq_false hlI; go_wp2_with fail; go_ret2; exact ⟨PartR.ok (by rw [HE2.out]; simp [hl]) rfl (by rw [HUL.out, HLN.out]; exact HOW.out), HW5.out⟩
            · go_wp2_with fail; go_ret2; exact ⟨PartR.bad (by rw [HE2.out]; simp) (by decide) rfl, HU.out.trans (HW3.out.mono HU.out.size)⟩
          · go_wp2_with fail; go_ret2; exact ⟨PartR.bad (by rw [HE2.out]; simp) (by decide) rfl, HU.out.trans (HW3.out.mono HU.out.size)⟩
        · have hqb : ((q : Int) != (mx : Int)) = true := (by rw [bne_iff_ne]; omega); have HE : Sl (partE x R us = 2) := ⟨by unfold partE; rw [if_neg (by rw [HCH.out]; decide), if_pos (by rw [HUL.out, HMX.out]; exact hq0)]⟩; go_wp2_with fail; go_ret2; exact ⟨PartR.bad HE.out (by decide) rfl, HU.out.trans (HQ.out.mono HU.out.size)⟩
  · have h0b : (r != 0) = true := (by rw [bne_iff_ne]; exact h0); have HE : Sl (partE x R us = r) := ⟨by unfold partE; rw [HR.out, if_pos h0]⟩; go_wp2_with fail; go_ret2; exact ⟨PartR.bad HE.out h0 rfl, HU.out⟩
end Go.Proofs.YtafadpaljanghaaGreatDoor
namespace Go.Proofs.YtafadpaljanghaaGreatDoor
set_option linter.unusedSimpArgs false
set_option linter.unusedVariables false
def nxe (o : List Nat) (i k g n : Nat) : Nat := if n = i ∨ n = k then o[n]?.getD 0 / g else o[n]?.getD 0
def nxt (o : List Nat) (i k g : Nat) : Nat → List Nat
  | 0 => []
  | n+1 => if 1 < nxe o i k g n then nxt o i k g n ++ [nxe o i k g n] else nxt o i k g n
structure Bz (N : List Nat) (o : List Nat) : Prop where
  two : ∀ p ∈ o, 2 ≤ p ∧ p < 2097152
  gen : ∀ x ∈ N, Gen o x
  mzb : mz o [] ≤ 1100
theorem mz_nil (o : List Nat) : mz o [] = (o.map fun n => 3 * n.log2).sum := by unfold mz; simp
theorem mz_snoc (o : List Nat) (x : Nat) : mz (o ++ [x]) [] = mz o [] + 3 * x.log2 := by rw [mz_nil, mz_nil, List.map_append, List.sum_append]; simp
theorem mz_length : ∀ (o : List Nat), (∀ p ∈ o, 2 ≤ p) → 3 * o.length ≤ mz o []
  | [], _ => by simp [mz]
  | p :: o, h => by
    have ih := mz_length o fun q hq => h q (List.mem_cons_of_mem _ hq)
    have := log2_pos (h p List.mem_cons_self); rw [mz_nil] at ih ⊢; rw [List.map_cons, List.sum_cons, List.length_cons]; omega
theorem Bz.len {N o : List Nat} (h : Bz N o) : o.length ≤ 366 := by
  have := mz_length o fun p hp => (h.two p hp).1
  have := h.mzb; omega
theorem nxe_pos {o : List Nat} {i k g : Nat} (h : ∀ p ∈ o, 2 ≤ p) (hi : ∀ x, o[i]? = some x → g ∣ x) (hk : ∀ x, o[k]? = some x → g ∣ x) (hg : 1 < g) {n : Nat} (hn : n < o.length) :
    ∃ x, o[n]? = some x ∧ 1 ≤ nxe o i k g n ∧ nxe o i k g n ≤ x ∧ (n = i ∨ n = k → nxe o i k g n * g = x) ∧ (¬ (n = i ∨ n = k) → nxe o i k g n = x) := by
  obtain ⟨x, hx⟩ : ∃ x, o[n]? = some x := ⟨_, List.getElem?_eq_getElem hn⟩; have h2 := h x (List.mem_of_getElem? hx); refine ⟨x, hx, ?_⟩; unfold nxe; rw [hx, Option.getD_some]
  by_cases hc : n = i ∨ n = k
  · have hd : g ∣ x := by
      rcases hc with rfl | rfl
      · exact hi x hx
      · exact hk x hx
    rw [if_pos hc]; obtain ⟨c, rfl⟩ := hd; rw [Nat.mul_div_cancel_left _ (by omega)]; have hc0 : c ≠ 0 := fun h0 => by subst h0; simp at h2
    have := Nat.le_mul_of_pos_left c (show 0 < g by omega); exact ⟨by omega, this, fun _ => Nat.mul_comm _ _, fun h => absurd hc h⟩
  · rw [if_neg hc]; exact ⟨by omega, Nat.le_refl _, fun h => absurd h hc, fun _ => rfl⟩
theorem nxt_mem {o : List Nat} {i k g : Nat} {p : Nat} : ∀ {n}, p ∈ nxt o i k g n ↔ ∃ j, j < n ∧ 1 < nxe o i k g j ∧ p = nxe o i k g j
  | 0 => by simp [nxt]
  | n+1 => by
    rw [nxt]; constructor
    · intro h
      split at h
      · rename_i h1; rcases List.mem_append.1 h with h | h
        · obtain ⟨j, a, b⟩ := nxt_mem.1 h; exact ⟨j, by omega, b⟩
        · exact ⟨n, by omega, h1, by simpa using h⟩
      · obtain ⟨j, a, b⟩ := nxt_mem.1 h; exact ⟨j, by omega, b⟩
    · rintro ⟨j, a, b, c⟩
      by_cases hj : j = n
      · subst hj; rw [if_pos b, c]; exact List.mem_append_right _ (by simp)
      · have := nxt_mem (n := n).2 ⟨j, by omega, b, c⟩
        split
        · exact List.mem_append_left _ this
        · exact this
theorem nxt_mz {o : List Nat} {i k g : Nat} (h : ∀ p ∈ o, 2 ≤ p) (hi : ∀ x, o[i]? = some x → g ∣ x) (hk : ∀ x, o[k]? = some x → g ∣ x) (hg : 1 < g) (hik : i ≠ k) : ∀ n, n ≤ o.length →
    mz (nxt o i k g n) [] + (if i < n then 3 * g.log2 else 0) + (if k < n then 3 * g.log2 else 0) ≤ mz (o.take n) []
  | 0, _ => by simp [nxt, mz]
  | n+1, hn => by
    have ih := nxt_mz h hi hk hg hik n (by omega); obtain ⟨x, hx, p1, p2, p3, p4⟩ := nxe_pos h hi hk hg (show n < o.length by omega)
    have e : mz (nxt o i k g (n + 1)) [] = mz (nxt o i k g n) [] + 3 * (nxe o i k g n).log2 := by
      rw [nxt]
      split
      · exact mz_snoc _ _
      · have : nxe o i k g n = 1 := (by omega); rw [this, show Nat.log2 1 = 0 by decide]; rfl
    rw [e, List.take_add_one, hx]; show _ ≤ mz (o.take n ++ [x]) []; rw [mz_snoc]
    by_cases hc : n = i ∨ n = k
    · have hl := log2_mul (a := nxe o i k g n) (b := g) (by omega) (by omega); rw [p3 hc] at hl; rcases hc with rfl | rfl
      · rw [if_neg (Nat.lt_irrefl _)] at ih; rw [if_pos (Nat.lt_succ_self _)]
        by_cases h2 : k < n
        · rw [if_pos h2] at ih; rw [if_pos (by omega)]; omega
        · rw [if_neg h2] at ih; rw [if_neg (by omega)]; omega
      · rw [if_neg (Nat.lt_irrefl n)] at ih; rw [if_pos (Nat.lt_succ_self n)]
        by_cases h2 : i < n
        · rw [if_pos h2] at ih; rw [if_pos (by omega)]; omega
        · rw [if_neg h2] at ih; rw [if_neg (by omega)]; omega
    · rw [p4 hc]
      have e1 : (if i < n + 1 then 3 * g.log2 else 0) = (if i < n then 3 * g.log2 else 0) := by
        by_cases g1 : i < n
        · rw [if_pos g1, if_pos (by omega)]
        · rw [if_neg g1, if_neg (by omega)]
      have e2 : (if k < n + 1 then 3 * g.log2 else 0) = (if k < n then 3 * g.log2 else 0) := by
        by_cases g1 : k < n
        · rw [if_pos g1, if_pos (by omega)]
        · rw [if_neg g1, if_neg (by omega)]
      rw [e1, e2]; omega
theorem Bz.next {N o : List Nat} {i k x y g : Nat} (h : Bz N o) (hki : k < i) (hx : o[i]? = some x) (hy : o[k]? = some y) (hg : Nat.gcd x y = g) (h1 : 1 < g) : Bz N (nxt o i k g o.length ++ [g]) ∧ mz (nxt o i k g o.length ++ [g]) [] + 3 ≤ mz o [] := by
  have h2 : ∀ p ∈ o, 2 ≤ p := fun p hp => (h.two p hp).1
  have hi : ∀ z, o[i]? = some z → g ∣ z := fun z hz => by rw [hx] at hz; injection hz with hz; rw [← hz, ← hg]; exact Nat.gcd_dvd_left _ _
  have hk : ∀ z, o[k]? = some z → g ∣ z := fun z hz => by rw [hy] at hz; injection hz with hz; rw [← hz, ← hg]; exact Nat.gcd_dvd_right _ _
  have hil : i < o.length := by
    rcases Nat.lt_or_ge i o.length with a | a
    · exact a
    · rw [List.getElem?_eq_none a] at hx; cases hx
  have hm := nxt_mz h2 hi hk h1 (by omega) o.length (Nat.le_refl _); rw [if_pos hil, if_pos (by omega), List.take_length] at hm; have hl := log2_pos h1; have hms : mz (nxt o i k g o.length ++ [g]) [] + 3 ≤ mz o [] := (by rw [mz_snoc]; omega)
  have hgx : g < 2097152 := by
    have hxb := h.two x (List.mem_of_getElem? hx); have := Nat.le_of_dvd (by omega) (hi x hx); omega
  refine ⟨⟨fun p hp => ?_, fun z hz => (h.gen z hz).subst fun s hs => ?_, by have := h.mzb; omega⟩, hms⟩
  · rcases List.mem_append.1 hp with hp | hp
    · obtain ⟨j, a, b, c⟩ := nxt_mem.1 hp; obtain ⟨w, hw, p1, p2, _⟩ := nxe_pos h2 hi hk h1 a; have := h.two w (List.mem_of_getElem? hw); rw [c]; omega
    · rw [List.mem_singleton] at hp; rw [hp]; omega
  · obtain ⟨j, hj⟩ := List.mem_iff_getElem?.1 hs
    have hjl : j < o.length := by
      rcases Nat.lt_or_ge j o.length with a | a
      · exact a
      · rw [List.getElem?_eq_none a] at hj; cases hj
    obtain ⟨w, hw, p1, p2, p3, p4⟩ := nxe_pos h2 hi hk h1 hjl; rw [hj] at hw; injection hw with hw
    subst hw
    have hG : Gen (nxt o i k g o.length ++ [g]) (nxe o i k g j) := by
      rcases Nat.lt_or_ge 1 (nxe o i k g j) with a | a
      · exact Gen.of (List.mem_append_left _ (nxt_mem.2 ⟨j, hjl, a, rfl⟩))
      · rw [show nxe o i k g j = 1 by omega]; exact Gen.one
    by_cases hc : j = i ∨ j = k
    · rw [← p3 hc]; exact hG.times (Gen.of (List.mem_append_right _ (by simp)))
    · rw [← p4 hc]; exact hG
def big (l : List Nat) : List Nat := l.filter fun n => decide (1 < n)
theorem big_snoc (l : List Nat) (n : Nat) : big (l ++ [n]) = if 1 < n then big l ++ [n] else big l := by
  unfold big; rw [List.filter_append]
  by_cases h : 1 < n
  · rw [if_pos h]; simp [h]
  · rw [if_neg h]; simp [h]
theorem big_mz : ∀ (l : List Nat), (∀ x ∈ l, x < 2097152) → mz (big l) [] ≤ l.length * 60
  | [], _ => by simp [big, mz]
  | n :: l, h => by
    have ih := big_mz l fun x hx => h x (List.mem_cons_of_mem _ hx)
    have hn := h n List.mem_cons_self
    have hl : n.log2 ≤ 20 := by
      rcases Nat.eq_zero_or_pos n with h0 | h0
      · subst h0; decide
      · have := (Nat.log2_lt (by omega)).2 (show n < 2 ^ 21 from hn); omega
    unfold big at ih ⊢; rw [List.filter_cons]
    split
    · rw [mz_nil] at ih ⊢; rw [List.map_cons, List.sum_cons, List.length_cons]; omega
    · rw [List.length_cons]; omega
theorem Bz.start {l : List Nat} (h : ∀ x ∈ l, 1 ≤ x ∧ x < 2097152) (hl : l.length ≤ 17) : Bz l (big l) := by
  refine ⟨fun p hp => ?_, fun x hx => ?_, ?_⟩
  · have := List.mem_filter.1 hp; have h1 := h p this.1; have h2 := of_decide_eq_true this.2; omega
  · rcases Nat.lt_or_ge 1 x with h1 | h1
    · exact Gen.of (List.mem_filter.2 ⟨hx, decide_eq_true h1⟩)
    · have := h x hx; rw [show x = 1 by omega]; exact Gen.one
  · have := big_mz l fun x hx => (h x hx).2
    omega
def Pc (o : List Nat) (i : Nat) : Prop := ∀ a b x y, a < b → b < i → o[a]? = some x → o[b]? = some y → Nat.gcd x y = 1
theorem Pc.cop {N o : List Nat} (h : Bz N o) (hp : Pc o o.length) : Cop o := by
  refine ⟨fun p hp => (h.two p hp).1, ?_⟩; rw [List.pairwise_iff_getElem]; intro i j hi hj hij; exact hp i j _ _ hij hj (List.getElem?_eq_getElem hi) (List.getElem?_eq_getElem hj)
end Go.Proofs.YtafadpaljanghaaGreatDoor
namespace Go.Proofs.YtafadpaljanghaaGreatDoor
set_option linter.unusedSimpArgs false
open Go.RowKit
set_option linter.unusedVariables false
theorem big_take {l : List Nat} {i x : Nat} (h : l[i]? = some x) : big (l.take (i + 1)) = if 1 < x then big (l.take i) ++ [x] else big (l.take i) := by
  rw [List.take_add_one, h]; exact big_snoc _ _
set_option maxHeartbeats 6400000 in
set_option maxRecDepth 100000 in
theorem r4baseG_any (A : Option Addr) (n c : Nat) (l : List (Nat × Int)) (w : World) (hl : TR w A n l) (hn : n ≤ 17) (h6 : ∀ x ∈ l, 1 ≤ x.1 ∧ x.1 < 2097152) :
    Calls Tryz.prog 134 #[.slice A n c] w fun e w' => (∃ B m d o, e = .returned (.slice B m d) ∧ V w' B m o ∧ Bz (l.map Prod.fst) o ∧ Pc o m) ∧ Below w.heap.size w w' := by
  obtain ⟨i0, hi0, hz0, hz1, hz2⟩ := info_parts infoI; have HI : Sl _ := ⟨And.intro hi0 (And.intro hz0 (And.intro hz1 hz2))⟩; clear hi0 hz0 hz1 hz2; have HL : Sl _ := ⟨And.intro hl h6⟩; clear hl h6; go_enter Tryz.func134, Tryz.ntmps134; go_wp2_with fail
  go_loopw [3, 4] (fun s3 s4 wr => ∃ i k : Nat, i ≤ n ∧ k ≤ i ∧ k = (big ((l.map Prod.fst).take i)).length ∧ s4 = .int .i64 i ∧ Sl (wr.ownsRow w.heap.size 2 1 s3 k ((big ((l.map Prod.fst).take i)).map cv) ∧ Below w.heap.size w wr)) (fun _ s4 _ => n - (RowKit.intOf s4).toNat)
  case atStart => exact ⟨0, 0, Nat.zero_le _, Nat.zero_le _, rfl, rfl, ⟨World.ownsRow_nil _ _ _ _, Below.refl _ _⟩⟩
  case round =>
    obtain ⟨i, k, hi, hki, hkl, rfl, HR⟩ := hrel
    by_cases hin : i < n
    · obtain ⟨⟨nn, kk⟩, hx⟩ : ∃ x, l[i]? = some x := ⟨_, List.getElem?_eq_getElem (by rw [HL.out.1.1]; exact hin)⟩; obtain ⟨ad, rfl, hab, e1, e2⟩ := (HL.out.1.below HR.out.2).cells hx; simp only [] at e1; clear e2; have hx1 : (l.map Prod.fst)[i]? = some nn := (by rw [List.getElem?_map, hx]; rfl); have hp := HL.out.2 _ (List.mem_of_getElem? hx); simp only [] at hp; have hbt := big_take hx1
      by_cases hg1 : 1 < nn
      · have hgt : 1 < (nn : Int) := (by omega); rw [if_pos hg1] at hbt; have HX : Sl _ := ⟨And.intro hbt hkl⟩; have HOA := HR.out.1.alloc (.cells #[.int .i64 (nn : Int)] 2); have hsz := HR.out.2.size; clear hx hp hx1 hbt hkl; go_wp2_with (at_builtin; go_loud (refine wpList_append_any _ rfl (.tmp 23) (.tmp 29) _ rfl w.heap.size 2 i0 _ 1 8 Tryz.underlying103 HI.out.1 HI.out.2.1 HI.out.2.2.1 HI.out.2.2.2 rfl (by decide) _ k _ rfl HOA _ (some ⟨wr.heap.size, 0, none⟩) 1 1 ([nn].map cv) rfl (V_one wr nn _) (one_cv nn) (by unfold maxLen; omega) (by omega) (Nat.le_trans hsz (by simp)) ?_; intro v1 w3 hown1 hg1 hat1)); have hBa := HR.out.2.alloc hsz (.cells #[.int .i64 (nn : Int)] 2); have hown := HR.out.1.lt; have hB3 := hBa.grown hg1 (Nat.le_trans hsz (by simp)) (fun k hk => (hown k hk).1); refine ⟨⟨i + 1, k + 1, hin, by omega, by rw [HX.out.1, List.length_append, ← HX.out.2]; rfl, by go_num, ⟨?_, hB3⟩⟩, by simp [RowKit.intOf]; try omega⟩; rw [HX.out.1, List.map_append]; exact hown1
      · have hgt : ¬ 1 < (nn : Int) := (by omega); have hgd : decide (1 < (nn : Int)) = false := decide_eq_false hgt; rw [if_neg hg1] at hbt; have HX : Sl _ := ⟨And.intro hbt hkl⟩; clear hx hp hx1 hbt hkl hg1; go_wp2_with fail; refine ⟨⟨i + 1, k, hin, by omega, by rw [HX.out.1]; exact HX.out.2, by go_num, ⟨?_, HR.out.2⟩⟩, by simp [RowKit.intOf]; try omega⟩; rw [HX.out.1]; exact HR.out.1
    · obtain rfl : n = i := (by omega); have h2 := HR.out; rw [List.take_of_length_le (by rw [List.length_map, HL.out.1.1]; exact Nat.le_refl _)] at h2 hkl; have H2 : Sl _ := ⟨And.intro h2 hkl⟩; clear h2 HR hin hi hkl; go_wp2_with fail
      go_loopg [3, 5] (mz (big (l.map Prod.fst)) [] * 2000 + k) (fun gq s3 s5 wr => ∃ (i L : Nat) (o : List Nat), i ≤ L ∧ L ≤ 366 ∧ gq = mz o [] * 2000 + (L - i) ∧ s5 = .int .i64 i ∧ Sl (wr.ownsRow w.heap.size 2 1 s3 L (o.map cv) ∧ Bz (l.map Prod.fst) o ∧ Pc o i ∧ Below w.heap.size w wr))
      case atStart =>
        have hbz := Bz.start (l := l.map Prod.fst) (fun x hx => by
          obtain ⟨y, hy, rfl⟩ := List.mem_map.1 hx
          exact HL.out.2 y hy) (by rw [List.length_map, HL.out.1.1]; exact hn)
        refine ⟨0, k, _, Nat.zero_le _, by omega, rfl, rfl, ⟨H2.out.1.1, hbz, fun a b x y _ hb => absurd hb (Nat.not_lt_zero _), H2.out.1.2⟩⟩
      case round =>
        clear H2; obtain ⟨i, L, o, hi, hL, hgk, rfl, HO⟩ := hrel; obtain ⟨wo, rfl⟩ : ∃ wo : World, wo = wr := ⟨_, rfl⟩; obtain ⟨A1, c1, rfl, hc1, hV⟩ := V_own HO.out.1; have hol : o.length = L := hV.len; have HG : Sl _ := ⟨hgk⟩; clear hgk
        by_cases hiL : i < L
        · obtain ⟨p, hp⟩ : ∃ p, o[i]? = some p := ⟨_, List.getElem?_eq_getElem (by omega)⟩; have hp6 := HO.out.2.1.two p (List.mem_of_getElem? hp); have HV1 : Sl _ := ⟨And.intro hV (And.intro hp hol)⟩; clear hV hp hol; go_wp2_with fail
          go_loopw [3, 5, 6] (fun s3 s5 s6 wq => ∃ k : Nat, k ≤ i ∧ s3 = .slice A1 L c1 ∧ s5 = .int .i64 i ∧ s6 = .int .i64 k ∧ Sl ((∀ a x, a < k → o[a]? = some x → Nat.gcd x p = 1) ∧ ∃ m, wq = wo.drewN m)) (fun _ _ s6 _ => i - (RowKit.intOf s6).toNat)
          case atStart => exact ⟨0, Nat.zero_le _, rfl, rfl, rfl, ⟨fun a x ha => absurd ha (Nat.not_lt_zero _), 0, rfl⟩⟩
          case round =>
            obtain ⟨k, hk, rfl, rfl, rfl, HK⟩ := hrel
            have HVW : Sl (V wr A1 L o ∧ RowKit.Below w.heap.size w wr ∧ wr.ownsRow w.heap.size 2 1 (.slice A1 L c1) L (o.map cv)) := ⟨by
              obtain ⟨m, hm⟩ := HK.out.2; rw [hm]
              exact ⟨HV1.out.1.drewN m, below_drewN HO.out.2.2.2 m, own_drewN HO.out.1 m⟩⟩
            by_cases hki : k < i
            · obtain ⟨q, hq⟩ : ∃ q, o[k]? = some q := ⟨_, List.getElem?_eq_getElem (by have := HV1.out.2.2; omega)⟩; have hq6 := HO.out.2.1.two q (List.mem_of_getElem? hq); obtain ⟨ad, rfl, hab, hci⟩ := HVW.out.1.cell (k := i) hiL; obtain ⟨ad', e, hab', hck⟩ := HVW.out.1.cell (k := k) (by omega); injection e with e
              subst e; rw [HV1.out.2.1] at hci; rw [hq] at hck; simp only [Option.getD_some] at hci hck; obtain ⟨bp1, bp2⟩ := hp6; obtain ⟨bq1, bq2⟩ := hq6; have hkL : (k : Int) < (L : Int) := (by omega); have hkL2 : k < L := (by omega); have HQ : Sl _ := ⟨hq⟩; obtain ⟨g, hg⟩ : ∃ g, Nat.gcd p q = g := ⟨_, rfl⟩; have hg0 : 0 < g := (by rw [← hg]; exact Nat.gcd_pos_of_pos_left _ (by omega)); have hgp : g ≤ p := (by rw [← hg]; exact Nat.gcd_le_left _ (by omega))
              have VA : Sl (∀ z, Calls Tryz.prog 149 #[.int .i64 p, .int .i64 q] (wr.drewN z) fun e w'' => e = .returned (.int .i64 g) ∧ ∃ y, w'' = wr.drewN y) := ⟨fun z => by
                have h := r4gcd_any p q (wr.drewN z) (by omega) (by omega); rw [hg] at h
                exact h.mono fun e w'' h => ⟨h.1, by obtain ⟨y, hy⟩ := h.2; exact ⟨z + y, by rw [hy, drew2]⟩⟩⟩
              have HGG : Sl _ := ⟨hg⟩; clear hq hab hab' hg
              by_cases hpq : g = 1
              · have hg1 : ((g : Int) == 1) = true := (by rw [hpq]; rfl); have HP1 : Sl _ := ⟨hpq⟩; clear hpq; go_wp2_with fail
                go_quiet ((go_at_call 149; (with_reducible exact VA.out _)))
                go_wp2_with fail; refine ⟨⟨k + 1, hki, rfl, rfl, by go_num, ⟨fun a x ha hx => ?_, by obtain ⟨m, hm⟩ := HK.out.2; exact ⟨m + nq, by rw [hm, drew2]⟩⟩⟩, by simp [RowKit.intOf]; omega⟩; rcases Nat.lt_or_ge a k with h | h
                · exact HK.out.1 a x h hx
                · obtain rfl : a = k := (by omega); rw [HQ.out] at hx; injection hx with hx
                  rw [← hx, Nat.gcd_comm, HGG.out]; exact HP1.out
              · have hg1 : ((g : Int) == 1) = false := (by rw [beq_eq_false_iff_ne]; omega); have hg2 : 1 < g := (by omega); have HNX : Sl _ := ⟨HO.out.2.1.next hki HV1.out.2.1 HQ.out HGG.out hg2⟩
                have HXE : Sl (∀ {z : Nat}, z < o.length → ∃ x, o[z]? = some x ∧ 1 ≤ nxe o i k g z ∧ nxe o i k g z ≤ x ∧ (z = i ∨ z = k → nxe o i k g z * g = x) ∧ (¬ (z = i ∨ z = k) → nxe o i k g z = x)) := ⟨fun {z} hz => nxe_pos (fun p hp => (HO.out.2.1.two p hp).1)
                  (fun z hz => by rw [HV1.out.2.1] at hz; injection hz with hz; rw [← hz, ← HGG.out]; exact Nat.gcd_dvd_left _ _)
                  (fun z hz => by rw [HQ.out] at hz; injection hz with hz; rw [← hz, ← HGG.out]; exact Nat.gcd_dvd_right _ _) hg2 hz⟩
                have HTW : Sl _ := ⟨HO.out.2.1.two⟩; clear hpq; go_wp2_with fail
                go_quiet ((go_at_call 149; (with_reducible exact VA.out _)))
                go_wp2_with fail; generalize hws : wr.drewN nq = ws at *
                have hB0 : RowKit.Below w.heap.size w ws := (by rw [← hws]; exact below_drewN HVW.out.2.1 nq); have hV0 : V ws (some ad) L o := (by rw [← hws]; exact HVW.out.1.drewN nq); have HWS : Sl _ := ⟨And.intro hB0 hV0⟩; clear hws hB0 hV0 HO HK hci hck HVW VA
                go_loopw [8, 9] (fun s8 s9 wq => ∃ (z : Nat) (y : List Nat), z ≤ L ∧ y.length ≤ z ∧ s9 = .int .i64 z ∧ Sl (wq.ownsRow ws.heap.size 2 1 s8 y.length (y.map cv) ∧ y = nxt o i k g z ∧ Below ws.heap.size ws wq)) (fun _ s9 _ => L - (RowKit.intOf s9).toNat)
                case atStart => exact ⟨0, [], Nat.zero_le _, Nat.zero_le _, rfl, ⟨World.ownsRow_nil _ _ _ _, rfl, Below.refl _ _⟩⟩
                case round =>
                  obtain ⟨z, y, hz, hyz, rfl, HY⟩ := hrel; rcases Nat.lt_or_ge z L with hzL | hzL
                  · obtain ⟨x, hx, x1, x2, x3, x4⟩ := HXE.out (z := z) (by have := HV1.out.2.2; omega); have hx6 := HTW.out x (List.mem_of_getElem? hx); obtain ⟨bx1, bx2⟩ := hx6; obtain ⟨ad', e, hab', hcz⟩ := (HWS.out.2.below HY.out.2.2).cell (k := z) hzL; injection e with e
                    subst e; rw [hx] at hcz; simp only [Option.getD_some] at hcz; have hns : nxt o i k g (z + 1) = if 1 < nxe o i k g z then nxt o i k g z ++ [nxe o i k g z] else nxt o i k g z := rfl
                    rw [← HY.out.2.1] at hns; obtain ⟨u, hu⟩ : ∃ u, nxe o i k g z = u := ⟨_, rfl⟩; rw [hu] at x1 x2 x3 x4 hns; have HNS : Sl _ := ⟨hns⟩; clear hx hab' hns hu; have hik : i ≠ k := (by omega)
                    have hdv : z = i ∨ z = k → (x : Int).tdiv (g : Int) = (u : Int) := fun h => by
                      rw [← x3 h, Int.tdiv_eq_ediv_of_nonneg (by omega)]; rw [Int.natCast_mul]; exact Int.mul_ediv_cancel _ (by omega)
                    have hgne : ¬ (g : Int) = 0 := (by omega); have hsz := HY.out.2.2.size; have hown := HY.out.1.lt; clear x3
                    by_cases hzi : z = i
                    · have hdz := hdv (.inl hzi); have hcz2 := hcz; rw [hzi] at hcz2; have hzL2 : (i : Int) < (L : Int) := (by omega); have hq1 : ((z : Int) == (i : Int)) = true := (by rw [hzi]; exact beq_self_eq_true _); clear hdv x4
                      by_cases hu1 : 1 < u
                      · have hgt : 1 < (u : Int) := (by omega); have HOA := HY.out.1.alloc (.cells #[.int .i64 (u : Int)] 2); go_wp2_with (at_builtin; go_loud (refine wpList_append_any _ rfl (.tmp 76) (.tmp 78) _ rfl ws.heap.size 2 i0 _ 1 8 Tryz.underlying103 HI.out.1 HI.out.2.1 HI.out.2.2.1 HI.out.2.2.2 rfl (by decide) _ y.length _ rfl HOA _ (some ⟨wr.heap.size, 0, none⟩) 1 1 ([u].map cv) rfl (V_one wr u _) (one_cv u) (by unfold maxLen; omega) (by omega) (Nat.le_trans hsz (by simp)) ?_; intro v1 w3 hown1 hg1 hat1)); have hBa := HY.out.2.2.alloc hsz (.cells #[.int .i64 (u : Int)] 2); have hB3 := hBa.grown hg1 (Nat.le_trans hsz (by simp)) (fun k hk => (hown k hk).1); have hn1 := HNS.out; rw [if_pos (by omega)] at hn1; refine ⟨⟨z + 1, y ++ [u], hzL, by rw [List.length_append]; simp; omega, by first | go_num | (congr 1; omega), ⟨?_, hn1.symm, hB3⟩⟩, by simp [RowKit.intOf]; try omega⟩; rw [List.map_append, List.length_append]; exact hown1
                      · have hgt : decide (1 < (u : Int)) = false := decide_eq_false (by omega); go_wp2_with fail; have hn1 := HNS.out; rw [if_neg (by omega)] at hn1; exact ⟨⟨z + 1, y, hzL, by omega, by first | go_num | (congr 1; omega), ⟨HY.out.1, HY.out.2.1.trans (HY.out.2.1.symm.trans hn1.symm), HY.out.2.2⟩⟩, by simp [RowKit.intOf]; omega⟩
                    by_cases hzk : z = k
                    · have hdz := hdv (.inr hzk); have hcz2 := hcz; rw [hzk] at hcz2; have hzL2 : (k : Int) < (L : Int) := (by omega); have hq1 : ((z : Int) == (i : Int)) = false := (by rw [beq_eq_false_iff_ne]; omega); have hq2 : ((z : Int) == (k : Int)) = true := (by rw [hzk]; exact beq_self_eq_true _); clear hdv x4
                      by_cases hu1 : 1 < u
                      · have hgt : 1 < (u : Int) := (by omega); have HOA := HY.out.1.alloc (.cells #[.int .i64 (u : Int)] 2); go_wp2_with (at_builtin; go_loud (refine wpList_append_any _ rfl (.tmp 76) (.tmp 78) _ rfl ws.heap.size 2 i0 _ 1 8 Tryz.underlying103 HI.out.1 HI.out.2.1 HI.out.2.2.1 HI.out.2.2.2 rfl (by decide) _ y.length _ rfl HOA _ (some ⟨wr.heap.size, 0, none⟩) 1 1 ([u].map cv) rfl (V_one wr u _) (one_cv u) (by unfold maxLen; omega) (by omega) (Nat.le_trans hsz (by simp)) ?_; intro v1 w3 hown1 hg1 hat1)); have hBa := HY.out.2.2.alloc hsz (.cells #[.int .i64 (u : Int)] 2); have hB3 := hBa.grown hg1 (Nat.le_trans hsz (by simp)) (fun k hk => (hown k hk).1); have hn1 := HNS.out; rw [if_pos (by omega)] at hn1; refine ⟨⟨z + 1, y ++ [u], hzL, by rw [List.length_append]; simp; omega, by first | go_num | (congr 1; omega), ⟨?_, hn1.symm, hB3⟩⟩, by simp [RowKit.intOf]; try omega⟩; rw [List.map_append, List.length_append]; exact hown1
                      · have hgt : decide (1 < (u : Int)) = false := decide_eq_false (by omega); go_wp2_with fail; have hn1 := HNS.out; rw [if_neg (by omega)] at hn1; exact ⟨⟨z + 1, y, hzL, by omega, by first | go_num | (congr 1; omega), ⟨HY.out.1, HY.out.2.1.trans (HY.out.2.1.symm.trans hn1.symm), HY.out.2.2⟩⟩, by simp [RowKit.intOf]; omega⟩
                    · obtain rfl := x4 (fun h => h.elim hzi hzk); have hq1 : ((z : Int) == (i : Int)) = false := (by rw [beq_eq_false_iff_ne]; omega); have hq2 : ((z : Int) == (k : Int)) = false := (by rw [beq_eq_false_iff_ne]; omega); clear hdv x4; have hgt : 1 < (u : Int) := (by omega); have HOA := HY.out.1.alloc (.cells #[.int .i64 (u : Int)] 2); go_wp2_with (at_builtin; go_loud (refine wpList_append_any _ rfl (.tmp 76) (.tmp 78) _ rfl ws.heap.size 2 i0 _ 1 8 Tryz.underlying103 HI.out.1 HI.out.2.1 HI.out.2.2.1 HI.out.2.2.2 rfl (by decide) _ y.length _ rfl HOA _ (some ⟨wr.heap.size, 0, none⟩) 1 1 ([u].map cv) rfl (V_one wr u _) (one_cv u) (by unfold maxLen; omega) (by omega) (Nat.le_trans hsz (by simp)) ?_; intro v1 w3 hown1 hg1 hat1)); have hBa := HY.out.2.2.alloc hsz (.cells #[.int .i64 (u : Int)] 2); have hB3 := hBa.grown hg1 (Nat.le_trans hsz (by simp)) (fun k hk => (hown k hk).1); have hn1 := HNS.out; rw [if_pos (by omega)] at hn1; refine ⟨⟨z + 1, y ++ [u], hzL, by rw [List.length_append]; simp; omega, by first | go_num | (congr 1; omega), ⟨?_, hn1.symm, hB3⟩⟩, by simp [RowKit.intOf]; try omega⟩; rw [List.map_append, List.length_append]; exact hown1
                  · obtain rfl : z = L := (by omega); have hyl : y.length ≤ 366 := (by omega); have hnd := HNX.out; rw [HV1.out.2.2, ← HY.out.2.1] at hnd; have HD : Sl _ := ⟨hnd⟩; have HOA := HY.out.1.alloc (.cells #[.int .i64 (g : Int)] 2); have hsz := HY.out.2.2.size; clear hnd; go_wp2_with (at_builtin; go_loud (refine wpList_append_any _ rfl (.tmp 80) (.tmp 82) _ rfl ws.heap.size 2 i0 _ 1 8 Tryz.underlying103 HI.out.1 HI.out.2.1 HI.out.2.2.1 HI.out.2.2.2 rfl (by decide) _ y.length _ rfl HOA _ (some ⟨wr.heap.size, 0, none⟩) 1 1 ([g].map cv) rfl (V_one wr g _) (one_cv g) (by unfold maxLen; omega) (by omega) (Nat.le_trans hsz (by simp)) ?_; intro v1 w3 hown1 hg1 hat1)); have hBa := HY.out.2.2.alloc hsz (.cells #[.int .i64 (g : Int)] 2); have hown := HY.out.1.lt; have hB3 := hBa.grown hg1 (Nat.le_trans hsz (by simp)) (fun k hk => (hown k hk).1); have hlen := HD.out.1.len; rw [List.length_append, List.length_singleton] at hlen
                    go_roundg (mz (y ++ [g]) [] * 2000 + (y.length + 1 - 0))
                    case measure => have h1 := HG.out; have h2 := HD.out.2; omega
                    case rel => exact ⟨0, y.length + 1, y ++ [g], Nat.zero_le _, hlen, rfl, rfl, ⟨own_base (B := ws.heap.size) (by rw [List.map_append]; exact hown1) HWS.out.1.size, HD.out.1, fun a b x y' _ hb => absurd hb (Nat.not_lt_zero _), HWS.out.1.trans (hB3.mono HWS.out.1.size)⟩⟩
            · obtain rfl : k = i := (by omega); go_wp2_with fail
              go_roundg (mz o [] * 2000 + (L - (k + 1)))
              case measure => have h1 := HG.out; omega
              case rel =>
                refine ⟨k + 1, L, o, hiL, hL, rfl, by go_num, ⟨HVW.out.2.2, HO.out.2.1, fun a b x y hab hb hx hy => ?_, HVW.out.2.1⟩⟩; rcases Nat.lt_or_ge b k with h | h
                · exact HO.out.2.2.1 a b x y hab h hx hy
                · obtain rfl : b = k := (by omega); rw [HV1.out.2.1] at hy; injection hy with hy
                  rw [← hy]; exact HK.out.1 a x hab hx
        · obtain rfl : i = L := (by omega); go_wp2_with fail; go_ret; exact ⟨⟨_, _, _, o, rfl, hV, HO.out.2.1, HO.out.2.2.1⟩, HO.out.2.2.2⟩
set_option maxHeartbeats 6400000 in
set_option maxRecDepth 100000 in
theorem r4oneG_any (A : Option Addr) (n c : Nat) (l : List (Nat × Int)) (w : World) (hl : TR w A n l) (hn : n ≤ 17) (h6 : ∀ x ∈ l, (1 ≤ x.1 ∧ x.1 < 2097152) ∧ x.2.natAbs ≤ 10000000000000000) :
    Calls Tryz.prog 109 #[.slice A n c] w fun e w' => e = .returned (.bool (decide (up l = down l))) ∧ Below w.heap.size w w' := by
  have HB : Sl _ := ⟨r4baseG_any A n c l w hl hn (fun x hx => (h6 x hx).1)⟩; have HL : Sl _ := ⟨And.intro hl h6⟩; have HE : Sl (∀ x ∈ l, 0 < x.1 ∧ x.1 ≤ 1000000000000 ∧ x.2.natAbs ≤ 10000000000000000) := ⟨fun x hx => by have := h6 x hx; omega⟩; clear hl h6; obtain ⟨r, hr⟩ : ∃ r, decide (up l = down l) = r := ⟨_, rfl⟩; rw [hr]; have HR : Sl _ := ⟨hr⟩; clear hr; go_enter Tryz.func109, Tryz.ntmps109; go_wp2_with fail; refine HB.out.mono ?_; rintro e w1 ⟨⟨B, m, d, o, rfl, hV, hBz, hPc⟩, hb⟩; have hiff : (∀ b ∈ o, expo b l = 0) ↔ up l = down l := (Pc.cop hBz (by rw [hV.len]; exact hPc)).one_iff fun x hx => hBz.gen x.1 (List.mem_map.2 ⟨x, hx, rfl⟩)
  have hol := hV.len; have hm366 : m ≤ 366 := (by have := hBz.len; omega); have HW : Sl _ := ⟨And.intro hV (And.intro hBz (And.intro hb (And.intro (HL.out.1.below hb) (And.intro hiff hol))))⟩; clear hV hBz hPc hb HB hiff hol; go_wp2_with fail
  go_loop [4] (fun s4 => ∃ i : Nat, i ≤ m ∧ s4 = .int .i64 i ∧ Sl (∀ a p, a < i → o[a]? = some p → expo p l = 0)) (fun s4 => m - (RowKit.intOf s4).toNat)
  case atStart => exact ⟨0, Nat.zero_le _, rfl, ⟨fun a p ha => absurd ha (Nat.not_lt_zero _)⟩⟩
  case round =>
    obtain ⟨i, hi, rfl, HI⟩ := hrel; rcases Nat.lt_or_ge i m with him | him
    · obtain ⟨p, hp⟩ : ∃ p, o[i]? = some p := ⟨_, List.getElem?_eq_getElem (by have := HW.out.2.2.2.2.2; omega)⟩; obtain ⟨bd, rfl, hbd, hcb⟩ := HW.out.1.cell (k := i) him; rw [hp] at hcb; simp only [Option.getD_some] at hcb; obtain ⟨bp1, bp2⟩ := HW.out.2.1.two p (List.mem_of_getElem? hp); have hpz : ¬ (p : Int) = 0 := (by omega); have HP : Sl _ := ⟨hp⟩; clear hp; go_wp2_with fail
      go_loop [5, 6] (fun s5 s6 => ∃ (k : Nat) (z : Int), k ≤ n ∧ s6 = .int .i64 k ∧ s5 = .int .i64 z ∧ Sl (expo p (l.take k) = z)) (fun _ s6 => n - (RowKit.intOf s6).toNat)
      case atStart => exact ⟨0, 0, Nat.zero_le _, rfl, rfl, ⟨by simp [expo]⟩⟩
      case round =>
        obtain ⟨k, z, hk, rfl, rfl, HZ⟩ := hrel; rcases Nat.lt_or_ge k n with hkn | hkn
        · obtain ⟨⟨nn, kk⟩, hx⟩ : ∃ x, l[k]? = some x := ⟨_, List.getElem?_eq_getElem (by rw [HL.out.1.1]; exact hkn)⟩; obtain ⟨ad, rfl, hab, e1, e2⟩ := HW.out.2.2.2.1.cells hx
          have e3 : (ad.add (k * 2)).add 1 = ⟨(ad.add (k * 2)).block, (ad.add (k * 2)).off + 1, none⟩ := by
            generalize ad.add (k * 2) = a1; simp [Addr.add]
          rw [← add_of_add, e3] at e2; have hnn := HL.out.2 _ (List.mem_of_getElem? hx); simp only [] at hnn e1 e2; have hvb := vb_le bp1 (by omega : 0 < nn) (by omega); have hzl := expo_le bp1 (l.take k) (fun x hx => HE.out x (List.mem_of_mem_take hx)); rw [HZ.out, List.length_take] at hzl; have hz2 : z.natAbs ≤ 16 * 400000000000000000 := Nat.le_trans hzl (Nat.mul_le_mul_right _ (by omega)); have HZ2 : Sl _ := ⟨hz2⟩; have HX : Sl _ := ⟨And.intro hx (And.intro hnn hvb)⟩; clear hx hnn hvb hzl hz2 e3; go_wp2_with fail
          go_loop [5, 7] (fun s5 s7 => ∃ (q t : Nat), 0 < q ∧ q ≤ 2097152 ∧ s7 = .int .i64 q ∧ s5 = .int .i64 (z + kk * t) ∧ Sl (t + vb p q = vb p nn)) (fun _ s7 => (RowKit.intOf s7).toNat)
          case atStart => exact ⟨nn, 0, by have := HX.out.2.1; omega, by have := HX.out.2.1; omega, rfl, by simp, ⟨by omega⟩⟩
          case round =>
            obtain ⟨q, t, hq0, hq1, rfl, rfl, HV⟩ := hrel; have hmod : (q : Int).tmod (p : Int) = ((q % p : Nat) : Int) := (by rw [Int.tmod_eq_emod_of_nonneg (by omega)]; omega); have hd := vb_div bp1 hq0
            by_cases hmb : q % p = 0
            · rw [if_pos hmb] at hd; rw [hmb] at hmod; have hdiv : (q : Int).tdiv (p : Int) = ((q / p : Nat) : Int) := (by rw [Int.tdiv_eq_ediv_of_nonneg (by omega)]; rfl); have hp0 : 0 < q / p := Nat.div_pos (Nat.le_of_dvd hq0 (Nat.dvd_of_mod_eq_zero hmb)) (by omega); have hp1 : q / p < q := Nat.div_lt_self hq0 (by omega); have hV := HV.out; have ht : t + 1 ≤ 40 := (by have := HX.out.2.2; omega); have hnew : Sl (t + 1 + vb p (q / p) = vb p nn) := ⟨by omega⟩
              have hkt : (kk * ((t : Int) + 1)).natAbs ≤ 10000000000000000 * 40 := by
                rw [Int.natAbs_mul]; exact Nat.mul_le_mul HX.out.2.1.2 (by omega)
              have hadd : z + kk * (t : Int) + kk = z + kk * ((t : Int) + 1) := (by rw [Int.mul_add, Int.mul_one]; omega)
              have hwr : IntKind.i64.wrap (z + kk * (t : Int) + kk) = z + kk * ((t : Int) + 1) := by
                rw [hadd]; have := HZ2.out; generalize kk * ((t : Int) + 1) = y at *
                rw [IntKind.wrap_i64]; omega
              obtain ⟨zn, hzn⟩ : ∃ zn, z + kk * ((t : Int) + 1) = zn := ⟨_, rfl⟩; rw [hzn] at hwr; have HZN : Sl _ := ⟨hzn⟩; clear hd hV hkt hadd hmb hzn; generalize q / p = u at *
              generalize z + kk * (t : Int) = zc at *
              go_wp2_with fail; refine ⟨⟨u, t + 1, hp0, by omega, by first | rfl | trivial, ?_, hnew⟩, by simp [RowKit.intOf]; omega⟩; rw [← HZN.out]; rfl
            · rw [if_neg hmb] at hd; have hne : ((q % p : Nat) : Int) ≠ 0 := (by omega); have hbq : (((q % p : Nat) : Int) == 0) = false := (by rw [beq_eq_false_iff_ne]; exact hne)
              have hfin : Sl (expo p (l.take (k + 1)) = z + kk * (t : Int)) := ⟨by
                have hV := HV.out; rw [hd, Nat.add_zero] at hV; rw [List.take_add_one, HX.out.1]; show expo p (l.take k ++ [(nn, kk)]) = _
                rw [expo_snoc, HZ.out, hV]⟩
              clear hd hmb; generalize q % p = u at *
              generalize z + kk * (t : Int) = zc at *
              go_wp2_with fail; exact ⟨⟨k + 1, zc, hkn, by go_num, rfl, hfin⟩, by simp [RowKit.intOf]; omega⟩
        · obtain rfl : n = k := (by omega)
          have hz : expo p l = z := by
            have h := HZ.out; rw [List.take_of_length_le (by rw [HL.out.1.1]; exact Nat.le_refl _)] at h; exact h
          by_cases h0 : z = 0
          · have HS0 : Sl _ := ⟨hz.trans h0⟩; subst h0; clear hz; go_wp2_with fail; refine ⟨⟨i + 1, him, by go_num, ⟨fun a q ha hq => ?_⟩⟩, by simp [RowKit.intOf]; omega⟩; rcases Nat.lt_or_ge a i with h | h
            · exact HI.out a q h hq
            · obtain rfl : a = i := (by omega); rw [HP.out] at hq; injection hq with hq
              rw [← hq]; exact HS0.out
          · have hnz : (z != 0) = true := (by rw [bne_iff_ne]; exact h0)
            have HF : Sl (r = false) := ⟨by
              rw [← HR.out, decide_eq_false_iff_not, ← HW.out.2.2.2.2.1]; intro h; rw [h p (List.mem_of_getElem? HP.out)] at hz
              exact h0 hz.symm⟩
            clear hz h0; go_wp2_with fail; go_ret; exact ⟨by rw [HF.out]; rfl, HW.out.2.2.1⟩
    · obtain rfl : m = i := (by omega)
      have HT : Sl (r = true) := ⟨by
        rw [← HR.out, decide_eq_true_iff, ← HW.out.2.2.2.2.1]; intro p hp; obtain ⟨a, ha⟩ := List.mem_iff_getElem?.1 hp
        have hal : a < m := by
          rcases Nat.lt_or_ge a m with h | h
          · exact h
          · rw [List.getElem?_eq_none (by have := HW.out.2.2.2.2.2; omega)] at ha; cases ha
        exact HI.out a p hal ha⟩
      go_wp2_with fail; go_ret; exact ⟨by rw [HT.out]; rfl, HW.out.2.2.1⟩
end Go.Proofs.YtafadpaljanghaaGreatDoor
namespace Go.Proofs.YtafadpaljanghaaGreatDoor
set_option linter.unusedSimpArgs false
open Go.RowKit
set_option linter.unusedVariables false
theorem lgr_two1 (P : Nat) : lgr 2 P = (1 * 2 ^ P, 1 * 2 ^ P) := by
  have e : Go.Lib.bitLen 2 = 2 := (by decide +kernel); unfold lgr; rw [e, if_pos (by decide)]
theorem le_pow_up {x a b : Nat} (h : x ≤ 2 ^ a) (hab : a ≤ b) : x ≤ 2 ^ b := Nat.le_trans h (Nat.pow_le_pow_right (by decide) hab)
theorem lgr_two_le (P : Nat) : (lgr 2 P).2 ≤ (lgr 2 P).1 + e2 2 := by
  rw [lgr_two1]; exact Nat.le_refl _
theorem nearr_e2 {n : Nat} (h1 : 1 ≤ n) (h2 : n ≤ 960) : (lgr n 480).2 ≤ (lgr n 480).1 + e2 n := by
  by_cases h : n = 2
  · rw [h]; exact lgr_two_le 480
  · unfold e2; rw [if_neg h]; have := near480 n h1 h2; unfold nearr at this
    rwa [Nat.ble_eq] at this
theorem lgr_bds {n P : Nat} (h : r4N n) (hP : 30 ≤ P) : Bd n P (lgr n P) := by
  obtain ⟨k, _, _, h3, h4⟩ := h.len; exact lgr_bd h.1 (Nat.lt_trans h.2 (by decide)) (by omega)
theorem ft_num {num den : Nat} (h : okF num den) {m : Int} (h1 : -1000000000000 ≤ m) (h2 : m ≤ 1000000000001) : ∀ x ∈ [(8 * den, (24 : Int)), (num, -24), (2, -m)], (1 ≤ x.1 ∧ x.1 ≤ 960) ∧ x.2.natAbs ≤ 10000000000000000 := by
  obtain ⟨⟨k1, k2⟩, k3, k4⟩ := h; intro x hx; simp only [List.mem_cons, List.not_mem_nil, or_false] at hx; rcases hx with rfl | rfl | rfl
  · exact ⟨⟨by show 1 ≤ 8 * den; omega, by show 8 * den ≤ _; omega⟩, show 24 ≤ 10000000000000000 by decide⟩
  · exact ⟨⟨k3, k4⟩, show 24 ≤ 10000000000000000 by decide⟩
  · exact ⟨⟨show 1 ≤ 2 by decide, show 2 ≤ 960 by decide⟩, by show (-m).natAbs ≤ _; omega⟩
theorem ft_rg_end {num den P : Nat} (h : okF num den) {m : Int} (h1 : -1000000000000 ≤ m) (h2 : m ≤ 1000000000001) (hP : 256 ≤ P) (hne : ∀ n : Nat, 1 ≤ n → n ≤ 960 → (lgr n P).2 ≤ (lgr n P).1 + e2 n) (hg : guessG (sumB (fun n => lgr n P) [(8 * den, 24), (num, -24), (2, -m)]) = none) : up [(8 * den, 24), (num, -24), (2, -m)] = down [(8 * den, 24), (num, -24), (2, -m)] := by
  have hn := ft_num h h1 h2; have hr : ∀ x ∈ [(8 * den, (24 : Int)), (num, -24), (2, -m)], r4N x.1 := fun x hx => by have := hn x hx; unfold r4N; omega
  refine decidedE (B := fun n => lgr n P) (P := P) (e := e2) (T := 48) (fun x hx => lgr_bds (hr x hx) (by omega)) (fun x hx => hne x.1 (hn x hx).1.1 (hn x hx).1.2) (ft_tot m) (up_pos fun x hx => by have := hn x hx; omega) ?_ hg; rcases ft_up h m with h3 | h3
  · exact .inl (le_pow_up h3 hP)
  · exact .inr (le_pow_up h3 hP)
theorem ft_rg {num den : Nat} (h : okF num den) {m : Int} (h1 : -1000000000000 ≤ m) (h2 : m ≤ 1000000000001) : RgOK (atM (ftL num den) 24 1 m) := by
  rw [ftL_at]; have hn := ft_num h h1 h2; have hr : ∀ x ∈ [(8 * den, (24 : Int)), (num, -24), (2, -m)], r4N x.1 := fun x hx => by have := hn x hx; unfold r4N; omega
  refine ⟨show 3 ≤ 17 by decide, fun x hx => ⟨hr x hx, (hn x hx).2⟩, fun A n c W hT => r4oneG_any A n c _ W hT (by rw [← hT.1]; exact (show 3 ≤ 17 by decide)) (fun x hx => ⟨by have := hn x hx; omega, (hn x hx).2⟩), fun P s hP hs => guessG_sound (fun x hx => lgr_bds (hr x hx) hP) hs, fun hg => ?_⟩; exact ft_rg_end h h1 h2 (by decide) (fun n g1 g2 => nearr_e2 g1 g2) hg
end Go.Proofs.YtafadpaljanghaaGreatDoor
namespace Go.Proofs.YtafadpaljanghaaGreatDoor
set_option linter.unusedSimpArgs false
open Go.RowKit
set_option linter.unusedVariables false
set_option maxHeartbeats 800000 in
set_option maxRecDepth 100000 in
theorem r1common_any (a b : Nat) (w : World) (ha : a < 100000) (hb : b < 100000) (hb1 : 1 ≤ b) : Calls Tryz.prog 57 #[.int .i64 a, .int .i64 b] w fun e w' => e = .returned (.bool (!decide (Nat.gcd a b = 1))) ∧ w' = w := by
  obtain ⟨r, hr⟩ : ∃ r, (!decide (Nat.gcd a b = 1)) = r := ⟨_, rfl⟩; rw [hr]; have HR : Sl _ := ⟨hr⟩; clear hr; go_enter Tryz.func57, Tryz.ntmps57; go_wp2_with fail
  go_loop [5] (fun s5 => ∃ k : Nat, 2 ≤ k ∧ k ≤ b + 2 ∧ s5 = .int .i64 k ∧ Sl (∀ j, 2 ≤ j → j < k → ¬ (j ∣ a ∧ j ∣ b))) (fun s5 => b + 2 - (RowKit.intOf s5).toNat)
  case atStart => exact ⟨2, by decide, by omega, rfl, ⟨fun j h1 h2 => by omega⟩⟩
  case round =>
    obtain ⟨k, hk2, hkb, rfl, HK⟩ := hrel; have hk0 : ¬ (k : Int) = 0 := (by omega); have ma : (a : Int).tmod (k : Int) = ((a % k : Nat) : Int) := (by rw [Int.tmod_eq_emod_of_nonneg (by omega)]; rfl); have mb : (b : Int).tmod (k : Int) = ((b % k : Nat) : Int) := (by rw [Int.tmod_eq_emod_of_nonneg (by omega)]; rfl)
    by_cases hle : k ≤ b
    · have hl : (k : Int) ≤ (b : Int) := (by omega); have HD : Sl ((a % k = 0 ↔ k ∣ a) ∧ (b % k = 0 ↔ k ∣ b)) := ⟨⟨Nat.dvd_of_mod_eq_zero, Nat.mod_eq_zero_of_dvd⟩, ⟨Nat.dvd_of_mod_eq_zero, Nat.mod_eq_zero_of_dvd⟩⟩; obtain ⟨x, hx⟩ : ∃ x, a % k = x := ⟨_, rfl⟩; obtain ⟨y, hy⟩ : ∃ y, b % k = y := ⟨_, rfl⟩; rw [hx] at ma HD; rw [hy] at mb HD; clear hx hy
      have hnext : ¬ (x = 0 ∧ y = 0) → Sl (∀ j, 2 ≤ j → j < k + 1 → ¬ (j ∣ a ∧ j ∣ b)) := fun h => ⟨fun j h1 h2 hc => by
        rcases Nat.lt_or_ge j k with h3 | h3
        · exact HK.out j h1 h3 hc
        · rw [show j = k by omega] at hc
          exact h ⟨HD.out.1.2 hc.1, HD.out.2.2 hc.2⟩⟩
      by_cases hx0 : x = 0
      · by_cases hy0 : y = 0
        · have HV : Sl (r = true) := ⟨by
            rw [← HR.out]; have h1 : k ∣ Nat.gcd a b := Nat.dvd_gcd (HD.out.1.1 hx0) (HD.out.2.1 hy0)
            have h2 : Nat.gcd a b ≠ 1 := fun h => by
              rw [h] at h1; have := Nat.le_of_dvd (by decide) h1; omega
            rw [decide_eq_false h2]; rfl⟩
          have q1 : ((x : Int) == 0) = true := (by rw [hx0]; rfl); have q2 : ((y : Int) == 0) = true := (by rw [hy0]; rfl); clear hnext hx0 hy0; go_wp2_with fail; go_ret; exact ⟨by rw [HV.out]; rfl, rfl⟩
        · have HN := hnext (fun h => hy0 h.2); have q1 : ((x : Int) == 0) = true := (by rw [hx0]; rfl); have q2 : ((y : Int) == 0) = false := (by rw [beq_eq_false_iff_ne]; omega); clear hnext hx0 hy0; go_wp2_with fail; exact ⟨⟨k + 1, by omega, by omega, by go_num, HN⟩, by simp [RowKit.intOf]; omega⟩
      · have HN := hnext (fun h => hx0 h.1); have q1 : ((x : Int) == 0) = false := (by rw [beq_eq_false_iff_ne]; omega); clear hnext hx0; go_wp2_with fail; exact ⟨⟨k + 1, by omega, by omega, by go_num, HN⟩, by simp [RowKit.intOf]; omega⟩
    · have hl : decide ((k : Int) ≤ (b : Int)) = false := decide_eq_false (by omega)
      have HV : Sl (r = false) := ⟨by
        rw [← HR.out]
        have h2 : Nat.gcd a b = 1 := by
          have hp : 0 < Nat.gcd a b := Nat.gcd_pos_of_pos_right _ hb1; have hle2 : Nat.gcd a b ≤ b := Nat.gcd_le_right _ hb1; rcases Nat.lt_or_ge (Nat.gcd a b) 2 with h | h
          · omega
          · exact absurd ⟨Nat.gcd_dvd_left a b, Nat.gcd_dvd_right a b⟩ (HK.out _ h (by omega))
        rw [decide_eq_true h2]; rfl⟩
      clear ma mb; go_wp2_with fail; go_ret; exact ⟨by rw [HV.out]; rfl, rfl⟩
set_option maxHeartbeats 1600000 in
set_option maxRecDepth 100000 in
theorem rvalid_any (num den : Int) (w : World) : Calls Tryz.prog 26 #[.agg #[.int .i64 num, .int .i64 den]] w fun e w' => e = .returned (.bool (decide (vF num den))) ∧ Below w.heap.size w w' := by
  have hu : Below w.heap.size w (w.alloc (.cells #[.int .i64 num, .int .i64 den] 23)) := (Below.refl _ _).alloc (Nat.le_refl _) _; have HU : Sl _ := ⟨hu⟩; clear hu; obtain ⟨r, hr⟩ : ∃ r, decide (vF num den) = r := ⟨_, rfl⟩; rw [hr]; have HR : Sl _ := ⟨hr⟩; clear hr
  by_cases hok : (1 ≤ den ∧ den ≤ 15) ∧ (1 ≤ num ∧ num ≤ 64 * den)
  · obtain ⟨⟨h1, h2⟩, h3, h4⟩ := hok; obtain ⟨n, rfl⟩ := Int.eq_ofNat_of_zero_le (show 0 ≤ num by omega); obtain ⟨d, rfl⟩ := Int.eq_ofNat_of_zero_le (show 0 ≤ den by omega); have HG : Sl _ := ⟨fun W : World => r1common_any n d W (by omega) (by omega) (by omega)⟩
    have HV : Sl (r = decide (Nat.gcd n d = 1)) := ⟨by
      rw [← HR.out, Bool.eq_iff_iff, decide_eq_true_iff, decide_eq_true_iff]; unfold vF; simp only [Int.natAbs_natCast]
      omega⟩
    have hw : IntKind.i64.wrap (64 * (d : Int)) = 64 * (d : Int) := (by rw [IntKind.wrap_i64]; omega); have g1 : ¬ (d : Int) < 1 := (by omega); have g2 : ¬ 15 < (d : Int) := (by omega); have g3 : ¬ (n : Int) < 1 := (by omega); have g4 : ¬ 64 * (d : Int) < (n : Int) := (by omega); obtain ⟨g, hg⟩ : ∃ g, decide (Nat.gcd n d = 1) = g := ⟨_, rfl⟩; rw [hg] at HG HV; clear hg; go_enter Tryz.func26, Tryz.ntmps26; go_wp2_with fail; refine (HG.out _).mono ?_; rintro e w1 ⟨rfl, rfl⟩
    cases g <;> (go_wp2_with fail; go_ret; exact ⟨by rw [HV.out]; rfl, HU.out⟩)
  · have HV : Sl (r = false) := ⟨by
      rw [← HR.out, decide_eq_false_iff_not]; unfold vF; intro h
      exact hok ⟨h.1, h.2.1⟩⟩
    have hcase : den < 1 ∨ (¬ den < 1 ∧ 15 < den) ∨ (¬ den < 1 ∧ ¬ 15 < den ∧ num < 1) ∨ (¬ den < 1 ∧ ¬ 15 < den ∧ ¬ num < 1 ∧ 64 * den < num) := (by omega); clear hok HR; rcases hcase with h1 | ⟨h1, h2⟩ | ⟨h1, h2, h3⟩ | ⟨h1, h2, h3, h4⟩
    · have d1 : decide (1 ≤ den) = false := decide_eq_false (by omega); go_enter Tryz.func26, Tryz.ntmps26; go_wp2_with fail; go_ret; exact ⟨by rw [HV.out]; rfl, HU.out⟩
    · have d1 : decide (1 ≤ den) = true := decide_eq_true (by omega); have d2 : decide (den ≤ 15) = false := decide_eq_false (by omega); go_enter Tryz.func26, Tryz.ntmps26; go_wp2_with fail; go_ret; exact ⟨by rw [HV.out]; rfl, HU.out⟩
    · have d1 : decide (1 ≤ den) = true := decide_eq_true (by omega); have d2 : decide (den ≤ 15) = true := decide_eq_true (by omega); have d3 : decide (1 ≤ num) = false := decide_eq_false (by omega); go_enter Tryz.func26, Tryz.ntmps26; go_wp2_with fail; go_ret; exact ⟨by rw [HV.out]; rfl, HU.out⟩
    · have d1 : decide (1 ≤ den) = true := decide_eq_true (by omega); have d2 : decide (den ≤ 15) = true := decide_eq_true (by omega); have d3 : decide (1 ≤ num) = true := decide_eq_true (by omega); have hw : IntKind.i64.wrap (64 * den) = 64 * den := (by rw [IntKind.wrap_i64]; omega); have d4 : decide (num ≤ 64 * den) = false := decide_eq_false (by omega); go_enter Tryz.func26, Tryz.ntmps26; go_wp2_with fail; go_ret; exact ⟨by rw [HV.out]; rfl, HU.out⟩
end Go.Proofs.YtafadpaljanghaaGreatDoor
namespace Go.Proofs.YtafadpaljanghaaGreatDoor
set_option linter.unusedSimpArgs false
open Go.RowKit
set_option linter.unusedVariables false
theorem rft_floor (A : Option Addr) (c num den : Nat) (w : World) (h : okF num den) (hl : TR w A 2 (ftL num den)) :
    Calls Tryz.prog 27 #[.slice A 2 c, .int .i64 1, .int .i64 24] w fun e w' => FloorRes (ftL num den) 24 1 (ftSg num den) e ∧ Below w.heap.size w w' :=
  r4Floor_of A 2 c (ftL num den) 1 24 w hl (ftL_ok h) (by decide) (by decide) (by decide) (by decide) fun m h1 h2 => ft_rg h h1 h2
set_option maxHeartbeats 1600000 in
set_option maxRecDepth 100000 in
theorem rhalf_any (n : Int) (w : World) (h : -2000000000000 ≤ n ∧ n ≤ 2000000000000) : Calls Tryz.prog 28 #[.int .i64 n] w fun e w' => e = .returned (.int .i64 (n / 2)) ∧ w' = w := by
  obtain ⟨h1, h2⟩ := h; have HQ : Sl (n < 0 → -((1 - n) / 2) = n / 2) := ⟨fun _ => by omega⟩
  by_cases hn : n < 0
  · have hnd : decide (n < 0) = true := decide_eq_true hn; have hw1 : IntKind.i64.wrap (1 - n) = 1 - n := (by rw [IntKind.wrap_i64]; omega); have hq : (1 - n).tdiv 2 = (1 - n) / 2 := Int.tdiv_eq_ediv_of_nonneg (by omega); obtain ⟨q, hqq⟩ : ∃ q, (1 - n) / 2 = q := ⟨_, rfl⟩; have hqb : 0 ≤ q ∧ q ≤ 2000000000000 := (by omega); have HE : Sl (-q = n / 2) := ⟨by omega⟩; rw [hqq] at hq; have hw2 : IntKind.i64.wrap q = q := (by rw [IntKind.wrap_i64]; omega); have hw3 : IntKind.i64.wrap (-q) = -q := (by rw [IntKind.wrap_i64]; omega); clear hqq; go_enter Tryz.func28, Tryz.ntmps28; go_wp2_with fail; go_ret; exact ⟨by rw [HE.out]; rfl, rfl⟩
  · have hnd : decide (n < 0) = false := decide_eq_false hn; have hq : n.tdiv 2 = n / 2 := Int.tdiv_eq_ediv_of_nonneg (by omega); obtain ⟨q, hqq⟩ : ∃ q, n / 2 = q := ⟨_, rfl⟩; have hqb : 0 ≤ q ∧ q ≤ 2000000000000 := (by omega); rw [hqq] at hq ⊢; have hw2 : IntKind.i64.wrap q = q := (by rw [IntKind.wrap_i64]; omega); clear hqq; go_enter Tryz.func28, Tryz.ntmps28; go_wp2_with fail; go_ret; exact ⟨rfl, rfl⟩
set_option maxHeartbeats 3200000 in
set_option maxRecDepth 100000 in
theorem rSemi_any (num den : Int) (w : World) : Calls Tryz.prog 9 #[.agg #[.int .i64 num, .int .i64 den]] w fun e w' => e = .returned (.tuple #[.int .i64 (SmV num den).1, .int .i64 (SmV num den).2]) ∧ Below w.heap.size w w' := by
  have X0 := Blk.new w 23 #[.int .i64 num, .int .i64 den]; have hu := (Below.refl w.heap.size w).alloc (Nat.le_refl _) (.cells #[.int .i64 num, .int .i64 den] 23); have HF : Sl _ := ⟨fun W : World => rvalid_any num den W⟩; have HU : Sl _ := ⟨hu⟩; have HX : Sl _ := ⟨X0⟩; clear hu X0
  by_cases hv : vF num den
  · obtain ⟨n, d, e1, e2, hk⟩ := okF_of hv; subst e1 e2; have HV : Sl (SmV (n : Int) (d : Int) = (semI n d, 0)) := ⟨by unfold SmV; rw [if_pos hv]; simp⟩; rw [decide_eq_true hv] at HF; have HK : Sl _ := ⟨hk⟩; have hb1 : (d : Int) ≤ 15 ∧ (n : Int) ≤ 960 := (by have := hk.1; have := hk.2; omega); have hw8 : IntKind.i64.wrap (8 * (d : Int)) = 8 * (d : Int) := (by rw [IntKind.wrap_i64]; omega); clear hv hk; go_enter Tryz.func9, Tryz.ntmps9; go_wp2_with fail; generalize w.alloc (.cells #[.int .i64 (n : Int), .int .i64 (d : Int)] 23) = w0 at *
    refine (HF.out w0).mono ?_; rintro e w1 ⟨rfl, hb⟩; have X1 := HX.out.below hb HX.out.lt; have x0 := X1.cell 0; have x1 := X1.cell 1; simp at x0 x1; have HT : Sl _ := ⟨rft_floor _ 2 n d _ HK.out (ftL_mem w1 69 n d)⟩; have HB : Sl (Below w.heap.size w (w1.alloc (.cells #[.int .i64 (8 * (d : Int)), .int .i64 1, .int .i64 (n : Int), .int .i64 (-1)] 69))) := ⟨(HU.out.trans (hb.mono HU.out.size)).alloc (Nat.le_trans HU.out.size hb.size) _⟩; clear hb X1 HF HX; go_wp2_with fail; refine HT.out.mono ?_; rintro e w2 ⟨hr, hb2⟩; obtain ⟨k, b, er, rfl, hk1, hk2⟩ := FloorRes_shape hr; have HS : Sl (semI n d = (k + 1) / 2) := ⟨semI_of hr⟩; have HB2 : Sl (Below w.heap.size w w2) := ⟨HB.out.trans (hb2.mono HB.out.size)⟩; have HH : Sl _ := ⟨fun W : World => rhalf_any (k + 1) W (by omega)⟩; have hkw : IntKind.i64.wrap (k + 1) = k + 1 := (by rw [IntKind.wrap_i64]; omega); clear hr hb2 HT x0 x1 HB; go_wp2_with fail; refine (HH.out w2).mono ?_; rintro e w3 ⟨rfl, rfl⟩; go_wp2_with fail; go_ret2; exact ⟨by rw [HV.out, HS.out]; rfl, HB2.out⟩
  · have HV : Sl (SmV num den = (0, 2)) := ⟨by unfold SmV; rw [if_neg hv]⟩; rw [decide_eq_false hv] at HF; clear hv; go_enter Tryz.func9, Tryz.ntmps9; go_wp2_with fail; generalize w.alloc (.cells #[.int .i64 num, .int .i64 den] 23) = w0 at *
    refine (HF.out w0).mono ?_; rintro e w1 ⟨rfl, hb⟩; have HB : Sl _ := ⟨hb⟩; clear hb; go_wp2_with fail; go_ret2; have h1 := HU.out.trans (HB.out.mono HU.out.size); exact ⟨by rw [HV.out]; rfl, h1⟩
end Go.Proofs.YtafadpaljanghaaGreatDoor
namespace Go.Proofs.YtafadpaljanghaaGreatDoor
set_option linter.unusedSimpArgs false
open Go.RowKit
set_option linter.unusedVariables false
end Go.Proofs.YtafadpaljanghaaGreatDoor
namespace Go.Proofs.YtafadpaljanghaaGreatDoor
set_option linter.unusedSimpArgs false
open Go.RowKit
set_option linter.unusedVariables false
noncomputable def partL (x : Mx) (R : List RkV) (us : List Int) : List PtV := if partE x R us = 0 then pts us (ruP x R us) us.length else []
theorem PartR.form {x : Mx} {R : List RkV} {us : List Int} {B : Nat} {e : Ending} {w : World} (h : PartR x R us B e w) : ∃ A c, e = .returned (.tuple #[.slice A (partL x R us).length c, .int .i64 (partE x R us)]) ∧ Reads w w.heap.size 4 A (partL x R us).length ((partL x R us).flatMap ptC) := by
  cases h with
  | bad h h0 he =>
    have e1 : partL x R us = [] := (by unfold partL; rw [if_neg (by rw [h]; exact h0)]); exact ⟨none, 0, by rw [e1, h]; exact he, by rw [e1]; exact Reads.none_⟩
  | ok h he ho =>
    have e1 : partL x R us = pts us (ruP x R us) us.length := (by unfold partL; rw [if_pos h]); obtain ⟨A, c, ev, hr⟩ := own_slice2 ho; exact ⟨A, c, by rw [e1, h, he, ev], by rw [e1]; exact hr⟩
theorem partL_few (x : Mx) (R : List RkV) (us : List Int) : (partL x R us).length ≤ 12 := by
  unfold partL
  split
  · rename_i h; unfold partE at h
    by_cases h1 : x.chk ≠ 0
    · rw [if_pos h1] at h; exact absurd h h1
    rw [if_neg h1] at h
    by_cases h2 : us.length ≠ x.lng x.n
    · rw [if_pos h2] at h; cases h
    rw [if_neg h2] at h
    by_cases h3 : anyI (smBad R) us us.length = true
    · rw [if_pos h3] at h; cases h
    rw [if_neg h3] at h
    by_cases h4 : anyI (fun k => !inI R.length k) us us.length = true
    · rw [if_pos h4] at h; cases h
    rw [if_neg h4] at h
    by_cases h5 : ptsE (rkP R us) (ruP x R us) us.length ≠ 0
    · rw [if_pos h5] at h; exact absurd h h5
    rw [if_neg h5] at h
    by_cases h6 : 12 < (pts us (ruP x R us) us.length).length
    · rw [if_pos h6] at h; cases h
    omega
  · simp
end Go.Proofs.YtafadpaljanghaaGreatDoor
namespace Go.Proofs.YtafadpaljanghaaGreatDoor
set_option linter.unusedSimpArgs false
set_option linter.unusedVariables false
noncomputable def ownR (r : RkV) : Int := semI r.num.toNat r.den.toNat
noncomputable def sndP (R : List RkV) (key : Int) (p : PtV) : List Int := if p.2.2.1 ≤ key ∧ key ≤ p.2.2.2 then [key + p.2.1 + ownR (R[p.1.toNat]?.getD rk0)] else []
noncomputable def sndL (R : List RkV) (key : Int) (l : List PtV) : List Int := l.flatMap (sndP R key)
theorem sndL_pt (R : List RkV) (key k : Int) : ∀ l : List Rn, sndL R key (l.map (ptOf k)) = (cov key l).map fun s => key + s + ownR (R[k.toNat]?.getD rk0)
  | [] => rfl
  | r :: l => by
    have ih := sndL_pt R key k l; unfold sndL at ih ⊢; rw [List.map_cons, List.flatMap_cons, ih, cov]; unfold sndP ptOf; simp only []
    split <;> rfl
theorem sndL_append (R : List RkV) (key : Int) (l m : List PtV) : sndL R key (l ++ m) = sndL R key l ++ sndL R key m := by unfold sndL; rw [List.flatMap_append]
theorem sndL_pts (x : Mx) (R : List RkV) (us : List Int) (j : Nat) : ∀ m, sndL R (x.key j) (pts us (ruP x R us) m) = x.snds (fun p => ownR (rkP R us p)) j m
  | 0 => rfl
  | m+1 => by
    rw [pts, sndL_append, sndL_pts x R us j m, sndL_pt, Mx.snds]; rfl
theorem sndL_snoc {R : List RkV} {key : Int} {l : List PtV} {i : Nat} {p : PtV} (h : l[i]? = some p) : sndL R key (l.take (i + 1)) = sndL R key (l.take i) ++ sndP R key p := by
  rw [List.take_add_one, h, sndL_append]; unfold sndL; simp
theorem pts_mem {us : List Int} {ru : Nat → List Rn} {p : PtV} : ∀ {m : Nat}, p ∈ pts us ru m → ∃ k r, k < m ∧ r ∈ ru k ∧ p = ptOf (gt us k) r
  | 0, h => by cases h
  | m+1, h => by
    rw [pts] at h; rcases List.mem_append.1 h with h | h
    · obtain ⟨k, r, h1, h2, h3⟩ := pts_mem h; exact ⟨k, r, by omega, h2, h3⟩
    · obtain ⟨r, h1, h2⟩ := List.mem_map.1 h; exact ⟨m, r, Nat.lt_succ_self m, h1, h2.symm⟩
theorem ptsE_zero {rk : Nat → RkV} {ru : Nat → List Rn} : ∀ {m : Nat}, ptsE rk ru m = 0 → ∀ p, p < m → rnsE (rk p) (ru p) = 0
  | 0, _, p, hp => absurd hp (Nat.not_lt_zero _)
  | m+1, h, p, hp => by
    rw [ptsE] at h
    by_cases h0 : ptsE rk ru m = 0
    · rw [h0, if_neg (by decide)] at h; rcases Nat.lt_or_ge p m with h1 | h1
      · exact ptsE_zero h0 p h1
      · obtain rfl : p = m := (by omega); exact h
    · rw [if_pos h0] at h; exact absurd h h0
theorem rnE_zero {r : RkV} {x : Rn} (h : rnE r x = 0) : (-96 ≤ x.2.2 ∧ x.2.2 ≤ 96) ∧ r.has (x.1 + x.2.2) = true ∧ r.has (x.2.1 + x.2.2) = true := by
  unfold rnE at h
  by_cases h1 : x.2.2 < -96 ∨ 96 < x.2.2
  · rw [if_pos h1] at h; cases h
  · rw [if_neg h1] at h
    by_cases h2 : (r.has (x.1 + x.2.2) && r.has (x.2.1 + x.2.2)) = true
    · rw [Bool.and_eq_true] at h2; exact ⟨by omega, h2.1, h2.2⟩
    · rw [if_neg h2] at h; cases h
theorem RkV.has_true {r : RkV} {n : Int} (h : r.has n = true) : r.low ≤ n ∧ n < r.low + r.cnt ∧ 0 ≤ r.low ∧ r.low ≤ 127 ∧ r.low + r.cnt ≤ 128 ∧ 1 ≤ r.cnt := by
  unfold RkV.has at h; rw [Bool.and_eq_true, Bool.and_eq_true] at h; obtain ⟨h1, h2, h3⟩ := h; have a2 := of_decide_eq_true h2; have a3 := of_decide_eq_true h3; rcases r.bad_ways with ⟨_, hb⟩ | ⟨_, _, hb⟩ | ⟨_, _, _, hb⟩ | ⟨_, _, _, _, hb⟩ | ⟨_, _, _, _, _, hb⟩ | ⟨b1, b2, b3, b4, b5, hb⟩
  · rw [hb] at h1; cases h1
  · rw [hb] at h1; cases h1
  · rw [hb] at h1; cases h1
  · rw [hb] at h1; cases h1
  · rw [hb] at h1; cases h1
  · omega
structure PartK (x : Mx) (R : List RkV) (us : List Int) : Prop where
  chk : x.chk = 0
  len : us.length = x.lng x.n
  pl : ∀ p, p < us.length → (0 ≤ gt us p ∧ gt us p < (R.length : Int)) ∧ vF (rkP R us p).num (rkP R us p).den
  rn : ∀ p, p < us.length → ∀ r ∈ ruP x R us p, (-96 ≤ r.2.2 ∧ r.2.2 ≤ 96) ∧ (rkP R us p).has (r.1 + r.2.2) = true ∧ (rkP R us p).has (r.2.1 + r.2.2) = true
  few : (pts us (ruP x R us) us.length).length ≤ 12
theorem partE_zero {x : Mx} {R : List RkV} {us : List Int} (h : partE x R us = 0) : PartK x R us := by
  unfold partE at h
  by_cases h1 : x.chk ≠ 0
  · rw [if_pos h1] at h; exact absurd h h1
  rw [if_neg h1] at h
  by_cases h2 : us.length ≠ x.lng x.n
  · rw [if_pos h2] at h; cases h
  rw [if_neg h2] at h
  by_cases h3 : anyI (smBad R) us us.length = true
  · rw [if_pos h3] at h; cases h
  rw [if_neg h3] at h
  by_cases h4 : anyI (fun k => !inI R.length k) us us.length = true
  · rw [if_pos h4] at h; cases h
  rw [if_neg h4] at h
  by_cases h5 : ptsE (rkP R us) (ruP x R us) us.length ≠ 0
  · rw [if_pos h5] at h; exact absurd h h5
  rw [if_neg h5] at h
  by_cases h6 : 12 < (pts us (ruP x R us) us.length).length
  · rw [if_pos h6] at h; cases h
  refine ⟨Classical.not_not.1 h1, Classical.not_not.1 h2, place_ok (by simpa using h3) (by simpa using h4) rfl, fun p hp r hr => ?_, by omega⟩; have a := ptsE_zero (Classical.not_not.1 h5) p hp; exact rnE_zero (rnsE_zero.1 a r hr)
theorem PartK.part {x : Mx} {R : List RkV} {us : List Int} (h : PartK x R us) {p : PtV} (hp : p ∈ pts us (ruP x R us) us.length) :
    (0 ≤ p.1 ∧ p.1 < (R.length : Int)) ∧ vF (R[p.1.toNat]?.getD rk0).num (R[p.1.toNat]?.getD rk0).den ∧ (-96 ≤ p.2.1 ∧ p.2.1 ≤ 96) ∧
      (∀ key, p.2.2.1 ≤ key → key ≤ p.2.2.2 → (R[p.1.toNat]?.getD rk0).low ≤ key + p.2.1 ∧ key + p.2.1 < (R[p.1.toNat]?.getD rk0).low + (R[p.1.toNat]?.getD rk0).cnt) ∧
      (0 ≤ (R[p.1.toNat]?.getD rk0).low ∧ (R[p.1.toNat]?.getD rk0).low + (R[p.1.toNat]?.getD rk0).cnt ≤ 128) := by
  obtain ⟨k, r, hk, hr, rfl⟩ := pts_mem hp; obtain ⟨h1, h2⟩ := h.pl k hk; obtain ⟨h3, h4, h5⟩ := h.rn k hk r hr; have a4 := RkV.has_true h4; have a5 := RkV.has_true h5; show (0 ≤ gt us k ∧ gt us k < (R.length : Int)) ∧ vF (rkP R us k).num (rkP R us k).den ∧ (-96 ≤ r.2.2 ∧ r.2.2 ≤ 96) ∧ (∀ key, r.1 ≤ key → key ≤ r.2.1 → (rkP R us k).low ≤ key + r.2.2 ∧ key + r.2.2 < (rkP R us k).low + (rkP R us k).cnt) ∧ (0 ≤ (rkP R us k).low ∧ (rkP R us k).low + (rkP R us k).cnt ≤ 128); refine ⟨h1, h2, h3, fun key k1 k2 => ?_, by omega⟩; omega
theorem PartK.sound {x : Mx} {R : List RkV} {us : List Int} (h : PartK x R us) {j : Nat} (hj : j < x.keys) : sndL R (x.key j) (pts us (ruP x R us) us.length) = x.row (x.key j) := by
  have hf := Mx.fine (Mx.chk_ok h.chk).1; rw [sndL_pts]; have hat := (hf.ord.at_in (key := x.key j) (by unfold Mx.key; omega) (by unfold Mx.key; unfold Mx.keys at hj; omega)).1; exact hf.ord.snds_all _ hj (by rw [h.len]; exact Mx.le_lng hat)
theorem Mx.Fine.row_asc {x : Mx} (h : x.Fine) {key : Int} (h1 : x.a ≤ key) (h2 : key ≤ x.b) : ∀ j, j + 1 < (x.row key).length → gt (x.row key) j ≤ gt (x.row key) (j + 1) := fun j hj => by
  have hat := (h.ord.at_in h1 h2).1; have hd := h.dn0 _ hat; rw [x.row_len] at hj; have e1 := x.row_at key (j := j) (by omega); have e2 := x.row_at key (j := j + 1) hj; have a := anyN_no.1 hd j (by omega); simp only [decide_eq_false_iff_not] at a; unfold gt at a ⊢; rw [e1, e2]; show key + _ ≤ key + _; unfold gt; omega
theorem Mx.row_rg {x : Mx} (hc : x.chk = 0) {key : Int} (h1 : x.a ≤ key) (h2 : key ≤ x.b) : ∀ z ∈ x.row key, 0 ≤ z ∧ z ≤ 139 := fun z hz => by
  have hf := Mx.fine (Mx.chk_ok hc).1; obtain ⟨j, hj, e⟩ := List.getElem_of_mem hz; rw [x.row_len] at hj; have := hf.row_bd (Mx.chk_ok hc).2 h1 h2 hj; have e1 := x.row_at key hj; rw [List.getElem?_eq_getElem (by rw [x.row_len]; exact hj), e] at e1; injection e1 with e1
  unfold gt at this e1; omega
end Go.Proofs.YtafadpaljanghaaGreatDoor
namespace Go.Proofs.YtafadpaljanghaaGreatDoor
set_option linter.unusedSimpArgs false
open Go.RowKit
set_option linter.unusedVariables false
theorem sndP_len (R : List RkV) (key : Int) (p : PtV) : (sndP R key p).length ≤ 1 := by unfold sndP; split <;> simp
theorem sndL_len (R : List RkV) (key : Int) : ∀ l : List PtV, (sndL R key l).length ≤ l.length
  | [] => Nat.le_refl _
  | p :: l => by
    have h1 := sndP_len R key p; have h2 := sndL_len R key l; unfold sndL at h2 ⊢; rw [List.flatMap_cons, List.length_append, List.length_cons]; omega
set_option maxHeartbeats 6400000 in
set_option maxRecDepth 100000 in
theorem sorted_any (A : Option Addr) (n c : Nat) (l : List Int) (w : World) (hl : II w A n l) (ha : ∀ j, j + 1 < n → gt l j ≤ gt l (j + 1)) (hn : n ≤ 100) :
    Calls Tryz.prog 18 #[.slice A n c] w fun e w' => (∃ v, e = .returned v ∧ w'.ownsRow w.heap.size 3 1 v n (l.map iv)) ∧ Below w.heap.size w w' := by
  have HL : Sl _ := ⟨hl⟩; have HA : Sl _ := ⟨ha⟩; clear hl ha; obtain ⟨i0, hi0, hz0, hz1, hz2⟩ := infoNt; have HI : Sl _ := ⟨And.intro hi0 (And.intro hz0 (And.intro hz1 hz2))⟩; clear hi0 hz0 hz1 hz2; go_enter Tryz.func18, Tryz.ntmps18; go_wp2_with fail
  go_loopw [3, 4, 5] (fun s3 s4 s5 wr => ∃ (k : Nat) (v v5 : Value), k ≤ n ∧ s4 = .int .i64 k ∧ v = s3 ∧ s5 = v5 ∧ Sl (wr.ownsRow w.heap.size 3 1 v k (frL k (gt l))) ∧ Sl (Below w.heap.size w wr)) (fun _ s4 _ _ => n - (RowKit.intOf s4).toNat)
  case atStart => exact ⟨0, _, _, Nat.zero_le _, rfl, rfl, rfl, ⟨World.ownsRow_nil _ _ _ _⟩, ⟨Below.refl _ _⟩⟩
  case round =>
    obtain ⟨k, v, v5, hk, rfl, rfl, rfl, HO, HB⟩ := hrel
    by_cases hkn : k < n
    · have hkI : (k : Int) < (n : Int) := (by omega); have hkd : decide ((k : Int) < (n : Int)) = true := decide_eq_true hkI; obtain ⟨ad, had, _, ck⟩ := (II.below HL.out HB.out).cell (j := k) hkn; subst had; obtain ⟨z, hz⟩ : ∃ z, gt l k = z := ⟨_, rfl⟩; rw [hz] at ck; have HZ : Sl _ := ⟨hz⟩; clear hz; have hkw : IntKind.i64.wrap (k : Int) = (k : Int) := (by rw [IntKind.wrap_i64]; omega); go_wp2_with (at_builtin; go_loud (refine wpList_append_any _ rfl (.tmp 12) (.tmp 17) _ rfl w.heap.size 3 i0 _ 1 8 Tryz.underlying36 HI.out.1 HI.out.2.1 HI.out.2.2.1 HI.out.2.2.2 rfl (by decide) v k _ rfl (xown_alloc HO.out _) _ (some ⟨wr.heap.size, 0, none⟩) 1 1 [.int .i64 z] rfl (xreads1 _ _ _) (by intro u hu; simp at hu; subst hu; rfl) (by unfold maxLen; omega) (by omega) (by have := HB.out.size; simp; omega) ?_; rintro v6 w4 hown hg hat; obtain ⟨gq, cq, rfl, _, _⟩ := hown.form (Nat.succ_pos _); have XQ : Sl (w4.ownsRow w.heap.size 3 1 (.slice (some ⟨gq, 0, none⟩) (k + 1) cq) (k + 1) (frL (k + 1) (gt l))) := ⟨by rw [frL_succ, HZ.out]; exact hown⟩; have HLN : Sl (Below w.heap.size w w4) := ⟨xbelow_grown HB.out HB.out.size HO.out hg⟩; clear hown hg hat)); clear HO HB ck
      go_loopw [5] (fun s5 wq => s5 = .int .i64 k ∧ Sl (w4 = wq)) (fun s5 _ => (RowKit.intOf s5).toNat)
      case atStart => exact ⟨by go_num, ⟨rfl⟩⟩
      case round =>
        obtain ⟨rfl, HQ⟩ := hrel; have hww := HQ.out; subst hww; have HOD : Sl (∀ q, (w4.drewN q).ownsRow w.heap.size 3 1 (.slice (some ⟨gq, 0, none⟩) (k + 1) cq) (k + 1) (frL (k + 1) (gt l))) := ⟨fun q => XQ.out⟩
        by_cases hj0 : k = 0
        · subst hj0; go_wp2_with fail
          go_quiet (fail)
          go_wp2_with fail; exact ⟨⟨0 + 1, _, _, hkn, by go_num, rfl, rfl, ⟨HOD.out _⟩, ⟨below_drewN HLN.out _⟩⟩, by simp [RowKit.intOf]; omega⟩
        · obtain ⟨i, hi⟩ : ∃ i, k = i + 1 := ⟨k - 1, by omega⟩; have hij : (k : Int) - 1 = (i : Int) := (by omega); have hiw : IntKind.i64.wrap (i : Int) = (i : Int) := (by rw [IntKind.wrap_i64]; omega); have hjI : (0 : Int) < (k : Int) := (by omega); have hjd : decide ((0 : Int) < (k : Int)) = true := decide_eq_true hjI; have hjN : 0 < k := (by omega); have hjNd : decide (0 < k) = true := decide_eq_true hjN; have hjk2 : (k : Int) < (k : Int) + 1 := (by omega); have hik2 : (i : Int) < (k : Int) + 1 := (by omega); have hjk3 : k < k + 1 := (by omega); have hik3 : i < k + 1 := (by omega); have cj : w4.cell? ⟨gq, k, none⟩ = some (.int .i64 (gt l k)) := (by rw [XQ.out.cellAt k (by omega), frL_at hjk3]; rfl); have ci : w4.cell? ⟨gq, i, none⟩ = some (.int .i64 (gt l i)) := (by rw [XQ.out.cellAt i (by omega), frL_at hik3]; rfl)
          have hle : gt l i ≤ gt l k := by
            have := HA.out i (by omega); rw [← hi] at this; exact this
          obtain ⟨zj, hzj⟩ : ∃ z, gt l k = z := ⟨_, rfl⟩; obtain ⟨zi, hzi⟩ : ∃ z, gt l i = z := ⟨_, rfl⟩; rw [hzj] at cj hle; rw [hzi] at ci hle; have hltd : decide (zj < zi) = false := decide_eq_false (by omega); clear hzj hzi hi; go_wp2_with fail
          go_quiet (fail)
          go_wp2_with fail; exact ⟨⟨k + 1, _, _, hkn, by go_num, rfl, rfl, ⟨HOD.out _⟩, ⟨below_drewN HLN.out _⟩⟩, by simp [RowKit.intOf]; omega⟩
    · obtain rfl : k = n := (by omega); have hkd : decide ((k : Int) < (k : Int)) = false := decide_eq_false (by omega); have hkI : ¬ (k : Int) < (k : Int) := (by omega); have HFN : Sl (wr.ownsRow w.heap.size 3 1 v k (l.map iv)) := ⟨by rw [frL_of HL.out.1]; exact HO.out⟩; go_wp2_with fail; go_ret; exact ⟨⟨v, rfl, HFN.out⟩, HB.out⟩
set_option maxHeartbeats 12800000 in
set_option maxRecDepth 100000 in
theorem mixturesSound_any (a b : Int) (A : Option Addr) (n c : Nat) (L : List Bk) (B : Option Addr) (m d : Nat) (R : List RkV) (C : Option Addr) (q f : Nat) (us : List Int) (w : World) (hM : MXA w A n c L) (ha : i64 a) (hb : i64 b) (hR : RKS w B m R) (hm : m ≤ d ∧ d ≤ maxLen) (hfit : ∀ r ∈ R, r.fit) (hU : II w C q us) (hq : q ≤ f ∧ f ≤ maxLen) (hui : ∀ z ∈ us, i64 z) :
    Calls Tryz.prog 6 #[.agg #[.int .i64 a, .int .i64 b, .slice A n c], .slice B m d, .slice C q f] w fun e w' => e = .returned (.bool true) ∧ Below w.heap.size w w' := by
  have HU : Sl (Below w.heap.size w (w.alloc (.cells #[.int .i64 a, .int .i64 b, .slice A n c] 34))) := ⟨(Below.refl _ _).alloc (Nat.le_refl _) _⟩; have HBK : Sl _ := ⟨Blk.new w 34 #[.int .i64 a, .int .i64 b, .slice A n c]⟩; have HM : Sl _ := ⟨hM.below HU.out⟩; have HRK : Sl _ := ⟨hR.below HU.out⟩; have HUS : Sl _ := ⟨II.below hU HU.out⟩; have hm2 : m ≤ 9223372036854775807 := (by unfold maxLen at hm; omega); have hq2 : q ≤ 9223372036854775807 := (by unfold maxLen at hq; omega); have HP1 : Sl _ := ⟨fun (W : World) (h1 : MXA W A n c L) (h2 : RKS W B m R) (h3 : II W C q us) => (partsP_any a b A n c L B m d R C q f us W h1 ha hb h2 hm2 h3 hq2).mono fun e w' h => And.intro (PartR.form h.1) h.2⟩; have HCK : Sl _ := ⟨fun (W : World) (h : MXA W A n c L) => rCheck_any a b A n c L W h ha hb⟩; have HRW : Sl _ := ⟨fun (W : World) (h : MXA W A n c L) (key : Int) => Row_any a b A n c L key W h ha hb⟩; clear hM ha hb hR hm hfit hU hq hui hm2 hq2; obtain ⟨x, hx⟩ : ∃ x, mxO a b L = x := ⟨_, rfl⟩; rw [hx] at HP1 HCK HRW; have HX : Sl (x.a = a ∧ x.b = b) := ⟨by rw [← hx]; exact ⟨rfl, rfl⟩⟩; have h12 := partL_few x R us; obtain ⟨r, hr⟩ : ∃ r, partE x R us = r := ⟨_, rfl⟩; obtain ⟨ls, hls⟩ : ∃ l, partL x R us = l := ⟨_, rfl⟩; have HE : Sl _ := ⟨hr⟩; have HLS : Sl _ := ⟨hls⟩; rw [hr, hls] at HP1; rw [hls] at h12; obtain ⟨ns, hns⟩ : ∃ n, ls.length = n := ⟨_, rfl⟩; rw [hns] at HP1 h12; have HNS : Sl _ := ⟨hns⟩; clear hr hls hns hx; go_enter Tryz.func6, Tryz.ntmps6; go_wp2_with fail; generalize w.alloc (.cells #[.int .i64 a, .int .i64 b, .slice A n c] 34) = w0 at *
  have HCE : Sl (∀ W, Below w0.heap.size w0 W → W.cell? ⟨w.heap.size, 0, none⟩ = some (.int .i64 a) ∧ W.cell? ⟨w.heap.size, 1, none⟩ = some (.int .i64 b) ∧ W.cell? ⟨w.heap.size, 2, none⟩ = some (.slice A n c)) := ⟨fun W h => by
    have e := HBK.out.below h HBK.out.lt
    exact ⟨by rw [e.cell]; rfl, by rw [e.cell]; rfl, by rw [e.cell]; rfl⟩⟩
  refine (HP1.out w0 HM.out HRK.out HUS.out).mono ?_; rintro e w1 ⟨⟨A1, c1, rfl, hr1⟩, hb⟩; have HB : Sl (Below w0.heap.size w0 w1) := ⟨hb⟩; have HR1 : Sl _ := ⟨hr1⟩; clear hb hr1 HP1
  by_cases h0 : r = 0
  · subst h0; have HPK : Sl _ := ⟨partE_zero HE.out⟩; have HCH : Sl (x.chk = 0) := ⟨HPK.out.chk⟩; have HF : Sl x.Fine := ⟨Mx.fine (Mx.chk_ok HCH.out).1⟩; have HAB : Sl (0 ≤ a ∧ b ≤ 127 ∧ a ≤ b ∧ b - a < 61) := ⟨by rw [← HX.out.1, ← HX.out.2]; exact ⟨HF.out.a0, HF.out.b1, HF.out.ab, HF.out.wide⟩⟩; have HKY : Sl (x.keys = (b - a + 1).toNat) := ⟨by unfold Mx.keys; rw [HX.out.1, HX.out.2]⟩; have HPL : Sl (ls = pts us (ruP x R us) us.length) := ⟨by rw [← HLS.out]; unfold partL; rw [if_pos HE.out]⟩; rw [HCH.out] at HCK; obtain ⟨k0, k1, k2⟩ := HCE.out w1 HB.out; go_wp2_with fail; refine (HCK.out w1 (HM.out.below HB.out)).mono ?_; rintro e w2 ⟨rfl, hb⟩; replace HB : Sl (Below w0.heap.size w0 w2) := ⟨HB.out.trans (hb.mono HB.out.size)⟩; replace HR1 : Sl (Reads w2 w2.heap.size 4 A1 ns (ls.flatMap ptC)) := ⟨(HR1.out.below hb).more hb.size⟩; clear hb HCK k0 k1 k2; obtain ⟨k0, k1, k2⟩ := HCE.out w2 HB.out; go_wp2_with fail; clear k0 k1 k2
    go_loopw [9, 10, 11, 12, 13, 14, 15, 16, 17] (fun s9 s10 s11 s12 s13 s14 s15 s16 s17 wr => ∃ (t : Nat) (v10 v11 v12 v13 v14 v15 v16 v17 : Value), t ≤ x.keys ∧ s9 = .int .i64 (a + (t : Int)) ∧ s10 = v10 ∧ s11 = v11 ∧ s12 = v12 ∧ s13 = v13 ∧ s14 = v14 ∧ s15 = v15 ∧ s16 = v16 ∧ s17 = v17 ∧ Sl (Below w2.heap.size w2 wr)) (fun s9 _ _ _ _ _ _ _ _ _ => (b + 1 - RowKit.intOf s9).toNat)
    case atStart => exact ⟨0, _, _, _, _, _, _, _, _, Nat.zero_le _, by go_num, rfl, rfl, rfl, rfl, rfl, rfl, rfl, rfl, ⟨Below.refl _ _⟩⟩
    case round =>
      obtain ⟨t, v10, v11, v12, v13, v14, v15, v16, v17, ht, rfl, rfl, rfl, rfl, rfl, rfl, rfl, rfl, rfl, HQ⟩ := hrel; have HB2 : Sl (Below w0.heap.size w0 wr) := ⟨HB.out.trans (HQ.out.mono HB.out.size)⟩; obtain ⟨k0, k1, k2⟩ := HCE.out wr HB2.out; have hab := HAB.out; have hkey := HKY.out
      by_cases htk : t < x.keys
      · have hkb : a + (t : Int) ≤ b := (by omega); obtain ⟨key, hk⟩ : ∃ key, a + (t : Int) = key := ⟨_, rfl⟩; have HK : Sl (a + (t : Int) = key) := ⟨hk⟩; have HXK : Sl (x.key t = key) := ⟨by unfold Mx.key; rw [HX.out.1]; exact hk⟩; have hka : a ≤ key := (by omega); have hk2 : key ≤ b := (by rw [← hk]; exact hkb); have hk127 : 0 ≤ key ∧ key ≤ 127 := (by omega); have hkd : decide (key ≤ b) = true := decide_eq_true hk2
        have HSN : Sl (sndL R key ls = x.row key) := ⟨by
          have := HPK.out.sound htk; rw [HXK.out] at this
          rw [HPL.out]; exact this⟩
        have HRG : Sl (∀ z ∈ x.row key, 0 ≤ z ∧ z ≤ 139) := ⟨Mx.row_rg HCH.out (by rw [HX.out.1]; exact hka) (by rw [HX.out.2]; exact hk2)⟩; have HAS : Sl _ := ⟨HF.out.row_asc (key := key) (by rw [HX.out.1]; exact hka) (by rw [HX.out.2]; exact hk2)⟩; have HRE : Sl (x.rerr key = 0) := ⟨Mx.rerr_c HCH.out (by rw [HX.out.1, HX.out.2]; omega)⟩; have HRS : Sl (x.rows key = x.row key) := ⟨by unfold Mx.rows; rw [if_pos HRE.out]⟩; have HRLS : Sl (Reads wr w2.heap.size 4 A1 ns (ls.flatMap ptC)) := ⟨HR1.out.below HQ.out⟩; have HRWk : Sl _ := ⟨fun (W : World) (h : MXA W A n c L) => HRW.out W h key⟩; rw [hk]; obtain ⟨i0, hi0, hz0, hz1, hz2⟩ := infoNt; have HI : Sl _ := ⟨And.intro hi0 (And.intro hz0 (And.intro hz1 hz2))⟩; clear hi0 hz0 hz1 hz2 hk hab hkey; go_wp2_with fail; clear k0 k1 k2; generalize wr = w3 at *
        go_loopw [10, 11, 12, 13, 14, 15] (fun s10 s11 s12 s13 s14 s15 wq => ∃ (i : Nat) (v v12 v13 v14 v15 : Value), i ≤ ns ∧ s11 = .int .i64 i ∧ v = s10 ∧ s12 = v12 ∧ s13 = v13 ∧ s14 = v14 ∧ s15 = v15 ∧ Sl (wq.ownsRow w3.heap.size 3 1 v (sndL R key (ls.take i)).length ((sndL R key (ls.take i)).map iv)) ∧ Sl (Below w3.heap.size w3 wq)) (fun _ s11 _ _ _ _ _ => ns - (RowKit.intOf s11).toNat)
        case atStart => exact ⟨0, _, _, _, _, _, Nat.zero_le _, rfl, rfl, rfl, rfl, rfl, rfl, ⟨by rw [List.take_zero]; exact World.ownsRow_nil _ _ _ _⟩, ⟨Below.refl _ _⟩⟩
        case round =>
          obtain ⟨i, v, v12, v13, v14, v15, hi, rfl, rfl, rfl, rfl, rfl, rfl, HO, HW⟩ := hrel; have hrd2 := HRLS.out.below (HW.out.mono HQ.out.size)
          by_cases hin : i < ns
          · have hiI : (i : Int) < (ns : Int) := (by omega); have hid : decide ((i : Int) < (ns : Int)) = true := decide_eq_true hiI; obtain ⟨al, y, hA1, hy, hc⟩ := flatS_cells hrd2 (fun _ => rfl) HNS.out hin
            have halb : (al.add (i * 4)).block < wr.heap.size := by
              obtain ⟨al2, ea, hab, _⟩ := hrd2.2 (by omega); rw [hA1] at ea; injection ea with ea
              subst ea; rw [block_of_add]; have h1 := HQ.out.size; have h2 := HW.out.size; omega
            subst hA1; have HPT : Sl _ := ⟨HPK.out.part (p := y) (by rw [← HPL.out]; exact List.mem_of_getElem? hy)⟩; have HMY : Sl (y ∈ ls) := ⟨List.mem_of_getElem? hy⟩; have HST : Sl (sndL R key (ls.take (i + 1)) = sndL R key (ls.take i) ++ sndP R key y) := ⟨sndL_snoc hy⟩; have HSY : Sl (∀ z ∈ sndP R key y, 0 ≤ z ∧ z ≤ 139) := ⟨fun z hz => HRG.out z (by rw [← HSN.out]; unfold sndL; exact List.mem_flatMap.2 ⟨y, HMY.out, hz⟩)⟩
            have hln : (sndL R key (ls.take i)).length ≤ 12 := by
              have h1 := sndL_len R key (ls.take i); rw [List.length_take] at h1; omega
            obtain ⟨nt, hnt⟩ : ∃ l, sndL R key (ls.take i) = l := ⟨_, rfl⟩; rw [hnt] at HO HST hln; clear hnt; obtain ⟨kz, s, f', t'⟩ := y; have y0 := hc 0 _ rfl; have y1 := hc 1 _ rfl; have y2 := hc 2 _ rfl; have y3 := hc 3 _ rfl; rw [addrP_z] at y0; rw [addrP_k] at y1 y2 y3; simp only [] at y0 y1 y2 y3 HPT; have HSP : Sl (sndP R key (kz, s, f', t') = if f' ≤ key ∧ key ≤ t' then [key + s + ownR (R[kz.toNat]?.getD rk0)] else []) := ⟨rfl⟩; clear hc hy HMY hrd2
            by_cases h1 : key < f'
            · have h1d : decide (key < f') = true := decide_eq_true h1; rw [HSP.out, if_neg (by omega), List.append_nil] at HST; go_wp2_with fail; exact ⟨⟨i + 1, _, _, _, _, _, hin, by go_num, rfl, rfl, rfl, rfl, rfl, ⟨by rw [HST.out]; exact HO.out⟩, HW⟩, by simp [RowKit.intOf]; omega⟩
            · have h1d : decide (key < f') = false := decide_eq_false h1
              by_cases h2 : t' < key
              · have h2d : decide (t' < key) = true := decide_eq_true h2; rw [HSP.out, if_neg (by omega), List.append_nil] at HST; go_wp2_with fail; exact ⟨⟨i + 1, _, _, _, _, _, hin, by go_num, rfl, rfl, rfl, rfl, rfl, ⟨by rw [HST.out]; exact HO.out⟩, HW⟩, by simp [RowKit.intOf]; omega⟩
              · have h2d : decide (t' < key) = false := decide_eq_false h2; obtain ⟨hkr, hvf, hsb, hnb, hlb⟩ := HPT.out; rw [HSP.out, if_pos (by omega)] at HST HSY; obtain ⟨kn, hkn⟩ := Int.eq_ofNat_of_zero_le hkr.1; subst hkn; have hRl : R.length = m := HRK.out.len; have hkm : kn < m := (by rw [hRl] at hkr; omega); have hkmI : (kn : Int) < (m : Int) := (by omega); have hkm0 : decide ((kn : Int) < 0) = false := decide_eq_false (by omega); have hkm1 : decide ((m : Int) ≤ (kn : Int)) = false := decide_eq_false (by omega); obtain ⟨ar, rr, hB, hri, c0, c1', c2, c3, c4, c5⟩ := (HRK.out.below (HB2.out.trans (HW.out.mono HB2.out.size))).cells hkm; subst hB; rw [Int.toNat_natCast, hri, Option.getD_some] at hvf hnb hlb HST HSY; obtain ⟨h3, h4⟩ := hnb key (by omega) (by omega); have hz := HSY.out _ (List.mem_singleton.2 rfl); obtain ⟨nu, de, hnu, hde, hok⟩ := okF_of hvf; rw [hnu] at c2 hvf; rw [hde] at c3 hvf; have HSV : Sl (SmV (nu : Int) (de : Int) = (semI nu de, 0)) := ⟨by unfold SmV; rw [if_pos hvf]; simp⟩; have hOW : ownR rr = semI nu de := (by unfold ownR; rw [hnu, hde, Int.toNat_natCast, Int.toNat_natCast]); rw [hOW] at HST hz; have HSM : Sl _ := ⟨fun W : World => rSemi_any (nu : Int) (de : Int) W⟩; rw [HSV.out] at HSM; obtain ⟨own, hown⟩ : ∃ o, semI nu de = o := ⟨_, rfl⟩; rw [hown] at HSM HST hz; have d0 : wr.cell? (ar.add (kn * 6)) = some (.string rr.nm) := c0; have d1 : wr.cell? ⟨(ar.add (kn * 6)).block, (ar.add (kn * 6)).off + 1, none⟩ = some (.int .i64 rr.kind) := c1'; have d2 : wr.cell? ⟨(ar.add (kn * 6)).block, (ar.add (kn * 6)).off + 2, none⟩ = some (.int .i64 (nu : Int)) := c2; have d3 : wr.cell? ⟨(ar.add (kn * 6)).block, (ar.add (kn * 6)).off + 3, none⟩ = some (.int .i64 (de : Int)) := c3; have d4 : wr.cell? ⟨(ar.add (kn * 6)).block, (ar.add (kn * 6)).off + 4, none⟩ = some (.int .i64 rr.low) := c4; have d5 : wr.cell? ⟨(ar.add (kn * 6)).block, (ar.add (kn * 6)).off + 5, none⟩ = some (.int .i64 rr.cnt) := c5; obtain ⟨nm, hnm⟩ : ∃ z, rr.nm = z := ⟨_, rfl⟩; obtain ⟨kd, hkd'⟩ : ∃ z, rr.kind = z := ⟨_, rfl⟩; obtain ⟨lo, hlo⟩ : ∃ z, rr.low = z := ⟨_, rfl⟩; obtain ⟨ct, hct⟩ : ∃ z, rr.cnt = z := ⟨_, rfl⟩; rw [hnm] at d0; rw [hkd'] at d1; rw [hlo] at d4 h3 h4 hlb; rw [hct] at d5 h4 hlb; clear hkr c0 c1' c2 c3 c4 c5 hri hvf hnu hde hok hown hnm hkd' hlo hct HSV HSP HSY HPT hnb hOW; have HBX : Sl (Blk (wr.alloc (.cells #[.string nm, .int .i64 kd, .int .i64 (nu : Int), .int .i64 (de : Int), .int .i64 lo, .int .i64 ct] 45)) wr.heap.size 45 #[.string nm, .int .i64 kd, .int .i64 (nu : Int), .int .i64 (de : Int), .int .i64 lo, .int .i64 ct]) := ⟨Blk.new _ _ _⟩; have HX5 : Sl (Below w3.heap.size w3 (wr.alloc (.cells #[.string nm, .int .i64 kd, .int .i64 (nu : Int), .int .i64 (de : Int), .int .i64 lo, .int .i64 ct] 45))) := ⟨HW.out.alloc HW.out.size _⟩
                have HO5 : Sl ((wr.alloc (.cells #[.string nm, .int .i64 kd, .int .i64 (nu : Int), .int .i64 (de : Int), .int .i64 lo, .int .i64 ct] 45)).ownsRow w3.heap.size 3 1 v nt.length (nt.map iv)) := ⟨xown_alloc HO.out _⟩; have hw1 : IntKind.i64.wrap (key + s) = key + s := (by rw [IntKind.wrap_i64]; omega); have hw2 : IntKind.i64.wrap (lo + ct) = lo + ct := (by rw [IntKind.wrap_i64]; omega); have hw3 : IntKind.i64.wrap (key + s + own) = key + s + own := (by rw [IntKind.wrap_i64]; omega); have hd1 : decide (key + s < lo) = false := decide_eq_false (by omega); have hd2 : decide (lo + ct ≤ key + s) = false := decide_eq_false (by omega); obtain ⟨ln, hlnn⟩ : ∃ z, nt.length = z := ⟨_, rfl⟩; rw [hlnn] at HO5 hln; have HLN : Sl _ := ⟨hlnn⟩; clear HO HW hlnn; go_wp2_with fail; obtain ⟨g12, hg12⟩ : ∃ g, wr.heap.size = g := ⟨_, rfl⟩; rw [hg12] at HBX ⊢; clear hg12 d0 d1 d2 d3 d4 d5 y0 y1 y2 y3 halb; generalize wr.alloc (.cells #[.string nm, .int .i64 kd, .int .i64 (nu : Int), .int .i64 (de : Int), .int .i64 lo, .int .i64 ct] 45) = w5 at *
                refine (HSM.out _).mono ?_; rintro e w6 ⟨rfl, hb6⟩; have HX6 : Sl (Below w3.heap.size w3 w6) := ⟨HX5.out.trans (hb6.mono HX5.out.size)⟩; have HO6 : Sl (w6.ownsRow w3.heap.size 3 1 v ln (nt.map iv)) := ⟨own_mv HO5.out (Mv.of_below hb6) (fun z hz => by have := (HO5.out.lt z hz).2; omega)⟩; have HBY : Sl (Blk w6 g12 45 #[.string nm, .int .i64 kd, .int .i64 (nu : Int), .int .i64 (de : Int), .int .i64 lo, .int .i64 ct]) := ⟨HBX.out.below hb6 HBX.out.lt⟩; have e4 := HBY.out.cell 4; have e5 := HBY.out.cell 5; simp at e4 e5; clear hb6 HX5 HO5 HBX HSM; go_wp2_with (at_builtin; go_loud (refine wpList_append_any _ rfl (.tmp 121) (.tmp 125) _ rfl w3.heap.size 3 i0 _ 1 8 Tryz.underlying36 HI.out.1 HI.out.2.1 HI.out.2.2.1 HI.out.2.2.2 rfl (by decide) v ln _ rfl (xown_alloc HO6.out _) _ (some ⟨w6.heap.size, 0, none⟩) 1 1 [.int .i64 (key + s + own)] rfl (xreads1 _ _ _) (by intro u hu; simp at hu; subst hu; rfl) (by unfold maxLen; omega) (by omega) (by have := HX6.out.size; simp; omega) ?_; rintro v6 w7 hown hg hat; have XS : Sl _ := ⟨And.intro hown hg⟩; clear hown hg hat))
                have XQ : Sl (w7.ownsRow w3.heap.size 3 1 v6 (sndL R key (ls.take (i + 1))).length ((sndL R key (ls.take (i + 1))).map iv)) := ⟨by
                  rw [HST.out, List.map_append, List.length_append, HLN.out]
                  exact XS.out.1⟩
                have XB : Sl (Below w3.heap.size w3 w7) := ⟨xbelow_grown HX6.out HX6.out.size HO6.out XS.out.2⟩; exact ⟨⟨i + 1, v6, _, _, _, _, hin, by go_num, rfl, rfl, rfl, rfl, rfl, XQ, XB⟩, by simp [RowKit.intOf]; omega⟩
          · obtain rfl : i = ns := (by omega); have hid : decide ((i : Int) < (i : Int)) = false := decide_eq_false (by omega); have hiI : ¬ (i : Int) < (i : Int) := (by omega)
            have HO2 : Sl (wr.ownsRow w3.heap.size 3 1 v (x.row key).length ((x.row key).map iv)) := ⟨by
              have h := HO.out; rw [List.take_of_length_le (by rw [HNS.out]; exact Nat.le_refl _), HSN.out] at h
              exact h⟩
            have hnr : (x.row key).length ≤ 12 := by
              rw [← HSN.out]; have := sndL_len R key ls; rw [HNS.out] at this; omega
            obtain ⟨rw', hrw⟩ : ∃ l, x.row key = l := ⟨_, rfl⟩; rw [hrw] at HO2 hnr HAS HRS; obtain ⟨nr, hnrr⟩ : ∃ z, rw'.length = z := ⟨_, rfl⟩; rw [hnrr] at HO2 hnr HAS; obtain ⟨A8, c8, e8, hi8⟩ := own_slice HO2.out hnrr; subst e8; have HI8 : Sl _ := ⟨hi8⟩; have HNR : Sl _ := ⟨hnrr⟩; have HB4 : Sl (Below w0.heap.size w0 wr) := ⟨HB2.out.trans (HW.out.mono HB2.out.size)⟩; clear hi8 hrd2 hrw hnrr HO HSN HRG; obtain ⟨k0, k1, k2⟩ := HCE.out wr HB4.out; go_wp2_with fail; refine (HRWk.out wr (HM.out.below HB4.out)).mono ?_; rintro e w5 ⟨⟨A9, c9, he, hi9⟩, hb⟩; rw [HRE.out, HRS.out, HNR.out] at he; rw [HRS.out, HNR.out] at hi9; subst he; have HI9 : Sl _ := ⟨hi9⟩; have HB5 : Sl (Below w3.heap.size w3 w5) := ⟨HW.out.trans (hb.mono HW.out.size)⟩; have HS8 : Sl _ := ⟨sorted_any A8 nr c8 rw' w5 (II.below HI8.out hb) HAS.out (by omega)⟩; clear hi9 hb k0 k1 k2 HI8; go_wp2_with fail; refine HS8.out.mono ?_; rintro e w6 ⟨⟨v6, rfl, ho6⟩, hb⟩; obtain ⟨A6, c6, e6, hi6⟩ := own_slice ho6 HNR.out; subst e6; have HSI : Sl _ := ⟨sameInts11_any A6 A9 nr c6 c9 rw' w6 hi6 (II.below HI9.out hb) (by omega)⟩; have HB6 : Sl (Below w3.heap.size w3 w6) := ⟨HB5.out.trans (hb.mono HB5.out.size)⟩; clear ho6 hi6 hb HS8 HI9; go_wp2_with fail; refine HSI.out.mono ?_; rintro e w7 ⟨rfl, m7, rfl⟩; have HB7 : Sl (Below w2.heap.size w2 (w6.drewN m7)) := ⟨HQ.out.trans ((below_drewN HB6.out m7).mono HQ.out.size)⟩; generalize w6.drewN m7 = w8 at *
            go_wp2_with fail; exact ⟨⟨t + 1, _, _, _, _, _, _, _, _, htk, by have := HK.out; congr 1; omega, rfl, rfl, rfl, rfl, rfl, rfl, rfl, rfl, HB7⟩, by have := HK.out; simp [RowKit.intOf]; omega⟩
      · have hkd : decide (a + (t : Int) ≤ b) = false := decide_eq_false (by omega); have HB9 : Sl (Below w.heap.size w wr) := ⟨HU.out.trans (HB2.out.mono HU.out.size)⟩; clear hab hkey; go_wp2_with fail; refine (awake11_any _).mono ?_; rintro e w9 ⟨rfl, hb⟩; have HB10 : Sl (Below w.heap.size w w9) := ⟨HB9.out.trans (hb.mono HB9.out.size)⟩; clear hb; go_wp2_with fail; go_ret; exact ⟨rfl, HB10.out⟩
  · have h0b : (r != 0) = true := (by rw [bne_iff_ne]; exact h0); have HB9 : Sl (Below w.heap.size w w1) := ⟨HU.out.trans (HB.out.mono HU.out.size)⟩; go_wp2_with fail; refine (awake11_any _).mono ?_; rintro e w9 ⟨rfl, hb⟩; have HB10 : Sl (Below w.heap.size w w9) := ⟨HB9.out.trans (hb.mono HB9.out.size)⟩; clear hb; go_wp2_with fail; go_ret; exact ⟨rfl, HB10.out⟩
end Go.Proofs.YtafadpaljanghaaGreatDoor
