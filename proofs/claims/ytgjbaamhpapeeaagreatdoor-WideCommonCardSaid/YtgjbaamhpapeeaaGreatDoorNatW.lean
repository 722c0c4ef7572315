/- Plain facts: the results that the law asks for first. -/
import Derived.Test.YtgjbaamhpapeeaaGreatDoorWideV
namespace Go.Proofs.YtgjbaamhpapeeaaGreatDoor
set_option linter.unusedSimpArgs false
set_option linter.unusedVariables false
open Go.RowKit

theorem limbs_one {x : Nat} (h0 : x ≠ 0) (h : x < LB) : limbs x = [x] := by
  have h1 := trimN_limbs (l := [x]) (by simpa using h)
  rw [show valOf [x] = x by simp [valOf]] at h1
  rw [← h1]
  simp [trimN, h0]
theorem limbs_two {x y : Nat} (hx : x < LB) (h0 : y ≠ 0) (hy : y < LB) : limbs (x + LB * y) = [x, y] := by
  have h1 := trimN_limbs (l := [x, y]) (by simp [hx, hy])
  rw [show valOf [x, y] = x + LB * y by simp [valOf]] at h1
  rw [← h1]
  simp [trimN, h0]
theorem awake_text : textS [0, 1] = ([52, 50, 57, 52, 57, 54, 55, 50, 57, 54], 0) := by
  have h1 : badE [[0, 1]] = 0 := by decide
  have h2 : valOf [0, 1] = 4294967296 := by decide
  simp only [textS, h1, if_true, h2]
  simp [Lib.decDigits]
theorem awake_div : divS [0, 0, 1] [4294967295] = ([1, 1], [1], 0) := by
  have h1 : badE [[0, 0, 1], [4294967295]] = 0 := by decide
  have h2 : valOf [0, 0, 1] = 18446744073709551616 := by decide
  have h3 : valOf [4294967295] = 4294967295 := by decide
  simp only [divS, h1, if_true, h2, h3]
  have e1 := limbs_two (x := 1) (y := 1) (by decide) (by decide) (by decide)
  have e2 := limbs_one (x := 1) (by decide) (by decide)
  simp only [LB] at e1
  simp [e1, e2]
theorem awake_gcd : gcdS (limbs 462) (limbs 1071) = ([21], 0) := by
  have e1 := limbs_one (x := 462) (by decide) (by decide)
  have e2 := limbs_one (x := 1071) (by decide) (by decide)
  have e3 := limbs_one (x := 21) (by decide) (by decide)
  have h1 : badE [[462], [1071]] = 0 := by decide
  have h2 : valOf [462] = 462 := by decide
  have h3 : valOf [1071] = 1071 := by decide
  have h4 : Nat.gcd 462 1071 = 21 := by decide
  rw [e1, e2]
  simp only [gcdS, h1, if_true, h2, h3, h4]
  simp [fitS, e3]
theorem properS_123 {neg : Bool} {x y : Nat} (hx : x ≠ 0) (hy : y ≠ 0) (hg : Nat.gcd x y = 1) : properS neg [x] [y] = true := by
  have h1 : valOf [x] = x := by simp [valOf]
  have h2 : valOf [y] = y := by simp [valOf]
  simp [properS, validL, h1, h2, hg, hx, hy]
theorem checkQ_two {p q : QV} (hp : p.proper = true) (hq : q.proper = true) (h1 : p.long = false) (h2 : q.long = false) : checkQ (two p q) 2 = 0 := by
  simp [checkQ, List.range_succ, two, hp, hq, h1, h2]
theorem checkQ_one {p : QV} (hp : p.proper = true) (h1 : p.long = false) : checkQ (fun _ => p) 1 = 0 := by
  simp [checkQ, List.range_succ, hp, h1]
theorem awake_add {p q : QV} (h1 : p.neg = false) (h2 : p.la = [1]) (h3 : p.lb = [6]) (h4 : q.neg = true) (h5 : q.la = [2]) (h6 : q.lb = [3]) {e : Ending} {w : World} (h : QAddRes p q e w) : QRes true [1] [2] 0 e w := by
  have hc : checkQ (two p q) 2 = 0 := checkQ_two (by rw [QV.proper, h1, h2, h3]; exact properS_123 (by decide) (by decide) (by decide)) (by rw [QV.proper, h4, h5, h6]; exact properS_123 (by decide) (by decide) (by decide)) (by rw [QV.long, h2, h3]; rfl) (by rw [QV.long, h5, h6]; rfl)
  unfold QAddRes at h
  rw [if_pos hc, h1, h2, h3, h4, h5, h6] at h
  have e1 : sumS false (valOf [1]) (valOf [6]) true (valOf [2]) (valOf [3]) = (true, 9) := by decide
  have e2 : valOf [6] * valOf [3] = 18 := by decide
  have e3 : lowS true 9 18 = (true, [1], [2], 0) := by
    have k1 := limbs_one (x := 1) (by decide) (by decide)
    have k2 := limbs_one (x := 2) (by decide) (by decide)
    have k3 : Nat.gcd 9 18 = 9 := by decide
    simp [lowS, k1, k2, k3]
  rw [e1, e2] at h
  unfold LowRes at h
  rw [e3] at h
  exact h
theorem awake_floor {p : QV} (h1 : p.neg = true) (h2 : p.la = [1]) (h3 : p.lb = [2]) {e : Ending} {w : World} (h : QFloorRes p e w) : FRes true [1] 0 e w := by
  have hc : checkQ (fun _ => p) 1 = 0 := checkQ_one (by rw [QV.proper, h1, h2, h3]; exact properS_123 (by decide) (by decide) (by decide)) (by rw [QV.long, h2, h3]; rfl)
  unfold QFloorRes at h
  rw [if_pos hc, h1, h2, h3] at h
  have e1 : floorN true (valOf [1]) (valOf [2]) = 1 := by decide
  rw [e1, limbs_one (by decide) (by decide)] at h
  exact h
theorem awake_pow {p : QV} (h1 : p.neg = true) (h2 : p.la = [2]) (h3 : p.lb = [3]) {e : Ending} {w : World} (h : QPowRes p (-3) e w) : QRes true [27] [8] 0 e w := by
  have hc : checkQ (fun _ => p) 1 = 0 := checkQ_one (by rw [QV.proper, h1, h2, h3]; exact properS_123 (by decide) (by decide) (by decide)) (by rw [QV.long, h2, h3]; rfl)
  have v2 : valOf [2] = 2 := by decide
  have v3 : valOf [3] = 3 := by decide
  have k1 := limbs_one (x := 27) (by decide) (by decide)
  have k2 := limbs_one (x := 8) (by decide) (by decide)
  rw [QPowRes_eq, if_neg (by rw [hc]; simp), if_neg (by decide), h2, h3, v2, v3, if_neg (by decide), h1] at h
  have n3 : (-3 : Int).natAbs = 3 := by decide
  rw [if_pos (show (-3 : Int) < 0 by decide), if_pos (show (-3 : Int) < 0 by decide), n3, show 3 ^ 3 = 27 by decide, show 2 ^ 3 = 8 by decide, k1, k2, if_pos (by decide)] at h
  exact h
theorem awake_root {l : List Nat} {er : Int} (h : RootS (limbs 999) 3 l er) : l = [9] ∧ er = 0 := by
  have k1 := limbs_one (x := 999) (by decide) (by decide)
  have k2 := limbs_one (x := 9) (by decide) (by decide)
  have hb : badE [[999]] = 0 := by decide
  have hv : valOf [999] = 999 := by decide
  rw [k1] at h
  rcases h with ⟨_, _, _, x, hx, h1, h2⟩ | ⟨_, h1, _⟩ | ⟨h1, _⟩
  · rw [hv] at hx
    have h9 : IsRoot (3 : Int).toNat 999 9 := ⟨by decide, by decide⟩
    have e := hx.uniq h9
    subst e
    rw [h1, h2]
    simp [fitS, k2]
  · omega
  · exact absurd hb h1
end Go.Proofs.YtgjbaamhpapeeaaGreatDoor
