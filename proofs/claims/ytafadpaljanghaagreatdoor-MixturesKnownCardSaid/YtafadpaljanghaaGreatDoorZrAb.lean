/- Package ratios: the bounds of the logarithms of any numbers: what quick and log give; products that are not too great. -/
import Derived.Test.YtafadpaljanghaaGreatDoorZrA
import Derived.Test.YtafadpaljanghaaGreatDoorRatG
import Derived.Test.YtafadpaljanghaaGreatDoorSgA
import Derived.Test.YtafadpaljanghaaGreatDoorSgC
import Derived.Test.YtafadpaljanghaaGreatDoorMixG
import Derived.Lib.LaidTab
import Derived.Deep.RegionLaw
import Derived.Test.YtafadpaljanghaaGreatDoorRefE
import Derived.Test.YtafadpaljanghaaGreatDoorMixE
import Derived.Laws.ResultCell
import Derived.Laws.Tables
import Derived.Test.YtafadpaljanghaaGreatDoorMixS
import Derived.Test.YtafadpaljanghaaGreatDoorRefK
namespace Go.Proofs.YtafadpaljanghaaGreatDoor
set_option linter.unusedSimpArgs false
open Go.RowKit
set_option linter.unusedVariables false
theorem andi64 (a b : Nat) (ha : a < 9223372036854775808) (hb : b < 9223372036854775808) : bits .and .i64 (a : Int) (b : Int) = ((a &&& b : Nat) : Int) := by
  have hab : a &&& b < 9223372036854775808 := Nat.lt_of_le_of_lt Nat.and_le_left ha
  have e : ∀ x : Nat, x < 18446744073709551616 → (BitVec.ofInt 64 (x : Int)).toNat = x := fun x h => by
    rw [BitVec.ofInt_natCast, BitVec.toNat_ofNat]; exact Nat.mod_eq_of_lt h
  show IntKind.i64.wrap ((BitVec.ofInt 64 (a : Int) &&& BitVec.ofInt 64 (b : Int)).toNat : Int) = _; rw [BitVec.toNat_and, e a (by omega), e b (by omega), IntKind.wrap_i64]; omega
theorem len_of {n : Nat} (h1 : 1 ≤ n) (h2 : n < 1000000000000000) : ∃ k, Lib.bitLen n = k + 1 ∧ k < 50 ∧ 2 ^ k ≤ n ∧ n < 2 ^ (k + 1) := by
  have h64 : n < 2 ^ 64 := Nat.lt_trans h2 (by decide); have h50 : n < 2 ^ 50 := Nat.lt_trans h2 (by decide); have hb := bitLenAux_bounds 64 n h1 h64; obtain ⟨b1, b2⟩ := bitLen_bounds h1 h64
  have hk : Lib.bitLen n - 1 < 50 := by
    rcases Nat.lt_or_ge (Lib.bitLen n - 1) 50 with h0 | h0
    · exact h0
    · have := Nat.pow_le_pow_right (n := 2) (by decide) h0; omega
  refine ⟨Lib.bitLen n - 1, ?_, hk, b1, b2⟩; have : 0 < Lib.bitLen n := hb.1; omega
theorem pred_test {n k : Nat} (h1 : 1 ≤ n) (h2 : n < 1000000000000000) (hb : 2 ^ k ≤ n ∧ n < 2 ^ (k + 1)) : (bits .and .i64 (n : Int) ((n : Int) - 1) == 0) = decide (n = 2 ^ k) := by
  have e : ((n : Int) - 1) = ((n - 1 : Nat) : Int) := (by omega); rw [e, andi64 n (n - 1) (by omega) (by omega)]; have := and_pred hb.1 hb.2; generalize n &&& (n - 1) = c at *
  by_cases hc : c = 0
  · rw [decide_eq_true (this.1 hc), hc]; rfl
  · rw [decide_eq_false (fun h => hc (this.2 h)), beq_eq_false_iff_ne]; omega
theorem QK_all {n : Nat} (h1 : 1 ≤ n) (h2 : n < 1000000000000000) : QK n := by
  obtain ⟨k, hk, hk2, b1, b2⟩ := len_of h1 h2; refine QK_of (k := k) (c := decide (n = 2 ^ k)) h1 h2 hk (by omega) ?_ (pred_test h1 h2 ⟨b1, b2⟩) ?_
  · have : W64 = 2 ^ (k + 1) * 2 ^ (63 - k) := (by rw [← Nat.pow_add, show k + 1 + (63 - k) = 64 by omega]; rfl); rw [this]; exact Nat.mul_lt_mul_of_pos_right b2 (Nat.pow_pos (by decide))
  · unfold qkc qk; rw [hk, Nat.add_sub_cancel]
    by_cases h : n = 2 ^ k
    · rw [if_pos h, if_pos (decide_eq_true h)]
    · rw [if_neg h, if_neg (by simpa using h)]
theorem logOK_all {n P : Nat} (h1 : 1 ≤ n) (h2 : n < 1000000000000000) (hP : P ≤ 2048) : LogOK n P (lg n P) ∧ (lg n P).1 ≤ 2 ^ (P + 6) ∧ (lg n P).2 ≤ 2 ^ (P + 6) := by
  obtain ⟨k, hk, hk2, b1, b2⟩ := len_of h1 h2; refine ⟨logOK_of h1 h2 hk (by omega) b2 hP (pred_test h1 h2 ⟨b1, b2⟩), ?_⟩; rw [lgc_lg P hk]; exact lgc_le _ (by omega)
theorem lg_bds {n P : Nat} (h1 : 1 ≤ n) (h2 : n < 1000000000000000) (hP : 64 ≤ P) : Bd n P (lg n P) := by
  obtain ⟨k, hk, hk2, b1, b2⟩ := len_of h1 h2; exact lg_bd h1 (Nat.lt_trans h2 (by decide)) (by omega)
theorem sg_small {l : List (Nat × Int)} {p T : Nat} {e : Nat → Nat} (p4 : p = 64 ∨ p = 128 ∨ p = 256 ∨ p = 512) (hlen : l.length ≤ 17)
    (hx : ∀ x ∈ l, (1 ≤ x.1 ∧ x.1 ≤ 1000000000000) ∧ x.2.natAbs ≤ 10000000000000000 ∧ (lg x.1 p).2 ≤ (lg x.1 p).1 + e x.1)
    (hT : tote e l ≤ T) (hs : up l * (2 * T + 1) ≤ 2 ^ p ∨ down l * (2 * T + 1) ≤ 2 ^ p) : SgOK l p where
  p4 := p4
  len := hlen
  okE := ⟨hlen, fun x h => ⟨by have := (hx x h).1; omega, (hx x h).1.2, (hx x h).2.1⟩⟩
  good := ⟨fun x h => QK_all (hx x h).1.1 (by have := (hx x h).1; omega), fun x h => by have := (hx x h).2.1; omega, fun x h => qk_le (by have := (hx x h).1; omega) (Nat.lt_of_le_of_lt (hx x h).1.2 (by decide))⟩
  logs := fun P hP => ⟨fun x h => (logOK_all (hx x h).1.1 (by have := (hx x h).1; omega) hP).1, fun x h => ⟨(logOK_all (hx x h).1.1 (by have := (hx x h).1; omega) hP).2.1, (logOK_all (hx x h).1.1 (by have := (hx x h).1; omega) hP).2.2, by have := (hx x h).2.1; omega⟩⟩
  sound := fun P s hP h => guessG_sound (fun x hh => lg_bds (hx x hh).1.1 (by have := (hx x hh).1; omega) hP) h
  quick := fun s h => by
    unfold guessF at h; rw [gsum_sumB] at h; exact guessG_sound (fun x hh => qk_bd (by have := (hx x hh).1; omega) (Nat.lt_of_le_of_lt (hx x hh).1.2 (by decide))) h
  end_ := fun h => decidedE (e := e) (fun x hh => lg_bds (hx x hh).1.1 (by have := (hx x hh).1; omega) (by omega)) (fun x hh => (hx x hh).2.2) hT (up_pos fun x hh => by have := (hx x hh).1; omega) hs h
end Go.Proofs.YtafadpaljanghaaGreatDoor
namespace Go.Proofs.YtafadpaljanghaaGreatDoor
set_option linter.unusedSimpArgs false
open Go.RowKit
set_option linter.unusedVariables false
def ftL (num den : Nat) : List (Nat × Int) := [(8 * den, 1), (num, -1)]
def okF (num den : Nat) : Prop := (1 ≤ den ∧ den ≤ 15) ∧ 1 ≤ num ∧ num ≤ 960
theorem ftL_at (num den : Nat) (m : Int) : atM (ftL num den) 24 1 m = [(8 * den, 24), (num, -24), (2, -m)] := by
  unfold atM scaled ftL; simp
def e2 (n : Nat) : Nat := if n = 2 then 0 else 1
theorem e2_le (n : Nat) : e2 n ≤ 1 := by unfold e2; split <;> omega
theorem ft_up {num den : Nat} (h : okF num den) (m : Int) : up [(8 * den, 24), (num, -24), (2, -m)] * 97 ≤ 2 ^ 256 ∨ down [(8 * den, 24), (num, -24), (2, -m)] * 97 ≤ 2 ^ 256 := by
  obtain ⟨⟨h1, h2⟩, h3, h4⟩ := h; have d1 : (8 * den) ^ 24 ≤ 120 ^ 24 := Nat.pow_le_pow_left (by omega) 24; have d2 : num ^ 24 ≤ 960 ^ 24 := Nat.pow_le_pow_left h4 24; have k1 : (120 : Nat) ^ 24 * 97 ≤ 2 ^ 256 := (by decide +kernel); have k2 : (960 : Nat) ^ 24 * 97 ≤ 2 ^ 256 := (by decide +kernel); rcases Int.lt_or_le m 0 with hm | hm
  · right
    have e : down [(8 * den, 24), (num, -24), (2, -m)] = num ^ 24 := by
      simp only [down, show (0 : Int) ≤ 24 by decide, show ¬ (0 : Int) ≤ -24 by decide, if_true, if_false, show (0 : Int) ≤ -m by omega]; exact Nat.mul_one _
    rw [e]; exact Nat.le_trans (Nat.mul_le_mul_right _ d2) k2
  · left
    rcases Int.lt_or_le 0 m with hm2 | hm2
    · have e : up [(8 * den, 24), (num, -24), (2, -m)] = (8 * den) ^ 24 := by
        simp only [up, show (0 : Int) ≤ 24 by decide, show ¬ (0 : Int) ≤ -24 by decide, if_true, if_false, show ¬ (0 : Int) ≤ -m by omega]; exact Nat.mul_one _
      rw [e]; exact Nat.le_trans (Nat.mul_le_mul_right _ d1) k1
    · have e0 : m = 0 := (by omega); subst e0
      have e : up [(8 * den, 24), (num, -24), (2, -0)] = (8 * den) ^ 24 := by
        simp only [up, show (0 : Int) ≤ 24 by decide, show ¬ (0 : Int) ≤ -24 by decide, if_true, if_false, show (0 : Int) ≤ -0 by decide]; show (8 * den) ^ 24 * (2 ^ 0 * 1) = _; rw [Nat.pow_zero, Nat.mul_one]
      rw [e]; exact Nat.le_trans (Nat.mul_le_mul_right _ d1) k1
theorem lg_two (P : Nat) : lg 2 P = (1 * 2 ^ P, 1 * 2 ^ P) := by
  have e : Go.Lib.bitLen 2 = 2 := (by decide +kernel); unfold lg; rw [e, if_pos (by decide)]
theorem near_e2 {n : Nat} (h1 : 1 ≤ n) (h2 : n ≤ 960) : (lg n 256).2 ≤ (lg n 256).1 + e2 n := by
  unfold e2
  by_cases h : n = 2
  · rw [if_pos h, h, lg_two]; exact Nat.le_refl _
  · rw [if_neg h]; have := near256 n h1 h2; unfold near at this
    rwa [Nat.ble_eq] at this
theorem ft_tot {num den : Nat} (m : Int) : tote e2 [(8 * den, 24), (num, -24), (2, -m)] ≤ 48 := by
  have a1 := Nat.mul_le_mul_right 24 (e2_le (8 * den)); have a2 := Nat.mul_le_mul_right 24 (e2_le num); have a3 : e2 2 = 0 := rfl; unfold tote tote tote tote; rw [a3]; simp only [Nat.zero_mul, Int.natAbs_neg, show (24 : Int).natAbs = 24 from rfl]; omega
theorem ft_sg {num den : Nat} (h : okF num den) {m : Int} (h1 : -1000000000000 ≤ m) (h2 : m ≤ 1000000000001) : SgOK (atM (ftL num den) 24 1 m) 256 := by
  rw [ftL_at]; refine sg_small (T := 48) (e := e2) (by decide) (show 3 ≤ 17 by decide) (fun x hx => ?_) (ft_tot m) (ft_up h m); obtain ⟨⟨k1, k2⟩, k3, k4⟩ := h; simp only [List.mem_cons, List.not_mem_nil, or_false] at hx; rcases hx with rfl | rfl | rfl
  · exact ⟨⟨by show 1 ≤ 8 * den; omega, by show 8 * den ≤ _; omega⟩, show 24 ≤ 10000000000000000 by decide, near_e2 (by show 1 ≤ 8 * den; omega) (by show 8 * den ≤ _; omega)⟩
  · exact ⟨⟨k3, by show num ≤ _; omega⟩, show 24 ≤ 10000000000000000 by decide, near_e2 k3 k4⟩
  · exact ⟨⟨show 1 ≤ 2 by decide, show 2 ≤ 1000000000000 by decide⟩, by show (-m).natAbs ≤ _; omega, near_e2 (show 1 ≤ 2 by decide) (show 2 ≤ 960 by decide)⟩
theorem ftL_ok {num den : Nat} (h : okF num den) : okT (ftL num den) := by
  obtain ⟨⟨k1, k2⟩, k3, k4⟩ := h; refine ⟨show 2 ≤ 16 by decide, fun x hx => ?_⟩; unfold ftL at hx; simp only [List.mem_cons, List.not_mem_nil, or_false] at hx; rcases hx with rfl | rfl
  · exact ⟨by show 1 ≤ 8 * den; omega, by show 8 * den ≤ _; omega, show (-1000000000 : Int) ≤ 1 by decide, show (1 : Int) ≤ 1000000000 by decide⟩
  · exact ⟨k3, by show num ≤ _; omega, show (-1000000000 : Int) ≤ -1 by decide, show (-1 : Int) ≤ 1000000000 by decide⟩
end Go.Proofs.YtafadpaljanghaaGreatDoor
namespace Go.Proofs.YtafadpaljanghaaGreatDoor
set_option linter.unusedSimpArgs false
open Go.RowKit
set_option linter.unusedVariables false
structure RV where
  n0 : Int
  n1 : Int
  n2 : Int
  n3 : Int
  n4 : Int
  n5 : Int
  d : Int
def RV.num (r : RV) : Nat → Int
  | 0 => r.n0
  | 1 => r.n1
  | 2 => r.n2
  | 3 => r.n3
  | 4 => r.n4
  | _ => r.n5
def RV.cells (r : RV) : Array Value := #[.int .i64 r.n0, .int .i64 r.n1, .int .i64 r.n2, .int .i64 r.n3, .int .i64 r.n4, .int .i64 r.n5, .int .i64 r.d]
def RV.gcd (r : RV) : Nat → Nat
  | 0 => r.d.natAbs
  | i+1 => Nat.gcd (r.gcd i) (r.num i).natAbs
def inR (z : Int) : Prop := -100000 ≤ z ∧ z ≤ 100000
instance (z : Int) : Decidable (inR z) := inferInstanceAs (Decidable (_ ∧ _))
end Go.Proofs.YtafadpaljanghaaGreatDoor
namespace Go.Proofs.YtafadpaljanghaaGreatDoor
set_option linter.unusedSimpArgs false
open Go.RowKit
set_option linter.unusedVariables false
def PrT (w : World) : Prop := Lib.TabIs Tryz.prog w "quintadena/ratios.primes" .i64 [2, 3, 5, 7, 11, 13]
theorem PrT.below {w w' : World} (h : PrT w) (hb : Below w.heap.size w w') : PrT w' := by
  unfold PrT Lib.TabIs World.var? at h ⊢; rcases hg : Tryz.prog.globalNamed "quintadena/ratios.primes" with _ | g
  · rw [hg] at h; cases h
  · rw [hg] at h; simp only [Option.bind_some] at h ⊢
    have hlt : g < w.heap.size := by
      rcases Nat.lt_or_ge g w.heap.size with h' | h'
      · exact h'
      · rw [Array.getElem?_eq_none h'] at h; cases h
    rw [hb.block g hlt]; exact h
def prime (i : Nat) : Nat := [2, 3, 5, 7, 11, 13].getD i 0
end Go.Proofs.YtafadpaljanghaaGreatDoor
namespace Go.Proofs.YtafadpaljanghaaGreatDoor
set_option linter.unusedSimpArgs false
open Go.RowKit
set_option linter.unusedVariables false
set_option maxHeartbeats 800000 in
theorem r4gcd_any (a b : Nat) (w : World) (ha : a < 4000000000000000000) (hb : b < 4000000000000000000) :
    Calls Tryz.prog 149 #[.int .i64 a, .int .i64 b] w fun e w' => e = .returned (.int .i64 (Nat.gcd a b)) ∧ ∃ m, w' = w.drewN m := by
  go_enter Tryz.func149, Tryz.ntmps149; go_wp2_with fail
  go_loopw [0, 1] (fun s0 s1 wr => ∃ (x y : Nat), s0 = .int .i64 x ∧ s1 = .int .i64 y ∧ x < 4000000000000000000 ∧ y < 4000000000000000000 ∧ Sl (Nat.gcd x y = Nat.gcd a b ∧ ∃ m, wr = w.drewN m)) (fun _ s1 _ => (RowKit.intOf s1).toNat)
  case atStart => exact ⟨a, b, rfl, rfl, ha, hb, ⟨rfl, 0, rfl⟩⟩
  case round =>
    clear ha hb; obtain ⟨x, y, rfl, rfl, hx, hy, HG⟩ := hrel; rcases Nat.eq_zero_or_pos y with h0 | h0
    · subst h0; go_wp2_with fail; go_ret; obtain ⟨h1, m, h2⟩ := HG.out; rw [Nat.gcd_zero_right] at h1; exact ⟨by rw [← h1]; rfl, m, h2⟩
    · have hne : ((y : Int) == 0) = false := (by rw [beq_eq_false_iff_ne]; omega); have hmod : (x : Int).tmod (y : Int) = ((x % y : Nat) : Int) := (by rw [Int.tmod_eq_emod_of_nonneg (by omega)]; omega); have hlt : x % y < y := Nat.mod_lt _ h0; have HGN : Sl (Nat.gcd y (x % y) = Nat.gcd a b) := ⟨by rw [← HG.out.1, Nat.gcd_comm y, ← Nat.gcd_rec, Nat.gcd_comm]⟩; generalize x % y = r at *
      go_wp2_with fail
      go_quiet (fail)
      go_wp2_with fail; obtain ⟨m, hm⟩ := HG.out.2; refine ⟨⟨y, r, rfl, rfl, hy, by omega, ⟨HGN.out, m + nq, by rw [hm]; simp⟩⟩, by simp [RowKit.intOf]; omega⟩
end Go.Proofs.YtafadpaljanghaaGreatDoor
namespace Go.Proofs.YtafadpaljanghaaGreatDoor
set_option linter.unusedSimpArgs false
open Go.RowKit
set_option linter.unusedVariables false
end Go.Proofs.YtafadpaljanghaaGreatDoor
namespace Go.Proofs.YtafadpaljanghaaGreatDoor
set_option linter.unusedSimpArgs false
open Go.RowKit
set_option linter.unusedVariables false
theorem p6_bounds {p : Nat} (h : p ∈ primes6) : 2 ≤ p ∧ p ≤ 13 := by
  simp only [primes6, List.mem_cons, List.not_mem_nil, or_false] at h; omega
theorem p6_gcd : ∀ p ∈ primes6, ∀ q ∈ primes6, Nat.gcd p q = if p = q then p else 1 := by
  unfold primes6
  decide
structure Nx (o q : List Nat) (i k n : Nat) : Prop where
  len : q.length + (if i < n then 1 else 0) + (if k < n then 1 else 0) = n
  mem : ∀ p, p ∈ q ↔ ∃ j, j < n ∧ j ≠ i ∧ j ≠ k ∧ o[j]? = some p
theorem Nx.start (o : List Nat) (i k : Nat) : Nx o [] i k 0 := ⟨by simp, fun p => ⟨fun h => by simp at h, fun ⟨j, h, _⟩ => absurd h (Nat.not_lt_zero _)⟩⟩
theorem Nx.skip {o q : List Nat} {i k n : Nat} (h : Nx o q i k n) (hik : i ≠ k) (hn : n = i ∨ n = k) : Nx o q i k (n + 1) := by
  refine ⟨?_, fun p => (h.mem p).trans ⟨fun ⟨j, h1, h2⟩ => ⟨j, by omega, h2⟩, fun ⟨j, h1, h2, h3, h4⟩ => ⟨j, by rcases hn with rfl | rfl <;> omega, h2, h3, h4⟩⟩⟩; have := h.len; rcases hn with rfl | rfl
  · rw [if_neg (Nat.lt_irrefl _)] at this; rw [if_pos (Nat.lt_succ_self _)]
    by_cases h2 : k < n
    · rw [if_pos h2] at this; rw [if_pos (by omega)]; omega
    · rw [if_neg h2] at this; rw [if_neg (by omega)]; omega
  · rw [if_neg (Nat.lt_irrefl n)] at this; rw [if_pos (Nat.lt_succ_self n)]
    by_cases h2 : i < n
    · rw [if_pos h2] at this; rw [if_pos (by omega)]; omega
    · rw [if_neg h2] at this; rw [if_neg (by omega)]; omega
theorem Nx.more {o q : List Nat} {i k n x : Nat} (h : Nx o q i k n) (h1 : n ≠ i) (h2 : n ≠ k) (hx : o[n]? = some x) : Nx o (q ++ [x]) i k (n + 1) := by
  refine ⟨?_, fun p => ?_⟩
  · have := h.len; rw [List.length_append, List.length_singleton]
    have e1 : (if i < n + 1 then 1 else 0) = (if i < n then 1 else 0) := by
      by_cases g : i < n
      · rw [if_pos g, if_pos (by omega)]
      · rw [if_neg g, if_neg (by omega)]
    have e2 : (if k < n + 1 then 1 else 0) = (if k < n then 1 else 0) := by
      by_cases g : k < n
      · rw [if_pos g, if_pos (by omega)]
      · rw [if_neg g, if_neg (by omega)]
    rw [e1, e2]; omega
  · rw [List.mem_append, h.mem p, List.mem_singleton]; constructor
    · rintro (⟨j, g1, g2⟩ | rfl)
      · exact ⟨j, by omega, g2⟩
      · exact ⟨n, by omega, h1, h2, hx⟩
    · rintro ⟨j, g1, g2, g3, g4⟩; rcases Nat.lt_or_ge j n with g | g
      · exact .inl ⟨j, g, g2, g3, g4⟩
      · obtain rfl : j = n := (by omega); rw [hx] at g4; injection g4 with g4
        exact .inr g4.symm
theorem Nx.done {o q : List Nat} {i k g : Nat} (h : Nx o q i k o.length) (hik : k < i) (hi : i < o.length) (h1 : o[i]? = some g) (h2 : o[k]? = some g) : (q ++ [g]).length + 1 = o.length ∧ ∀ p, p ∈ q ++ [g] ↔ p ∈ o := by
  refine ⟨?_, fun p => ?_⟩
  · have := h.len; rw [if_pos hi, if_pos (by omega)] at this; rw [List.length_append, List.length_singleton]; omega
  · rw [List.mem_append, h.mem p, List.mem_singleton]; constructor
    · rintro (⟨j, g1, g2, g3, g4⟩ | rfl)
      · exact List.mem_of_getElem? g4
      · exact List.mem_of_getElem? h1
    · intro hp; obtain ⟨j, hj⟩ := List.mem_iff_getElem?.1 hp
      have hjl : j < o.length := by
        rcases Nat.lt_or_ge j o.length with a | a
        · exact a
        · rw [List.getElem?_eq_none a] at hj; cases hj
      by_cases e1 : j = i
      · subst e1; rw [h1] at hj; injection hj with hj
        exact .inr hj.symm
      · by_cases e2 : j = k
        · subst e2; rw [h2] at hj; injection hj with hj
          exact .inr hj.symm
        · exact .inl ⟨j, hjl, e1, e2, hj⟩
structure Bs (l : List (Nat × Int)) (o : List Nat) (i : Nat) : Prop where
  mem : ∀ p, p ∈ o ↔ ∃ x ∈ l, x.1 = p
  dist : ∀ a b x, a < b → b < i → o[a]? = some x → o[b]? ≠ some x
def slen (v : Value) : Nat := match v with | .slice _ k _ => k | _ => 0
theorem slen_own {w : World} {B : Nat} {e : TypeId} {size n : Nat} {v : Value} {xs : List Value} (h : w.ownsRow B e size v n xs) : slen v = n := by
  rcases h.2 with ⟨rfl, h0⟩ | ⟨g, cap, cur, rfl, _⟩
  · exact h0.symm
  · rfl
theorem own_base {w : World} {B B' : Nat} {e : TypeId} {size n : Nat} {v : Value} {xs : List Value} (h : w.ownsRow B e size v n xs) (hb : B' ≤ B) : w.ownsRow B' e size v n xs := by
  refine ⟨h.1, ?_⟩; rcases h.2 with h0 | ⟨g, cap, cur, e1, hg, h1⟩
  · exact .inl h0
  · exact .inr ⟨g, cap, cur, e1, Nat.le_trans hb hg, h1⟩
theorem own_drewN {w : World} {B : Nat} {e : TypeId} {size n : Nat} {v : Value} {xs : List Value} (h : w.ownsRow B e size v n xs) (k : Nat) : (w.drewN k).ownsRow B e size v n xs := h
theorem V_own {w : World} {base : Nat} {e : TypeId} {v : Value} {n : Nat} {o : List Nat} (h : w.ownsRow base e 1 v n (o.map cv)) : ∃ A c, v = .slice A n c ∧ n ≤ c ∧ V w A n o := by
  have h' := h; rcases h.2 with ⟨rfl, h0⟩ | ⟨g, cap, cur, rfl, _, _, h1, h2, _⟩
  · rw [h0] at h'; exact ⟨none, 0, by rw [h0], by omega, by rw [h0]; exact V.of_own h'⟩
  · exact ⟨_, cap, rfl, h1, V.of_own h⟩
set_option maxHeartbeats 6400000 in
set_option maxRecDepth 100000 in
theorem r4base_any (A : Option Addr) (n c : Nat) (l : List (Nat × Int)) (w : World) (hl : TR w A n l) (hn : n ≤ 17) (h6 : ∀ x ∈ l, x.1 ∈ primes6) :
    Calls Tryz.prog 134 #[.slice A n c] w fun e w' => (∃ B m d o, e = .returned (.slice B m d) ∧ m ≤ 17 ∧ V w' B m o ∧ Bs l o m) ∧ Below w.heap.size w w' := by
  obtain ⟨i0, hi0, hz0, hz1, hz2⟩ := info_parts infoI; have HI : Sl _ := ⟨And.intro hi0 (And.intro hz0 (And.intro hz1 hz2))⟩; clear hi0 hz0 hz1 hz2; have HL : Sl _ := ⟨And.intro hl h6⟩; clear hl h6; go_enter Tryz.func134, Tryz.ntmps134; go_wp2_with fail
  go_loopw [3, 4] (fun s3 s4 wr => ∃ i : Nat, i ≤ n ∧ s4 = .int .i64 i ∧ Sl (wr.ownsRow w.heap.size 2 1 s3 i (((l.take i).map Prod.fst).map cv) ∧ Below w.heap.size w wr)) (fun _ s4 _ => n - (RowKit.intOf s4).toNat)
  case atStart => exact ⟨0, Nat.zero_le _, rfl, ⟨World.ownsRow_nil _ _ _ _, Below.refl _ _⟩⟩
  case round =>
    obtain ⟨i, hi, rfl, HR⟩ := hrel
    by_cases hin : i < n
    · obtain ⟨⟨nn, kk⟩, hx⟩ : ∃ x, l[i]? = some x := ⟨_, List.getElem?_eq_getElem (by rw [HL.out.1.1]; exact hin)⟩; obtain ⟨ad, rfl, hab, e1, e2⟩ := (HL.out.1.below HR.out.2).cells hx; simp only [] at e1; clear e2; have hp := p6_bounds (HL.out.2 _ (List.mem_of_getElem? hx)); simp only [] at hp; have hgt : 1 < (nn : Int) := (by omega); have HX : Sl _ := ⟨hx⟩; have HOA := HR.out.1.alloc (.cells #[.int .i64 (nn : Int)] 2); have hsz := HR.out.2.size; clear hx hp; go_wp2_with (at_builtin; go_loud (refine wpList_append_any _ rfl (.tmp 23) (.tmp 29) _ rfl w.heap.size 2 i0 _ 1 8 Tryz.underlying103 HI.out.1 HI.out.2.1 HI.out.2.2.1 HI.out.2.2.2 rfl (by decide) _ i _ rfl HOA _ (some ⟨wr.heap.size, 0, none⟩) 1 1 ([nn].map cv) rfl (V_one wr nn _) (one_cv nn) (by unfold maxLen; omega) (by omega) (Nat.le_trans hsz (by simp)) ?_; intro v1 w3 hown1 hg1 hat1)); have hBa := HR.out.2.alloc hsz (.cells #[.int .i64 (nn : Int)] 2); have hown := HR.out.1.lt; have hB3 := hBa.grown hg1 (Nat.le_trans hsz (by simp)) (fun k hk => (hown k hk).1); refine ⟨⟨i + 1, hin, by go_num, ⟨?_, hB3⟩⟩, by simp [RowKit.intOf]; try omega⟩; rw [show l.take (i + 1) = l.take i ++ [(nn, kk)] by rw [List.take_add_one, HX.out]; rfl, List.map_append, List.map_append]; exact hown1
    · obtain rfl : n = i := (by omega); have h2 := HR.out; rw [List.take_of_length_le (by rw [HL.out.1.1]; exact Nat.le_refl _)] at h2; have H2 : Sl _ := ⟨h2⟩; clear h2 HR hin hi; go_wp2_with fail
      go_loopw [3, 5] (fun s3 s5 wr => ∃ (i L : Nat) (o : List Nat), i ≤ L ∧ L ≤ 17 ∧ s5 = .int .i64 i ∧ Sl (wr.ownsRow w.heap.size 2 1 s3 L (o.map cv) ∧ Bs l o i ∧ Below w.heap.size w wr)) (fun s3 s5 _ => slen s3 * 100 + (slen s3 - (RowKit.intOf s5).toNat))
      case atStart =>
        refine ⟨0, n, _, Nat.zero_le _, hn, rfl, ⟨H2.out.1, ⟨fun p => ?_, fun a b x _ hb => absurd hb (Nat.not_lt_zero _)⟩, H2.out.2⟩⟩; rw [List.mem_map]
      case round =>
        clear H2; obtain ⟨i, L, o, hi, hL, rfl, HO⟩ := hrel; obtain ⟨wo, rfl⟩ : ∃ wo : World, wo = wr := ⟨_, rfl⟩; obtain ⟨A1, c1, rfl, hc1, hV⟩ := V_own HO.out.1; have hol : o.length = L := hV.len
        by_cases hiL : i < L
        · have h6o : ∀ p, p ∈ o → p ∈ primes6 := fun p hp => by
            obtain ⟨x, hx, rfl⟩ := (HO.out.2.1.mem p).1 hp; exact HL.out.2 x hx
          obtain ⟨p, hp⟩ : ∃ p, o[i]? = some p := ⟨_, List.getElem?_eq_getElem (by omega)⟩; have hp6 := h6o p (List.mem_of_getElem? hp); have HV1 : Sl _ := ⟨And.intro hV (And.intro h6o (And.intro hp (And.intro hp6 hol)))⟩; clear hV h6o hp hp6 hol; go_wp2_with fail
          go_loopw [3, 5, 6] (fun s3 s5 s6 wq => ∃ k : Nat, k ≤ i ∧ s3 = .slice A1 L c1 ∧ s5 = .int .i64 i ∧ s6 = .int .i64 k ∧ Sl ((∀ a, a < k → o[a]? ≠ some p) ∧ ∃ m, wq = wo.drewN m)) (fun _ _ s6 _ => i - (RowKit.intOf s6).toNat)
          case atStart => exact ⟨0, Nat.zero_le _, rfl, rfl, rfl, ⟨fun a ha => absurd ha (Nat.not_lt_zero _), 0, rfl⟩⟩
          case round =>
            obtain ⟨k, hk, rfl, rfl, rfl, HK⟩ := hrel
            have HVW : Sl (V wr A1 L o ∧ RowKit.Below w.heap.size w wr ∧ wr.ownsRow w.heap.size 2 1 (.slice A1 L c1) L (o.map cv)) := ⟨by
              obtain ⟨m, hm⟩ := HK.out.2; rw [hm]
              exact ⟨HV1.out.1.drewN m, below_drewN HO.out.2.2 m, own_drewN HO.out.1 m⟩⟩
            by_cases hki : k < i
            · obtain ⟨q, hq⟩ : ∃ q, o[k]? = some q := ⟨_, List.getElem?_eq_getElem (by have := HV1.out.2.2.2.2; omega)⟩; have hq6 := HV1.out.2.1 q (List.mem_of_getElem? hq); obtain ⟨ad, rfl, hab, hci⟩ := HVW.out.1.cell (k := i) hiL; obtain ⟨ad', e, hab', hck⟩ := HVW.out.1.cell (k := k) (by omega); injection e with e
              subst e; rw [HV1.out.2.2.1] at hci; rw [hq] at hck; simp only [Option.getD_some] at hci hck; have bp := p6_bounds HV1.out.2.2.2.1; have bq := p6_bounds hq6; have hg := p6_gcd p HV1.out.2.2.2.1 q hq6; obtain ⟨bp1, bp2⟩ := bp; obtain ⟨bq1, bq2⟩ := bq; have hkL : (k : Int) < (L : Int) := (by omega); have hkL2 : k < L := (by omega); have HQ : Sl _ := ⟨hq⟩; clear hq hq6 hab hab'
              by_cases hpq : p = q
              · subst hpq; rw [if_pos rfl] at hg
                have VA : Sl (∀ z, Calls Tryz.prog 149 #[.int .i64 p, .int .i64 p] (wr.drewN z) fun e w'' => e = .returned (.int .i64 p) ∧ ∃ y, w'' = wr.drewN y) := ⟨fun z => by
                  have h := r4gcd_any p p (wr.drewN z) (by omega) (by omega); rw [hg] at h
                  exact h.mono fun e w'' h => ⟨h.1, by obtain ⟨y, hy⟩ := h.2; exact ⟨z + y, by rw [hy, drew2]⟩⟩⟩
                have hp1 : ((p : Int) == 1) = false := (by rw [beq_eq_false_iff_ne]; omega); clear hg; go_wp2_with fail
                go_quiet ((go_at_call 149; (with_reducible exact VA.out _)))
                go_wp2_with fail; generalize hws : wr.drewN nq = ws at *
                have hB0 : RowKit.Below w.heap.size w ws := (by rw [← hws]; exact below_drewN HVW.out.2.1 nq); have hV0 : V ws (some ad) L o := (by rw [← hws]; exact HVW.out.1.drewN nq); have HWS : Sl _ := ⟨And.intro hB0 hV0⟩; have HO2 : Sl _ := ⟨HO.out.2.1⟩; have HKO : Sl _ := ⟨HK.out.1⟩; clear hws hB0 hV0 HO HK hci hck HVW
                go_loopw [8, 9] (fun s8 s9 wq => ∃ (z : Nat) (y : List Nat), z ≤ L ∧ s9 = .int .i64 z ∧ Sl (wq.ownsRow ws.heap.size 2 1 s8 y.length (y.map cv) ∧ Nx o y i k z ∧ Below ws.heap.size ws wq)) (fun _ s9 _ => L - (RowKit.intOf s9).toNat)
                case atStart => exact ⟨0, [], Nat.zero_le _, rfl, ⟨World.ownsRow_nil _ _ _ _, Nx.start o i k, Below.refl _ _⟩⟩
                case round =>
                  obtain ⟨z, y, hz, rfl, HY⟩ := hrel; rcases Nat.lt_or_ge z L with hzL | hzL
                  · obtain ⟨x, hx⟩ : ∃ x, o[z]? = some x := ⟨_, List.getElem?_eq_getElem (by have := HV1.out.2.2.2.2; omega)⟩; have hx6 := p6_bounds (HV1.out.2.1 x (List.mem_of_getElem? hx)); obtain ⟨bx1, bx2⟩ := hx6; obtain ⟨ad', e, hab', hcz⟩ := (HWS.out.2.below HY.out.2.2).cell (k := z) hzL; injection e with e
                    subst e; rw [hx] at hcz; simp only [Option.getD_some] at hcz; have hlen := HY.out.2.1.len; have hyl : y.length ≤ 17 := (by omega); have HXX : Sl _ := ⟨hx⟩; have HYL : Sl _ := ⟨hlen⟩; clear hx hab' hlen
                    by_cases hzi : z = i ∨ z = k
                    · have hxp : x = p := by
                        rcases hzi with rfl | rfl
                        · have := HXX.out; rw [HV1.out.2.2.1] at this; injection this with this; exact this.symm
                        · have := HXX.out; rw [HQ.out] at this; injection this with this; exact this.symm
                      subst hxp; have hdv : (x : Int).tdiv (x : Int) = 1 := Int.tdiv_self (by omega); have HZI : Sl _ := ⟨hzi⟩; have hik : i ≠ k := (by omega); have hxne : ¬ (x : Int) = 0 := (by omega); rcases Nat.lt_trichotomy z i with h | h | h
                      · have hzk : z = k := (by omega); subst hzk; clear hzi; have hne2 : ((z : Int) == (i : Int)) = false := (by rw [beq_eq_false_iff_ne]; omega); go_wp2_with fail; exact ⟨⟨z + 1, y, hzL, by go_num, ⟨HY.out.1, HY.out.2.1.skip hik HZI.out, HY.out.2.2⟩⟩, by simp [RowKit.intOf]; omega⟩
                      · subst h; clear hzi; go_wp2_with fail; exact ⟨⟨z + 1, y, hzL, by go_num, ⟨HY.out.1, HY.out.2.1.skip hik HZI.out, HY.out.2.2⟩⟩, by simp [RowKit.intOf]; omega⟩
                      · exact absurd h (by omega)
                    · have hz1 : z ≠ i := fun h => hzi (.inl h)
                      have hz2 : z ≠ k := fun h => hzi (.inr h)
                      have g1 : ((z : Int) == (i : Int)) = false := (by rw [beq_eq_false_iff_ne]; omega); have g2 : ((z : Int) == (k : Int)) = false := (by rw [beq_eq_false_iff_ne]; omega); have hgt : 1 < (x : Int) := (by omega); have HOA := HY.out.1.alloc (.cells #[.int .i64 (x : Int)] 2); have hsz := HY.out.2.2.size; have HNX : Sl _ := ⟨HY.out.2.1.more hz1 hz2 HXX.out⟩; clear hzi hz1 hz2; go_wp2_with (at_builtin; go_loud (refine wpList_append_any _ rfl (.tmp 76) (.tmp 78) _ rfl ws.heap.size 2 i0 _ 1 8 Tryz.underlying103 HI.out.1 HI.out.2.1 HI.out.2.2.1 HI.out.2.2.2 rfl (by decide) _ y.length _ rfl HOA _ (some ⟨wr.heap.size, 0, none⟩) 1 1 ([x].map cv) rfl (V_one wr x _) (one_cv x) (by unfold maxLen; omega) (by omega) (Nat.le_trans hsz (by simp)) ?_; intro v1 w3 hown1 hg1 hat1)); have hBa := HY.out.2.2.alloc hsz (.cells #[.int .i64 (x : Int)] 2); have hown := HY.out.1.lt; have hB3 := hBa.grown hg1 (Nat.le_trans hsz (by simp)) (fun k hk => (hown k hk).1); refine ⟨⟨z + 1, y ++ [x], hzL, by go_num, ⟨?_, HNX.out, hB3⟩⟩, by simp [RowKit.intOf]; try omega⟩; rw [List.map_append, List.length_append]; exact hown1
                  · obtain rfl : z = L := (by omega); have hnd := HY.out.2.1; rw [← HV1.out.2.2.2.2] at hnd; obtain ⟨d1, d2⟩ := hnd.done hki (by have := HV1.out.2.2.2.2; omega) HV1.out.2.2.1 HQ.out; rw [HV1.out.2.2.2.2] at d1; have hyl : y.length ≤ 17 := (by rw [List.length_append] at d1; omega); have HD : Sl _ := ⟨And.intro d1 d2⟩; have HOA := HY.out.1.alloc (.cells #[.int .i64 (p : Int)] 2); have hsz := HY.out.2.2.size; clear hnd d1 d2; go_wp2_with (at_builtin; go_loud (refine wpList_append_any _ rfl (.tmp 80) (.tmp 82) _ rfl ws.heap.size 2 i0 _ 1 8 Tryz.underlying103 HI.out.1 HI.out.2.1 HI.out.2.2.1 HI.out.2.2.2 rfl (by decide) _ y.length _ rfl HOA _ (some ⟨wr.heap.size, 0, none⟩) 1 1 ([p].map cv) rfl (V_one wr p _) (one_cv p) (by unfold maxLen; omega) (by omega) (Nat.le_trans hsz (by simp)) ?_; intro v1 w3 hown1 hg1 hat1)); have hBa := HY.out.2.2.alloc hsz (.cells #[.int .i64 (p : Int)] 2); have hown := HY.out.1.lt; have hB3 := hBa.grown hg1 (Nat.le_trans hsz (by simp)) (fun k hk => (hown k hk).1); have hsl := slen_own hown1; have hll : y.length + 1 + 1 = z := (by have := HD.out.1; rw [List.length_append, List.length_singleton] at this; exact this); refine ⟨⟨0, y.length + 1, y ++ [p], Nat.zero_le _, by omega, rfl, ⟨own_base (B := ws.heap.size) (by rw [List.map_append]; exact hown1) HWS.out.1.size, ⟨fun t => (HD.out.2 t).trans (HO2.out.mem t), fun a b x _ hb => absurd hb (Nat.not_lt_zero _)⟩, HWS.out.1.trans (hB3.mono HWS.out.1.size)⟩⟩, ?_⟩; rw [hsl]; simp only [slen, RowKit.intOf]; omega
              · rw [if_neg hpq] at hg
                have VA : Sl (∀ z, Calls Tryz.prog 149 #[.int .i64 p, .int .i64 q] (wr.drewN z) fun e w'' => e = .returned (.int .i64 1) ∧ ∃ y, w'' = wr.drewN y) := ⟨fun z => by
                  have h := r4gcd_any p q (wr.drewN z) (by omega) (by omega); rw [hg] at h
                  exact h.mono fun e w'' h => ⟨h.1, by obtain ⟨y, hy⟩ := h.2; exact ⟨z + y, by rw [hy, drew2]⟩⟩⟩
                clear hg; go_wp2_with fail
                go_quiet ((go_at_call 149; (with_reducible exact VA.out _)))
                go_wp2_with fail; refine ⟨⟨k + 1, hki, rfl, rfl, by go_num, ⟨fun a ha => ?_, by obtain ⟨m, hm⟩ := HK.out.2; exact ⟨m + nq, by rw [hm, drew2]⟩⟩⟩, by simp [RowKit.intOf]; omega⟩; rcases Nat.lt_or_ge a k with h | h
                · exact HK.out.1 a h
                · obtain rfl : a = k := (by omega); rw [HQ.out]; intro e; injection e with e
                  exact hpq e.symm
            · obtain rfl : k = i := (by omega); go_wp2_with fail; refine ⟨⟨k + 1, L, o, hiL, hL, by go_num, ⟨HVW.out.2.2, ⟨HO.out.2.1.mem, fun a b x hab hb hx => ?_⟩, HVW.out.2.1⟩⟩, by simp [RowKit.intOf, slen]; omega⟩; rcases Nat.lt_or_ge b k with h | h
              · exact HO.out.2.1.dist a b x hab h hx
              · obtain rfl : b = k := (by omega); rw [HV1.out.2.2.1]; intro e; injection e with e
                subst e; exact HK.out.1 a hab hx
        · obtain rfl : i = L := (by omega); go_wp2_with fail; go_ret; exact ⟨⟨_, _, _, o, rfl, hL, hV, HO.out.2.1⟩, HO.out.2.2⟩
end Go.Proofs.YtafadpaljanghaaGreatDoor
namespace Go.Proofs.YtafadpaljanghaaGreatDoor
set_option linter.unusedSimpArgs false
open Go.RowKit
set_option linter.unusedVariables false
theorem esum_snoc (p n : Nat) (k : Int) : ∀ l : List (Nat × Int), esum p (l ++ [(n, k)]) = esum p l + if n = p then k else 0
  | [] => by simp [esum]
  | (m, j) :: l => by rw [List.cons_append, esum, esum_snoc p n k l, esum]; omega
theorem esum_none {p : Nat} : ∀ {l : List (Nat × Int)}, (∀ x ∈ l, x.1 ≠ p) → esum p l = 0
  | [], _ => rfl
  | (n, k) :: l, h => by
    rw [esum, esum_none fun x hx => h x (List.mem_cons_of_mem _ hx), if_neg (h _ List.mem_cons_self)]; rfl
theorem one_iff6 {l : List (Nat × Int)} (h : ∀ x ∈ l, x.1 ∈ primes6) : (∀ p ∈ primes6, esum p l = 0) ↔ up l = down l := by
  rw [← cop6.one_iff (fun x hx => Gen.of (h x hx))]; exact ⟨fun a b hb => by rw [expo6 hb h]; exact a b hb, fun a b hb => by rw [← expo6 hb h]; exact a b hb⟩
theorem p6_mod : ∀ p ∈ primes6, ∀ q ∈ primes6, p ≠ q → q % p ≠ 0 := by
  unfold primes6
  decide
set_option maxHeartbeats 6400000 in
set_option maxRecDepth 100000 in
theorem r4one_any (A : Option Addr) (n c : Nat) (l : List (Nat × Int)) (w : World) (hl : TR w A n l) (hn : n ≤ 17) (h6 : ∀ x ∈ l, x.1 ∈ primes6 ∧ x.2.natAbs ≤ 100000000000000000) :
    Calls Tryz.prog 109 #[.slice A n c] w fun e w' => e = .returned (.bool (decide (up l = down l))) ∧ Below w.heap.size w w' := by
  have HB : Sl _ := ⟨r4base_any A n c l w hl hn (fun x hx => (h6 x hx).1)⟩; have HL : Sl _ := ⟨And.intro hl h6⟩; clear hl h6; obtain ⟨r, hr⟩ : ∃ r, decide (up l = down l) = r := ⟨_, rfl⟩; rw [hr]; have HR : Sl _ := ⟨hr⟩; clear hr; go_enter Tryz.func109, Tryz.ntmps109; go_wp2_with fail; refine HB.out.mono ?_; rintro e w1 ⟨⟨B, m, d, o, rfl, hm, hV, hBs⟩, hb⟩; have HW : Sl _ := ⟨And.intro hV (And.intro hBs (And.intro hb (HL.out.1.below hb)))⟩; clear hV hBs hb HB; go_wp2_with fail
  go_loop [4] (fun s4 => ∃ i : Nat, i ≤ m ∧ s4 = .int .i64 i ∧ Sl (∀ a p, a < i → o[a]? = some p → esum p l = 0)) (fun s4 => m - (RowKit.intOf s4).toNat)
  case atStart => exact ⟨0, Nat.zero_le _, rfl, ⟨fun a p ha => absurd ha (Nat.not_lt_zero _)⟩⟩
  case round =>
    obtain ⟨i, hi, rfl, HI⟩ := hrel; have hol := HW.out.1.len; rcases Nat.lt_or_ge i m with him | him
    · obtain ⟨p, hp⟩ : ∃ p, o[i]? = some p := ⟨_, List.getElem?_eq_getElem (by omega)⟩; obtain ⟨bd, rfl, hbd, hcb⟩ := HW.out.1.cell (k := i) him; rw [hp] at hcb; simp only [Option.getD_some] at hcb
      have hp6 : p ∈ primes6 := by
        obtain ⟨x, hx, rfl⟩ := (HW.out.2.1.mem p).1 (List.mem_of_getElem? hp); exact (HL.out.2 x hx).1
      obtain ⟨bp1, bp2⟩ := p6_bounds hp6; have hpz : ¬ (p : Int) = 0 := (by omega); have HP : Sl _ := ⟨And.intro hp hp6⟩; clear hol hp hp6; go_wp2_with fail
      go_loop [5, 6] (fun s5 s6 => ∃ k : Nat, k ≤ n ∧ s6 = .int .i64 k ∧ s5 = .int .i64 (esum p (l.take k))) (fun _ s6 => n - (RowKit.intOf s6).toNat)
      case atStart => exact ⟨0, Nat.zero_le _, rfl, rfl⟩
      case round =>
        obtain ⟨k, hk, rfl, rfl⟩ := hrel; rcases Nat.lt_or_ge k n with hkn | hkn
        · obtain ⟨⟨nn, kk⟩, hx⟩ : ∃ x, l[k]? = some x := ⟨_, List.getElem?_eq_getElem (by rw [HL.out.1.1]; exact hkn)⟩; obtain ⟨ad, rfl, hab, e1, e2⟩ := HW.out.2.2.2.cells hx
          have e3 : (ad.add (k * 2)).add 1 = ⟨(ad.add (k * 2)).block, (ad.add (k * 2)).off + 1, none⟩ := by
            generalize ad.add (k * 2) = a1; simp [Addr.add]
          rw [← add_of_add, e3] at e2; have h6 := HL.out.2 _ (List.mem_of_getElem? hx); simp only [] at h6 e1 e2; obtain ⟨bn1, bn2⟩ := p6_bounds h6.1; have hkk := h6.2; have hsb := esum_le p (l.take k); have htb := tot_le (K := 100000000000000000) (l.take k) (fun x hx => (HL.out.2 x (List.mem_of_mem_take hx)).2); have hlt : (l.take k).length ≤ 17 := (by rw [List.length_take]; omega); have htl := Nat.mul_le_mul_right 100000000000000000 hlt; have hsn := esum_snoc p nn kk (l.take k); rw [show l.take k ++ [(nn, kk)] = l.take (k + 1) by rw [List.take_add_one, hx]; rfl] at hsn; obtain ⟨s0, hs0⟩ : ∃ s, esum p (l.take k) = s := ⟨_, rfl⟩; rw [hs0] at hsn hsb ⊢; have hs0b : -2000000000000000000 ≤ s0 ∧ s0 ≤ 2000000000000000000 := (by omega); obtain ⟨hs01, hs02⟩ := hs0b; have HX : Sl _ := ⟨And.intro hsn h6.1⟩; clear hx e3 h6 hsb htb hlt htl hsn hs0; go_wp2_with fail
          go_loop [5, 7] (fun s5 s7 => ∃ (z : Nat) (t : Int), s7 = .int .i64 z ∧ s5 = .int .i64 t ∧ ((z = nn ∧ t = s0) ∨ (nn = p ∧ z = 1 ∧ t = s0 + kk))) (fun _ s7 => (RowKit.intOf s7).toNat)
          case atStart => exact ⟨nn, s0, rfl, rfl, .inl ⟨rfl, rfl⟩⟩
          case round =>
            obtain ⟨z, t, rfl, rfl, hzt⟩ := hrel; rcases hzt with ⟨rfl, rfl⟩ | ⟨rfl, rfl, rfl⟩
            · by_cases hnp : z = p
              · subst hnp; have hmod : (z : Int).tmod (z : Int) = 0 := Int.tmod_self; have hdv : (z : Int).tdiv (z : Int) = 1 := Int.tdiv_self (by omega); go_wp2_with fail; exact ⟨⟨1, _, rfl, rfl, .inr (by simp)⟩, by simp [RowKit.intOf]; omega⟩
              · have hmod : (z : Int).tmod (p : Int) = ((z % p : Nat) : Int) := (by rw [Int.tmod_eq_emod_of_nonneg (by omega)]; omega); have hmz := p6_mod p HP.out.2 z HX.out.2 (fun h => hnp h.symm); obtain ⟨y, hy⟩ : ∃ y, z % p = y := ⟨_, rfl⟩; rw [hy] at hmod hmz; have hyz : ((y : Int) == 0) = false := (by rw [beq_eq_false_iff_ne]; omega); have HNE : Sl _ := ⟨hnp⟩; clear hy hmz hnp; go_wp2_with fail; exact ⟨⟨k + 1, hkn, by go_num, by rw [HX.out.1, if_neg HNE.out, Int.add_zero]⟩, by simp [RowKit.intOf]; omega⟩
            · have hmod : (1 : Int).tmod (nn : Int) = 1 := (by rw [Int.tmod_eq_emod_of_nonneg (by omega)]; exact Int.emod_eq_of_lt (by omega) (by omega)); go_wp2_with fail; exact ⟨⟨k + 1, hkn, by go_num, by rw [HX.out.1, if_pos rfl]⟩, by simp [RowKit.intOf]; omega⟩
        · obtain rfl : n = k := (by omega); rw [List.take_of_length_le (by rw [HL.out.1.1]; exact Nat.le_refl _)]; obtain ⟨s0, hs0⟩ : ∃ s, esum p l = s := ⟨_, rfl⟩; rw [hs0]
          by_cases hz : s0 = 0
          · have HS0 : Sl _ := ⟨hs0.trans hz⟩; subst hz; clear hs0; go_wp2_with fail; refine ⟨⟨i + 1, him, by go_num, ⟨fun a q ha hq => ?_⟩⟩, by simp [RowKit.intOf]; omega⟩; rcases Nat.lt_or_ge a i with h | h
            · exact HI.out a q h hq
            · obtain rfl : a = i := (by omega); rw [HP.out.1] at hq; injection hq with hq
              rw [← hq]; exact HS0.out
          · have hnz : (s0 != 0) = true := (by rw [bne_iff_ne]; exact hz)
            have HF : Sl (r = false) := ⟨by
              rw [← HR.out, decide_eq_false]; intro h; have := (one_iff6 (fun x hx => (HL.out.2 x hx).1)).2 h p HP.out.2; rw [hs0] at this
              exact hz this⟩
            clear hs0 hz; go_wp2_with fail; go_ret; exact ⟨by rw [HF.out]; rfl, HW.out.2.2.1⟩
    · obtain rfl : m = i := (by omega)
      have HT : Sl (r = true) := ⟨by
        rw [← HR.out, decide_eq_true]; refine (one_iff6 (fun x hx => (HL.out.2 x hx).1)).1 fun p hp => ?_
        by_cases hpo : p ∈ o
        · obtain ⟨a, ha⟩ := List.mem_iff_getElem?.1 hpo
          have hal : a < m := by
            rcases Nat.lt_or_ge a m with h | h
            · exact h
            · rw [List.getElem?_eq_none (by omega)] at ha; cases ha
          exact HI.out a p hal ha
        · exact esum_none fun x hx h => hpo ((HW.out.2.1.mem p).2 ⟨x, hx, h⟩)⟩
      clear hol; go_wp2_with fail; go_ret; exact ⟨by rw [HT.out]; rfl, HW.out.2.2.1⟩
end Go.Proofs.YtafadpaljanghaaGreatDoor
namespace Go.Proofs.YtafadpaljanghaaGreatDoor
set_option linter.unusedSimpArgs false
open Go.RowKit
set_option linter.unusedVariables false
def RV.of (f : Nat → Int) (d : Int) : RV := ⟨f 0, f 1, f 2, f 3, f 4, f 5, d⟩
noncomputable def stripN (x : Nat) : Nat → Nat
  | 0 => x
  | i+1 => stripN x i / prime i ^ vb (prime i) (stripN x i)
noncomputable def ex (x i : Nat) : Nat := vb (prime i) (stripN x i)
end Go.Proofs.YtafadpaljanghaaGreatDoor
namespace Go.Proofs.YtafadpaljanghaaGreatDoor
set_option linter.unusedSimpArgs false
open Go.RowKit
set_option linter.unusedVariables false
set_option maxHeartbeats 6400000 in
set_option maxRecDepth 100000 in
theorem sign_of (l : List (Nat × Int)) (p0 : Nat) (h : SgOK l p0) : SignTo l (sgn l) := by
  intro A n c w hl; have hn : n ≤ 17 := (by rw [← hl.1]; exact h.len); have HG : Sl _ := ⟨guess_any A n c l w hl (by omega) h.good⟩; have HL : Sl _ := ⟨hl⟩; have HK : Sl _ := ⟨h⟩; clear hl h
  cases hgf : guessF l with
  | some s =>
    have e := HK.out.quick _ hgf; rw [hgf] at HG; rw [← e]; clear hgf e; go_enter Tryz.func81, Tryz.ntmps81; go_wp2_with fail; refine HG.out.mono ?_; rintro e w1 ⟨rfl, hb⟩; go_wp2_with fail; go_ret; exact ⟨rfl, hb⟩
  | none =>
    rw [hgf] at HG; clear hgf; have HO : Sl (∀ W : World, TR W A n l → Calls Tryz.prog 83 #[.slice A n c] W fun e w' => e = .returned (.bool (decide (up l = down l))) ∧ Below W.heap.size W w') := ⟨fun W hT => one_any A n c l W hT HK.out.okE⟩
    by_cases hone : up l = down l
    · rw [sgn_one hone]; rw [decide_eq_true hone] at HO; clear hone; go_enter Tryz.func81, Tryz.ntmps81; go_wp2_with fail; refine HG.out.mono ?_; rintro e w1 ⟨rfl, hb⟩; have hT1 := HL.out.below hb; go_wp2_with fail; refine (HO.out w1 hT1).mono ?_; rintro e w2 ⟨rfl, hb2⟩; go_wp2_with fail; go_ret; exact ⟨rfl, hb.trans (hb2.mono hb.size)⟩
    · rw [decide_eq_false hone] at HO; have HNE : Sl _ := ⟨hone⟩; clear hone; go_enter Tryz.func81, Tryz.ntmps81; go_wp2_with fail; refine HG.out.mono ?_; rintro e w1 ⟨rfl, hb⟩; have hT1 := HL.out.below hb; go_wp2_with fail; refine (HO.out w1 hT1).mono ?_; rintro e w2 ⟨rfl, hb2⟩; have HB : Sl _ := ⟨hb.trans (hb2.mono hb.size)⟩; clear hT1 hb hb2 HO HG; go_wp2_with fail
      go_loopg [5] 4 (fun g s5 wr => ∃ P : Nat, s5 = .int .i64 P ∧ Sl (Below w.heap.size w wr ∧ ((g = 4 ∧ P = 64) ∨ (g = 3 ∧ P = 128) ∨ (g = 2 ∧ P = 256) ∨ (g = 1 ∧ P = 512)) ∧ P ≤ p0))
      case atStart => exact ⟨64, rfl, ⟨HB.out, .inl ⟨rfl, rfl⟩, by have := HK.out.p4; omega⟩⟩
      case round =>
        clear HB; obtain ⟨P, rfl, HP⟩ := hrel; have hP : P ≤ 512 := (by have := HP.out.2; omega); have hP0 : 64 ≤ P := (by have := HP.out.2; omega); have hSM := sums_any A n c P l (fun n => lg n P) wr (HL.out.below HP.out.1) hn (by omega) (HK.out.logs P (by omega)); have HSM : Sl _ := ⟨hSM⟩; clear hSM; go_wp2_with fail; refine HSM.out.mono ?_; rintro e w3 ⟨⟨v1, v2, v3, v4, rfl, n1, n2, n3, n4⟩, hb3⟩; obtain ⟨⟨⟨a1, a2⟩, b1, b2⟩, hgg⟩ : ∃ g, sumB (fun n => lg n P) l = g := ⟨_, rfl⟩; rw [hgg] at n1 n2 n3 n4; simp only [] at n1 n2 n3 n4; have HGG : Sl _ := ⟨hgg⟩; clear hgg; obtain ⟨A1, m1, k1, rfl⟩ := n1.slice; obtain ⟨A2, m2, k2, rfl⟩ := n2.slice; obtain ⟨A3, m3, k3, rfl⟩ := n3.slice; obtain ⟨A4, m4, k4, rfl⟩ := n4.slice; have hB3 := HP.out.1.trans (hb3.mono HP.out.1.size); clear HSM hb3; have U0 := (Blk.new w3 148 #[.slice A1 m1 k1, .slice A2 m2 k2]).alloc (.cells #[.slice A3 m3 k3, .slice A4 m4 k4] 148); have D0 := Blk.new (w3.alloc (.cells #[.slice A1 m1 k1, .slice A2 m2 k2] 148)) 148 #[.slice A3 m3 k3, .slice A4 m4 k4]; rw [show (w3.alloc (.cells #[.slice A1 m1 k1, .slice A2 m2 k2] 148)).heap.size = w3.heap.size + 1 by simp] at D0; have hal := ((Below.refl w3.heap.size w3).alloc (Nat.le_refl _) (.cells #[.slice A1 m1 k1, .slice A2 m2 k2] 148)).alloc (by simp) (.cells #[.slice A3 m3 k3, .slice A4 m4 k4] 148); have HW : Sl _ := ⟨And.intro U0 (And.intro D0 (And.intro hal (And.intro (n1.below hal) (And.intro (n2.below hal) (And.intro (n3.below hal) (And.intro (n4.below hal) (hB3.trans (hal.mono hB3.size))))))))⟩; clear U0 D0 hal n1 n2 n3 n4 hB3; go_wp2_with fail; generalize (w3.alloc (.cells #[.slice A1 m1 k1, .slice A2 m2 k2] 148)).alloc (.cells #[.slice A3 m3 k3, .slice A4 m4 k4] 148) = w4 at *
        refine (above_any (.slice A1 m1 k1) (.slice A4 m4 k4) a1 b2 w4 HW.out.2.2.2.1 HW.out.2.2.2.2.2.2.1).mono ?_; rintro e w5 ⟨rfl, hb5⟩; have U5 := HW.out.1.below hb5 HW.out.1.lt; have D5 := HW.out.2.1.below hb5 HW.out.2.1.lt; have u0 := U5.cell 0; have u1 := U5.cell 1; have d0 := D5.cell 0; have d1 := D5.cell 1; simp at u0 u1 d0 d1; have hB5 := HW.out.2.2.2.2.2.2.2.trans (hb5.mono HW.out.2.2.2.2.2.2.2.size); have n3 := HW.out.2.2.2.2.2.1.below hb5; have n2 := HW.out.2.2.2.2.1.below hb5; have HW5 : Sl _ := ⟨And.intro hB5 (And.intro n3 n2)⟩; clear U5 D5 hB5 n3 n2 hb5 HW
        by_cases h1 : b2 < a1
        · have hsg : Sl (1 = sgn l) := ⟨HK.out.sound P _ hP0 (by rw [HGG.out]; exact guessG_up h1)⟩; rw [decide_eq_true h1]; clear h1; go_wp2_with fail; go_ret; exact ⟨by rw [← hsg.out]; rfl, HW5.out.1⟩
        · rw [decide_eq_false h1]; go_wp2_with fail; refine (above_any (.slice A3 m3 k3) (.slice A2 m2 k2) b1 a2 w5 HW5.out.2.1 HW5.out.2.2).mono ?_; rintro e w6 ⟨rfl, hb6⟩; have hB6 := HW5.out.1.trans (hb6.mono HW5.out.1.size); have HB6 : Sl _ := ⟨hB6⟩; clear hB6 hb6
          by_cases h2 : a2 < b1
          · have hsg : Sl (-1 = sgn l) := ⟨HK.out.sound P _ hP0 (by rw [HGG.out]; exact guessG_down h1 h2)⟩; rw [decide_eq_true h2]; clear h1 h2; go_wp2_with fail; go_ret; exact ⟨by rw [← hsg.out]; rfl, HB6.out⟩
          · have hnone : guessG (sumB (fun n => lg n P) l) = none := (by rw [HGG.out]; unfold guessG; rw [if_neg h1, if_neg h2])
            have hlt : P < p0 := by
              rcases Nat.lt_or_ge P p0 with h | h
              · exact h
              · exfalso; have e5 : P = p0 := (by have := HP.out.2.2; omega); rw [e5] at hnone; exact HNE.out (HK.out.end_ hnone)
            rw [decide_eq_false h2]; clear h1 h2 hnone; go_wp2_with fail
            go_roundg (gk - 1)
            case measure => have := HP.out.2; have := HK.out.p4; omega
            case rel => exact ⟨P * 2, by go_num, ⟨HB6.out, by have := HP.out.2; have := HK.out.p4; omega, by have := HP.out.2; have := HK.out.p4; omega⟩⟩
end Go.Proofs.YtafadpaljanghaaGreatDoor
namespace Go.Proofs.YtafadpaljanghaaGreatDoor
set_option linter.unusedSimpArgs false
open Go.RowKit
set_option linter.unusedVariables false
end Go.Proofs.YtafadpaljanghaaGreatDoor
namespace Go.Proofs.YtafadpaljanghaaGreatDoor
set_option linter.unusedSimpArgs false
open Go.RowKit
set_option linter.unusedVariables false
attribute [local irreducible] FloorRes
end Go.Proofs.YtafadpaljanghaaGreatDoor
namespace Go.Proofs.YtafadpaljanghaaGreatDoor
set_option linter.unusedSimpArgs false
open Go.RowKit
set_option linter.unusedVariables false
end Go.Proofs.YtafadpaljanghaaGreatDoor
namespace Go.Proofs.YtafadpaljanghaaGreatDoor
set_option linter.unusedSimpArgs false
open Go.RowKit
set_option linter.unusedVariables false
theorem bdr6 {n P : Nat} (h : n ∈ primes6) : Bd n P (lgr n P) := by
  have hb : 0 < n ∧ n < 2 ^ 64 ∧ Lib.bitLen n - 1 ≤ 3 := by
    simp only [primes6, List.mem_cons, List.not_mem_nil, or_false] at h; rcases h with rfl | rfl | rfl | rfl | rfl | rfl <;> exact ⟨by decide, by decide, by decide +kernel⟩
  exact lgr_bd hb.1 hb.2.1 (by omega)
structure RgOK (l : List (Nat × Int)) : Prop where
  len : l.length ≤ 17
  num : ∀ x ∈ l, r4N x.1 ∧ x.2.natAbs ≤ 10000000000000000
  one : ∀ (A : Option Addr) (n c : Nat) (W : World), TR W A n l → Calls Tryz.prog 109 #[.slice A n c] W fun e w' => e = .returned (.bool (decide (up l = down l))) ∧ Below W.heap.size W w'
  sound : ∀ P s, 30 ≤ P → guessG (sumB (fun n => lgr n P) l) = some s → s = sgn l
  end_ : guessG (sumB (fun n => lgr n 480) l) = none → up l = down l
theorem ok6.rg {l : List (Nat × Int)} (h : ok6 l) : RgOK l where
  len := h.1
  num := fun x hx => ⟨p6_r4 (h.2 x hx).1, (h.2 x hx).2⟩
  one := fun A n c W hT => r4one_any A n c l W hT (by rw [← hT.1]; exact h.1) (fun x hx => ⟨(h.2 x hx).1, by have := (h.2 x hx).2; omega⟩)
  sound := fun P s _ hs => guessG_sound (B := fun n => lgr n P) (l := l) (P := P) (fun x hx => bdr6 (h.2 x hx).1) hs
  end_ := fun hg => decided480 (fun x hx => (h.2 x hx).1) h.tot hg
end Go.Proofs.YtafadpaljanghaaGreatDoor
namespace Go.Proofs.YtafadpaljanghaaGreatDoor
set_option linter.unusedSimpArgs false
open Go.RowKit
set_option linter.unusedVariables false
theorem TR.reads {w : World} {A : Option Addr} {n : Nat} {l : List (Nat × Int)} (h : TR w A n l) : Reads w w.heap.size 2 A n (l.flatMap fun x => [.int .i64 (x.1 : Int), .int .i64 x.2]) := h.2
theorem TR.of_own {w : World} {base : Nat} {e : TypeId} {v : Value} {n : Nat} {l : List (Nat × Int)} (h : w.ownsRow base e 2 v n (l.flatMap fun x => [.int .i64 (x.1 : Int), .int .i64 x.2])) (hn : l.length = n) : ∃ A c, v = .slice A n c ∧ TR w A n l := by
  have h' := h; rcases h.2 with ⟨rfl, h0⟩ | ⟨g, cap, cur, rfl, _, _, h1, h2, _⟩
  · rw [h0] at h' hn; exact ⟨none, 0, by rw [h0], by rw [h0]; exact ⟨hn, Reads.of_own h'⟩⟩
  · exact ⟨_, cap, rfl, hn, Reads.of_own h⟩
end Go.Proofs.YtafadpaljanghaaGreatDoor
namespace Go.Proofs.YtafadpaljanghaaGreatDoor
set_option linter.unusedSimpArgs false
open Go.RowKit
set_option linter.unusedVariables false
end Go.Proofs.YtafadpaljanghaaGreatDoor
namespace Go.Proofs.YtafadpaljanghaaGreatDoor
set_option linter.unusedSimpArgs false
open Go.RowKit
set_option linter.unusedVariables false
end Go.Proofs.YtafadpaljanghaaGreatDoor
