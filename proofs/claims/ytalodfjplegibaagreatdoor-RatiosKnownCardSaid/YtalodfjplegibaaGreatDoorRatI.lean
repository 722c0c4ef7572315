/- Package ratios: the table of primes; Terms. -/
import Derived.Test.YtalodfjplegibaaGreatDoorRatH
import Derived.Test.YtalodfjplegibaaGreatDoorMixG
import Derived.Lib.LaidTab
namespace Go.Proofs.YtalodfjplegibaaGreatDoor
set_option linter.unusedSimpArgs false
open Go.RowKit
set_option linter.unusedVariables false

/-- the table of primes lies as the program's text lays it -/
def PrT (w : World) : Prop := Lib.TabIs Tryz.prog w "quintadena/ratios.primes" .i64 [2, 3, 5, 7, 11, 13]
theorem PrT.below {w w' : World} (h : PrT w) (hb : Below w.heap.size w w') : PrT w' := by
  unfold PrT Lib.TabIs World.var? at h ⊢
  rcases hg : Tryz.prog.globalNamed "quintadena/ratios.primes" with _ | g
  · rw [hg] at h; cases h
  · rw [hg] at h
    simp only [Option.bind_some] at h ⊢
    have hlt : g < w.heap.size := by
      rcases Nat.lt_or_ge g w.heap.size with h' | h'
      · exact h'
      · rw [Array.getElem?_eq_none h'] at h; cases h
    rw [hb.block g hlt]; exact h
theorem gPr : Tryz.prog.globalNamed "quintadena/ratios.primes" = some 0 := by kernel_rfl
def prime (i : Nat) : Nat := [2, 3, 5, 7, 11, 13].getD i 0
theorem PrT.cell {w : World} (h : PrT w) {i : Nat} (hi : i < 6) : w.cell? ⟨0, i, none⟩ = some (.int .i64 (prime i : Nat)) := by
  have := Lib.TabIs.cell h gPr i hi
  rw [this]
  have h6 : i = 0 ∨ i = 1 ∨ i = 2 ∨ i = 3 ∨ i = 4 ∨ i = 5 := by omega
  rcases h6 with rfl | rfl | rfl | rfl | rfl | rfl <;> rfl
theorem prime_mem {i : Nat} (hi : i < 6) : prime i ∈ [2, 3, 5, 7, 11, 13] := by
  have h6 : i = 0 ∨ i = 1 ∨ i = 2 ∨ i = 3 ∨ i = 4 ∨ i = 5 := by omega
  rcases h6 with rfl | rfl | rfl | rfl | rfl | rfl <;> decide
/-- the terms of a ratio's first exponents -/
def termsN (r : RV) : Nat → List (Nat × Int)
  | 0 => []
  | i+1 => if r.num i = 0 then termsN r i else termsN r i ++ [(prime i, r.num i)]
theorem termsN_len (r : RV) : ∀ i, (termsN r i).length ≤ i
  | 0 => Nat.le_refl _
  | i+1 => by
    have := termsN_len r i
    rw [termsN]
    split
    · omega
    · rw [List.length_append]; simp; omega
def flatT (l : List (Nat × Int)) : List Value := l.flatMap fun x => [.int .i64 (x.1 : Int), .int .i64 x.2]
theorem flatT_snoc (l : List (Nat × Int)) (n : Nat) (k : Int) : flatT (l ++ [(n, k)]) = flatT l ++ [.int .i64 (n : Int), .int .i64 k] := by
  unfold flatT; rw [List.flatMap_append]; rfl
theorem own_alloc {w : World} {base size n : Nat} {e : TypeId} {v : Value} {xs : List Value} (h : w.ownsRow base e size v n xs) (ob : Obj) : (w.alloc ob).ownsRow base e size v n xs := by
  refine ⟨h.1, ?_⟩
  rcases h.2 with h0 | ⟨g, cap, cur, e1, hb, hg, h1⟩
  · exact .inl h0
  · exact .inr ⟨g, cap, cur, e1, hb, (Below.heap_alloc _ _ _ (Blk.lt (t := e) (cs := cur) hg)).trans hg, h1⟩
/-- what Terms returns -/
def TermsRes (w : World) (e : Ending) (r : RV) : Prop :=
  (checkS r ≠ 0 → e = .returned (.tuple #[.slice none 0 0, .int .i64 0, .int .i64 (checkS r)])) ∧
  (checkS r = 0 → ∃ A n c, e = .returned (.tuple #[.slice A n c, .int .i64 r.d, .int .i64 0]) ∧ TR w A n (termsN r 6))
set_option maxHeartbeats 3200000 in
set_option maxRecDepth 100000 in
theorem Terms_any (r : RV) (w : World) (hT : PrT w) : Calls Tryz.prog 18 #[.agg r.cells] w fun e w' => TermsRes w' e r ∧ Below w.heap.size w w' := by
  have hu := (Below.refl w.heap.size w).alloc (Nat.le_refl _) (.cells r.cells 24)
  have X0 := Blk.new w 24 r.cells
  have HC : Sl _ := ⟨fun W : World => rcheckR_any r W⟩
  have HT : Sl _ := ⟨hT⟩
  unfold RV.cells at *
  have HU : Sl _ := ⟨And.intro hu X0⟩
  clear hu X0 hT
  have hidx := fun (W : World) (i : Nat) (hi : i < 6) => index6 W r hi
  unfold RV.nums at hidx
  obtain ⟨er, her⟩ : ∃ er, checkS r = er := ⟨_, rfl⟩
  rw [her] at HC
  have HE : Sl _ := ⟨her⟩
  clear her
  by_cases h0 : er = 0
  · subst h0
    obtain ⟨i0, hi0, hz0, hz1, hz2⟩ := info_term
    have HI : Sl _ := ⟨And.intro hi0 (And.intro hz0 (And.intro hz1 hz2))⟩
    clear hi0 hz0 hz1 hz2
    go_enter Tryz.func18, Tryz.ntmps18
    go_wp2_with fail
    generalize w.alloc (.cells #[.int .i64 r.n0, .int .i64 r.n1, .int .i64 r.n2, .int .i64 r.n3, .int .i64 r.n4, .int .i64 r.n5, .int .i64 r.d] 24) = w0 at *
    refine (HC.out _).mono ?_; rintro e w1 ⟨rfl, hb1⟩
    have X1 := HU.out.2.below hb1 HU.out.2.lt
    have x0 := X1.cell 0
    have x1 := X1.cell 1
    have x2 := X1.cell 2
    have x3 := X1.cell 3
    have x4 := X1.cell 4
    have x5 := X1.cell 5
    simp at x0 x1 x2 x3 x4 x5
    have HB1 : Sl _ := ⟨And.intro (HU.out.1.trans (hb1.mono HU.out.1.size)) X1⟩
    clear hb1 X1
    go_wp2_with fail
    clear x0 x1 x2 x3 x4 x5
    go_loopw [6, 16] (fun s6 s16 wr => ∃ (i n c : Nat) (A : Option Addr), i ≤ 6 ∧ s16 = .int .i64 i ∧ s6 = .slice A n c ∧ Sl (Below w.heap.size w wr ∧ Below w1.heap.size w1 wr ∧ n = (termsN r i).length ∧ wr.ownsRow w1.heap.size 35 2 (.slice A n c) n (flatT (termsN r i)))) (fun _ s16 _ => 6 - (RowKit.intOf s16).toNat)
    case atStart => exact ⟨0, 0, 0, none, by decide, rfl, rfl, ⟨HB1.out.1, Below.refl _ _, rfl, World.ownsRow_nil _ _ _ _⟩⟩
    case round =>
      obtain ⟨i, n, c, A, hi, rfl, rfl, HR⟩ := hrel
      have hn6 : n ≤ 6 := by have := termsN_len r i; have := HR.out.2.2.1; omega
      by_cases hi6 : i < 6
      · have hix := fun W : World => hidx W i hi6
        obtain ⟨z, hz⟩ : ∃ z, r.num i = z := ⟨_, rfl⟩
        rw [hz] at hix
        obtain ⟨p, hp⟩ : ∃ p, prime i = p := ⟨_, rfl⟩
        have hpc : wr.cell? ⟨0, i, none⟩ = some (.int .i64 (p : Nat)) := by
          have := (HT.out.below HR.out.1).cell hi6
          rw [hp] at this
          exact this
        have HZ : Sl _ := ⟨And.intro hz hp⟩
        clear hz hp hidx
        by_cases hz0 : z = 0
        · subst hz0
          go_wp2_with fail
          have ht : termsN r (i + 1) = termsN r i := by rw [termsN, if_pos HZ.out.1]
          refine ⟨⟨i + 1, n, c, A, hi6, by go_num, rfl, ⟨HR.out.1, HR.out.2.1, by rw [ht]; exact HR.out.2.2.1, by rw [ht]; exact HR.out.2.2.2⟩⟩, by simp [RowKit.intOf]; omega⟩
        · have HNW : Sl (Reads (wr.alloc (.cells #[.int .i64 (p : Int), .int .i64 z] 35)) (wr.heap.size + 1) 2 (some ⟨wr.heap.size, 0, none⟩) 1 [.int .i64 (p : Int), .int .i64 z]) := ⟨by
            refine ⟨rfl, fun _ => ⟨_, rfl, Nat.lt_succ_self _, fun j u hu => ?_⟩⟩
            have hb := Blk.new wr 35 #[.int .i64 (p : Int), .int .i64 z]
            have e : (⟨wr.heap.size, 0, none⟩ : Addr).add j = ⟨wr.heap.size, j, none⟩ := by
              unfold Addr.add
              by_cases h : j = 0
              · subst h; simp
              · simp [h]
            rw [e, hb.cell]
            simpa using hu⟩
          have HO : Sl ((wr.alloc (.cells #[.int .i64 (p : Int), .int .i64 z] 35)).ownsRow w1.heap.size 35 2 (.slice A n c) n (flatT (termsN r i))) := ⟨own_alloc HR.out.2.2.2 _⟩
          have hba := HR.out.1.alloc HR.out.1.size (.cells #[.int .i64 (p : Int), .int .i64 z] 35)
          have hba1 := HR.out.2.1.alloc HR.out.2.1.size (.cells #[.int .i64 (p : Int), .int .i64 z] 35)
          have HBA : Sl _ := ⟨And.intro hba hba1⟩
          clear hba hba1
          go_wp2_with (at_builtin; go_loud (refine wpList_append_any _ rfl (.tmp 22) (.tmp 28) _ rfl w1.heap.size 35 i0 _ 2 16 Tryz.underlying36 HI.out.1 HI.out.2.1 HI.out.2.2.1 HI.out.2.2.2 rfl (by decide) (.slice A n c) n _ rfl HO.out _ (some ⟨wr.heap.size, 0, none⟩) 1 1 [.int .i64 (p : Int), .int .i64 z] rfl HNW.out (by simp; exact ⟨rfl, rfl⟩) (by unfold maxLen; omega) (by omega) HBA.out.2.size ?_; intro v1 w5 hown1 hg1 hat1; obtain ⟨g5, c5, rfl, hfb, hfl⟩ := hown1.form (Nat.succ_pos n)))
          have ht : termsN r (i + 1) = termsN r i ++ [(p, z)] := by rw [termsN, if_neg (by rw [HZ.out.1]; exact hz0), HZ.out.1, HZ.out.2]
          have hbk : ∀ k, (Value.slice A n c).ownBlock = some k → w1.heap.size ≤ k := fun k hk => (HO.out.lt k hk).1
          have hfin : Sl (Below w.heap.size w w5 ∧ Below w1.heap.size w1 w5 ∧ n + 1 = (termsN r (i + 1)).length ∧ w5.ownsRow w1.heap.size 35 2 (.slice (some ⟨g5, 0, none⟩) (n + 1) c5) (n + 1) (flatT (termsN r (i + 1)))) := ⟨HBA.out.1.grown hg1 HBA.out.1.size (fun k hk => Nat.le_trans HB1.out.1.size (hbk k hk)), HBA.out.2.grown hg1 HBA.out.2.size hbk, by rw [ht, List.length_append, ← HR.out.2.2.1]; rfl, by rw [ht, flatT_snoc]; exact hown1⟩
          exact ⟨⟨i + 1, n + 1, c5, _, hi6, by go_num, rfl, hfin⟩, by simp [RowKit.intOf]; omega⟩
      · obtain rfl : i = 6 := by omega
        have X2 := HB1.out.2.below HR.out.2.1 HB1.out.2.lt
        have y6 := X2.cell 6
        simp at y6
        clear hidx hi6 X2
        go_wp2_with fail
        go_quiet (fail)
        go_wp2_with fail
        go_ret3
        refine ⟨⟨fun h => absurd HE.out h, fun _ => ⟨A, n, c, rfl, HR.out.2.2.1.symm, ?_⟩⟩, below_drewN HR.out.1 _⟩
        exact (Reads.of_own HR.out.2.2.2).drewN _
  · clear hidx
    go_enter Tryz.func18, Tryz.ntmps18
    go_wp2_with fail
    generalize w.alloc (.cells #[.int .i64 r.n0, .int .i64 r.n1, .int .i64 r.n2, .int .i64 r.n3, .int .i64 r.n4, .int .i64 r.n5, .int .i64 r.d] 24) = w0 at *
    refine (HC.out _).mono ?_; rintro e w1 ⟨rfl, hb1⟩
    have HB1 : Sl _ := ⟨HU.out.1.trans (hb1.mono HU.out.1.size)⟩
    go_wp2_with fail
    go_ret3
    exact ⟨⟨fun _ => by rw [HE.out]; rfl, fun h => absurd (HE.out.symm.trans h) h0⟩, HB1.out⟩
end Go.Proofs.YtalodfjplegibaaGreatDoor
