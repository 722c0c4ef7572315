/- Package ratios: Floor, over whatever signs the program finds. -/
import Derived.Test.YtalodfjplegibaaGreatDoorMixE
import Derived.Test.YtalodfjplegibaaGreatDoorMixG
import Derived.Test.YtalodfjplegibaaGreatDoorMixK
import Derived.Laws.MakeOwn
import Derived.Laws.EntriesVeiled
namespace Go.Proofs.YtalodfjplegibaaGreatDoor
set_option linter.unusedSimpArgs false
open Go.RowKit
set_option linter.unusedVariables false

/-- the terms that Floor looks at -/
def scaled (l : List (Nat × Int)) (s : Int) : List (Nat × Int) := l.map fun x => (x.1, x.2 * s)
def atM (l : List (Nat × Int)) (s den m : Int) : List (Nat × Int) := scaled l s ++ [(2, -m * den)]
/-- what Floor returns -/
def FloorRes (l : List (Nat × Int)) (s den : Int) (sg : Int → Int) (e : Ending) : Prop :=
  if 0 ≤ sg 1000000000001 ∨ sg (-1000000000000) < 0 then e = .returned (.tuple #[.int .i64 0, .bool false, .int .i64 7])
  else ∃ m : Int, -1000000000000 ≤ m ∧ m < 1000000000001 ∧ 0 ≤ sg m ∧ sg (m + 1) < 0 ∧ e = .returned (.tuple #[.int .i64 m, .bool (decide (up (atM l s den m) = down (atM l s den m))), .int .i64 0])
def flat (l : List (Nat × Int)) : List Value := l.flatMap fun x => [.int .i64 (x.1 : Int), .int .i64 x.2]
set_option maxHeartbeats 6400000 in
set_option maxRecDepth 100000 in
theorem Floor_any (A : Option Addr) (n c : Nat) (l : List (Nat × Int)) (den s : Int) (sg : Int → Int) (w : World) (hl : TR w A n l) (hok : okT l) (hd1 : 1 ≤ den) (hd2 : den ≤ 1000) (hs1 : 1 ≤ s) (hs2 : s ≤ 10000000)
    (hsg : ∀ m, -1000000000000 ≤ m → m ≤ 1000000000001 → SignTo (atM l s den m) (sg m)) :
    Calls Tryz.prog 11 #[.slice A n c, .int .i64 den, .int .i64 s] w fun e w' => FloorRes l s den sg e ∧ Below w.heap.size w w' := by
  have hn : n ≤ 16 := by rw [← hl.1]; exact hok.1
  have HL : Sl _ := ⟨hl⟩
  have HK : Sl _ := ⟨hok⟩
  have HS : Sl _ := ⟨hsg⟩
  clear hl hok hsg
  obtain ⟨i0, hi0, hz0, hz1, hz2⟩ := info_term
  have HI : Sl _ := ⟨And.intro hi0 (And.intro hz0 (And.intro hz1 hz2))⟩
  have hmk : ∀ W : World, (Instr.makeSlice 36 (.int .i64 0) (.int .i64 ((n : Int) + 1))).run Tryz.prog W = .ok (.slice (some ⟨W.heap.size, 0, none⟩) 0 (n + 1)) (W.alloc (.cells (madeCells #[.int .i64 0, .int .i64 0] ((n + 1) * 2)) 35)) := fun W => by
    have h := run_make (P := Tryz.prog) W 36 35 i0 (.agg #[.int .i64 0, .int .i64 0]) Tryz.underlying36 hi0 hz0 .i64 .i64 0 ((n : Int) + 1) (by omega) (by omega) (by rw [hz2]; omega) (by omega)
    rw [hz1] at h
    rw [show (Value.agg #[.int .i64 0, .int .i64 0]).cells = #[.int .i64 0, .int .i64 0] from rfl] at h
    simpa using h
  clear hi0 hz0 hz1 hz2
  have HCK : Sl (∀ W : World, TR W A n l → Calls Tryz.prog 34 #[.slice A n c] W fun e w' => e = .returned (.int .i64 0) ∧ Below W.heap.size W w') := ⟨fun W h => rcheck_ok A n c l W h HK.out⟩
  go_enter Tryz.func11, Tryz.ntmps11
  have hu0 : Below w.heap.size w ((w.alloc (.cells #[.slice A n c] 36)).alloc (.cells #[.int .i64 den] 2)) := ((Below.refl _ _).alloc (Nat.le_refl _) _).alloc (by simp) _
  have B3 := (Blk.new w 36 #[.slice A n c]).alloc (.cells #[.int .i64 den] 2)
  have B4 := Blk.new (w.alloc (.cells #[.slice A n c] 36)) 2 #[.int .i64 den]
  rw [show (w.alloc (.cells #[.slice A n c] 36)).heap.size = w.heap.size + 1 by simp] at B4
  go_wp2_with fail
  generalize (w.alloc (.cells #[.slice A n c] 36)).alloc (.cells #[.int .i64 den] 2) = w0 at *
  refine (HCK.out _ (HL.out.below hu0)).mono ?_; rintro e w1 ⟨rfl, hb1⟩
  have hu1 := hu0.trans (hb1.mono hu0.size)
  have C3 := B3.below hb1 B3.lt
  have C4 := B4.below hb1 B4.lt
  have c3 := C3.cell 0
  have c4 := C4.cell 0
  simp at c3 c4
  have er : (w1.alloc (.cells (madeCells #[.int .i64 0, .int .i64 0] ((n + 1) * 2)) 35)).heap.size = w1.heap.size + 1 := by simp
  have D3 := (C3.alloc (.cells (madeCells #[.int .i64 0, .int .i64 0] ((n + 1) * 2)) 35)).alloc (.cells #[.slice (some ⟨w1.heap.size, 0, none⟩) 0 (n + 1)] 36)
  have D4 := (C4.alloc (.cells (madeCells #[.int .i64 0, .int .i64 0] ((n + 1) * 2)) 35)).alloc (.cells #[.slice (some ⟨w1.heap.size, 0, none⟩) 0 (n + 1)] 36)
  have D5 := Blk.new (w1.alloc (.cells (madeCells #[.int .i64 0, .int .i64 0] ((n + 1) * 2)) 35)) 36 #[.slice (some ⟨w1.heap.size, 0, none⟩) 0 (n + 1)]
  rw [er] at D5
  have hu2 := (hu1.alloc hu1.size (.cells (madeCells #[.int .i64 0, .int .i64 0] ((n + 1) * 2)) 35)).alloc (by rw [er]; have := hu1.size; omega) (.cells #[.slice (some ⟨w1.heap.size, 0, none⟩) 0 (n + 1)] 36)
  have hrow := World.ownsRow_made (e := 35) (size := 2) w1 (madeCells #[.int .i64 0, .int .i64 0] ((n + 1) * 2)) (n + 1) hu1.size (by unfold maxLen; omega) (by simp [madeCells])
  have hrow2 : ((w1.alloc (.cells (madeCells #[.int .i64 0, .int .i64 0] ((n + 1) * 2)) 35)).alloc (.cells #[.slice (some ⟨w1.heap.size, 0, none⟩) 0 (n + 1)] 36)).ownsRow w.heap.size 35 2 (.slice (some ⟨w1.heap.size, 0, none⟩) 0 (n + 1)) 0 [] := by
    refine ⟨hrow.1, ?_⟩
    rcases hrow.2 with h | ⟨g, cap, cur, e, hb, hg, h1⟩
    · exact .inl h
    · exact .inr ⟨g, cap, cur, e, hb, (Below.heap_alloc _ _ _ (Blk.lt (t := 35) (cs := cur) hg)).trans hg, h1⟩
  have d3 := D3.cell 0
  have d4 := D4.cell 0
  simp at d3 d4
  have h16 : w.heap.size + 1 < w1.heap.size + 1 := by have := C4.lt; omega
  have h17 : w.heap.size < w1.heap.size + 1 := by omega
  have HW : Sl _ := ⟨And.intro hu2 (And.intro D3 (And.intro D4 (And.intro D5 hrow2)))⟩
  clear hu0 hb1 B3 B4 hu1 C3 C4 HCK D3 D4 D5 hu2 hrow hrow2 er
  go_wp2_with fail
  generalize (w1.alloc (.cells (madeCells #[.int .i64 0, .int .i64 0] ((n + 1) * 2)) 35)).alloc (.cells #[.slice (some ⟨w1.heap.size, 0, none⟩) 0 (n + 1)] 36) = w2 at *
  have hTR2 : TR w2 A n l := HL.out.below HW.out.1
  generalize w1.heap.size + 1 = G at *
  generalize w1.heap.size = G1 at *
  go_loopw [40] (fun s40 wr => ∃ (i g c' : Nat), i ≤ n ∧ i ≤ c' ∧ s40 = .int .i64 i ∧ Sl (Below w.heap.size w wr ∧ Blk wr w.heap.size 36 #[.slice A n c] ∧ Blk wr (w.heap.size + 1) 2 #[.int .i64 den] ∧ Blk wr G 36 #[.slice (some ⟨g, 0, none⟩) i c'] ∧ wr.ownsRow w.heap.size 35 2 (.slice (some ⟨g, 0, none⟩) i c') i (flat (scaled (l.take i) s)))) (fun s40 _ => n - (RowKit.intOf s40).toNat)
  case atStart => exact ⟨0, G1, n + 1, Nat.zero_le _, Nat.zero_le _, rfl, ⟨HW.out.1, HW.out.2.1, HW.out.2.2.1, HW.out.2.2.2.1, HW.out.2.2.2.2⟩⟩
  case round =>
    clear HW
    obtain ⟨i, g, c', hi, hic, rfl, HR⟩ := hrel
    by_cases hin : i < n
    · obtain ⟨⟨nn, kk⟩, hx⟩ : ∃ x, l[i]? = some x := ⟨_, List.getElem?_eq_getElem (by rw [HL.out.1]; exact hin)⟩
      obtain ⟨ad, rfl, hab, e1, e2⟩ := (HL.out.below HR.out.1).cells hx
      have e3 : (ad.add (i * 2)).add 1 = ⟨(ad.add (i * 2)).block, (ad.add (i * 2)).off + 1, none⟩ := by
        generalize ad.add (i * 2) = a1
        simp [Addr.add]
      rw [← add_of_add, e3] at e2
      have hnn := HK.out.2 _ (List.mem_of_getElem? hx)
      simp only [] at hnn e1 e2
      have hks : (kk * s).natAbs ≤ 1000000000 * 10000000 := by
        rw [Int.natAbs_mul]
        exact Nat.mul_le_mul (by omega) (by omega)
      have hwrp : IntKind.i64.wrap (kk * s) = kk * s := by
        generalize kk * s = y at *
        rw [IntKind.wrap_i64]; omega
      have hG : wr.cell? ⟨G, 0, none⟩ = some (.slice (some ⟨g, 0, none⟩) i c') := HR.out.2.2.2.1.cell 0
      have hGl := HR.out.2.2.2.1.lt
      obtain ⟨y, hy⟩ : ∃ y, kk * s = y := ⟨_, rfl⟩
      have hwrp2 : IntKind.i64.wrap (kk * s) = y := by rw [hwrp]; exact hy
      have HY : Sl _ := ⟨And.intro hy hx⟩
      have ha1 := HR.out.1.alloc HR.out.1.size (.cells #[.int .i64 (nn : Int), .int .i64 kk] 35)
      have ha2 := ha1.alloc ha1.size (.cells #[.int .i64 (nn : Int), .int .i64 y] 35)
      have hof : World.ownsRow ((wr.alloc (.cells #[.int .i64 (nn : Int), .int .i64 kk] 35)).alloc (.cells #[.int .i64 (nn : Int), .int .i64 y] 35)) w.heap.size 35 2 (.slice (some ⟨g, 0, none⟩) i c') i (flat (scaled (l.take i) s)) := by
        have ho := HR.out.2.2.2.2
        refine ⟨ho.1, ?_⟩
        rcases ho.2 with h | ⟨g', cap, cur, e, hb, hg, h1⟩
        · exact .inl h
        · have hl1 := Blk.lt (t := 35) (cs := cur) hg
          exact .inr ⟨g', cap, cur, e, hb, (Below.heap_alloc _ _ _ (by simp; omega)).trans ((Below.heap_alloc _ _ _ hl1).trans hg), h1⟩
      have HA : Sl _ := ⟨And.intro ha1 (And.intro ha2 hof)⟩
      have b3 := (HR.out.2.1.alloc (.cells #[.int .i64 (nn : Int), .int .i64 kk] 35)).alloc (.cells #[.int .i64 (nn : Int), .int .i64 y] 35)
      have b4 := (HR.out.2.2.1.alloc (.cells #[.int .i64 (nn : Int), .int .i64 kk] 35)).alloc (.cells #[.int .i64 (nn : Int), .int .i64 y] 35)
      have b5 := (HR.out.2.2.2.1.alloc (.cells #[.int .i64 (nn : Int), .int .i64 kk] 35)).alloc (.cells #[.int .i64 (nn : Int), .int .i64 y] 35)
      have HBS : Sl _ := ⟨And.intro b3 (And.intro b4 b5)⟩
      have HNW : Sl (Reads ((wr.alloc (.cells #[.int .i64 (nn : Int), .int .i64 kk] 35)).alloc (.cells #[.int .i64 (nn : Int), .int .i64 y] 35)) (wr.heap.size + 2) 2 (some ⟨wr.heap.size + 1, 0, none⟩) 1 [.int .i64 (nn : Int), .int .i64 y]) := ⟨by
        refine ⟨rfl, fun _ => ⟨_, rfl, Nat.lt_succ_self _, fun j u hu => ?_⟩⟩
        have hb := Blk.new (wr.alloc (.cells #[.int .i64 (nn : Int), .int .i64 kk] 35)) 35 #[.int .i64 (nn : Int), .int .i64 y]
        rw [show (wr.alloc (.cells #[.int .i64 (nn : Int), .int .i64 kk] 35)).heap.size = wr.heap.size + 1 by simp] at hb
        have e : (⟨wr.heap.size + 1, 0, none⟩ : Addr).add j = ⟨wr.heap.size + 1, j, none⟩ := by
          unfold Addr.add
          by_cases h : j = 0
          · subst h; simp
          · simp [h]
        rw [e, hb.cell]
        simpa using hu⟩
      have HSZ : Sl (w.heap.size ≤ ((wr.alloc (.cells #[.int .i64 (nn : Int), .int .i64 kk] 35)).alloc (.cells #[.int .i64 (nn : Int), .int .i64 y] 35)).heap.size) := ⟨ha2.size⟩
      clear e3 hx hy hwrp hks ha1 ha2 hof b3 b4 b5
      go_wp2_with (at_builtin; go_loud (refine wpList_append_any _ rfl (.tmp 44) (.tmp 52) _ rfl w.heap.size 35 i0 _ 2 16 Tryz.underlying36 HI.out.1 HI.out.2.1 HI.out.2.2.1 HI.out.2.2.2 rfl (by decide) (.slice (some ⟨g, 0, none⟩) i c') i _ rfl HA.out.2.2 _ (some ⟨wr.heap.size + 1, 0, none⟩) 1 1 [.int .i64 (nn : Int), .int .i64 y] rfl HNW.out (by simp; exact ⟨rfl, rfl⟩) (by unfold maxLen; omega) (by omega) HSZ.out ?_; intro v1 w5 hown1 hg1 hat1; have b55 := HBS.out.2.2.grown hg1 (fun e => own_blk_ne HA.out.2.2 HBS.out.2.2 (by decide) e.symm); have c55 : w5.cell? ⟨G, 0, none⟩ = some (.slice (some ⟨g, 0, none⟩) i c') := b55.cell 0; have f55 := b55.frozen 0; obtain ⟨g5, c5, rfl, hfb, hfl⟩ := hown1.form (Nat.succ_pos i)))
      have hc5 : i + 1 ≤ c5 := by
        rcases hown1.2 with ⟨e, _⟩ | ⟨g', cap, cur, e, _, _, hh, _⟩
        · cases e
        · injection e with _ _ e; subst e; exact hh
      have hbw := HA.out.2.1.grown hg1 HSZ.out (fun k hk => (HA.out.2.2.lt k hk).1)
      have b53 := HBS.out.1.grown hg1 (fun e => own_blk_ne HA.out.2.2 HBS.out.1 (by decide) e.symm)
      have b54 := HBS.out.2.1.grown hg1 (fun e => own_blk_ne HA.out.2.2 HBS.out.2.1 (by decide) e.symm)
      have hne : some G ≠ (Value.slice (some ⟨g5, 0, none⟩) (i + 1) c5).ownBlock := by
        rcases hat1 with h | h
        · rw [h]; exact fun e => own_blk_ne HA.out.2.2 HBS.out.2.2 (by decide) e.symm
        · rw [h]; intro e
          injection e with e
          have := HBS.out.2.2.lt
          omega
      have hgg : g5 ≠ G := fun e => hne (by rw [e]; rfl)
      have hfin : Sl (Below w.heap.size w (w5.setCell ⟨G, 0, none⟩ (.slice (some ⟨g5, 0, none⟩) (i + 1) c5)) ∧ Blk (w5.setCell ⟨G, 0, none⟩ (.slice (some ⟨g5, 0, none⟩) (i + 1) c5)) w.heap.size 36 #[.slice (some ad) n c] ∧ Blk (w5.setCell ⟨G, 0, none⟩ (.slice (some ⟨g5, 0, none⟩) (i + 1) c5)) (w.heap.size + 1) 2 #[.int .i64 den] ∧ Blk (w5.setCell ⟨G, 0, none⟩ (.slice (some ⟨g5, 0, none⟩) (i + 1) c5)) G 36 #[.slice (some ⟨g5, 0, none⟩) (i + 1) c5] ∧ World.ownsRow (w5.setCell ⟨G, 0, none⟩ (.slice (some ⟨g5, 0, none⟩) (i + 1) c5)) w.heap.size 35 2 (.slice (some ⟨g5, 0, none⟩) (i + 1) c5) (i + 1) (flat (scaled (l.take (i + 1)) s))) := ⟨by
        refine ⟨hbw.setCell (p := ⟨G, 0, none⟩) (by show w.heap.size ≤ G; omega) _, b53.far (p := ⟨G, 0, none⟩) (by show w.heap.size ≠ G; omega) _, b54.far (p := ⟨G, 0, none⟩) (by show w.heap.size + 1 ≠ G; omega) _, b55.set_ 0 _, ?_, ?_⟩
        · have h1 := hown1.1
          rw [List.take_add_one, HY.out.2]
          show (flat (scaled (l.take i ++ [(nn, kk)]) s)).length = _
          unfold flat scaled at h1 ⊢
          rw [List.map_append, List.flatMap_append]
          simpa using h1
        · rcases hown1.2 with ⟨e, _⟩ | ⟨g', cap, cur, e, hb, hg, hh, h4, h5, h6⟩
          · cases e
          · injection e with e1 e2 e3
            injection e1 with e1
            injection e1 with e1
            subst e1 e3
            refine .inr ⟨g5, c5, cur, rfl, hb, (Below.heap_setCell _ _ _ _ hgg).trans hg, hh, h4, h5, ?_⟩
            rw [h6, List.take_add_one, HY.out.2]
            show _ = flat (scaled (l.take i ++ [(nn, kk)]) s)
            unfold flat scaled
            rw [List.map_append, List.flatMap_append, ← HY.out.1]
            rfl⟩
      exact ⟨⟨i + 1, g5, c5, hin, hc5, by go_num, hfin⟩, by simp [RowKit.intOf]; omega⟩
    · obtain rfl : i = n := by omega
      clear hin HI hmk i0
      have hT0 : TR wr (some ⟨g, 0, none⟩) i (scaled l s) := by
        have ho := HR.out.2.2.2.2
        rw [List.take_of_length_le (by rw [HL.out.1]; exact Nat.le_refl _)] at ho
        exact ⟨by unfold scaled; rw [List.length_map, HL.out.1], Reads.of_own ho⟩
      have ba := HR.out.2.2.2.1.alloc (.cells #[.func (.func 36) #[] #[.pointer (some ⟨G, 0, none⟩), .pointer (some ⟨w.heap.size, 0, none⟩), .pointer (some ⟨w.heap.size + 1, 0, none⟩)]] 63)
      have bl := HR.out.2.1.alloc (.cells #[.func (.func 36) #[] #[.pointer (some ⟨G, 0, none⟩), .pointer (some ⟨w.heap.size, 0, none⟩), .pointer (some ⟨w.heap.size + 1, 0, none⟩)]] 63)
      have bd := HR.out.2.2.1.alloc (.cells #[.func (.func 36) #[] #[.pointer (some ⟨G, 0, none⟩), .pointer (some ⟨w.heap.size, 0, none⟩), .pointer (some ⟨w.heap.size + 1, 0, none⟩)]] 63)
      have bq := Blk.new wr 63 #[.func (.func 36) #[] #[.pointer (some ⟨G, 0, none⟩), .pointer (some ⟨w.heap.size, 0, none⟩), .pointer (some ⟨w.heap.size + 1, 0, none⟩)]]
      have hB3 := HR.out.1.alloc HR.out.1.size (.cells #[.func (.func 36) #[] #[.pointer (some ⟨G, 0, none⟩), .pointer (some ⟨w.heap.size, 0, none⟩), .pointer (some ⟨w.heap.size + 1, 0, none⟩)]] 63)
      have hT3 := hT0.below ((Below.refl wr.heap.size wr).alloc (Nat.le_refl _) (.cells #[.func (.func 36) #[] #[.pointer (some ⟨G, 0, none⟩), .pointer (some ⟨w.heap.size, 0, none⟩), .pointer (some ⟨w.heap.size + 1, 0, none⟩)]] 63))
      have HFA : Sl (∀ (m : Int) (W : World), -1000000000000 ≤ m → m ≤ 1000000000001 → Below (wr.alloc (.cells #[.func (.func 36) #[] #[.pointer (some ⟨G, 0, none⟩), .pointer (some ⟨w.heap.size, 0, none⟩), .pointer (some ⟨w.heap.size + 1, 0, none⟩)]] 63)).heap.size (wr.alloc (.cells #[.func (.func 36) #[] #[.pointer (some ⟨G, 0, none⟩), .pointer (some ⟨w.heap.size, 0, none⟩), .pointer (some ⟨w.heap.size + 1, 0, none⟩)]] 63)) W → Calls Tryz.prog 36 #[.int .i64 m, .pointer (some ⟨G, 0, none⟩), .pointer (some ⟨w.heap.size, 0, none⟩), .pointer (some ⟨w.heap.size + 1, 0, none⟩)] W fun e w' => (∃ A' c', e = .returned (.slice A' (i + 1) c') ∧ TR w' A' (i + 1) (atM l s den m)) ∧ Below W.heap.size W w') := ⟨fun m W h1 h2 hb => by
        have x1 := ba.below hb ba.lt
        have x2 := bl.below hb bl.lt
        have x3 := bd.below hb bd.lt
        have hmd : (m * den).natAbs ≤ 1000000000001 * 1000 := by
          rw [Int.natAbs_mul]
          exact Nat.mul_le_mul (by omega) (by omega)
        rw [Int.natAbs_mul] at hmd
        have hmd2 : ((-m) * den).natAbs ≤ 1000000000001 * 1000 := by rw [Int.natAbs_mul, Int.natAbs_neg]; exact hmd
        have hmd3 : -1000000000000000000 ≤ (-m) * den ∧ (-m) * den ≤ 1000000000000000000 := by
          generalize (-m) * den = y at *
          omega
        exact at_any m den ⟨G, 0, none⟩ ⟨w.heap.size, 0, none⟩ ⟨w.heap.size + 1, 0, none⟩ ⟨g, 0, none⟩ A i c' c (scaled l s) W (x1.cell 0) (x2.cell 0) (x3.cell 0) x1.lt x2.lt x3.lt (hT3.below hb) hic (by omega) (by omega) (by omega) hmd3.1 hmd3.2⟩
      have HFI : Sl (∀ (m : Int) (W : World), -1000000000000 ≤ m → m ≤ 1000000000001 → Below (wr.alloc (.cells #[.func (.func 36) #[] #[.pointer (some ⟨G, 0, none⟩), .pointer (some ⟨w.heap.size, 0, none⟩), .pointer (some ⟨w.heap.size + 1, 0, none⟩)]] 63)).heap.size (wr.alloc (.cells #[.func (.func 36) #[] #[.pointer (some ⟨G, 0, none⟩), .pointer (some ⟨w.heap.size, 0, none⟩), .pointer (some ⟨w.heap.size + 1, 0, none⟩)]] 63)) W → Calls Tryz.prog 37 #[.int .i64 m, .pointer (some ⟨wr.heap.size, 0, none⟩)] W fun e w' => e = .returned (.bool (decide (0 ≤ sg m))) ∧ Below W.heap.size W w') := ⟨fun m W h1 h2 hb => by
        have x0 := bq.below hb bq.lt
        have x1 := ba.below hb ba.lt
        have x2 := bl.below hb bl.lt
        have x3 := bd.below hb bd.lt
        have hmd2 : ((-m) * den).natAbs ≤ 1000000000001 * 1000 := by
          rw [Int.natAbs_mul, Int.natAbs_neg]
          exact Nat.mul_le_mul (by omega) (by omega)
        have hmd3 : -1000000000000000000 ≤ (-m) * den ∧ (-m) * den ≤ 1000000000000000000 := by
          generalize (-m) * den = y at *
          omega
        exact is_any m den (sg m) ⟨wr.heap.size, 0, none⟩ ⟨G, 0, none⟩ ⟨w.heap.size, 0, none⟩ ⟨w.heap.size + 1, 0, none⟩ ⟨g, 0, none⟩ A i c' c (scaled l s) W (x0.cell 0) (x1.cell 0) (x2.cell 0) (x3.cell 0) x1.lt x2.lt x3.lt (hT3.below hb) hic (by omega) (by omega) (by omega) hmd3.1 hmd3.2 (HS.out m h1 h2)⟩
      have hrun1 : ∀ (args : Array Value) (w : World), (callFunc 36 args).run Tryz.prog w = .ok (.enter 36 args) w := fun a w => by go_simp
      have hrun2 : ∀ (args : Array Value) (w : World), (callFunc 37 args).run Tryz.prog w = .ok (.enter 37 args) w := fun a w => by go_simp
      have HQ : Sl _ := ⟨And.intro hB3 bq⟩
      clear ba bl bd bq hB3 hT3 hT0 HR HS
      have c1 := HFI.out 1000000000001 _ (by decide) (by decide) (Below.refl _ _)
      by_cases h1 : 0 ≤ sg 1000000000001
      · rw [decide_eq_true h1] at c1
        have HC1 : Sl _ := ⟨c1⟩
        have H1 : Sl _ := ⟨h1⟩
        clear c1 h1
        go_wp2_with fail
        refine HC1.out.mono ?_; rintro e w5 ⟨rfl, hb5⟩
        go_wp2_with fail
        go_ret3
        exact ⟨by unfold FloorRes; rw [if_pos (.inl H1.out)]; rfl, HQ.out.1.trans (hb5.mono HQ.out.1.size)⟩
      · rw [decide_eq_false h1] at c1
        have HC1 : Sl _ := ⟨c1⟩
        clear c1
        by_cases h2 : sg (-1000000000000) < 0
        · have c2 := fun W hb => HFI.out (-1000000000000) W (by decide) (by decide) hb
          rw [decide_eq_false (by omega)] at c2
          have HC2 : Sl _ := ⟨c2⟩
          have H2 : Sl _ := ⟨h2⟩
          clear c2 h1 h2
          go_wp2_with fail
          refine HC1.out.mono ?_; rintro e w5 ⟨rfl, hb5⟩
          go_wp2_with fail
          refine (HC2.out w5 hb5).mono ?_; rintro e w6 ⟨rfl, hb6⟩
          go_wp2_with fail
          go_ret3
          exact ⟨by unfold FloorRes; rw [if_pos (.inr H2.out)]; rfl, (HQ.out.1.trans (hb5.mono HQ.out.1.size)).trans (hb6.mono (Nat.le_trans HQ.out.1.size hb5.size))⟩
        · have c2 := fun W hb => HFI.out (-1000000000000) W (by decide) (by decide) hb
          rw [decide_eq_true (by omega)] at c2
          have HC2 : Sl _ := ⟨c2⟩
          have H2 : Sl _ := ⟨And.intro h1 h2⟩
          clear c2 h1 h2
          go_wp2_with fail
          refine HC1.out.mono ?_; rintro e w5 ⟨rfl, hb5⟩
          go_wp2_with fail
          refine (HC2.out w5 hb5).mono ?_; rintro e w6 ⟨rfl, hb6⟩
          have hb7 := hb5.trans (hb6.mono hb5.size)
          go_wp2_with fail
          refine (greatest_any (.pointer (some ⟨wr.heap.size, 0, none⟩)) (fun m => decide (0 ≤ sg m)) (-1000000000000) 1000000000001 w6 (by decide) (by decide) (by decide) (fun m W hm1 hm2 hbW => HFI.out m W (by omega) (by omega) (hb7.trans (hbW.mono hb7.size)))).mono ?_; rintro e w7 ⟨⟨m, rfl, hm1, hm2, hm3, hm4⟩, hb8⟩
          have hb9 := hb7.trans (hb8.mono hb7.size)
          have hpos : 0 ≤ sg m := by
            rcases hm3 with h | h
            · rw [h]; have := H2.out.2; omega
            · simpa using h
          have hneg : sg (m + 1) < 0 := by
            rcases hm4 with h | h
            · rw [h]; have := H2.out.1; omega
            · have := of_decide_eq_false h; omega
          have cq := (HQ.out.2.below hb9 HQ.out.2.lt).cell 0
          simp at cq
          have HM : Sl _ := ⟨And.intro hpos (And.intro hneg (And.intro hm1 hm2))⟩
          have hoe : okE (atM l s den m) := by
            refine ⟨by unfold atM scaled; simp; rw [HL.out.1]; omega, fun x hx => ?_⟩
            unfold atM at hx
            rw [List.mem_append] at hx
            rcases hx with hx | hx
            · unfold scaled at hx
              obtain ⟨y, hy, rfl⟩ := List.mem_map.1 hx
              have hk := HK.out.2 y hy
              refine ⟨hk.1, hk.2.1, ?_⟩
              show (y.2 * s).natAbs ≤ _
              rw [Int.natAbs_mul]
              have h5 : y.2.natAbs * s.natAbs ≤ 1000000000 * 10000000 := Nat.mul_le_mul (by omega) (by omega)
              omega
            · simp only [List.mem_singleton] at hx
              subst hx
              refine ⟨by show 0 < 2; decide, by show 2 ≤ 1000000000000; decide, ?_⟩
              show (-m * den).natAbs ≤ _
              rw [Int.natAbs_mul, Int.natAbs_neg]
              have h5 : m.natAbs * den.natAbs ≤ 1000000000001 * 1000 := Nat.mul_le_mul (by omega) (by omega)
              omega
          have HOE : Sl _ := ⟨hoe⟩
          have hA := HFA.out m w7 (by omega) (by omega) hb9
          have HAT : Sl _ := ⟨hA⟩
          clear hoe hA hpos hneg hm1 hm2 hm3 hm4
          go_wp2_with fail
          refine HAT.out.mono ?_; rintro e w8 ⟨⟨A8, c8, rfl, hT8⟩, hb10⟩
          have hO := one_any A8 (i + 1) c8 _ w8 hT8 HOE.out
          have HON : Sl _ := ⟨hO⟩
          clear hO hT8
          obtain ⟨q, hq⟩ : ∃ q, decide (up (atM l s den m) = down (atM l s den m)) = q := ⟨_, rfl⟩
          rw [hq] at HON
          have HQQ : Sl _ := ⟨hq⟩
          clear hq
          go_wp2_with fail
          refine HON.out.mono ?_; rintro e w9 ⟨rfl, hb11⟩
          go_wp2_with fail
          go_ret3
          refine ⟨?_, ?_⟩
          · unfold FloorRes
            rw [if_neg (by have := H2.out; omega)]
            exact ⟨m, HM.out.2.2.1, HM.out.2.2.2, HM.out.1, HM.out.2.1, by rw [HQQ.out]; rfl⟩
          · have k1 := HQ.out.1.trans (hb9.mono HQ.out.1.size)
            have k2 := k1.trans (hb10.mono k1.size)
            exact k2.trans (hb11.mono k2.size)
end Go.Proofs.YtalodfjplegibaaGreatDoor
