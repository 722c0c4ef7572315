/- Regions that draw in which a variable is made beside calls (the laws of TrB, and a store of a whole value, without a package). -/
import Derived.Test.YtbaojmfkjpnfhaaGreatDoorHld
namespace Go.Proofs.YtbaojmfkjpnfhaaGreatDoor
set_option linter.unusedSimpArgs false
open Go.RowKit
set_option linter.unusedVariables false

/-- the end of a region told by a block's number: the frame and what is known of the world -/
def BrQm (A : Nat → Act) (F : Nat → World → Prop) : Exit → Act → World → Prop
  | .normal, a, w => ∃ g, a = A g ∧ F g w
  | _, _, _ => False
theorem wp_branchm {P : Program} {c : Code} {Q : Exit → Act → World → Prop} {a : Act} {w : World} (F : Nat → World → Prop) {A : Nat → Act} (h2 : c.wp P (BrQm A F) a w) (h1 : ∀ g w', F g w' → Q .normal (A g) w') : c.wp P Q a w :=
  Code.wp_mono (fun e a' w' h => by
    cases e <;> first | exact h.elim | (obtain ⟨g, rfl, hF⟩ := h; exact h1 g w' hF)) h2
section
variable {P : Program} {ops : Array Oper} {Q : Exit → Act → World → Prop} {md : Region.Mode} {S : World → Prop}
/-- one of two operations comes up next -/
theorem wpAnyH_twom (i j : Nat) {oi oj : Oper} {fuel : Nat} {listed : Array Bool} {a : Act} {w : World} (hi0 : ops.toList[i]? = some oi) (hj0 : ops.toList[j]? = some oj) (hr : Region.ready md ops listed = [i, j]) (hgi : oi.guard = none) (hgj : oj.guard = none)
    (h1 : ∀ K' : Act → World → Prop, Shut (∀ a w, S w → (S w → wpAnyH P md ops Q S fuel (listed.setIfInBounds i true) a w) → K' a w) → Oper.wp P oi a w K' Q)
    (h2 : ∀ K' : Act → World → Prop, Shut (∀ a w, S w → (S w → wpAnyH P md ops Q S fuel (listed.setIfInBounds j true) a w) → K' a w) → Oper.wp P oj a w K' Q) : wpAnyH P md ops Q S (fuel + 1) listed a w :=
  have hi : ops[i]? = some oi := by rw [← Array.getElem?_toList]; exact hi0
  have hj : ops[j]? = some oj := by rw [← Array.getElem?_toList]; exact hj0
  wpAnyH_ready hr (by simp) (AllReadyH.cons hi (fun K' hK => by
    have hw : Region.wanted oi (yielded ops a.tmps) = true := by simp [Region.wanted, hgi]
    rw [if_pos hw]
    exact h1 K' hK) (AllReadyH.cons hj (fun K' hK => by
    have hw : Region.wanted oj (yielded ops a.tmps) = true := by simp [Region.wanted, hgj]
    rw [if_pos hw]
    exact h2 K' hK) AllReadyH.nil))
end
section
variable {P : Program} {op : Oper} {a : Act} {w : World} {K : Act → World → Prop} {Q : Exit → Act → World → Prop}
theorem wp_alloc_newm (ty : TypeId) (ho : op.op = .alloc ty) (cells : Array Value)
    (hz : ∀ w, (Instr.alloc ty true (.tuple #[])).run P w = .ok (.pointer (some ⟨w.heap.size, 0, none⟩)) (w.alloc (.cells cells ty)))
    (h : ∀ w' g, g = w.heap.size → Below w.heap.size w w' → w'.heap.size = g + 1 → Blk w' g ty cells → K (a.put op.dst (.pointer (some ⟨g, 0, none⟩))) w') : op.wp P a w K Q := by
  have hrun : (execOp a.eval op).run P w = .ok (.value (.pointer (some ⟨w.heap.size, 0, none⟩))) (w.alloc (.cells cells ty)) := by
    unfold execOp
    simp only [ho, Sem.run_bind, hz, Result.andThen_ok, Sem.run_pure]
  unfold Oper.wp
  rw [hrun, Oper.upon_value]
  exact h _ _ rfl ((Below.refl _ _).alloc (Nat.le_refl _) _) (by simp) (Blk.new w ty cells)
end
section
variable {P : Program} {op : Oper} {a : Act} {w : World} {K : Act → World → Prop} {Q : Exit → Act → World → Prop}
theorem wp_store_partm (ty : TypeId) (x y : Operand) (ho : op.op = .store ty x y)
    (g o : Nat) (cells : Array Value) (hx : a.eval x = .pointer (some ⟨g, o, none⟩)) (hy : a.eval y = .agg cells)
    (t : TypeId) (cs cs' : Array Value) (hB : Blk w g t cs) (hn : o + cells.size ≤ cs.size) (hp : putA cs o cells.toList = cs')
    (hi : (P.info? ty).map (·.size) = some cells.size) (h1 : cells.all (·.oneCell') = true)
    (h : ∀ w', Mv g w w' → w'.heap.size = w.heap.size → Blk w' g t cs' → K (a.put op.dst undef) w') : op.wp P a w K Q := by
  refine wp_store_mid ty x y ho g o cells hx hy (hB.there o _ hn) hi h1 (h _ (Mv.setCells _ _ _ _) (setCells_size _ _ _ _) ?_); rw [← hp]; exact Blk.setCells (w := w) _ _ _ _ hB
end
end Go.Proofs.YtbaojmfkjpnfhaaGreatDoor
