/-
  A slice of one element that a region makes, as a fresh operation of the region's law (Gen).
-/
import Derived.Test.YtbjcbndmafddoaaDoorGen
import Derived.Test.YtbjcbndmafddoaaDoorRows0
namespace Go.Proofs.YtbjcbndmafddoaaDoor
open Go.RowKit
set_option linter.unusedVariables false

def fSlice (j : Nat) (D : List Nat) (B : Nat) (cs : Array Value) (T : TypeId) : FOp := ⟨j, D, fun v => ∃ g, v = .slice (some ⟨g, 0, none⟩) 1 1, fun v w => ∃ g, v = .slice (some ⟨g, 0, none⟩) 1 1 ∧ Box w g cs T ∧ B ≤ g⟩
theorem fSlice_st (j : Nat) (D : List Nat) (B : Nat) (cs : Array Value) (T : TypeId) : ∀ u w w', (fSlice j D B cs T).Φ u w → Below w.heap.size w w' → (fSlice j D B cs T).Φ u w' := fun u w w' ⟨g, e, h, hB⟩ hb => ⟨g, e, h.below hb, hB⟩
theorem fSlice_kn (j : Nat) (D : List Nat) (B : Nat) (cs : Array Value) (T : TypeId) : (∀ u w, (fSlice j D B cs T).Φ u w → (fSlice j D B cs T).S u) ∧ ∃ u, (fSlice j D B cs T).S u := ⟨fun u w ⟨g, e, _⟩ => ⟨g, e⟩, _, 0, rfl⟩
section
variable {P : Program} {K : Kit} {w0 : World} {γ : Nat → Value}
theorem freshAt_slice {j : Nat} {o : Oper} {a : Act} {T : TypeId} {cs : Array Value} (hg : o.guard = none) (hr : ∀ w, (execOp a.eval o).run P w = .ok (.value (.slice (some ⟨w.heap.size, 0, none⟩) 1 1)) (w.alloc (.cells cs T)))
    (h : ∀ w g, w0.heap.size ≤ g → Box w g cs T → K.Φ j (.slice (some ⟨g, 0, none⟩) 1 1) w) : FreshAt P K w0 γ j o a := by
  refine ⟨hg, fun w hb hf => ?_⟩
  rw [hr]
  exact ⟨h _ _ hb.size (Box.new _ _ _), below_alloc _ _⟩
end
theorem slice_at {v : Value} {g : Nat} {w : World} {cs : Array Value} {T : TypeId} {B : Nat} (e : v = .slice (some ⟨g, 0, none⟩) 1 1) (h : ∃ g', v = .slice (some ⟨g', 0, none⟩) 1 1 ∧ Box w g' cs T ∧ B ≤ g') : Box w g cs T ∧ B ≤ g := by
  obtain ⟨g', e', h⟩ := h
  rw [e] at e'
  simp at e'
  rw [e']; exact h
theorem newsB {w : World} {g : Nat} {cs : Array Value} {t : TypeId} (h : Box w g cs t) : ∀ j u, cs.toList[j]? = some u → w.cell? ((⟨g, 0, none⟩ : Addr).add j) = some u := by
  intro j u hj
  have hadd : (⟨g, 0, none⟩ : Addr).add j = ⟨g, j, none⟩ := by unfold Addr.add; split <;> simp_all
  rw [hadd]
  exact h.at_ j u (by simpa using hj)
theorem below_grown0 {w w2 w3 : World} {b0 base : Nat} {e : TypeId} {size : Nat} {v : Value} {n : Nat} {xs : List Value} (h : Below b0 w w2) (hs : b0 ≤ w2.heap.size) (hbb : b0 ≤ base) (hown : w2.ownsRow base e size v n xs) (hg : w2.grownBy w3 v.ownBlock) : Below b0 w w3 :=
  h.grown hg hs (fun q hq => Nat.le_trans hbb (own_block hown q hq))
theorem Box.grown0 {w w2 : World} {g base : Nat} {e : TypeId} {size : Nat} {v : Value} {n : Nat} {xs : List Value} {cs : Array Value} {t : TypeId} (h : Box w g cs t) (hown : w.ownsRow base e size v n xs) (hlt : g < base) (hg : w.grownBy w2 v.ownBlock) : Box w2 g cs t :=
  (hg.block g h.lt (fun hq => by have := own_block hown g hq.symm; omega)).trans h

end Go.Proofs.YtbjcbndmafddoaaDoor
