/-
  A block that is known whole; later worlds.
-/
import Derived.Test.YtbjcbndmafddoaaDoorLater
import Derived.Laws.Rows
namespace Go.Proofs.YtbjcbndmafddoaaDoor
open Go.RowKit

/-- Block g is just these cells, none of them frozen. -/
def Box (w : World) (g : Nat) (cs : Array Value) (t : TypeId) : Prop := w.heap[g]? = some (.cells cs t (0, 0))
section
variable {w w' : World} {g : Nat} {t : TypeId} {cs : Array Value}
theorem Box.lt (h : Box w g cs t) : g < w.heap.size := by
  rcases Nat.lt_or_ge g w.heap.size with hlt | hge
  · exact hlt
  · unfold Box at h; rw [Array.getElem?_eq_none hge] at h; cases h
theorem Box.cell (h : Box w g cs t) (i : Nat) : w.cell? ⟨g, i, none⟩ = cs[i]? := cell_of_row w g i cs t (0, 0) h
theorem Box.frozen (h : Box w g cs t) (i : Nat) : w.frozen? ⟨g, i, none⟩ = false := by
  unfold Box at h
  simp [World.frozen?, h]
theorem Box.new (w : World) (t : TypeId) (cs : Array Value) : Box (w.alloc (.cells cs t)) w.heap.size cs t := heap_alloc_new w _
theorem Box.below (h : Box w g cs t) (hb : Below w.heap.size w w') : Box w' g cs t := (hb.block g h.lt).trans h
theorem Box.lat (h : Box w g cs t) (i : Nat) (v : Value) (hv : cs[i]? = some v) : ∀ p : Lat w, p.w.cell? ⟨g, i, none⟩ = some v := fun p => by
  rw [(h.below p.h).cell i, hv]
theorem Box.at_ (h : Box w g cs t) (i : Nat) (v : Value) (hv : cs[i]? = some v) : w.cell? ⟨g, i, none⟩ = some v := by rw [h.cell i, hv]
end
theorem Box.set_ {w : World} {g : Nat} {t : TypeId} {cs : Array Value} (h : Box w g cs t) (i : Nat) (u : Value) : Box (w.setCell ⟨g, i, none⟩ u) g (cs.setIfInBounds i u) t := by
  unfold Box at h ⊢
  simp [World.setCell, Array.getElem?_modify, h]
theorem Box.setNe {w : World} {g : Nat} {t : TypeId} {cs : Array Value} (h : Box w g cs t) {p : Addr} (hp : p.block ≠ g) (u : Value) : Box (w.setCell p u) g cs t := by
  unfold Box at h ⊢
  rw [← h]
  simp [World.setCell, Array.getElem?_modify, hp]
theorem below_alloc (w : World) (o : Obj) : Below w.heap.size w (w.alloc o) := (Below.refl _ _).alloc (Nat.le_refl _) _
theorem box_new {W : World} {g : Nat} (t : TypeId) (cs : Array Value) (h : W.heap.size = g) : Box (W.alloc (.cells cs t)) g cs t := h ▸ Box.new W t cs
theorem box1 (w : World) (o : Obj) (t : TypeId) (cs : Array Value) : Box ((w.alloc o).alloc (.cells cs t)) (w.heap.size + 1) cs t := by
  have := Box.new (w.alloc o) t cs
  rwa [show (w.alloc o).heap.size = w.heap.size + 1 by simp] at this
theorem box2 (w : World) (o o2 : Obj) (t : TypeId) (cs : Array Value) : Box (((w.alloc o).alloc o2).alloc (.cells cs t)) (w.heap.size + 1 + 1) cs t := by
  have := box1 (w.alloc o) o2 t cs
  rwa [show (w.alloc o).heap.size = w.heap.size + 1 by simp] at this
/-- A later world of a later world. -/
theorem below_step {w w1 w2 : World} (h : Below w.heap.size w w1) (h2 : Below w1.heap.size w1 w2) : Below w.heap.size w w2 := h.trans (h2.mono h.size)

end Go.Proofs.YtbjcbndmafddoaaDoor
