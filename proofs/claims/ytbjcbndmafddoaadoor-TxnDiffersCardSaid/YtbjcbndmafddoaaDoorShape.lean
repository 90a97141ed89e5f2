/-
  What the world's shape says of the library's variable MaxLen; how it stays.
-/
import Derived.Test.YtbjcbndmafddoaaDoorProg
import Derived.Shelf.Vars
import Derived.WalkKit
import Derived.Below
namespace Go.Proofs.YtbjcbndmafddoaaDoor
open Go.RowKit

/-- The library's variable MaxLen holds some integer. -/
def MLen (w : World) : Prop := ∃ m, w.cell? ⟨1, 0, none⟩ = some (.int .i64 m)
theorem MLen.below {w w' : World} (h : MLen w) (hb : Below w.heap.size w w') : MLen w' := by
  obtain ⟨m, h⟩ := h
  have hlt : 1 < w.heap.size := by
    rcases Nat.lt_or_ge 1 w.heap.size with hlt | hge
    · exact hlt
    · unfold World.cell? at h
      simp only [Array.getElem?_eq_none hge] at h
      cases h
  exact ⟨m, by rw [hb.cell (p := ⟨1, 0, none⟩) hlt]; exact h⟩
theorem mlen_of_shaped {W : World} (h : W.ShapedOpen Tryd.prog) : MLen W :=
  cell_of_shapedOpen_int (zero := #[.int .i64 0]) (t := 3) (k := .i64) h (by decide +kernel) (by kernel_rfl) rfl (by kernel_rfl) (by kernel_rfl) (by kernel_rfl)

end Go.Proofs.YtbjcbndmafddoaaDoor
