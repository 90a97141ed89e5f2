/-
  Slices that read as lists of strings.
-/
import Derived.Test.YtbjcbndmafddoaaDoorRows0
import Derived.Test.YtbjcbndmafddoaaDoorProg
namespace Go.Proofs.YtbjcbndmafddoaaDoor
open Go.RowKit
set_option linter.unusedVariables false

/-- The cells from a on read as strings. -/
structure RS (w : World) (a : Addr) (l : List ByteArray) : Prop where
  lt : a.block < w.heap.size
  cells : ∀ j, j < l.length → w.cell? (a.add j) = some (.string (l.getD j ⟨#[]⟩))
theorem RS.below {w w' : World} {a : Addr} {l : List ByteArray} (h : RS w a l) (hb : Below w.heap.size w w') : RS w' a l :=
  ⟨Nat.lt_of_lt_of_le h.lt hb.size, fun j hj => (hb.cell (by rw [block_of_add]; exact h.lt)).trans (h.cells j hj)⟩
/-- A slice value that reads as a list of strings. -/
def SL (w : World) (v : Value) (l : List ByteArray) : Prop := ∃ (A : Option Addr) (c : Nat), v = .slice A l.length c ∧ l.length ≤ c ∧ (0 < l.length → ∃ a, A = some a ∧ RS w a l)
theorem SL.nil (w : World) : SL w (.slice none 0 0) [] := ⟨none, 0, rfl, Nat.le_refl _, fun h => absurd h (by simp)⟩
theorem SL.below {w w' : World} {v : Value} {l : List ByteArray} (h : SL w v l) (hb : Below w.heap.size w w') : SL w' v l := by
  obtain ⟨A, c, rfl, hc, h⟩ := h
  exact ⟨A, c, rfl, hc, fun hl => by obtain ⟨a, ha, hs⟩ := h hl; exact ⟨a, ha, hs.below hb⟩⟩
def scells (l : List ByteArray) : List Value := l.map Value.string
theorem SL.of_own {w : World} {base : Nat} {v : Value} {n : Nat} {l : List ByteArray} (h : w.ownsRow base 9 1 v n (scells l)) : SL w v l := by
  have hl : l.length = n := by have := h.1; simpa [scells] using this
  obtain ⟨_, h2⟩ := h
  have h0 := h2
  rcases h2 with ⟨rfl, h2⟩ | ⟨g, cap, cur, rfl, hg, hh, hnc, _⟩
  · have : l = [] := List.eq_nil_of_length_eq_zero (by omega)
    subst this
    exact SL.nil w
  · refine ⟨some ⟨g, 0, none⟩, cap, by rw [hl], by omega, fun hp => ⟨⟨g, 0, none⟩, rfl, ⟨?_, fun j hj => ?_⟩⟩⟩
    · rcases Nat.lt_or_ge g w.heap.size with hlt | hge
      · exact hlt
      · rw [Array.getElem?_eq_none hge] at hh; cases hh
    · have := World.ownsRow.cells (g := g) (w := w) (base := base) (e := 9) (size := 1) (n := n) (xs := scells l) ⟨by simpa [scells] using hl, h0⟩ rfl j (.string (l.getD j ⟨#[]⟩)) (by
        simp [scells, List.getD_eq_getElem?_getD, List.getElem?_eq_getElem hj])
      exact this
theorem istr : (Tryd.prog.info? 9).map (fun i => (i.zero, i.size, i.bytes)) = some (some (.string ⟨#[]⟩), 1, 16) := by kernel_rfl

end Go.Proofs.YtbjcbndmafddoaaDoor
