/-
  Rows of the call's own; slices that read as lists of integers.
-/
import Derived.Test.YtbjcbndmafddoaaDoorBox
import Derived.Laws.AppendOwn
import Derived.OwnWalk
namespace Go.Proofs.YtbjcbndmafddoaaDoor
open Go.RowKit
set_option linter.unusedVariables false

theorem grown_of_below {a w : World} (h : Below a.heap.size a w) (row : Option Nat) : a.grownBy w row := ⟨h.os, h.tape, h.output, h.size, fun i hi _ => h.block i hi⟩
theorem own_below {w w' : World} {base : Nat} {e : TypeId} {size : Nat} {v : Value} {n : Nat} {xs : List Value} (h : w.ownsRow base e size v n xs) (hb : Below w.heap.size w w') : w'.ownsRow base e size v n xs := by
  refine h.kept (grown_of_below hb none) ?_
  exact Classical.em _
theorem own_block {w : World} {base : Nat} {e : TypeId} {size : Nat} {v : Value} {n : Nat} {xs : List Value} (h : w.ownsRow base e size v n xs) (k : Nat) (hk : v.ownBlock = some k) : base ≤ k := by
  rcases h.2 with ⟨rfl, _⟩ | ⟨g, cap, cur, rfl, hg, _⟩
  · simp [Value.ownBlock] at hk
  · simp [Value.ownBlock] at hk; omega

/-- A slice value that reads as a list of integers. -/
def IL (w : World) (v : Value) (zs : List Int) : Prop := ∃ (A : Option Addr) (c : Nat), v = .slice A zs.length c ∧ zs.length ≤ c ∧ (0 < zs.length → ∃ a, A = some a ∧ a.block < w.heap.size ∧ ∀ j, j < zs.length → w.cell? (a.add j) = some (.int .i64 (zs.getD j 0)))
theorem IL.nil (w : World) : IL w (.slice none 0 0) [] := ⟨none, 0, rfl, Nat.le_refl _, fun h => absurd h (by simp)⟩
theorem IL.below {w w' : World} {v : Value} {l : List Int} (h : IL w v l) (hb : Below w.heap.size w w') : IL w' v l := by
  obtain ⟨A, c, rfl, hc, h⟩ := h
  exact ⟨A, c, rfl, hc, fun hl => by
    obtain ⟨a, ha, hlt, hs⟩ := h hl
    exact ⟨a, ha, Nat.lt_of_lt_of_le hlt hb.size, fun j hj => by rw [hb.cell (by rw [block_of_add]; exact hlt)]; exact hs j hj⟩⟩
def icells (l : List Int) : List Value := l.map (Value.int .i64)
theorem IL.of_own {w : World} {base : Nat} {t : TypeId} {v : Value} {n : Nat} {l : List Int} (h : w.ownsRow base t 1 v n (icells l)) : IL w v l := by
  have hl : l.length = n := by have := h.1; simpa [icells] using this
  obtain ⟨_, h2⟩ := h
  have h0 := h2
  rcases h2 with ⟨rfl, h2⟩ | ⟨g, cap, cur, rfl, hg, hh, hnc, _⟩
  · have : l = [] := List.eq_nil_of_length_eq_zero (by omega)
    subst this
    exact IL.nil w
  · refine ⟨some ⟨g, 0, none⟩, cap, by rw [hl], by omega, fun hp => ⟨⟨g, 0, none⟩, rfl, ?_, fun j hj => ?_⟩⟩
    · rcases Nat.lt_or_ge g w.heap.size with hlt | hge
      · exact hlt
      · rw [Array.getElem?_eq_none hge] at hh; cases hh
    · have := World.ownsRow.cells (g := g) (w := w) (base := base) (e := t) (size := 1) (n := n) (xs := icells l) ⟨by simpa [icells] using hl, h0⟩ rfl j (.int .i64 (l.getD j 0)) (by
        simp [icells, List.getD_eq_getElem?_getD, List.getElem?_eq_getElem hj])
      exact this
/-- A row grown by an append of the call's own. -/
theorem below_grown {w w2 w3 : World} {base : Nat} {e : TypeId} {size : Nat} {v : Value} {n : Nat} {xs : List Value} {o : Obj} (h : Below base w w2) (hs : base ≤ w2.heap.size) (hown : w2.ownsRow base e size v n xs) (hg : (w2.alloc o).grownBy w3 v.ownBlock) : Below base w w3 :=
  (h.alloc hs _).grown hg (Nat.le_trans hs (by simp)) (fun q hq => own_block hown q hq)

end Go.Proofs.YtbjcbndmafddoaaDoor
