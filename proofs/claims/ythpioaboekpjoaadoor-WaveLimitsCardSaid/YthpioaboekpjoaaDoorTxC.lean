/-
  Contract of txn.Diff.
  Contract of txn.Diff.
  Contract of the reference's Diff.
-/
import Derived.Test.YthpioaboekpjoaaDoorTxB
import Derived.RangeFuncBox
namespace Go.Proofs.YthpioaboekpjoaaDoor
section
open Go.RowKit
set_option linter.unusedVariables false
set_option linter.unusedSimpArgs false

/-- A name is added, if it is not there. -/
def addU (out : List ByteArray) (s : ByteArray) : List ByteArray := if Lib.containsS out s = true then out else out ++ [s]
def dif1 (ns : List ByteArray) (zs : List Int) (ms : List ByteArray) (ys : List Int) (out : List ByteArray) (s : ByteArray) : List ByteArray := if getT ns zs s ≠ getT ms ys s then addU out s else out
def dif2 (ns : List ByteArray) (out : List ByteArray) (s : ByteArray) : List ByteArray := if Lib.containsS ns s = true then out else addU out s
def difT (ns : List ByteArray) (zs : List Int) (ms : List ByteArray) (ys : List Int) : List ByteArray := ms.foldl (dif2 ns) (ns.foldl (dif1 ns zs ms ys) [])
theorem addU_len (out : List ByteArray) (s : ByteArray) : (addU out s).length ≤ out.length + 1 := by unfold addU; split <;> simp
theorem fold_snoc {α β : Type} (f : β → α → β) (b : β) (l : List α) (k : Nat) (d : α) (h : k < l.length) : (l.take (k + 1)).foldl f b = f ((l.take k).foldl f b) (l.getD k d) := by
  rw [take_snocD l k d h, List.foldl_append]; rfl
theorem dif1_len (ns : List ByteArray) (zs : List Int) (ms : List ByteArray) (ys : List Int) (out : List ByteArray) (s : ByteArray) : (dif1 ns zs ms ys out s).length ≤ out.length + 1 := by
  unfold dif1; split
  · exact addU_len _ _
  · omega
theorem dif2_len (ns : List ByteArray) (out : List ByteArray) (s : ByteArray) : (dif2 ns out s).length ≤ out.length + 1 := by
  unfold dif2; split
  · omega
  · exact addU_len _ _
theorem fold_len {f : List ByteArray → ByteArray → List ByteArray} (hf : ∀ o s, (f o s).length ≤ o.length + 1) : ∀ (l : List ByteArray) (o : List ByteArray), (l.foldl f o).length ≤ o.length + l.length
  | [], o => by simp
  | s :: l, o => by
    rw [List.foldl_cons]
    have h1 := fold_len hf l (f o s)
    have h2 := hf o s
    simp only [List.length_cons]; omega

theorem setCell_kept {w : World} {g base : Nat} {e : TypeId} {size : Nat} {v u : Value} {n : Nat} {xs : List Value} (h : w.ownsRow base e size v n xs) (hg : g < base) : (w.setCell ⟨g, 0, none⟩ u).ownsRow base e size v n xs :=
  h.kept (grownBy_setCell' w g u) (.inr fun e => by have := own_block h g e; omega)

/-- What the closure leaves behind. -/
def ADD (w : World) (g base : Nat) (out : List ByteArray) (e : Ending) (w' : World) : Prop :=
  e = .returned (.tuple #[]) ∧ ∃ v, Box w' g #[v] 23 ∧ w'.ownsRow base 9 1 v out.length (scells out) ∧ Below g w w'
end

section
open Go.RowKit
set_option linter.unusedVariables false
set_option linter.unusedSimpArgs false

theorem Box.belowB {w w' : World} {g B : Nat} {cs : Array Value} {t : TypeId} (h : Box w g cs t) (hb : Below B w w') (hlt : g < B) : Box w' g cs t := (hb.block g hlt).trans h
theorem get_ways (p q : Int × Bool) : p = q ∨ (p ≠ q ∧ ((p.2 = true ∧ q.2 = false) ∨ (p.2 = false ∧ q.2 = true) ∨ (p.2 = q.2 ∧ (p.1 != q.1) = true))) := by
  obtain ⟨a, b⟩ := p; obtain ⟨c, d⟩ := q
  by_cases e : b = d
  · by_cases e2 : a = c
    · left; rw [e, e2]
    · right; exact ⟨fun h => e2 (Prod.mk.inj h).1, .inr (.inr ⟨e, by simpa using e2⟩)⟩
  · right; refine ⟨fun h => e (Prod.mk.inj h).2, ?_⟩
    cases b <;> cases d <;> simp at e ⊢
end

section
open Go.RowKit
set_option linter.unusedVariables false
set_option linter.unusedSimpArgs false

theorem contains_idx (l : List ByteArray) (s : ByteArray) : Lib.containsS l s = decide (0 ≤ Lib.idxOfS l s) := rfl
theorem news1 {w : World} {t : TypeId} {x : Value} : ∀ j u, ([x] : List Value)[j]? = some u → (w.alloc (.cells #[x] t)).cell? ((⟨w.heap.size, 0, none⟩ : Addr).add j) = some u := by
  intro j u hj
  rw [add_none, Nat.zero_add]
  have := heap_alloc_new w (.cells #[x] t)
  rw [cell_of_row _ _ _ #[x] t (0, 0) this]
  simpa using hj
theorem scells_snoc (o : List ByteArray) (s : ByteArray) : scells (o ++ [s]) = scells o ++ [.string s] := by simp [scells]

theorem get_ways2 (p q : Int × Bool) : p = q ∨ (p ≠ q ∧ ((p.1 != q.1) = true ∨ (p.1 = q.1 ∧ p.2 = true ∧ q.2 = false) ∨ (p.1 = q.1 ∧ p.2 = false ∧ q.2 = true))) := by
  obtain ⟨a, b⟩ := p; obtain ⟨c, d⟩ := q
  by_cases e : a = c
  · by_cases e2 : b = d
    · left; rw [e, e2]
    · right; refine ⟨fun h => e2 (Prod.mk.inj h).2, .inr ?_⟩
      cases b <;> cases d <;> simp at e2 ⊢ <;> exact e
  · right; exact ⟨fun h => e (Prod.mk.inj h).1, .inl (by simpa using e)⟩
end
end Go.Proofs.YthpioaboekpjoaaDoor
