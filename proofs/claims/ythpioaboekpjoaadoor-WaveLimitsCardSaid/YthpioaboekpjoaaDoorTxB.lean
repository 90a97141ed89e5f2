/-
  Contracts of Env, of txn and of its reference.
  Contracts of Same, of txn and of its reference.
  Contracts of the reference's Same, of the law's own functions strings and Few.
-/
import Derived.Test.YthpioaboekpjoaaDoorTxA
import Derived.Test.YthpioaboekpjoaaDoorGens
namespace Go.Proofs.YthpioaboekpjoaaDoor
section
open Go.RowKit
set_option linter.unusedVariables false
set_option linter.unusedSimpArgs false

/-- The signals of a transaction. -/
def envT (ns : List ByteArray) (zs : List Int) : List Pr := if txV ns zs = true then prs ns zs else []
theorem txv_lens {ns : List ByteArray} {zs : List Int} (h : txV ns zs = true) : ns.length = zs.length ∧ ns.length ≤ 128 := by
  have := of_decide_eq_true h; exact ⟨this.1, this.2.1⟩
end

section
open Go.RowKit
set_option linter.unusedVariables false
set_option linter.unusedSimpArgs false

def fPL (j : Nat) (D : List Nat) (l : List Pr) : FOp := ⟨j, D, fun v => ∃ A c, v = .slice A l.length c, fun v w => PL w v l⟩
theorem fPL_st (j : Nat) (D : List Nat) (l : List Pr) : ∀ v w w', (fPL j D l).Φ v w → Below w.heap.size w w' → (fPL j D l).Φ v w' := fun v w w' h hb => PL.below h hb
theorem fPL_kn (j : Nat) (D : List Nat) (l : List Pr) : (∀ u w, (fPL j D l).Φ u w → (fPL j D l).S u) ∧ ∃ u, (fPL j D l).S u := ⟨fun u w ⟨A, c, h, _⟩ => ⟨A, c, h⟩, .slice none _ 0, none, 0, rfl⟩
def sameT (ns : List ByteArray) (zs : List Int) (ms : List ByteArray) (ys : List Int) : Bool := decide (ns = ms) && decide (zs = ys)
theorem pr_ne {a b : Pr} (h : a ≠ b) : (a.1.toList == b.1.toList) = false ∨ (a.1 = b.1 ∧ (a.2 == b.2) = false) := by
  obtain ⟨s, z⟩ := a; obtain ⟨t, y⟩ := b
  by_cases e : s = t
  · right; exact ⟨e, by simpa using fun h2 => h (by rw [e, h2])⟩
  · left; exact (str_ne e).1
end

section
open Go.RowKit
set_option linter.unusedVariables false
set_option linter.unusedSimpArgs false

theorem list_eq_of {α : Type} {l m : List α} (d : α) (hl : l.length = m.length) (h : ∀ j, j < l.length → l.getD j d = m.getD j d) : l = m := by
  refine List.ext_getElem hl fun j h1 h2 => ?_
  have := h j h1
  rwa [List.getD_eq_getElem?_getD, List.getD_eq_getElem?_getD, List.getElem?_eq_getElem h1, List.getElem?_eq_getElem h2] at this

/-- At most 140 names of at most 40 bytes, and at most 140 values. -/
def Few (ns : List ByteArray) (zs : List Int) : Prop := ns.length ≤ 140 ∧ zs.length ≤ 140 ∧ ∀ s ∈ ns, s.size ≤ 40
instance (ns : List ByteArray) (zs : List Int) : Decidable (Few ns zs) := by unfold Few; infer_instance
end
end Go.Proofs.YthpioaboekpjoaaDoor
