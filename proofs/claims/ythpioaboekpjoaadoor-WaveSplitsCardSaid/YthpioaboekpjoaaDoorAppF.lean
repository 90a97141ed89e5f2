/-
  Append as a fresh operation of a drawn region. No program in sight.
-/
import Derived.Test.YthpioaboekpjoaaDoorLate
namespace Go.Proofs.YthpioaboekpjoaaDoor
open Go.RowKit
set_option linter.unusedVariables false
set_option linter.unusedSimpArgs false

section
variable {P : Program} {Φ : Value → World → Prop}
theorem append_kind {o : Oper} {s x : Operand} {t : TypeId} (ho : o.op = .call { callee := .builtin .append, args := #[s, x], argTypes := #[t, t] }) (a : Act) (w : World) :
    (∃ u w', (execOp a.eval o).run P w = .ok (.value u) w') ∨ ∃ x w', (execOp a.eval o).run P w = .halt x w' := by
  have e : ∃ r : Result Value, (execOp a.eval o).run P w = Result.andThen r (fun u w' => .ok (.value u) w') := by
    refine ⟨(Builtin.append_ #[t, t] o.type (#[s, x].map a.eval)).run P w, ?_⟩
    simp [execOp, ho, resolve, invoke, builtin]
  obtain ⟨r, e⟩ := e
  rw [e]
  cases r with
  | ok u w' => exact .inl ⟨u, w', rfl⟩
  | halt y w' => exact .inr ⟨y, w', rfl⟩
theorem fresh_of_list {o : Oper} {a : Act} {w : World} {d : Nat} (hg : o.guard = none) (hd : o.dst = some d) (hdb : d < a.tmps.size) (hv : (∃ u w', (execOp a.eval o).run P w = .ok (.value u) w') ∨ ∃ x w', (execOp a.eval o).run P w = .halt x w')
    (h : ∀ (Q : Exit → Act → World → Prop), (∀ v' w', Φ v' w' → Below w.heap.size w w' → Q .normal (a.put o.dst v') w') → wpList P #[] Q [o] a w) : FreshUpon P Φ w ((execOp a.eval o).run P w) := by
  have H := h (noQ fun _ a' w' => ∃ v', a' = a.put o.dst v' ∧ Φ v' w' ∧ Below w.heap.size w w') (fun v' w' h1 h2 => ⟨rfl, v', rfl, h1, h2⟩)
  unfold wpList at H
  have hw : Region.wanted o (yielded #[] a.tmps) = true := by unfold Region.wanted; rw [hg]
  rw [if_pos hw] at H
  rcases H with H | ⟨_, H⟩
  · unfold Oper.wp at H
    rcases hv with ⟨u, w', e⟩ | ⟨x, w', e⟩
    · rw [e] at H ⊢
      simp only [Oper.upon, wpList] at H
      obtain ⟨_, v', h1, h2, h3⟩ := H
      have : u = v' := by
        rw [hd] at h1
        have := congrArg (fun a : Act => a.tmps[d]?) h1
        simpa [Act.put, hdb] using this
      subst this
      exact ⟨h2, h3⟩
    · rw [e] at H
      cases x <;> simp only [Oper.upon] at H
      exact absurd H.1 (by intro h; cases h)
  · exact absurd H noQ_lets
end

end Go.Proofs.YthpioaboekpjoaaDoor
