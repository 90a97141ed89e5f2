/-
  Walk of StoreDecodes.
-/
import Derived.Test.YtbgficaboolgiaaGreatDoorStoHg
import Derived.Test.YtbgficaboolgiaaGreatDoorStoW
namespace Go.Proofs.YtbgficaboolgiaaGreatDoor
open Go.RowKit Go.WideShapes Go.ChangeShapes Go.Deep
set_option linter.unusedVariables false
set_option linter.unusedSimpArgs false

theorem dec_other {s : ByteArray} (h : (decT s).2 ≠ 0) : (decT s).1 = res0 := by
  unfold decT at h ⊢
  split
  · rfl
  · rename_i h1
    rw [if_neg h1] at h
    unfold decB at h ⊢
    split
    · rename_i h2
      rw [if_pos h2] at h
      exact absurd rfl h
    · rfl
/-- The lists of what was decoded are short. -/
theorem decT_small {s : ByteArray} (hs : s.size ≤ 9223372036854775807) : ((decT s).1.pts.length ≤ 9223372036854775807 ∧ ∀ c ∈ (decT s).1.pts, c.length ≤ 9223372036854775807) ∧ ((decT s).1.crs.length ≤ 9223372036854775807 ∧ ∀ c ∈ (decT s).1.crs, c.length ≤ 9223372036854775807) := by
  by_cases h : (decT s).2 = 0
  · obtain ⟨-, h2, -⟩ := decT_back hs h
    obtain ⟨-, -, h3, h4, -⟩ := sto_parts h2
    obtain ⟨a1, a2⟩ := lst_parts h3
    obtain ⟨b1, b2⟩ := lst_parts h4
    exact ⟨⟨by omega, fun c hc => by have := (a2 c hc).1; omega⟩, by omega, fun c hc => by have := (b2 c hc).1; omega⟩
  · rw [dec_other h]
    exact ⟨⟨by decide, fun c hc => by cases hc⟩, by decide, fun c hc => by cases hc⟩

end Go.Proofs.YtbgficaboolgiaaGreatDoor
