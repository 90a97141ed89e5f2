/-
  The examples of the chapter: what awake checks, in plain Lean.
-/
import Derived.Test.YtbgficaboolgiaaGreatDoorStoR
import Derived.Test.YtbgficaboolgiaaGreatDoorStoK
namespace Go.Proofs.YtbgficaboolgiaaGreatDoor
open Go.RowKit
set_option linter.unusedVariables false
set_option linter.unusedSimpArgs false

def rE (d : ByteArray) (x : Nat) (s : ByteArray) : Res := ⟨⟨#[116]⟩, x, d, s, 0, 0, 0, [], [], 0, 0⟩
def l4 : List Res := [rE ⟨#[97]⟩ 1 ⟨#[120]⟩, rE ⟨#[97]⟩ 2 ⟨#[]⟩, rE ⟨#[98]⟩ 1 ⟨#[]⟩, rE ⟨#[98]⟩ 2 ⟨#[120]⟩]
theorem ex_enc : stoB (rE ⟨#[97]⟩ 1 ⟨#[120]⟩) = true := by decide +kernel
theorem ex_dec : decT ⟨#[]⟩ = (res0, 6) := by
  have h : openT ⟨#[]⟩ = (⟨#[]⟩, 6) := rfl
  unfold decT
  rw [h, if_pos (by decide)]
theorem ex_back : decT (encT (rE ⟨#[97]⟩ 1 ⟨#[120]⟩)).1 = (rE ⟨#[97]⟩ 1 ⟨#[120]⟩, 0) := by
  have h : encT (rE ⟨#[97]⟩ 1 ⟨#[120]⟩) = (mkS (sealL (bodyL (rE ⟨#[97]⟩ 1 ⟨#[120]⟩))), 0) := by unfold encT; rw [if_pos ex_enc]
  rw [h]
  exact decT_enc ex_enc (by decide)
theorem ex_enc0 : (encT (rE ⟨#[97]⟩ 1 ⟨#[120]⟩)).2 = 0 := by unfold encT; rw [if_pos ex_enc]
theorem ex_a : (cmpT l4 ⟨#[97]⟩ ⟨#[98]⟩).a = [⟨#[116, 32, 50]⟩] := by decide +kernel
theorem ex_b : (cmpT l4 ⟨#[97]⟩ ⟨#[98]⟩).b = [⟨#[116, 32, 49]⟩] := by decide +kernel
theorem ex_c : (cmpT l4 ⟨#[97]⟩ ⟨#[98]⟩).c = [] := by decide +kernel

end Go.Proofs.YtbgficaboolgiaaGreatDoor
