/-
  Contract of the reference's Set.
-/
import Derived.Test.YtbjcbndmafddoaaGreatDoorTxnN
namespace Go.Proofs.YtbjcbndmafddoaaGreatDoor
open Go.RowKit
set_option linter.unusedVariables false
set_option linter.unusedSimpArgs false

theorem set_take {zs : List Int} {k j : Nat} {v : Int} (hj : j < zs.length) : (zs.set k v).take (j + 1) = (zs.set k v).take j ++ [if j = k then v else zs.getD j 0] := by
  rw [take_snocD _ j 0 (by simpa using hj), set_getD _ _ _ _ hj]

end Go.Proofs.YtbjcbndmafddoaaGreatDoor
