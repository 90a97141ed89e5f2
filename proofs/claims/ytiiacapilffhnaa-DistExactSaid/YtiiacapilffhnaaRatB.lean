/-
  Contracts of rat.Valid, both, times, less, plus.
-/
import Derived.Test.YtiiacapilffhnaaRatA
import Derived.Test.YtiiacapilffhnaaRatLaw
namespace Go.Proofs.Ytiiacapilffhnaa
open Go.RowKit
set_option linter.unusedVariables false
set_option linter.unusedSimpArgs false

end Go.Proofs.Ytiiacapilffhnaa
