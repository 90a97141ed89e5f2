/-
  Contracts of the small functions of package num and of its reference (one walk each).
-/
import Derived.Test.YtljehdkjjgjpiaaDoorRows
import Derived.Test.YtljehdkjjgjpiaaDoorSpec
import Derived.WalkKit
import Derived.WalkSpells
import Derived.Lib.Hide
namespace Go.Proofs.YtljehdkjjgjpiaaDoor
open Go.RowKit

end Go.Proofs.YtljehdkjjgjpiaaDoor
