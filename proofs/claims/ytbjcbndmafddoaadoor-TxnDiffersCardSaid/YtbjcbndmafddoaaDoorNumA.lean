/-
  Contracts of the small functions of package num and of its reference (one walk each).
-/
import Derived.Test.YtbjcbndmafddoaaDoorRows
import Derived.Test.YtbjcbndmafddoaaDoorSpec
import Derived.WalkKit
import Derived.WalkSpells
import Derived.Lib.Hide
namespace Go.Proofs.YtbjcbndmafddoaaDoor
open Go.RowKit

theorem refAdd (a b : Int) (w : World) (ha : -9223372036854775808 ≤ a) (ha' : a ≤ 9223372036854775807) (hb : -9223372036854775808 ≤ b) (hb' : b ≤ 9223372036854775807) :
    Calls Tryd.prog 101 #[.int .i64 a, .int .i64 b] w fun e w' => e = .returned (.tuple #[.int .i64 (cV (a+b)), .int .i64 (cE (a+b))]) ∧ w = w' := by
  go_enter Tryd.func101, Tryd.ntmps101
  go_wp2
  all_goals
    go_ret2
    refine ⟨ret_c ?_, rfl⟩
    simp only [wrap64_eq] at *
    simp at *
    omega

end Go.Proofs.YtbjcbndmafddoaaDoor
