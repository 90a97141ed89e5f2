/-
  Contracts of num.divisor, of both Gcd and both Lcm.
-/
import Derived.Test.YtbaalbmchhgmnaaDoorNumC
import Derived.LoopTactic
import Derived.RegionTactic
import Derived.ChangeAlike
import Derived.Deep.QuietTactic
import Derived.BigQuiet
namespace Go.Proofs.YtbaalbmchhgmnaaDoor
open Go.RowKit

theorem refBelow (a : Int) (w : World) (ha : -9223372036854775808 ≤ a) (ha' : a ≤ 9223372036854775807) :
    Calls Tryd.prog 67 #[.int .i64 a] w fun e w' => e = .returned (.int .i64 (-(a.natAbs : Int))) ∧ w = w' := by
  go_enter Tryd.func67, Tryd.ntmps67
  go_wp2
  all_goals
    go_ret
    refine ⟨ret1 ?_, rfl⟩
    omega

theorem gcd_pos {a b : Int} (ha : a ≠ 0) : 0 < Int.gcd a b := Int.gcd_pos_of_ne_zero_left b ha
theorem lcm_natAbs (a b : Int) : a.natAbs / Nat.gcd a.natAbs b.natAbs * b.natAbs = Int.lcm a b := by
  show _ = a.natAbs * b.natAbs / Nat.gcd a.natAbs b.natAbs
  rw [Nat.mul_comm a.natAbs b.natAbs, Nat.mul_div_assoc _ (Nat.gcd_dvd_left _ _), Nat.mul_comm]

end Go.Proofs.YtbaalbmchhgmnaaDoor
