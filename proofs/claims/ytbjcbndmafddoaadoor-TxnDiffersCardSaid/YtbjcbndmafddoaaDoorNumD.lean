/-
  Contracts of num.divisor, of both Gcd and both Lcm.
-/
import Derived.Test.YtbjcbndmafddoaaDoorNumC
import Derived.LoopTactic
import Derived.RegionTactic
import Derived.ChangeAlike
import Derived.Deep.QuietTactic
import Derived.BigQuiet
namespace Go.Proofs.YtbjcbndmafddoaaDoor
open Go.RowKit

theorem gcd_pos {a b : Int} (ha : a ≠ 0) : 0 < Int.gcd a b := Int.gcd_pos_of_ne_zero_left b ha
theorem lcm_natAbs (a b : Int) : a.natAbs / Nat.gcd a.natAbs b.natAbs * b.natAbs = Int.lcm a b := by
  show _ = a.natAbs * b.natAbs / Nat.gcd a.natAbs b.natAbs
  rw [Nat.mul_comm a.natAbs b.natAbs, Nat.mul_div_assoc _ (Nat.gcd_dvd_left _ _), Nat.mul_comm]

end Go.Proofs.YtbjcbndmafddoaaDoor
