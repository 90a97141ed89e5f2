/-
  Rational numbers in plain Lean: Make. No program in sight.
-/
import Derived.Test.YtbaalbmchhgmnaaDoorSpec
namespace Go.Proofs.YtbaalbmchhgmnaaDoor
open Go.RowKit
set_option linter.unusedVariables false

/-- A quotient in lowest terms as a rational number, if it fits: numerator, denominator, error. -/
def ratF (neg : Bool) (p q : Nat) : Int × Int × Int :=
  if (if neg = true then 9223372036854775808 else 9223372036854775807) < p ∨ 9223372036854775807 < q then (0, 0, 3) else (if neg = true then -(p : Int) else p, q, 0)
def sgn (n d : Int) : Bool := decide (n < 0) != decide (d < 0)
/-- What Make returns. -/
def mk (n d : Int) : Int × Int × Int := if d = 0 then (0, 0, 4) else ratF (sgn n d) (n.natAbs / Nat.gcd n.natAbs d.natAbs) (d.natAbs / Nat.gcd n.natAbs d.natAbs)
/-- A quotient of natural numbers, with a sign. -/
def quoR (neg : Bool) (a b : Nat) : Int × Int × Int := ratF neg (a / Nat.gcd a b) (b / Nat.gcd a b)
/-- A rational number and an error, as results. -/
def ret3r (r : Int × Int × Int) : Ending := .returned (.tuple #[.agg #[.int .i64 r.1, .int .i64 r.2.1], .int .i64 r.2.2])

end Go.Proofs.YtbaalbmchhgmnaaDoor
