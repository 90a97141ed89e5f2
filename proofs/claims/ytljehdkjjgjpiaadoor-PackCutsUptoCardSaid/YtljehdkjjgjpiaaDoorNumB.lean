/-
  Contracts of num.size, num.signed, num.Mul, num.Div and of the reference's Sub, Mul, Div, below.
-/
import Derived.Test.YtljehdkjjgjpiaaDoorNumA
import Derived.Test.YtljehdkjjgjpiaaDoorShelf
import Derived.Test.YtljehdkjjgjpiaaDoorSpec
import Derived.WalkKit
import Derived.WalkSpells
import Derived.Lib.Hide
namespace Go.Proofs.YtljehdkjjgjpiaaDoor
open Go.RowKit

theorem retu {k : IntKind} {a : Int} {b : Int} (h : a = b) : Ending.returned (.int k a) = .returned (.int k b) := by rw [h]

theorem numSigned (neg : Bool) (n : Int) (w : World) (hn : 0 ≤ n) (hn' : n ≤ 18446744073709551615) :
    Calls Tryd.prog 39 #[.bool neg, .int .u64 n] w fun e w' => e = .returned (.tuple #[.int .i64 (cV (if neg then -n else n)), .int .i64 (cE (if neg then -n else n))]) ∧ w = w' := by
  cases neg
  all_goals
    go_enter Tryd.func39, Tryd.ntmps39
    go_wp2
    all_goals
      go_ret2
      refine ⟨ret_c ?_, rfl⟩
      simp only [IntKind.wrap_u64, wrap64_eq, and_true, and_self]
      omega

theorem natAbs_mul_le (a b : Int) : ((a.natAbs * b.natAbs : Nat) : Int) = if (decide (a < 0) != decide (b < 0)) then -(a * b) else a * b := by
  have h : ((a.natAbs * b.natAbs : Nat) : Int) = ((a * b).natAbs : Int) := by rw [Int.natAbs_mul]
  rw [h]
  by_cases h1 : a < 0 <;> by_cases h2 : b < 0 <;> simp [h1, h2]
  · have := Int.mul_nonneg_of_nonpos_of_nonpos (a := a) (b := b) (by omega) (by omega); omega
  · have := Int.mul_nonpos_of_nonpos_of_nonneg (a := a) (b := b) (by omega) (by omega); omega
  · have := Int.mul_nonpos_of_nonneg_of_nonpos (a := a) (b := b) (by omega) (by omega); omega
  · have := Int.mul_nonneg (a := a) (b := b) (by omega) (by omega); omega

end Go.Proofs.YtljehdkjjgjpiaaDoor
