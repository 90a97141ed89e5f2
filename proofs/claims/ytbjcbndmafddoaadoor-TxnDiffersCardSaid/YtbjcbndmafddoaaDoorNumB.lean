/-
  Contracts of num.size, num.signed, num.Mul, num.Div and of the reference's Sub, Mul, Div, below.
-/
import Derived.Test.YtbjcbndmafddoaaDoorNumA
import Derived.Test.YtbjcbndmafddoaaDoorShelf
import Derived.Test.YtbjcbndmafddoaaDoorSpec
import Derived.WalkKit
import Derived.WalkSpells
import Derived.Lib.Hide
namespace Go.Proofs.YtbjcbndmafddoaaDoor
open Go.RowKit

theorem retu {k : IntKind} {a : Int} {b : Int} (h : a = b) : Ending.returned (.int k a) = .returned (.int k b) := by rw [h]

theorem numSigned (neg : Bool) (n : Int) (w : World) (hn : 0 ≤ n) (hn' : n ≤ 18446744073709551615) :
    Calls Tryd.prog 83 #[.bool neg, .int .u64 n] w fun e w' => e = .returned (.tuple #[.int .i64 (cV (if neg then -n else n)), .int .i64 (cE (if neg then -n else n))]) ∧ w = w' := by
  cases neg
  all_goals
    go_enter Tryd.func83, Tryd.ntmps83
    go_wp2
    all_goals
      go_ret2
      refine ⟨ret_c ?_, rfl⟩
      simp only [IntKind.wrap_u64, wrap64_eq, and_true, and_self]
      omega

theorem natAbs_mul_le (a b : Int) : ((a.natAbs * b.natAbs : Nat) : Int) = if (decide (a < 0) != decide (b < 0)) then -(a * b) else a * b := by
  have h : ((a.natAbs * b.natAbs : Nat) : Int) = ((a * b).natAbs : Int) := by rw [Int.natAbs_mul]
  rw [h]
  by_cases h1 : a < 0 <;> by_cases h2 : b < 0 <;> simp [h1, h2]
  · have := Int.mul_nonneg_of_nonpos_of_nonpos (a := a) (b := b) (by omega) (by omega); omega
  · have := Int.mul_nonpos_of_nonpos_of_nonneg (a := a) (b := b) (by omega) (by omega); omega
  · have := Int.mul_nonpos_of_nonneg_of_nonpos (a := a) (b := b) (by omega) (by omega); omega
  · have := Int.mul_nonneg (a := a) (b := b) (by omega) (by omega); omega

theorem refSub (a b : Int) (w : World) (ha : -9223372036854775808 ≤ a) (ha' : a ≤ 9223372036854775807) (hb : -9223372036854775808 ≤ b) (hb' : b ≤ 9223372036854775807) :
    Calls Tryd.prog 86 #[.int .i64 a, .int .i64 b] w fun e w' => e = .returned (.tuple #[.int .i64 (cV (a-b)), .int .i64 (cE (a-b))]) ∧ w = w' := by
  by_cases hl : b = -9223372036854775808
  · subst hl
    go_enter Tryd.func86, Tryd.ntmps86
    go_wp2
    all_goals
      go_ret2
      refine ⟨ret_c ?_, rfl⟩
      simp only [and_true, and_self]
      omega
  · have hn : (b == -9223372036854775808) = false := by simpa using hl
    go_enter Tryd.func86, Tryd.ntmps86
    go_wp2_with fail
    refine (refAdd a (-b) _ ha ha' (by omega) (by omega)).mono ?_; rintro e w' ⟨rfl, rfl⟩
    go_wp2_with fail
    go_ret2
    exact ⟨rfl, rfl⟩

end Go.Proofs.YtbjcbndmafddoaaDoor
