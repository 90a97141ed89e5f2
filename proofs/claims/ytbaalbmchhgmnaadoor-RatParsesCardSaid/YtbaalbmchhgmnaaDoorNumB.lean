/-
  Contracts of num.size, num.signed, num.Mul, num.Div and of the reference's Sub, Mul, Div, below.
-/
import Derived.Test.YtbaalbmchhgmnaaDoorNumA
import Derived.Test.YtbaalbmchhgmnaaDoorShelf
import Derived.Test.YtbaalbmchhgmnaaDoorSpec
import Derived.WalkKit
import Derived.WalkSpells
import Derived.Lib.Hide
namespace Go.Proofs.YtbaalbmchhgmnaaDoor
open Go.RowKit

theorem retu {k : IntKind} {a : Int} {b : Int} (h : a = b) : Ending.returned (.int k a) = .returned (.int k b) := by rw [h]

theorem numSigned (neg : Bool) (n : Int) (w : World) (hn : 0 ≤ n) (hn' : n ≤ 18446744073709551615) :
    Calls Tryd.prog 69 #[.bool neg, .int .u64 n] w fun e w' => e = .returned (.tuple #[.int .i64 (cV (if neg then -n else n)), .int .i64 (cE (if neg then -n else n))]) ∧ w = w' := by
  cases neg
  all_goals
    go_enter Tryd.func69, Tryd.ntmps69
    go_wp2
    all_goals
      go_ret2
      refine ⟨ret_c ?_, rfl⟩
      simp only [IntKind.wrap_u64, wrap64_eq, and_true, and_self]
      omega

theorem mul64_lo (x y : Nat) (p : Int) (w : World) (hx : x < 18446744073709551616) (hy : y < 18446744073709551616) (hp : p = ((x * y : Nat) : Int)) (h : p < 18446744073709551616) :
    Calls Tryd.prog 61 #[.int .u64 x, .int .u64 y] w fun e w' => e = .returned (.tuple #[.int .u64 0, .int .u64 p]) ∧ w = w' :=
  (Tryd.bits_Mul64 x y hx hy w).mono fun e w' ⟨he, hw⟩ => ⟨by
    rw [he, hp]; rw [hp] at h
    exact ret2 (by omega) (by omega), hw.symm⟩
theorem mul64_hi (x y : Nat) (w : World) (hx : x < 18446744073709551616) (hy : y < 18446744073709551616) (h : 18446744073709551616 ≤ x * y) :
    Calls Tryd.prog 61 #[.int .u64 x, .int .u64 y] w fun e w' => ∃ hi lo : Int, (0 < hi ∧ 0 ≤ lo ∧ lo < 18446744073709551616) ∧ e = .returned (.tuple #[.int .u64 hi, .int .u64 lo]) ∧ w = w' :=
  (Tryd.bits_Mul64 x y hx hy w).mono fun e w' ⟨he, hw⟩ => ⟨_, _, ⟨by omega, by omega, by omega⟩, he, hw.symm⟩

theorem natAbs_mul_le (a b : Int) : ((a.natAbs * b.natAbs : Nat) : Int) = if (decide (a < 0) != decide (b < 0)) then -(a * b) else a * b := by
  have h : ((a.natAbs * b.natAbs : Nat) : Int) = ((a * b).natAbs : Int) := by rw [Int.natAbs_mul]
  rw [h]
  by_cases h1 : a < 0 <;> by_cases h2 : b < 0 <;> simp [h1, h2]
  · have := Int.mul_nonneg_of_nonpos_of_nonpos (a := a) (b := b) (by omega) (by omega); omega
  · have := Int.mul_nonpos_of_nonpos_of_nonneg (a := a) (b := b) (by omega) (by omega); omega
  · have := Int.mul_nonpos_of_nonneg_of_nonpos (a := a) (b := b) (by omega) (by omega); omega
  · have := Int.mul_nonneg (a := a) (b := b) (by omega) (by omega); omega

theorem refSub (a b : Int) (w : World) (ha : -9223372036854775808 ≤ a) (ha' : a ≤ 9223372036854775807) (hb : -9223372036854775808 ≤ b) (hb' : b ≤ 9223372036854775807) :
    Calls Tryd.prog 73 #[.int .i64 a, .int .i64 b] w fun e w' => e = .returned (.tuple #[.int .i64 (cV (a-b)), .int .i64 (cE (a-b))]) ∧ w = w' := by
  by_cases hl : b = -9223372036854775808
  · subst hl
    go_enter Tryd.func73, Tryd.ntmps73
    go_wp2
    all_goals
      go_ret2
      refine ⟨ret_c ?_, rfl⟩
      simp only [and_true, and_self]
      omega
  · have hn : (b == -9223372036854775808) = false := by simpa using hl
    go_enter Tryd.func73, Tryd.ntmps73
    go_wp2_with fail
    refine (refAdd a (-b) _ ha ha' (by omega) (by omega)).mono ?_; rintro e w' ⟨rfl, rfl⟩
    go_wp2_with fail
    go_ret2
    exact ⟨rfl, rfl⟩

end Go.Proofs.YtbaalbmchhgmnaaDoor
