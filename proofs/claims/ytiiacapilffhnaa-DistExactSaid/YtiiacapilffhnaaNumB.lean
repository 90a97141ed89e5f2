/-
  Contracts of num.size, num.signed, num.Mul, num.Div and of the reference's Sub, Mul, Div, below.
-/
import Derived.Test.YtiiacapilffhnaaNumA
import Derived.Test.YtiiacapilffhnaaShelf
import Derived.Test.YtiiacapilffhnaaSpec
import Derived.WalkKit
import Derived.WalkSpells
import Derived.Lib.Hide
namespace Go.Proofs.Ytiiacapilffhnaa
open Go.RowKit

theorem retu {k : IntKind} {a : Int} {b : Int} (h : a = b) : Ending.returned (.int k a) = .returned (.int k b) := by rw [h]

theorem numSize (a : Int) (w : World) (ha : -9223372036854775808 ≤ a) (ha' : a ≤ 9223372036854775807) :
    Calls Try.prog 66 #[.int .i64 a] w fun e w' => e = .returned (.int .u64 (a.natAbs : Int)) ∧ w = w' := by
  go_enter Try.func66, Try.ntmps66
  go_wp2
  all_goals
    go_ret
    refine ⟨ret1 ?_, rfl⟩
    try simp only [IntKind.wrap_u64]
    omega

theorem numSigned (neg : Bool) (n : Int) (w : World) (hn : 0 ≤ n) (hn' : n ≤ 18446744073709551615) :
    Calls Try.prog 68 #[.bool neg, .int .u64 n] w fun e w' => e = .returned (.tuple #[.int .i64 (cV (if neg then -n else n)), .int .i64 (cE (if neg then -n else n))]) ∧ w = w' := by
  cases neg
  all_goals
    go_enter Try.func68, Try.ntmps68
    go_wp2
    all_goals
      go_ret2
      refine ⟨ret_c ?_, rfl⟩
      simp only [IntKind.wrap_u64, wrap64_eq, and_true, and_self]
      omega

theorem mul64_lo (x y : Nat) (p : Int) (w : World) (hx : x < 18446744073709551616) (hy : y < 18446744073709551616) (hp : p = ((x * y : Nat) : Int)) (h : p < 18446744073709551616) :
    Calls Try.prog 65 #[.int .u64 x, .int .u64 y] w fun e w' => e = .returned (.tuple #[.int .u64 0, .int .u64 p]) ∧ w = w' :=
  (Try.bits_Mul64 x y hx hy w).mono fun e w' ⟨he, hw⟩ => ⟨by
    rw [he, hp]; rw [hp] at h
    exact ret2 (by omega) (by omega), hw.symm⟩
theorem mul64_hi (x y : Nat) (w : World) (hx : x < 18446744073709551616) (hy : y < 18446744073709551616) (h : 18446744073709551616 ≤ x * y) :
    Calls Try.prog 65 #[.int .u64 x, .int .u64 y] w fun e w' => ∃ hi lo : Int, (0 < hi ∧ 0 ≤ lo ∧ lo < 18446744073709551616) ∧ e = .returned (.tuple #[.int .u64 hi, .int .u64 lo]) ∧ w = w' :=
  (Try.bits_Mul64 x y hx hy w).mono fun e w' ⟨he, hw⟩ => ⟨_, _, ⟨by omega, by omega, by omega⟩, he, hw.symm⟩

theorem natAbs_mul_le (a b : Int) : ((a.natAbs * b.natAbs : Nat) : Int) = if (decide (a < 0) != decide (b < 0)) then -(a * b) else a * b := by
  have h : ((a.natAbs * b.natAbs : Nat) : Int) = ((a * b).natAbs : Int) := by rw [Int.natAbs_mul]
  rw [h]
  by_cases h1 : a < 0 <;> by_cases h2 : b < 0 <;> simp [h1, h2]
  · have := Int.mul_nonneg_of_nonpos_of_nonpos (a := a) (b := b) (by omega) (by omega); omega
  · have := Int.mul_nonpos_of_nonpos_of_nonneg (a := a) (b := b) (by omega) (by omega); omega
  · have := Int.mul_nonpos_of_nonneg_of_nonpos (a := a) (b := b) (by omega) (by omega); omega
  · have := Int.mul_nonneg (a := a) (b := b) (by omega) (by omega); omega

theorem numMul (a b : Int) (w : World) (ha : -9223372036854775808 ≤ a) (ha' : a ≤ 9223372036854775807) (hb : -9223372036854775808 ≤ b) (hb' : b ≤ 9223372036854775807) :
    Calls Try.prog 60 #[.int .i64 a, .int .i64 b] w fun e w' => e = .returned (.tuple #[.int .i64 (cV (a*b)), .int .i64 (cE (a*b))]) ∧ w = w' := by
  have hx : a.natAbs < 18446744073709551616 := by omega
  have hy : b.natAbs < 18446744073709551616 := by omega
  have hm := natAbs_mul_le a b
  by_cases h : a.natAbs * b.natAbs < 18446744073709551616
  · obtain ⟨p, hp⟩ : ∃ p : Int, p = ((a.natAbs * b.natAbs : Nat) : Int) := ⟨_, rfl⟩
    have hp0 : 0 ≤ p := by omega
    have hp1 : p < 18446744073709551616 := by omega
    have HM := Lib.hid hm
    have HP := Lib.hid hp
    clear hm hp h
    go_enter Try.func60, Try.ntmps60
    go_wp2_with fail
    refine (numSize a _ ha ha').mono ?_; rintro e w' ⟨rfl, rfl⟩
    go_wp2_with fail
    refine (numSize b _ hb hb').mono ?_; rintro e w' ⟨rfl, rfl⟩
    go_wp2_with fail
    refine (mul64_lo a.natAbs b.natAbs p _ hx hy HP.out hp1).mono ?_; rintro e w' ⟨rfl, rfl⟩
    go_wp2_with fail
    refine (numSigned _ p _ hp0 (by omega)).mono ?_; rintro e w' ⟨rfl, rfl⟩
    go_wp2_with fail
    · have hs : (decide (a < 0) != decide (b < 0)) = false := by
        have := ‹a < 0 ↔ b < 0›
        simpa using this
      have hm := HM.out
      rw [← HP.out, hs, if_neg (by simp)] at hm
      go_ret2
      rw [hm]; exact ⟨rfl, rfl⟩
    · have hs : (decide (a < 0) != decide (b < 0)) = true := by
        have := ‹¬ (a < 0 ↔ b < 0)›
        simpa using this
      have hm := HM.out
      rw [← HP.out, hs, if_pos rfl] at hm
      go_ret2
      rw [hm, Int.neg_neg]; exact ⟨rfl, rfl⟩
  · have HM := Lib.hid hm
    go_enter Try.func60, Try.ntmps60
    go_wp2_with fail
    refine (numSize a _ ha ha').mono ?_; rintro e w' ⟨rfl, rfl⟩
    go_wp2_with fail
    refine (numSize b _ hb hb').mono ?_; rintro e w' ⟨rfl, rfl⟩
    go_wp2_with fail
    refine (mul64_hi a.natAbs b.natAbs _ hx hy (by omega)).mono ?_; rintro e w' ⟨hi, lo, ⟨h1, h2, h3⟩, rfl, rfl⟩
    have hne : (hi != 0) = true := by simp; omega
    go_wp2_with fail
    have hm := HM.out
    go_ret2
    refine ⟨ret_c (.inr ⟨?_, rfl, rfl⟩), rfl⟩
    split at hm <;> omega

end Go.Proofs.Ytiiacapilffhnaa
