/-
  Contracts of the reference's Lcm and of both Pow.
-/
import Derived.Test.YtbjcbndmafddoaaDoorNumD
namespace Go.Proofs.YtbjcbndmafddoaaDoor
open Go.RowKit

/-- A power, behind a name. -/
def pw (a : Int) (k : Nat) : Int := a ^ k
theorem pw_zero (a : Int) : pw a 0 = 1 := by simp [pw]
theorem pw_succ (a : Int) (k : Nat) : pw a (k + 1) = pw a k * a := by simp [pw, Int.pow_succ]
theorem pw_natAbs (a : Int) (k : Nat) : (pw a k).natAbs = a.natAbs ^ k := by simp [pw, Int.natAbs_pow]
theorem pw_one (k : Nat) : pw 1 k = 1 := by
  induction k with
  | zero => rfl
  | succ k ih => rw [pw_succ, ih]; rfl
theorem pw_null (k : Nat) (h : k ≠ 0) : pw 0 k = 0 := by
  obtain ⟨j, rfl⟩ : ∃ j, k = j + 1 := ⟨k - 1, by omega⟩
  rw [pw_succ, Int.mul_zero]
theorem pw_minus (k : Nat) : pw (-1) k = 1 - 2 * ((k : Int) % 2) := by
  induction k with
  | zero => rfl
  | succ k ih => rw [pw_succ, ih]; omega
theorem pw_big {a : Int} (h0 : a ≠ 0) (h1 : a ≠ 1) (h2 : a ≠ -1) {k : Nat} (h : 64 ≤ k) : pw a k < -9223372036854775808 ∨ 9223372036854775807 < pw a k := by
  have e := pw_natAbs a k
  have : 2 ^ 64 ≤ a.natAbs ^ k := Nat.le_trans (Nat.pow_le_pow_right (by omega) h) (Nat.pow_le_pow_left (by omega) k)
  omega
theorem pw_no {a : Int} (h0 : a ≠ 0) (h1 : a ≠ 1) (h2 : a ≠ -1) {k n : Nat} (hkn : k ≤ n) (h : pw a k < -9223372036854775808 ∨ 9223372036854775807 < pw a k) :
    pw a n < -9223372036854775808 ∨ 9223372036854775807 < pw a n := by
  by_cases he : n = k
  · rw [he]; exact h
  have e := pw_natAbs a k
  have e' := pw_natAbs a n
  have hb : 2 ^ 63 ≤ a.natAbs ^ k := by omega
  have : 2 ^ 63 * 2 ≤ a.natAbs ^ n := by
    have h3 : a.natAbs ^ (k + 1) ≤ a.natAbs ^ n := Nat.pow_le_pow_right (by omega) (by omega)
    refine Nat.le_trans ?_ h3
    rw [Nat.pow_succ]
    exact Nat.mul_le_mul hb (by omega)
  omega

/-- What Pow returns. -/
def pV (a n : Int) : Int := if n < 0 then 0 else cV (pw a n.toNat)
def pE (a n : Int) : Int := if n < 0 then 1 else cE (pw a n.toNat)

theorem pow_ret {a n v e : Int} (hn : 0 ≤ n) (hv : v = cV (pw a n.toNat)) (he : e = cE (pw a n.toNat)) :
    Ending.returned (.tuple #[.int .i64 v, .int .i64 e]) = .returned (.tuple #[.int .i64 (pV a n), .int .i64 (pE a n)]) := by
  unfold pV pE
  rw [if_neg (by omega), if_neg (by omega), hv, he]

end Go.Proofs.YtbjcbndmafddoaaDoor
