/-
  Contracts of the small functions of package num and of its reference (one walk each).
  Contracts of num.size, num.signed, num.Mul, num.Div and of the reference's Sub, Mul, Div, below.
  Contracts of the reference's Mul, of both Div.
  Contracts of num.divisor, of both Gcd and both Lcm.
  Contracts of the reference's Lcm and of both Pow.
-/
import Derived.Test.YtbgficaboolgiaaGreatDoorRows
import Derived.Test.YtbgficaboolgiaaGreatDoorBase
import Derived.WalkKit
import Derived.WalkSpells
import Derived.Lib.Hide
import Derived.Test.YtbgficaboolgiaaGreatDoorShelf
import Derived.LoopTactic
import Derived.RegionTactic
import Derived.ChangeAlike
import Derived.Deep.QuietTactic
import Derived.BigQuiet
namespace Go.Proofs.YtbgficaboolgiaaGreatDoor
section
open Go.RowKit
end

section
open Go.RowKit

theorem retu {k : IntKind} {a : Int} {b : Int} (h : a = b) : Ending.returned (.int k a) = .returned (.int k b) := by rw [h]

theorem numSigned (neg : Bool) (n : Int) (w : World) (hn : 0 ≤ n) (hn' : n ≤ 18446744073709551615) :
    Calls Tryz.prog 97 #[.bool neg, .int .u64 n] w fun e w' => e = .returned (.tuple #[.int .i64 (cV (if neg then -n else n)), .int .i64 (cE (if neg then -n else n))]) ∧ w = w' := by
  cases neg
  all_goals
    go_enter Tryz.func97, Tryz.ntmps97
    go_wp2
    all_goals
      go_ret2
      refine ⟨ret_c ?_, rfl⟩
      simp only [IntKind.wrap_u64, wrap64_eq, and_true, and_self]
      omega

theorem natAbs_mul_le (a b : Int) : ((a.natAbs * b.natAbs : Nat) : Int) = if (decide (a < 0) != decide (b < 0)) then -(a * b) else a * b := by
  have h : ((a.natAbs * b.natAbs : Nat) : Int) = ((a * b).natAbs : Int) := by rw [Int.natAbs_mul]
  rw [h]
  by_cases h1 : a < 0 <;> by_cases h2 : b < 0 <;> simp [h1, h2]
  · have := Int.mul_nonneg_of_nonpos_of_nonpos (a := a) (b := b) (by omega) (by omega); omega
  · have := Int.mul_nonpos_of_nonpos_of_nonneg (a := a) (b := b) (by omega) (by omega); omega
  · have := Int.mul_nonpos_of_nonneg_of_nonpos (a := a) (b := b) (by omega) (by omega); omega
  · have := Int.mul_nonneg (a := a) (b := b) (by omega) (by omega); omega
end

section
open Go.RowKit

/-- The test of the reference's Mul says whether the product fits. -/
theorem mul_test_no {a b : Int} (ha : -9223372036854775808 ≤ a) (ha' : a ≤ 9223372036854775807) (hb : -9223372036854775808 ≤ b) (hb' : b ≤ 9223372036854775807) (h0 : b ≠ 0) (hm : b ≠ -1)
    (hn : a * b < -9223372036854775808 ∨ 9223372036854775807 < a * b) : wrap64 ((wrap64 (a * b)).tdiv b) ≠ a := by
  intro h
  have hw := wrap64_eq (a * b)
  obtain ⟨p, hp⟩ : ∃ p, p = wrap64 (a * b) := ⟨_, rfl⟩
  rw [← hp] at h hw
  have hpb : -9223372036854775808 ≤ p ∧ p ≤ 9223372036854775807 := by omega
  have key : p.tdiv b = a ∨ (p.tdiv b = 9223372036854775808) := by
    have h1 : (p.tdiv b).natAbs ≤ p.natAbs := by
      rw [Int.natAbs_tdiv]; exact Nat.div_le_self _ _
    rw [wrap64_eq] at h
    omega
  have hd := Int.mul_tdiv_add_tmod p b
  have hlt : (p.tmod b).natAbs < b.natAbs := by
    rw [Int.natAbs_tmod]; exact Nat.mod_lt _ (by omega)
  rcases key with key | key
  · rw [key] at hd
    have e : b * a = a * b := Int.mul_comm _ _
    omega
  · have h3 : p.tdiv b ≠ 9223372036854775808 ∨ b = -1 := by
      by_cases e : b = -1
      · exact .inr e
      · left
        intro k
        have h4 : (p.tdiv b).natAbs = p.natAbs / b.natAbs := Int.natAbs_tdiv _ _
        by_cases e1 : b = 1
        · subst e1; simp at k; omega
        · have h5 : p.natAbs / b.natAbs ≤ p.natAbs / 2 := Nat.div_le_div_left (by omega) (by omega)
          omega
    rcases h3 with h3 | h3
    · exact h3 key
    · exact hm h3

/-- What Div returns. -/
def dUp (a b : Int) : Bool := a.tmod b != 0 && (!(decide (a.tmod b < 0) == decide (b < 0)))
def dV (a b : Int) : Int := if b = 0 then 0 else if a = -9223372036854775808 ∧ b = -1 then 0 else if dUp a b then a.tdiv b - 1 else a.tdiv b
def dE (a b : Int) : Int := if b = 0 then 4 else if a = -9223372036854775808 ∧ b = -1 then 3 else 0

theorem dV_bd {a b : Int} (ha : -9223372036854775808 ≤ a) (ha' : a ≤ 9223372036854775807) (hb : b ≠ 0) (hs : ¬ (a = -9223372036854775808 ∧ b = -1)) :
    -9223372036854775808 ≤ a.tdiv b ∧ a.tdiv b ≤ 9223372036854775807 ∧ (a.tmod b ≠ 0 → -9223372036854775807 ≤ a.tdiv b) := by
  have hd := Int.mul_tdiv_add_tmod a b
  have hlt : (a.tmod b).natAbs < b.natAbs := by
    rw [Int.natAbs_tmod]; exact Nat.mod_lt _ (by omega)
  have h1 : (a.tdiv b).natAbs ≤ a.natAbs := by rw [Int.natAbs_tdiv]; exact Nat.div_le_self _ _
  have h2 : b ≠ 1 → b ≠ -1 → (a.tdiv b).natAbs ≤ a.natAbs / 2 := by
    intro h3 h4
    rw [Int.natAbs_tdiv]; exact Nat.div_le_div_left (by omega) (by omega)
  by_cases h3 : b = 1
  · subst h3; simp at *; omega
  by_cases h4 : b = -1
  · subst h4; simp at *; omega
  have := h2 h3 h4
  omega
end

section
open Go.RowKit

theorem gcd_pos {a b : Int} (ha : a ≠ 0) : 0 < Int.gcd a b := Int.gcd_pos_of_ne_zero_left b ha
theorem lcm_natAbs (a b : Int) : a.natAbs / Nat.gcd a.natAbs b.natAbs * b.natAbs = Int.lcm a b := by
  show _ = a.natAbs * b.natAbs / Nat.gcd a.natAbs b.natAbs
  rw [Nat.mul_comm a.natAbs b.natAbs, Nat.mul_div_assoc _ (Nat.gcd_dvd_left _ _), Nat.mul_comm]
end

section
open Go.RowKit

/-- A power, behind a name. -/
def pw (a : Int) (k : Nat) : Int := a ^ k
theorem pw_zero (a : Int) : pw a 0 = 1 := by simp [pw]
theorem pw_succ (a : Int) (k : Nat) : pw a (k + 1) = pw a k * a := by simp [pw, Int.pow_succ]
theorem pw_natAbs (a : Int) (k : Nat) : (pw a k).natAbs = a.natAbs ^ k := by simp [pw, Int.natAbs_pow]
theorem pw_one (k : Nat) : pw 1 k = 1 := by
  induction k with
  | zero => rfl
  | succ k ih => rw [pw_succ, ih]; rfl
theorem pw_null (k : Nat) (h : k ≠ 0) : pw 0 k = 0 := by
  obtain ⟨j, rfl⟩ : ∃ j, k = j + 1 := ⟨k - 1, by omega⟩
  rw [pw_succ, Int.mul_zero]
theorem pw_minus (k : Nat) : pw (-1) k = 1 - 2 * ((k : Int) % 2) := by
  induction k with
  | zero => rfl
  | succ k ih => rw [pw_succ, ih]; omega
theorem pw_big {a : Int} (h0 : a ≠ 0) (h1 : a ≠ 1) (h2 : a ≠ -1) {k : Nat} (h : 64 ≤ k) : pw a k < -9223372036854775808 ∨ 9223372036854775807 < pw a k := by
  have e := pw_natAbs a k
  have : 2 ^ 64 ≤ a.natAbs ^ k := Nat.le_trans (Nat.pow_le_pow_right (by omega) h) (Nat.pow_le_pow_left (by omega) k)
  omega
theorem pw_no {a : Int} (h0 : a ≠ 0) (h1 : a ≠ 1) (h2 : a ≠ -1) {k n : Nat} (hkn : k ≤ n) (h : pw a k < -9223372036854775808 ∨ 9223372036854775807 < pw a k) :
    pw a n < -9223372036854775808 ∨ 9223372036854775807 < pw a n := by
  by_cases he : n = k
  · rw [he]; exact h
  have e := pw_natAbs a k
  have e' := pw_natAbs a n
  have hb : 2 ^ 63 ≤ a.natAbs ^ k := by omega
  have : 2 ^ 63 * 2 ≤ a.natAbs ^ n := by
    have h3 : a.natAbs ^ (k + 1) ≤ a.natAbs ^ n := Nat.pow_le_pow_right (by omega) (by omega)
    refine Nat.le_trans ?_ h3
    rw [Nat.pow_succ]
    exact Nat.mul_le_mul hb (by omega)
  omega

/-- What Pow returns. -/
def pV (a n : Int) : Int := if n < 0 then 0 else cV (pw a n.toNat)
def pE (a n : Int) : Int := if n < 0 then 1 else cE (pw a n.toNat)

theorem pow_ret {a n v e : Int} (hn : 0 ≤ n) (hv : v = cV (pw a n.toNat)) (he : e = cE (pw a n.toNat)) :
    Ending.returned (.tuple #[.int .i64 v, .int .i64 e]) = .returned (.tuple #[.int .i64 (pV a n), .int .i64 (pE a n)]) := by
  unfold pV pE
  rw [if_neg (by omega), if_neg (by omega), hv, he]
end
end Go.Proofs.YtbgficaboolgiaaGreatDoor
