/-
  Division of 128 bits by 64 bits, two digits of 32 bits: plain laws. No program in sight.
-/
import Derived.Test.YtbaalbmchhgmnaaDoorSpec
import Derived.Lib.BitFns
namespace Go.Proofs.YtbaalbmchhgmnaaDoor
open Go.RowKit
set_option linter.unusedVariables false

theorem dv_mul {q a b : Nat} : q * (a * 4294967296 + b) = (q * a) * 4294967296 + q * b := by
  rw [Nat.mul_add, Nat.mul_assoc]
theorem dv_lt {u c Y : Nat} (hu : u < Y) (hc : c < 4294967296) : (u * 4294967296 + c) / Y < 4294967296 := by
  have hY : 0 < Y := by omega
  rw [Nat.div_lt_iff_lt_mul hY]
  have : (u + 1) * 4294967296 ≤ Y * 4294967296 := Nat.mul_le_mul_right _ hu
  rw [Nat.mul_comm]; omega
theorem dv_top {q r a b u c Y : Nat} (hY : Y = a * 4294967296 + b) (h0 : 0 < Y) (hqr : q * a + r = u) (h : 4294967296 * r + c < q * b) : (u * 4294967296 + c) / Y < q := by
  rw [Nat.div_lt_iff_lt_mul h0, hY, dv_mul]
  omega
theorem dv_done {q r a b u c Y : Nat} (hY : Y = a * 4294967296 + b) (h0 : 0 < Y) (hqr : q * a + r = u) (h : q * b ≤ 4294967296 * r + c) (hq : (u * 4294967296 + c) / Y ≤ q) : q = (u * 4294967296 + c) / Y := by
  refine Nat.le_antisymm ?_ hq
  rw [Nat.le_div_iff_mul_le h0, hY, dv_mul]
  omega
theorem dv_break {q r a b u c Y : Nat} (hY : Y = a * 4294967296 + b) (h0 : 0 < Y) (hb : b < 4294967296) (hu : u < Y) (hqr : q * a + r = u) (hr : 4294967296 ≤ r) (hq : (u * 4294967296 + c) / Y ≤ q) : q = (u * 4294967296 + c) / Y := by
  have h1 : q * a < a * 4294967296 := by omega
  have h2 : q < 4294967296 := by
    rw [Nat.mul_comm] at h1
    exact Nat.lt_of_mul_lt_mul_left h1
  have h3 : q * b ≤ 4294967296 * 4294967296 := Nat.mul_le_mul (by omega) (by omega)
  exact dv_done hY h0 hqr (by omega) hq
theorem dv_first {a b u c Y : Nat} (hY : Y = a * 4294967296 + b) (h0 : 0 < Y) (ha : 0 < a) (hc : c < 4294967296) : (u * 4294967296 + c) / Y ≤ u / a := by
  rw [Nat.le_div_iff_mul_le ha]
  have h1 := Nat.div_mul_le_self (u * 4294967296 + c) Y
  generalize (u * 4294967296 + c) / Y = q at *
  rw [hY, dv_mul] at h1
  omega
theorem dv_small {a u : Nat} (ha : 2147483648 ≤ a) (hu : u < 18446744073709551616) : u / a ≤ 8589934592 := by
  have h := Nat.div_le_div_left (c := 2147483648) (b := a) (a := u) ha (by omega)
  omega
theorem wrapu_ex (x : Int) : ∃ n : Nat, IntKind.u64.wrap x = (n : Int) ∧ (n : Int) = x % 18446744073709551616 ∧ n < 18446744073709551616 := by
  refine ⟨(x % 18446744073709551616).toNat, ?_, ?_, ?_⟩
  · rw [IntKind.wrap_u64]; omega
  · omega
  · omega
/-- The rest, by arithmetic in 64 bits. -/
theorem dv_rest {u c Y e1 e2 e3 Q R : Nat} (hY : Y < 18446744073709551616) (hR : R < Y) (hd : Y * Q + R = u * 4294967296 + c) (h1 : (e1 : Int) = ((u : Int) * 4294967296) % 18446744073709551616) (h2 : (e2 : Int) = ((e1 : Int) + c) % 18446744073709551616)
    (h3 : (e3 : Int) = ((Q : Int) * (Y : Int)) % 18446744073709551616) : IntKind.u64.wrap ((e2 : Int) - e3) = (R : Int) := by
  rw [IntKind.wrap_u64]
  have h4 : ((Y * Q : Nat) : Int) = (Q : Int) * (Y : Int) := by rw [Int.natCast_mul, Int.mul_comm]
  rw [← h4] at h3
  obtain ⟨P, hP⟩ : ∃ P, P = Y * Q := ⟨_, rfl⟩
  rw [← hP] at hd h3
  clear h4 hP
  omega
/-- The two digits together. -/
theorem dv_whole {d Y B q r m : Nat} (hY : 0 < Y) (h1 : Y * q + r = m) : (m * B + d) / Y = q * B + (r * B + d) / Y ∧ (m * B + d) % Y = (r * B + d) % Y := by
  subst h1
  have e : (Y * q + r) * B + d = (r * B + d) + Y * (q * B) := by grind
  rw [e, Nat.add_mul_div_left _ _ hY, Nat.add_mul_mod_self_left]
  exact ⟨by omega, rfl⟩
/-! The shift. -/
theorem bitLen_bd (x : Nat) (h0 : 0 < x) (h : x < 18446744073709551616) : 1 ≤ Lib.bitLen x ∧ Lib.bitLen x ≤ 64 ∧ 2 ^ (Lib.bitLen x - 1) ≤ x ∧ x < 2 ^ Lib.bitLen x := by
  have key : ∀ f x, 0 < x → x < 2 ^ f → 1 ≤ Lib.bitLenAux f x ∧ Lib.bitLenAux f x ≤ f ∧ 2 ^ (Lib.bitLenAux f x - 1) ≤ x ∧ x < 2 ^ Lib.bitLenAux f x := by
    intro f
    induction f with
    | zero => intro x h0 h; simp at h; omega
    | succ f ih =>
      intro x h0 h
      rw [Lib.bitLenAux, if_neg (by omega)]
      by_cases h2 : x / 2 = 0
      · have : x = 1 := by omega
        subst this
        have e : Lib.bitLenAux f (1 / 2) = 0 := by cases f <;> simp [Lib.bitLenAux]
        rw [e]
        refine ⟨by omega, by omega, by simp, by simp⟩
      · obtain ⟨i1, i2, i3, i4⟩ := ih (x / 2) (by omega) (by rw [Nat.pow_succ] at h; omega)
        generalize Lib.bitLenAux f (x / 2) = n at *
        refine ⟨by omega, by omega, ?_, ?_⟩
        · obtain ⟨m, rfl⟩ : ∃ m, n = m + 1 := ⟨n - 1, by omega⟩
          rw [show 1 + (m + 1) - 1 = (m + 1 - 1) + 1 by omega, Nat.pow_succ]; omega
        · rw [show 1 + n = n + 1 by omega, Nat.pow_succ]; omega
  exact key 64 x h0 (by omega)
theorem shift_bd {y s : Nat} (h0 : 0 < y) (h : y < 18446744073709551616) (hs : s = 64 - Lib.bitLen y) : 9223372036854775808 ≤ y * 2 ^ s ∧ y * 2 ^ s < 18446744073709551616 ∧ s ≤ 63 := by
  obtain ⟨a, b, c, d⟩ := bitLen_bd y h0 h
  have hp : 0 < 2 ^ s := Nat.pow_pos (by decide)
  have e1 : 2 ^ (Lib.bitLen y - 1) * 2 ^ s = 2 ^ 63 := by rw [← Nat.pow_add]; congr 1; omega
  have e2 : 2 ^ Lib.bitLen y * 2 ^ s = 2 ^ 64 := by rw [← Nat.pow_add]; congr 1; omega
  have l1 := Nat.mul_le_mul_right (2 ^ s) c
  have l2 := Nat.mul_lt_mul_of_pos_right d hp
  rw [e1] at l1
  rw [e2] at l2
  exact ⟨l1, l2, by omega⟩
/-- The dividend, shifted. -/
theorem shift_all {hi lo y s : Nat} (hl : lo < 18446744073709551616) (h1 : hi < y) (hs : s ≤ 63) (hy : y * 2 ^ s < 18446744073709551616) :
    hi * 2 ^ s < 18446744073709551616 ∧ lo / 2 ^ (64 - s) < 2 ^ s ∧ (hi * 2 ^ s ||| lo / 2 ^ (64 - s)) = hi * 2 ^ s + lo / 2 ^ (64 - s) ∧ hi * 2 ^ s + lo / 2 ^ (64 - s) < y * 2 ^ s ∧
      (hi * 2 ^ s + lo / 2 ^ (64 - s)) * 18446744073709551616 + (lo * 2 ^ s) % 18446744073709551616 = (hi * 18446744073709551616 + lo) * 2 ^ s := by
  have hp : 0 < 2 ^ s := Nat.pow_pos (by decide)
  have hp2 : 0 < 2 ^ (64 - s) := Nat.pow_pos (by decide)
  have epp : 2 ^ s * 2 ^ (64 - s) = 18446744073709551616 := by
    rw [← Nat.pow_add, show s + (64 - s) = 64 by omega]
  have b1 : (hi + 1) * 2 ^ s ≤ y * 2 ^ s := Nat.mul_le_mul_right _ h1
  have b2 : lo / 2 ^ (64 - s) < 2 ^ s := by
    rw [Nat.div_lt_iff_lt_mul hp2, epp]; exact hl
  rw [Nat.add_mul] at b1
  have e3 : lo * 2 ^ s = lo / 2 ^ (64 - s) * 18446744073709551616 + lo % 2 ^ (64 - s) * 2 ^ s := by
    have := Nat.div_add_mod lo (2 ^ (64 - s))
    calc lo * 2 ^ s = (2 ^ (64 - s) * (lo / 2 ^ (64 - s)) + lo % 2 ^ (64 - s)) * 2 ^ s := by rw [this]
      _ = _ := by rw [← epp]; grind
  have b4 : lo % 2 ^ (64 - s) * 2 ^ s < 18446744073709551616 := by
    have := Nat.mul_lt_mul_of_pos_right (Nat.mod_lt lo hp2) hp
    rwa [Nat.mul_comm (2 ^ (64 - s)), epp] at this
  refine ⟨by omega, b2, ?_, by omega, ?_⟩
  · rw [Nat.mul_comm hi]; exact (Nat.two_pow_add_eq_or_of_lt b2 hi).symm
  · generalize lo % 2 ^ (64 - s) * 2 ^ s = t at *
    generalize lo / 2 ^ (64 - s) = x at *
    rw [Nat.add_mul _ _ (2 ^ s), Nat.mul_right_comm]
    generalize hi * 2 ^ s = z at *
    rw [e3]
    omega
theorem shift_div {n y s : Nat} (hy : 0 < y) : (n * 2 ^ s) / (y * 2 ^ s) = n / y ∧ (n * 2 ^ s) % (y * 2 ^ s) / 2 ^ s = n % y := by
  have hp : 0 < 2 ^ s := Nat.pow_pos (by decide)
  refine ⟨Nat.mul_div_mul_right _ _ hp, ?_⟩
  rw [Nat.mul_mod_mul_right, Nat.mul_div_cancel _ hp]

end Go.Proofs.YtbaalbmchhgmnaaDoor
