/-
  Contracts of the reference's Lcm and of both Pow.
-/
import Derived.Test.YtiiacapilffhnaaNumD
namespace Go.Proofs.Ytiiacapilffhnaa
open Go.RowKit

set_option maxHeartbeats 400000 in
theorem refLcm (a b : Int) (w : World) (ha : -9223372036854775808 ≤ a) (ha' : a ≤ 9223372036854775807) (hb : -9223372036854775808 ≤ b) (hb' : b ≤ 9223372036854775807) :
    Calls Try.prog 41 #[.int .i64 a, .int .i64 b] w fun e w' => e = .returned (.tuple #[.int .i64 (cV (Int.lcm a b)), .int .i64 (cE (Int.lcm a b))]) ∧ ∃ n, w' = w.drewN n := by
  by_cases h0 : a = 0
  · subst h0
    go_enter Try.func41, Try.ntmps41
    go_wp2
    go_ret2
    exact ⟨by simp; exact ⟨rfl, rfl⟩, 0, rfl⟩
  have f0 : (a == 0) = false := by simpa using h0
  by_cases h1 : b = 0
  · subst h1
    go_enter Try.func41, Try.ntmps41
    go_wp2
    go_ret2
    exact ⟨by simp; exact ⟨rfl, rfl⟩, 0, rfl⟩
  have f1 : (b == 0) = false := by simpa using h1
  have hl := lcm_natAbs a b
  have hda : a.natAbs ∣ Int.lcm a b := Nat.dvd_lcm_left _ _
  have hdb : b.natAbs ∣ Int.lcm a b := Nat.dvd_lcm_right _ _
  have hlp : 0 < Int.lcm a b := Int.lcm_pos h0 h1
  have hla := Nat.le_of_dvd hlp hda
  have hlb := Nat.le_of_dvd hlp hdb
  by_cases h2 : a = -9223372036854775808
  · have hr : Ending.returned (.tuple #[.int .i64 0, .int .i64 3]) = .returned (.tuple #[.int .i64 (cV (Int.lcm a b)), .int .i64 (cE (Int.lcm a b))]) := ret_c (.inr ⟨by omega, rfl, rfl⟩)
    have HR := Lib.hid hr
    have f2 : (a == -9223372036854775808) = true := by simpa using h2
    clear h2 hl hda hdb hlp hla hlb hr
    go_enter Try.func41, Try.ntmps41
    go_wp2
    go_ret2
    exact ⟨HR.out, 0, rfl⟩
  have f2 : (a == -9223372036854775808) = false := by simpa using h2
  by_cases h3 : b = -9223372036854775808
  · have hr : Ending.returned (.tuple #[.int .i64 0, .int .i64 3]) = .returned (.tuple #[.int .i64 (cV (Int.lcm a b)), .int .i64 (cE (Int.lcm a b))]) := ret_c (.inr ⟨by omega, rfl, rfl⟩)
    have HR := Lib.hid hr
    have f3 : (b == -9223372036854775808) = true := by simpa using h3
    clear h3 hl hda hdb hlp hla hlb hr
    go_enter Try.func41, Try.ntmps41
    go_wp2
    go_ret2
    exact ⟨HR.out, 0, rfl⟩
  have f3 : (b == -9223372036854775808) = false := by simpa using h3
  have hg := gcd_pos (b := b) h0
  obtain ⟨X, hX⟩ : ∃ X, X = a.natAbs := ⟨_, rfl⟩
  obtain ⟨Y, hY⟩ : ∃ Y, Y = b.natAbs := ⟨_, rfl⟩
  obtain ⟨G, hG⟩ : ∃ G, G = Int.gcd a b := ⟨_, rfl⟩
  obtain ⟨L, hL⟩ : ∃ L, L = Int.lcm a b := ⟨_, rfl⟩
  have hgle : Int.gcd a b ≤ a.natAbs := Nat.gcd_le_left _ (by omega)
  have hl' : X / G * Y = L := by rw [hX, hG, hY, hL]; exact hl
  have c1 : ∀ w, Calls Try.prog 58 #[.int .i64 a] w fun e w' => e = .returned (.int .i64 (-(X : Int))) ∧ w = w' := fun w => by rw [hX]; exact refBelow a w ha ha'
  have c2 : ∀ w, Calls Try.prog 58 #[.int .i64 b] w fun e w' => e = .returned (.int .i64 (-(Y : Int))) ∧ w = w' := fun w => by rw [hY]; exact refBelow b w hb hb'
  have c3 : ∀ w, Calls Try.prog 59 #[.int .i64 a, .int .i64 b] w fun e w' => e = .returned (.int .i64 G) ∧ w = w' := fun w =>
    (refGcd a b w ha ha' hb hb').mono fun e w' ⟨he, hw⟩ => ⟨by rw [he, hG, cV_yes (by omega) (by omega)], hw⟩
  obtain ⟨q, hq⟩ : ∃ q, q = X / G := ⟨_, rfl⟩
  have hqX : q ≤ X := by rw [hq]; exact Nat.div_le_self _ _
  have hX' : X ≤ 9223372036854775807 := by omega
  have hY' : Y ≤ 9223372036854775807 := by omega
  have hG0 : 0 < G := by omega
  have hG' : G ≤ 9223372036854775807 := by omega
  have ht : (X : Int) / (G : Int) = (q : Int) := by rw [hq]; simp
  have htt : (-(X : Int)).tdiv (G : Int) = -(q : Int) := by rw [Int.neg_tdiv, Int.tdiv_eq_ediv_of_nonneg (by omega), ht]
  have c4 : ∀ w, Calls Try.prog 43 #[.int .i64 (-(q : Int)), .int .i64 (-(Y : Int))] w fun e w' => e = .returned (.tuple #[.int .i64 (cV L), .int .i64 (cE L)]) ∧ w = w' := fun w => by
    have e : -(q : Int) * -(Y : Int) = (L : Int) := by rw [Int.neg_mul_neg, ← hl', ← hq]; simp
    rw [← e]; exact refMul _ _ w (by omega) (by omega) (by omega) (by omega)
  have HL := Lib.hid hL
  have C1 := Lib.hid c1
  have C2 := Lib.hid c2
  have C3 := Lib.hid c3
  have C4 := Lib.hid c4
  clear hX hY hG hL hl hl' hda hdb hlp hla hlb hgle hg c1 c2 c3 c4 h0 h1 h2 h3 hq
  have hGi : (0 : Int) < G := by omega
  have hGn : ((G : Int) == 0) = false := by simp; omega
  go_enter Try.func41, Try.ntmps41
  go_wp2
  go_quiet ((first | (go_at_call 58; first | with_reducible exact quiet_left (C1.out _) | with_reducible exact quiet_left (C2.out _)) | (go_at_call 59; with_reducible exact quiet_left (C3.out _)) | (go_at_call 43; with_reducible exact quiet_left (C4.out _))))
  go_wp2
  go_ret2
  exact ⟨by rw [HL.out]; rfl, _, rfl⟩

/-- A power, behind a name. -/
def pw (a : Int) (k : Nat) : Int := a ^ k
theorem pw_zero (a : Int) : pw a 0 = 1 := by simp [pw]
theorem pw_succ (a : Int) (k : Nat) : pw a (k + 1) = pw a k * a := by simp [pw, Int.pow_succ]
theorem pw_natAbs (a : Int) (k : Nat) : (pw a k).natAbs = a.natAbs ^ k := by simp [pw, Int.natAbs_pow]
theorem pw_one (k : Nat) : pw 1 k = 1 := by
  induction k with
  | zero => rfl
  | succ k ih => rw [pw_succ, ih]; rfl
theorem pw_null (k : Nat) (h : k ≠ 0) : pw 0 k = 0 := by
  obtain ⟨j, rfl⟩ : ∃ j, k = j + 1 := ⟨k - 1, by omega⟩
  rw [pw_succ, Int.mul_zero]
theorem pw_minus (k : Nat) : pw (-1) k = 1 - 2 * ((k : Int) % 2) := by
  induction k with
  | zero => rfl
  | succ k ih => rw [pw_succ, ih]; omega
theorem pw_big {a : Int} (h0 : a ≠ 0) (h1 : a ≠ 1) (h2 : a ≠ -1) {k : Nat} (h : 64 ≤ k) : pw a k < -9223372036854775808 ∨ 9223372036854775807 < pw a k := by
  have e := pw_natAbs a k
  have : 2 ^ 64 ≤ a.natAbs ^ k := Nat.le_trans (Nat.pow_le_pow_right (by omega) h) (Nat.pow_le_pow_left (by omega) k)
  omega
theorem pw_no {a : Int} (h0 : a ≠ 0) (h1 : a ≠ 1) (h2 : a ≠ -1) {k n : Nat} (hkn : k ≤ n) (h : pw a k < -9223372036854775808 ∨ 9223372036854775807 < pw a k) :
    pw a n < -9223372036854775808 ∨ 9223372036854775807 < pw a n := by
  by_cases he : n = k
  · rw [he]; exact h
  have e := pw_natAbs a k
  have e' := pw_natAbs a n
  have hb : 2 ^ 63 ≤ a.natAbs ^ k := by omega
  have : 2 ^ 63 * 2 ≤ a.natAbs ^ n := by
    have h3 : a.natAbs ^ (k + 1) ≤ a.natAbs ^ n := Nat.pow_le_pow_right (by omega) (by omega)
    refine Nat.le_trans ?_ h3
    rw [Nat.pow_succ]
    exact Nat.mul_le_mul hb (by omega)
  omega

/-- What Pow returns. -/
def pV (a n : Int) : Int := if n < 0 then 0 else cV (pw a n.toNat)
def pE (a n : Int) : Int := if n < 0 then 1 else cE (pw a n.toNat)

theorem pow_ret {a n v e : Int} (hn : 0 ≤ n) (hv : v = cV (pw a n.toNat)) (he : e = cE (pw a n.toNat)) :
    Ending.returned (.tuple #[.int .i64 v, .int .i64 e]) = .returned (.tuple #[.int .i64 (pV a n), .int .i64 (pE a n)]) := by
  unfold pV pE
  rw [if_neg (by omega), if_neg (by omega), hv, he]

end Go.Proofs.Ytiiacapilffhnaa
