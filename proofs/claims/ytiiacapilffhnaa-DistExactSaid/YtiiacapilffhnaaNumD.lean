/-
  Contracts of num.divisor, of both Gcd and both Lcm.
-/
import Derived.Test.YtiiacapilffhnaaNumC
import Derived.LoopTactic
import Derived.RegionTactic
import Derived.ChangeAlike
import Derived.Deep.QuietTactic
import Derived.BigQuiet
namespace Go.Proofs.Ytiiacapilffhnaa
open Go.RowKit

set_option maxHeartbeats 400000 in
theorem numDivisor (X Y : Nat) (w : World) (hX : X < 18446744073709551616) (hY : Y < 18446744073709551616) :
    Calls Try.prog 67 #[.int .u64 X, .int .u64 Y] w fun e w' => e = .returned (.int .u64 (Nat.gcd X Y)) ∧ ∃ n, w' = w.drewN n := by
  go_enter Try.func67, Try.ntmps67
  go_wp2
  go_loopw [0, 1] (fun a b wr => ∃ x y : Nat, x < 18446744073709551616 ∧ y < 18446744073709551616 ∧ Nat.gcd x y = Nat.gcd X Y ∧ a = .int .u64 x ∧ b = .int .u64 y ∧ ∃ n, wr = w.drewN n) (fun _ b _ => (intOf b).toNat)
  case atStart => exact ⟨X, Y, hX, hY, rfl, rfl, rfl, 0, rfl⟩
  case round =>
    obtain ⟨x, y, hx, hy, hg, rfl, rfl, n, rfl⟩ := hrel
    have HG := Lib.hid hg
    clear hg
    by_cases h0 : y = 0
    · subst h0
      go_wp2
      go_ret
      exact ⟨ret1 (by rw [← HG.out, Nat.gcd_zero_right]), n, rfl⟩
    · have f0 : ((y : Int) == 0) = false := by simpa using h0
      go_wp2
      go_quiet (fail)
      go_wp2
      go_roundw
      case rel => exact ⟨y, x % y, hy, by have := Nat.mod_lt x (y := y) (by omega); omega, by rw [← HG.out, Nat.gcd_comm x y, Nat.gcd_rec y x, Nat.gcd_comm], rfl, by simp, n + nq, by simp⟩
      case measure => simp [intOf]; have := Nat.mod_lt x (y := y) (by omega); omega

theorem refBelow (a : Int) (w : World) (ha : -9223372036854775808 ≤ a) (ha' : a ≤ 9223372036854775807) :
    Calls Try.prog 58 #[.int .i64 a] w fun e w' => e = .returned (.int .i64 (-(a.natAbs : Int))) ∧ w = w' := by
  go_enter Try.func58, Try.ntmps58
  go_wp2
  all_goals
    go_ret
    refine ⟨ret1 ?_, rfl⟩
    omega

set_option maxHeartbeats 400000 in
theorem refGcd (a b : Int) (w : World) (ha : -9223372036854775808 ≤ a) (ha' : a ≤ 9223372036854775807) (hb : -9223372036854775808 ≤ b) (hb' : b ≤ 9223372036854775807) :
    Calls Try.prog 59 #[.int .i64 a, .int .i64 b] w fun e w' => e = .returned (.int .i64 (cV (Int.gcd a b))) ∧ w = w' := by
  obtain ⟨X, hX⟩ : ∃ X, X = a.natAbs := ⟨_, rfl⟩
  obtain ⟨Y, hY⟩ : ∃ Y, Y = b.natAbs := ⟨_, rfl⟩
  have hgg : Int.gcd a b = Nat.gcd X Y := by rw [hX, hY]; rfl
  have hX' : X ≤ 9223372036854775808 := by omega
  have hY' : Y ≤ 9223372036854775808 := by omega
  have HX := Lib.hid hX
  have HY := Lib.hid hY
  have HGG := Lib.hid hgg
  clear hX hY hgg
  go_enter Try.func59, Try.ntmps59
  go_wp2_with fail
  refine (refBelow a _ ha ha').mono ?_; rintro e w' ⟨rfl, rfl⟩
  rw [← HX.out]
  go_wp2_with fail
  refine (refBelow b _ hb hb').mono ?_; rintro e w' ⟨rfl, rfl⟩
  rw [← HY.out]
  go_wp2_with fail
  go_loop [5, 6, 7] (fun p q r => ∃ x y : Nat, x ≤ 9223372036854775808 ∧ y ≤ 9223372036854775808 ∧ Nat.gcd x y = Nat.gcd X Y ∧ p = .int .i64 (-(x : Int)) ∧ q = .int .i64 (-(y : Int))) (fun _ q _ => (-(intOf q)).toNat)
  case atStart => exact ⟨X, Y, hX', hY', rfl, rfl, rfl⟩
  case round =>
    obtain ⟨x, y, hx, hy, hg, rfl, rfl⟩ := hrel
    have HG := Lib.hid hg
    clear hg
    by_cases h0 : y = 0
    · subst h0
      by_cases h1 : x = 9223372036854775808
      · subst h1
        go_wp2
        go_ret
        exact ⟨ret1 (by rw [HGG.out, ← HG.out, Nat.gcd_zero_right]; rfl), rfl⟩
      · have f1 : (-(x : Int) == -9223372036854775808) = false := by simp; omega
        go_wp2
        go_ret
        exact ⟨ret1 (by rw [HGG.out, ← HG.out, Nat.gcd_zero_right, cV_yes (by omega) (by omega)]), rfl⟩
    · have f0 : (-(y : Int) != 0) = true := by simp; omega
      go_wp2
      go_round
      case rel => exact ⟨y, x % y, by omega, by have := Nat.mod_lt x (y := y) (by omega); omega, by rw [← HG.out, Nat.gcd_comm x y, Nat.gcd_rec y x, Nat.gcd_comm], by simp, by simp⟩
      case measure => simp [intOf]; have := Nat.mod_lt x (y := y) (by omega); omega

theorem gcd_pos {a b : Int} (ha : a ≠ 0) : 0 < Int.gcd a b := Int.gcd_pos_of_ne_zero_left b ha
theorem lcm_natAbs (a b : Int) : a.natAbs / Nat.gcd a.natAbs b.natAbs * b.natAbs = Int.lcm a b := by
  show _ = a.natAbs * b.natAbs / Nat.gcd a.natAbs b.natAbs
  rw [Nat.mul_comm a.natAbs b.natAbs, Nat.mul_div_assoc _ (Nat.gcd_dvd_left _ _), Nat.mul_comm]

set_option maxHeartbeats 400000 in
theorem numLcm (a b : Int) (w : World) (ha : -9223372036854775808 ≤ a) (ha' : a ≤ 9223372036854775807) (hb : -9223372036854775808 ≤ b) (hb' : b ≤ 9223372036854775807) :
    Calls Try.prog 56 #[.int .i64 a, .int .i64 b] w fun e w' => e = .returned (.tuple #[.int .i64 (cV (Int.lcm a b)), .int .i64 (cE (Int.lcm a b))]) ∧ ∃ n, w' = w.drewN n := by
  by_cases h0 : a = 0
  · subst h0
    go_enter Try.func56, Try.ntmps56
    go_wp2
    go_ret2
    exact ⟨by simp; exact ⟨rfl, rfl⟩, 0, rfl⟩
  by_cases h1 : b = 0
  · subst h1
    have f0 : (a == 0) = false := by simpa using h0
    go_enter Try.func56, Try.ntmps56
    go_wp2
    go_ret2
    exact ⟨by simp; exact ⟨rfl, rfl⟩, 0, rfl⟩
  have f0 : (a == 0) = false := by simpa using h0
  have f1 : (b == 0) = false := by simpa using h1
  have hg := gcd_pos (b := b) h0
  have hl := lcm_natAbs a b
  obtain ⟨X, hX⟩ : ∃ X, X = a.natAbs := ⟨_, rfl⟩
  obtain ⟨Y, hY⟩ : ∃ Y, Y = b.natAbs := ⟨_, rfl⟩
  obtain ⟨G, hG⟩ : ∃ G, G = Nat.gcd X Y := ⟨_, rfl⟩
  obtain ⟨L, hL⟩ : ∃ L, L = Int.lcm a b := ⟨_, rfl⟩
  have hG0 : 0 < G := by rw [hG, hX, hY]; exact hg
  rw [← hX, ← hY, ← hG, ← hL] at hl
  have hX' : X ≤ 9223372036854775808 := by omega
  have hY' : Y ≤ 9223372036854775808 := by omega
  have hq : X / G ≤ 9223372036854775808 := Nat.le_trans (Nat.div_le_self _ _) hX'
  have c1 : ∀ w, Calls Try.prog 66 #[.int .i64 a] w fun e w' => e = .returned (.int .u64 X) ∧ w = w' := fun w => by rw [hX]; exact numSize a w ha ha'
  have c2 : ∀ w, Calls Try.prog 66 #[.int .i64 b] w fun e w' => e = .returned (.int .u64 Y) ∧ w = w' := fun w => by rw [hY]; exact numSize b w hb hb'
  have c3 : ∀ w, Calls Try.prog 67 #[.int .u64 X, .int .u64 Y] w fun e w' => e = .returned (.int .u64 G) ∧ ∃ n, w' = w.drewN n := fun w => by rw [hG]; exact numDivisor X Y w (by omega) (by omega)
  have e1 : (((X / G : Nat) : Int)) = (X : Int) / (G : Int) := by simp
  have c4 : ∃ hi lo : Int, (0 ≤ lo ∧ lo < 18446744073709551616) ∧ ((hi = 0 ∧ lo = L) ∨ (0 < hi ∧ 18446744073709551616 ≤ L)) ∧ ∀ w, Calls Try.prog 65 #[.int .u64 ((X : Int) / (G : Int)), .int .u64 Y] w fun e w' => e = .returned (.tuple #[.int .u64 hi, .int .u64 lo]) ∧ w = w' := by
    rw [← e1]
    by_cases hf : L < 18446744073709551616
    · exact ⟨0, L, by omega, .inl ⟨rfl, rfl⟩, fun w => mul64_lo (X / G) Y L w (by omega) (by omega) (by rw [hl]) (by omega)⟩
    · refine ⟨((X / G * Y / 18446744073709551616 : Nat) : Int), ((X / G * Y % 18446744073709551616 : Nat) : Int), by omega, .inr ⟨by rw [hl]; omega, by omega⟩, fun w => ?_⟩
      exact (Try.bits_Mul64 (X / G) Y (by omega) (by omega) w).mono fun e w' ⟨he, hw⟩ => ⟨he, hw.symm⟩
  clear hX hY hG hl hg
  obtain ⟨hi, lo, ⟨hlo, hlo'⟩, hcase, c4⟩ := c4
  have HL := Lib.hid hL
  have C1 := Lib.hid c1
  have C2 := Lib.hid c2
  have C3 := Lib.hid c3
  have C4 := Lib.hid c4
  clear hL c1 c2 c3 c4 e1
  have hGi : (0 : Int) < G := by omega
  have hwrap : IntKind.u64.wrap ((X : Int) / (G : Int)) = (X : Int) / (G : Int) := by
    rw [IntKind.wrap_u64, ← Int.natCast_ediv]
    generalize X / G = q at hq
    exact Int.emod_eq_of_lt (by omega) (by omega)
  rcases hcase with ⟨rfl, rfl⟩ | ⟨hpos, hbig⟩
  · go_enter Try.func56, Try.ntmps56
    go_wp2
    go_quiet ((first | (go_at_call 66; first | with_reducible exact quiet_left (C1.out _) | with_reducible exact quiet_left (C2.out _)) | (go_at_call 67; with_reducible exact Calls.quiet_of (C3.out _)) | (go_at_call 65; with_reducible exact quiet_left (C4.out _))))
    go_wp2_with fail
    refine (numSigned false _ _ (by omega) (by omega)).mono ?_; rintro e w' ⟨rfl, rfl⟩
    go_wp2_with fail
    go_ret2
    exact ⟨by rw [← HL.out]; rfl, _, rfl⟩
  · have hne : (hi != 0) = true := by simp; omega
    go_enter Try.func56, Try.ntmps56
    go_wp2
    go_quiet ((first | (go_at_call 66; first | with_reducible exact quiet_left (C1.out _) | with_reducible exact quiet_left (C2.out _)) | (go_at_call 67; with_reducible exact Calls.quiet_of (C3.out _)) | (go_at_call 65; with_reducible exact quiet_left (C4.out _))))
    go_wp2_with fail
    go_ret2
    exact ⟨ret_c (.inr ⟨.inr (by rw [← HL.out]; omega), rfl, rfl⟩), _, rfl⟩

end Go.Proofs.Ytiiacapilffhnaa
