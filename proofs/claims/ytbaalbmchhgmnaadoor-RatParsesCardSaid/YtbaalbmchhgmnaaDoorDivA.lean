/-
  bits.Div64: the walk.
-/
import Derived.Test.YtbaalbmchhgmnaaDoorRatC
import Derived.Test.YtbaalbmchhgmnaaDoorDivSpec
import Derived.Laws.BitsAllLaws
import Derived.Deep.DeepCutAuto
import Derived.Deep.CutBlock
namespace Go.Proofs.YtbaalbmchhgmnaaDoor
open Go.RowKit
set_option linter.unusedVariables false
set_option linter.unusedSimpArgs false

set_option maxRecDepth 100000 in
set_option maxHeartbeats 4000000 in
theorem div64_easy (lo y : Nat) (w : World) (hl : lo < 18446744073709551616) (hy : y < 18446744073709551616) (h0 : 0 < y) :
    Calls Tryd.prog 76 #[.int .u64 0, .int .u64 lo, .int .u64 y] w fun e w' => e = .returned (.tuple #[.int .u64 ((lo / y : Nat) : Int), .int .u64 ((lo % y : Nat) : Int)]) ∧ ∃ n, w' = w.drewN n := by
  have f0 : ((y : Int) == 0) = false := by
    have : ¬ (y : Int) = 0 := by omega
    simpa using this
  have f1 : ¬ (y : Int) ≤ 0 := by omega
  have f2 : ¬ (y : Int) = 0 := by omega
  have f3 : ¬ y = 0 := by omega
  have s1 : IntKind.u64.wrap ((lo : Int) / (y : Int)) = ((lo / y : Nat) : Int) := by rw [← Int.natCast_ediv]; exact wrapu (Nat.lt_of_le_of_lt (Nat.div_le_self _ _) hl)
  go_enter Tryd.func76, Tryd.ntmps76
  go_wp2_with fail
  go_quiet (fail)
  go_wp2_with fail
  go_ret2
  exact ⟨rfl, _, rfl⟩

theorem and32 (v : Nat) (h : v < 18446744073709551616) : bits .and .u64 (v : Int) 4294967295 = ((v % 4294967296 : Nat) : Int) := by
  have := u64_and_nat v 4294967295 h (by omega)
  rw [show ((4294967295 : Nat) : Int) = 4294967295 by rfl] at this
  rw [this, show (4294967295 : Nat) = 2 ^ 32 - 1 by rfl, Nat.and_two_pow_sub_one_eq_mod]
/-- The first digit's loop, in plain words. -/
structure DV (u c a b Y Q : Nat) : Prop where
  Y_eq : Y = a * 4294967296 + b
  a_lo : 2147483648 ≤ a
  a_hi : a < 4294967296
  b_hi : b < 4294967296
  c_hi : c < 4294967296
  u_hi : u < Y
  Q_eq : Q = (u * 4294967296 + c) / Y

set_option maxRecDepth 100000 in
set_option maxHeartbeats 8000000 in
theorem div64_hard (hi lo y s : Nat) (w : World) (hl : lo < 18446744073709551616) (hy : y < 18446744073709551616) (h0 : 0 < hi) (h1 : hi < y) (hs1 : s = 64 - Lib.bitLen y) :
    Calls Tryd.prog 76 #[.int .u64 hi, .int .u64 lo, .int .u64 y] w fun e w' => e = .returned (.tuple #[.int .u64 (((hi * 18446744073709551616 + lo) / y : Nat) : Int), .int .u64 (((hi * 18446744073709551616 + lo) % y : Nat) : Int)]) ∧ ∃ n, w' = w.drewN n := by
  have f0 : ((y : Int) == 0) = false := by
    have : ¬ (y : Int) = 0 := by omega
    simpa using this
  have f1 : ¬ (y : Int) ≤ hi := by omega
  have f2 : ¬ (y : Int) = 0 := by omega
  have f5 : ((hi : Int) == 0) = false := by
    have : ¬ (hi : Int) = 0 := by omega
    simpa using this
  have LZ : Hid (∀ w, Calls Tryd.prog 81 #[.int .u64 y] w fun e w' => e = .returned (.int .i64 (s : Int)) ∧ w = w') := Lib.hid fun w => by
    have hb := bitLen_bd y (by omega) hy
    have := Tryd.bits_LeadingZeros64 (y : Int) w (by omega) (by omega)
    refine this.mono fun e w' ⟨he, hw⟩ => ⟨?_, hw.symm⟩
    rw [he, Int.toNat_natCast]
    exact ret1 (by omega)
  obtain ⟨yl, yh, hs⟩ := shift_bd (y := y) (s := s) (by omega) hy hs1
  obtain ⟨x1, x2, x3, x4, x5⟩ := shift_all hl h1 hs yh
  obtain ⟨d1, d2⟩ := shift_div (n := hi * 18446744073709551616 + lo) (y := y) (s := s) (by omega)
  have vl := Nat.mod_lt (lo * 2 ^ s) (show 0 < 18446744073709551616 by decide)
  have t1 : IntKind.u64.wrap ((y : Int) * 2 ^ s) = ((y * 2 ^ s : Nat) : Int) := by
    rw [show (y : Int) * 2 ^ s = ((y * 2 ^ s : Nat) : Int) by simp]; exact wrapu yh
  have t2 : IntKind.u64.wrap ((hi : Int) * 2 ^ s) = ((hi * 2 ^ s : Nat) : Int) := by
    rw [show (hi : Int) * 2 ^ s = ((hi * 2 ^ s : Nat) : Int) by simp]; exact wrapu x1
  have t3 : (lo : Int) / 2 ^ (64 - s) = ((lo / 2 ^ (64 - s) : Nat) : Int) := by simp
  have t4 : bits .or .u64 ((hi * 2 ^ s : Nat) : Int) ((lo / 2 ^ (64 - s) : Nat) : Int) = ((hi * 2 ^ s + lo / 2 ^ (64 - s) : Nat) : Int) := by
    rw [bits_or_u64 x1 (Nat.lt_of_le_of_lt (Nat.div_le_self _ _) hl), x3]
  have t5 : IntKind.u64.wrap ((lo : Int) * 2 ^ s) = ((lo * 2 ^ s % 18446744073709551616 : Nat) : Int) := by
    rw [show (lo : Int) * 2 ^ s = ((lo * 2 ^ s : Nat) : Int) by simp, IntKind.wrap_u64]; simp
  have HD1 := Lib.hid d1
  have HD2 := Lib.hid d2
  have HX5 := Lib.hid x5
  obtain ⟨N, hN⟩ : ∃ N, N = hi * 18446744073709551616 + lo := ⟨_, rfl⟩
  rw [← hN] at HD1 HD2 HX5 ⊢
  obtain ⟨Y, hY⟩ : ∃ Y, Y = y * 2 ^ s := ⟨_, rfl⟩
  obtain ⟨u, hu⟩ : ∃ u, u = hi * 2 ^ s + lo / 2 ^ (64 - s) := ⟨_, rfl⟩
  obtain ⟨v, hv⟩ : ∃ v, v = lo * 2 ^ s % 18446744073709551616 := ⟨_, rfl⟩
  obtain ⟨z1, hz1⟩ : ∃ z, z = hi * 2 ^ s := ⟨_, rfl⟩
  obtain ⟨z2, hz2⟩ : ∃ z, z = lo / 2 ^ (64 - s) := ⟨_, rfl⟩
  rw [← hY] at yl yh x4 t1 HD1 HD2
  rw [← hu] at x4 t4 HX5
  rw [← hv] at t5 HX5 vl
  rw [← hz1] at t2 t4
  rw [← hz2] at t3 t4
  clear hY hu hv hz1 hz2 hN d1 d2 x1 x2 x3 x5 hs1
  have t6 := and32 Y yh
  have t7 := and32 v vl
  have t8 : (Y : Int) / 4294967296 = ((Y / 4294967296 : Nat) : Int) := by simp
  have t9 : (v : Int) / 4294967296 = ((v / 4294967296 : Nat) : Int) := by simp
  obtain ⟨a, ha⟩ : ∃ a, a = Y / 4294967296 := ⟨_, rfl⟩
  obtain ⟨b, hb⟩ : ∃ b, b = Y % 4294967296 := ⟨_, rfl⟩
  obtain ⟨c, hc⟩ : ∃ c, c = v / 4294967296 := ⟨_, rfl⟩
  obtain ⟨d, hd⟩ : ∃ d, d = v % 4294967296 := ⟨_, rfl⟩
  rw [← ha] at t8
  rw [← hb] at t6
  rw [← hc] at t9
  rw [← hd] at t7
  have e1 : Y = a * 4294967296 + b := by omega
  have e2 : v = c * 4294967296 + d := by omega
  have b1 : 2147483648 ≤ a := by omega
  have b2 : a < 4294967296 := by omega
  have b3 : b < 4294967296 := by omega
  have b4 : c < 4294967296 := by omega
  have b5 : d < 4294967296 := by omega
  have DV1 : Hid (DV u c a b Y ((u * 4294967296 + c) / Y)) := Lib.hid ⟨e1, b1, b2, b3, b4, x4, rfl⟩
  have hQ1 := dv_lt x4 b4
  have hR1 := Nat.mod_lt (u * 4294967296 + c) (show 0 < Y by omega)
  have hM1 := Nat.div_add_mod (u * 4294967296 + c) Y
  obtain ⟨Q1, hq1⟩ : ∃ q, q = (u * 4294967296 + c) / Y := ⟨_, rfl⟩
  obtain ⟨R1, hr1⟩ : ∃ q, q = (u * 4294967296 + c) % Y := ⟨_, rfl⟩
  rw [← hq1] at DV1 hQ1 hM1
  rw [← hr1] at hR1 hM1
  have DV2 : Hid (DV R1 d a b Y ((R1 * 4294967296 + d) / Y)) := Lib.hid ⟨e1, b1, b2, b3, b5, hR1, rfl⟩
  have hQ2 := dv_lt hR1 b5
  have hR2 := Nat.mod_lt (R1 * 4294967296 + d) (show 0 < Y by omega)
  have hM2 := Nat.div_add_mod (R1 * 4294967296 + d) Y
  obtain ⟨wq, wr⟩ := dv_whole (B := 4294967296) (d := d) (show 0 < Y by omega) hM1
  obtain ⟨Q2, hq2⟩ : ∃ q, q = (R1 * 4294967296 + d) / Y := ⟨_, rfl⟩
  obtain ⟨R2, hr2⟩ : ∃ q, q = (R1 * 4294967296 + d) % Y := ⟨_, rfl⟩
  rw [← hq2] at DV2 hQ2 hM2 wq
  rw [← hr2] at hR2 hM2 wr
  have eN : (u * 4294967296 + c) * 4294967296 + d = N * 2 ^ s := by rw [← HX5.out, e2]; omega
  rw [eN] at wq wr
  have HRQ : Hid (N / y = Q1 * 4294967296 + Q2) := Lib.hid (HD1.out.symm.trans wq)
  have HRR : Hid ((R2 : Int) / 2 ^ s = ((N % y : Nat) : Int)) := Lib.hid (by rw [← HD2.out, wr]; simp)
  have HM1 := Lib.hid hM1
  have HM2 := Lib.hid hM2
  have HR2 := Lib.hid hR2
  clear hM1 hM2 wq wr eN hq1 hr1 hq2 hr2 HD1 HD2 HX5 ha hb hc hd e1 e2 hR2
  have i1 : IntKind.u64.wrap ((u : Int) / (a : Int)) = ((u / a : Nat) : Int) := by rw [← Int.natCast_ediv]; exact wrapu (Nat.lt_of_le_of_lt (Nat.div_le_self _ _) (by omega))
  have i2 : ¬ (a : Int) = 0 := by omega
  have j1 := Nat.div_mul_le_self u a
  have j2 := dv_small (u := u) b1 (by omega)
  have j3 := Nat.div_add_mod u a
  have j4 := Nat.mod_lt u (show 0 < a by omega)
  obtain ⟨k1, hk1⟩ : ∃ k, k = u / a := ⟨_, rfl⟩
  obtain ⟨k2, hk2⟩ : ∃ k, k = u % a := ⟨_, rfl⟩
  rw [← hk1] at i1 j1 j2 j3
  rw [← hk2] at j3 j4
  have i3 : IntKind.u64.wrap ((k1 : Int) * (a : Int)) = ((k1 * a : Nat) : Int) := by rw [← Int.natCast_mul]; exact wrapu (by omega)
  have i4 : (u : Int) - ((k1 * a : Nat) : Int) = (k2 : Int) := by rw [Nat.mul_comm]; omega
  have i5 : IntKind.u64.wrap ((u : Int) - ((k1 * a : Nat) : Int)) = (k2 : Int) := by rw [i4]; exact wrapu (by omega)
  have HJ : Hid (k1 * a + k2 = u) := Lib.hid (by rw [Nat.mul_comm]; exact j3)
  have HJ2 : Hid (Q1 ≤ k1) := Lib.hid (by rw [DV1.out.Q_eq, hk1]; exact dv_first DV1.out.Y_eq (by have := DV1.out.u_hi; omega) (by omega) b4)
  obtain ⟨m1, hm1⟩ : ∃ m, m = k1 * a := ⟨_, rfl⟩
  rw [← hm1] at i3 i4 i5
  clear hk1 hk2 j1 j3 hm1
  go_enter Tryd.func76, Tryd.ntmps76
  go_wp2_with fail
  refine (LZ.out _).mono ?_; rintro e w1 ⟨rfl, rfl⟩
  go_upto_block 0 with fail
  go_cut [15, 16] (fun x1 x2 wx => x1 = .int .u64 Q1 ∧ wx = w)
  case first =>
    go_wp2_with fail
    go_loop [15, 16] (fun x1 x2 => ∃ q r : Nat, x1 = .int .u64 q ∧ x2 = .int .u64 r ∧ q * a + r = u ∧ r < 4294967296 ∧ Q1 ≤ q ∧ q ≤ 8589934592) (fun x1 _ => (intOf x1).toNat)
    case atStart => exact ⟨k1, k2, rfl, rfl, HJ.out, by omega, HJ2.out, by omega⟩
    case round =>
      obtain ⟨q, r, rfl, rfl, hqr, hr, hQ, hq⟩ := hrel
      have HQR := Lib.hid hqr
      clear hqr
      have hY0 : 0 < Y := by omega
      have mb : q < 4294967296 → q * b ≤ 4294967295 * 4294967295 := fun h => Nat.mul_le_mul (by omega) (by omega)
      have hdone : Hid (q < 4294967296 → q * b ≤ 4294967296 * r + c → q = Q1) := Lib.hid fun h1 h2 => by
        rw [DV1.out.Q_eq]; exact dv_done DV1.out.Y_eq hY0 HQR.out h2 (by rw [← DV1.out.Q_eq]; exact hQ)
      have htop : Hid (4294967296 * r + c < q * b → Q1 < q) := Lib.hid fun h => by
        rw [DV1.out.Q_eq]; exact dv_top DV1.out.Y_eq hY0 HQR.out h
      have hbrk : Hid (∀ k, q = k + 1 → 4294967296 ≤ r + a → Q1 ≤ k → k = Q1) := Lib.hid fun k hk h1 h2 => by
        have hh : k * a + (r + a) = u := by rw [← HQR.out, hk, Nat.add_mul]; omega
        rw [DV1.out.Q_eq]; exact dv_break DV1.out.Y_eq hY0 DV1.out.b_hi DV1.out.u_hi hh h1 (by rw [← DV1.out.Q_eq]; exact h2)
      have hnx : Hid (∀ k, q = k + 1 → k * a + (r + a) = u) := Lib.hid fun k hk => by rw [← HQR.out, hk, Nat.add_mul]; omega
      by_cases g1 : 4294967296 ≤ q
      · obtain ⟨k, rfl⟩ : ∃ k, q = k + 1 := ⟨q - 1, by omega⟩
        have g1' : (4294967296 : Int) ≤ (k : Int) + 1 := by omega
        have g2 : Q1 ≤ k := by omega
        clear mb hdone htop
        by_cases g3 : 4294967296 ≤ r + a
        · have g3' : (4294967296 : Int) ≤ (r : Int) + a := by omega
          have HE := Lib.hid (hbrk.out k rfl g3 g2)
          clear hbrk hnx g3
          go_wp2_with fail
          go_meet; exact ⟨by rw [HE.out], rfl⟩
        · have g3' : ¬ (4294967296 : Int) ≤ (r : Int) + a := by omega
          have HN := Lib.hid (hnx.out k rfl)
          clear hbrk hnx
          go_wp2_with fail
          go_round
          case rel => exact ⟨k, r + a, rfl, by simp, HN.out, by omega, g2, by omega⟩
          case measure => simp [intOf]; try omega
      · have g1' : ¬ (4294967296 : Int) ≤ q := by omega
        have mb2 := mb (by omega)
        have s1 : IntKind.u64.wrap ((q : Int) * (b : Int)) = ((q * b : Nat) : Int) := by rw [← Int.natCast_mul]; exact wrapu (by omega)
        obtain ⟨M, hM⟩ : ∃ M, M = q * b := ⟨_, rfl⟩
        rw [← hM] at s1 mb2 hdone htop
        clear mb hM
        by_cases g4 : 4294967296 * r + c < M
        · have g4' : 4294967296 * (r : Int) + (c : Int) < M := by omega
          have g5 := htop.out g4
          obtain ⟨k, hk⟩ : ∃ k, q = k + 1 := ⟨q - 1, by omega⟩
          have g2 : Q1 ≤ k := by omega
          have g6 : k + 1 ≤ q := by omega
          have g7 : k ≤ 8589934591 := by omega
          have hk1 := Lib.hid (hbrk.out k hk)
          have hk2 := Lib.hid (hnx.out k hk)
          have HK := Lib.hid hk
          have g8 : (q : Int) - 1 = (k : Int) := by omega
          clear hdone htop hbrk hnx hk g4 g5
          by_cases g3 : 4294967296 ≤ r + a
          · have g3' : (4294967296 : Int) ≤ (r : Int) + a := by omega
            have HE := Lib.hid (hk1.out g3 g2)
            clear hk1 hk2 g3
            go_wp2_with fail
            go_meet; exact ⟨by rw [HE.out], rfl⟩
          · have g3' : ¬ (4294967296 : Int) ≤ (r : Int) + a := by omega
            have HN := Lib.hid hk2.out
            clear hk1 hk2
            go_wp2_with fail
            go_round
            case rel => exact ⟨k, r + a, rfl, by simp, HN.out, by omega, g2, by omega⟩
            case measure => (have := HK.out); simp [intOf]; try omega
        · have g4' : ¬ 4294967296 * (r : Int) + (c : Int) < M := by omega
          have HE := Lib.hid (hdone.out (by omega) (by omega))
          clear hdone htop hbrk hnx g4
          go_wp2_with fail
          go_meet; exact ⟨by rw [HE.out], rfl⟩
  case rest =>
    obtain ⟨rfl, rfl⟩ := hcut
    clear i1 i3 i4 i5 HJ HJ2 j2 j4
    obtain ⟨e1, p1, q1, l1⟩ := wrapu_ex ((u : Int) * 4294967296)
    obtain ⟨e2, p2, q2, l2⟩ := wrapu_ex ((e1 : Int) + (c : Int))
    obtain ⟨e3, p3, q3, l3⟩ := wrapu_ex ((Q1 : Int) * (Y : Int))
    have p4 := dv_rest yh hR1 HM1.out q1 q2 q3
    obtain ⟨e4, p5, q5, l5⟩ := wrapu_ex ((R1 : Int) * 4294967296)
    obtain ⟨e5, p6, q6, l6⟩ := wrapu_ex ((e4 : Int) + (d : Int))
    obtain ⟨e6, p7, q7, l7⟩ := wrapu_ex ((Q2 : Int) * (Y : Int))
    have hR2 : R2 < Y := HR2.out
    have p8 := dv_rest yh hR2 HM2.out q5 q6 q7
    clear q1 q2 q3 q5 q6 q7
    have i1 : IntKind.u64.wrap ((R1 : Int) / (a : Int)) = ((R1 / a : Nat) : Int) := by rw [← Int.natCast_ediv]; exact wrapu (Nat.lt_of_le_of_lt (Nat.div_le_self _ _) (by omega))
    have j1 := Nat.div_mul_le_self R1 a
    have j2 := dv_small (u := R1) b1 (by omega)
    have j3 := Nat.div_add_mod R1 a
    have j4 := Nat.mod_lt R1 (show 0 < a by omega)
    obtain ⟨k3, hk3⟩ : ∃ k, k = R1 / a := ⟨_, rfl⟩
    obtain ⟨k4, hk4⟩ : ∃ k, k = R1 % a := ⟨_, rfl⟩
    rw [← hk3] at i1 j1 j2 j3
    rw [← hk4] at j3 j4
    have i3 : IntKind.u64.wrap ((k3 : Int) * (a : Int)) = ((k3 * a : Nat) : Int) := by rw [← Int.natCast_mul]; exact wrapu (by omega)
    have i4 : (R1 : Int) - ((k3 * a : Nat) : Int) = (k4 : Int) := by rw [Nat.mul_comm]; omega
    have i5 : IntKind.u64.wrap ((R1 : Int) - ((k3 * a : Nat) : Int)) = (k4 : Int) := by rw [i4]; exact wrapu (by omega)
    have HJ : Hid (k3 * a + k4 = R1) := Lib.hid (by rw [Nat.mul_comm]; exact j3)
    have HJ2 : Hid (Q2 ≤ k3) := Lib.hid (by rw [DV2.out.Q_eq, hk3]; exact dv_first DV2.out.Y_eq (by have := DV2.out.u_hi; omega) (by omega) b5)
    obtain ⟨m3, hm3⟩ : ∃ m, m = k3 * a := ⟨_, rfl⟩
    rw [← hm3] at i3 i4 i5
    clear hk3 hk4 j1 j3 hm3
    go_upto_block 2 with fail
    go_cut [18, 16] (fun x1 x2 wx => x1 = .int .u64 Q2 ∧ wx = wc)
    case first =>
      go_wp2_with fail
      go_loop [18, 16] (fun x1 x2 => ∃ q r : Nat, x1 = .int .u64 q ∧ x2 = .int .u64 r ∧ q * a + r = R1 ∧ r < 4294967296 ∧ Q2 ≤ q ∧ q ≤ 8589934592) (fun x1 _ => (intOf x1).toNat)
      case atStart => exact ⟨k3, k4, rfl, rfl, HJ.out, by omega, HJ2.out, by omega⟩
      case round =>
        obtain ⟨q, r, rfl, rfl, hqr, hr, hQ, hq⟩ := hrel
        have HQR := Lib.hid hqr
        clear hqr
        have hY0 : 0 < Y := by omega
        have mb : q < 4294967296 → q * b ≤ 4294967295 * 4294967295 := fun h => Nat.mul_le_mul (by omega) (by omega)
        have hdone : Hid (q < 4294967296 → q * b ≤ 4294967296 * r + d → q = Q2) := Lib.hid fun h1 h2 => by
          rw [DV2.out.Q_eq]; exact dv_done DV2.out.Y_eq hY0 HQR.out h2 (by rw [← DV2.out.Q_eq]; exact hQ)
        have htop : Hid (4294967296 * r + d < q * b → Q2 < q) := Lib.hid fun h => by
          rw [DV2.out.Q_eq]; exact dv_top DV2.out.Y_eq hY0 HQR.out h
        have hbrk : Hid (∀ k, q = k + 1 → 4294967296 ≤ r + a → Q2 ≤ k → k = Q2) := Lib.hid fun k hk h1 h2 => by
          have hh : k * a + (r + a) = R1 := by rw [← HQR.out, hk, Nat.add_mul]; omega
          rw [DV2.out.Q_eq]; exact dv_break DV2.out.Y_eq hY0 DV2.out.b_hi DV2.out.u_hi hh h1 (by rw [← DV2.out.Q_eq]; exact h2)
        have hnx : Hid (∀ k, q = k + 1 → k * a + (r + a) = R1) := Lib.hid fun k hk => by rw [← HQR.out, hk, Nat.add_mul]; omega
        by_cases g1 : 4294967296 ≤ q
        · obtain ⟨k, rfl⟩ : ∃ k, q = k + 1 := ⟨q - 1, by omega⟩
          have g1' : (4294967296 : Int) ≤ (k : Int) + 1 := by omega
          have g2 : Q2 ≤ k := by omega
          clear mb hdone htop
          by_cases g3 : 4294967296 ≤ r + a
          · have g3' : (4294967296 : Int) ≤ (r : Int) + a := by omega
            have HE := Lib.hid (hbrk.out k rfl g3 g2)
            clear hbrk hnx g3
            go_wp2_with fail
            go_meet; exact ⟨by rw [HE.out], rfl⟩
          · have g3' : ¬ (4294967296 : Int) ≤ (r : Int) + a := by omega
            have HN := Lib.hid (hnx.out k rfl)
            clear hbrk hnx
            go_wp2_with fail
            go_round
            case rel => exact ⟨k, r + a, rfl, by simp, HN.out, by omega, g2, by omega⟩
            case measure => simp [intOf]; try omega
        · have g1' : ¬ (4294967296 : Int) ≤ q := by omega
          have mb2 := mb (by omega)
          have s1 : IntKind.u64.wrap ((q : Int) * (b : Int)) = ((q * b : Nat) : Int) := by rw [← Int.natCast_mul]; exact wrapu (by omega)
          obtain ⟨M, hM⟩ : ∃ M, M = q * b := ⟨_, rfl⟩
          rw [← hM] at s1 mb2 hdone htop
          clear mb hM
          by_cases g4 : 4294967296 * r + d < M
          · have g4' : 4294967296 * (r : Int) + (d : Int) < M := by omega
            have g5 := htop.out g4
            obtain ⟨k, hk⟩ : ∃ k, q = k + 1 := ⟨q - 1, by omega⟩
            have g2 : Q2 ≤ k := by omega
            have g6 : k + 1 ≤ q := by omega
            have g7 : k ≤ 8589934591 := by omega
            have hk1 := Lib.hid (hbrk.out k hk)
            have hk2 := Lib.hid (hnx.out k hk)
            have HK := Lib.hid hk
            have g8 : (q : Int) - 1 = (k : Int) := by omega
            clear hdone htop hbrk hnx hk g4 g5
            by_cases g3 : 4294967296 ≤ r + a
            · have g3' : (4294967296 : Int) ≤ (r : Int) + a := by omega
              have HE := Lib.hid (hk1.out g3 g2)
              clear hk1 hk2 g3
              go_wp2_with fail
              go_meet; exact ⟨by rw [HE.out], rfl⟩
            · have g3' : ¬ (4294967296 : Int) ≤ (r : Int) + a := by omega
              have HN := Lib.hid hk2.out
              clear hk1 hk2
              go_wp2_with fail
              go_round
              case rel => exact ⟨k, r + a, rfl, by simp, HN.out, by omega, g2, by omega⟩
              case measure => (have := HK.out); simp [intOf]; try omega
          · have g4' : ¬ 4294967296 * (r : Int) + (d : Int) < M := by omega
            have HE := Lib.hid (hdone.out (by omega) (by omega))
            clear hdone htop hbrk hnx g4
            go_wp2_with fail
            go_meet; exact ⟨by rw [HE.out], rfl⟩
    case rest =>
      obtain ⟨rfl, rfl⟩ := hcut
      clear i1 i3 i4 i5 HJ HJ2 j2 j4
      have f6 : (Q1 : Int) * 4294967296 + Q2 < 18446744073709551616 := by omega
      have f7 := HRR.out
      go_wp2_with fail
      go_ret2
      exact ⟨by rw [HRQ.out]; simp, 0, rfl⟩

end Go.Proofs.YtbaalbmchhgmnaaDoor
