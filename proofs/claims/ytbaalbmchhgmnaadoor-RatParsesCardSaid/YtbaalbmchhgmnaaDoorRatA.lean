/-
  Contracts of rat.size, gcd, split, reduced, rat and Make.
-/
import Derived.Test.YtbaalbmchhgmnaaDoorRatSpec
import Derived.Test.YtbaalbmchhgmnaaDoorNumD
import Derived.Test.YtbaalbmchhgmnaaDoorBox
import Derived.Test.YtbaalbmchhgmnaaDoorTail
namespace Go.Proofs.YtbaalbmchhgmnaaDoor
open Go.RowKit
set_option linter.unusedVariables false
set_option linter.unusedSimpArgs false

theorem wrapu {n : Nat} (h : n < 18446744073709551616) : IntKind.u64.wrap (n : Int) = (n : Int) := by rw [IntKind.wrap_u64]; omega
theorem ratSize (a : Int) (w : World) (ha : -9223372036854775808 ≤ a) (ha' : a ≤ 9223372036854775807) :
    Calls Tryd.prog 54 #[.int .i64 a] w fun e w' => e = .returned (.int .u64 (a.natAbs : Int)) ∧ w = w' := by
  go_enter Tryd.func54, Tryd.ntmps54
  go_wp2
  all_goals
    go_ret
    refine ⟨ret1 ?_, rfl⟩
    try simp only [IntKind.wrap_u64]
    omega

set_option maxHeartbeats 400000 in
theorem ratGcd (X Y : Nat) (w : World) (hX : X < 18446744073709551616) (hY : Y < 18446744073709551616) :
    Calls Tryd.prog 55 #[.int .u64 X, .int .u64 Y] w fun e w' => e = .returned (.int .u64 (Nat.gcd X Y)) ∧ ∃ n, w' = w.drewN n := by
  go_enter Tryd.func55, Tryd.ntmps55
  go_wp2
  go_loopw [0, 1] (fun a b wr => ∃ x y : Nat, x < 18446744073709551616 ∧ y < 18446744073709551616 ∧ Nat.gcd x y = Nat.gcd X Y ∧ a = .int .u64 x ∧ b = .int .u64 y ∧ ∃ n, wr = w.drewN n) (fun _ b _ => (intOf b).toNat)
  case atStart => exact ⟨X, Y, hX, hY, rfl, rfl, rfl, 0, rfl⟩
  case round =>
    obtain ⟨x, y, hx, hy, hg, rfl, rfl, n, rfl⟩ := hrel
    have HG := Lib.hid hg
    clear hg
    by_cases h0 : y = 0
    · subst h0
      go_wp2
      go_ret
      exact ⟨ret1 (by rw [← HG.out, Nat.gcd_zero_right]), n, rfl⟩
    · have f0 : ((y : Int) == 0) = false := by simpa using h0
      go_wp2
      go_quiet (fail)
      go_wp2
      go_roundw
      case rel => exact ⟨y, x % y, hy, by have := Nat.mod_lt x (y := y) (by omega); omega, by rw [← HG.out, Nat.gcd_comm x y, Nat.gcd_rec y x, Nat.gcd_comm], rfl, by simp, n + nq, by simp⟩
      case measure => simp [intOf]; have := Nat.mod_lt x (y := y) (by omega); omega

theorem ratSplit (a b : Int) (w : World) (a0 : -9223372036854775808 ≤ a) (a1 : a ≤ 9223372036854775807) (b0 : -9223372036854775808 ≤ b) (b1 : b ≤ 9223372036854775807) :
    Calls Tryd.prog 34 #[.int .i64 a, .int .i64 b] w fun e w' => e = .returned (.agg #[.bool (sgn a b), .int .u64 (a.natAbs : Int), .int .u64 (b.natAbs : Int)]) ∧ Below w.heap.size w w' := by
  obtain ⟨p, hp⟩ : ∃ p : Bool, p = decide (a < 0) := ⟨_, rfl⟩
  obtain ⟨q, hq⟩ : ∃ p : Bool, p = decide (b < 0) := ⟨_, rfl⟩
  have hs : sgn a b = (p != q) := by unfold sgn; rw [← hp, ← hq]
  have HS := Lib.hid hs
  have SZ : Hid (∀ (a : Int) w, -9223372036854775808 ≤ a → a ≤ 9223372036854775807 → Calls Tryd.prog 54 #[.int .i64 a] w fun e w' => e = .returned (.int .u64 (a.natAbs : Int)) ∧ w = w') := Lib.hid fun a w h h' => ratSize a w h h'
  have f1 : decide (a < 0) = p := hp.symm
  have f2 : decide (b < 0) = q := hq.symm
  clear hp hq hs
  cases p <;> cases q
  all_goals
    go_enter Tryd.func34, Tryd.ntmps34
    go_wp2_with fail
    refine (SZ.out _ _ a0 a1).mono ?_; rintro e w1 ⟨rfl, rfl⟩
    go_wp2_with fail
    refine (SZ.out _ _ b0 b1).mono ?_; rintro e w2 ⟨rfl, rfl⟩
    go_wp2_with fail
    refine bodyPost_ret (v := .agg #[.bool (sgn a b), .int .u64 (a.natAbs : Int), .int .u64 (b.natAbs : Int)]) (by simp [results, Tryd.results34, go_sem, HS.out]) rfl ⟨rfl, ?_⟩
    exact below_alloc _ _

set_option maxRecDepth 100000 in
set_option maxHeartbeats 4000000 in
theorem ratReduced (neg : Bool) (p q : Nat) (w : World) (hp : p < 18446744073709551616) (hq : q < 18446744073709551616) (h0 : 0 < Nat.gcd p q) :
    Calls Tryd.prog 35 #[.agg #[.bool neg, .int .u64 p, .int .u64 q]] w fun e w' => e = .returned (.agg #[.bool neg, .int .u64 ((p / Nat.gcd p q : Nat) : Int), .int .u64 ((q / Nat.gcd p q : Nat) : Int)]) ∧ Below w.heap.size w w' := by
  have GC := Lib.hid (fun w => ratGcd p q w hp hq)
  obtain ⟨g, hg⟩ : ∃ g, g = Nat.gcd p q := ⟨_, rfl⟩
  rw [← hg] at GC h0 ⊢
  have f0 : ((g : Int) == 0) = false := by
    have : ¬ g = 0 := by omega
    simpa using this
  have f1 : ¬ g = 0 := by omega
  have f2 : ¬ (g : Int) = 0 := by omega
  have e1 : (p : Int) / (g : Int) = ((p / g : Nat) : Int) := by simp
  have e2 : (q : Int) / (g : Int) = ((q / g : Nat) : Int) := by simp
  have b1 : p / g ≤ p := Nat.div_le_self _ _
  have b2 : q / g ≤ q := Nat.div_le_self _ _
  have s1 : IntKind.u64.wrap ((p : Int) / (g : Int)) = ((p / g : Nat) : Int) := by rw [e1]; exact wrapu (by omega)
  have s2 : IntKind.u64.wrap ((q : Int) / (g : Int)) = ((q / g : Nat) : Int) := by rw [e2]; exact wrapu (by omega)
  have HP := Lib.hid hp
  have HQ := Lib.hid hq
  clear hg hp hq e1 e2 b1 b2
  go_enter Tryd.func35, Tryd.ntmps35
  go_wp2_with fail
  refine (GC.out _).mono ?_; rintro e w1 ⟨rfl, n1, rfl⟩
  have X1 := Lib.hid (((Box.new w 44 #[.bool neg, .int .u64 p, .int .u64 q]).below (below_alloc _ (.cells #[.bool false, .int .u64 0, .int .u64 0] 44))).below (below_drewN (Below.refl _ _) n1))
  have Y1 := Lib.hid ((Box.new (w.alloc (.cells #[.bool neg, .int .u64 p, .int .u64 q] 44)) 44 #[.bool false, .int .u64 0, .int .u64 0]).below (below_drewN (Below.refl _ _) n1))
  have hz1 : (w.alloc (.cells #[.bool neg, .int .u64 p, .int .u64 q] 44)).heap.size = w.heap.size + 1 := by simp
  rw [hz1] at Y1
  have HB1 := Lib.hid (below_drewN (below_step (below_alloc w (.cells #[.bool neg, .int .u64 p, .int .u64 q] 44)) (below_alloc _ (.cells #[.bool false, .int .u64 0, .int .u64 0] 44))) n1)
  go_wp2_with fail
  generalize ((w.alloc (.cells #[.bool neg, .int .u64 p, .int .u64 q] 44)).alloc (.cells #[.bool false, .int .u64 0, .int .u64 0] 44)).drewN n1 = w1 at *
  have g0 := X1.out.lat 0 _ rfl
  have g1 := X1.out.lat 1 _ rfl
  have g2 := X1.out.lat 2 _ rfl
  refine wp_region_tail 11 (by kernel_rfl) (by kernel_rfl) ?_
  simp only [List.take_succ_cons, List.take_zero, List.drop_succ_cons, List.drop_zero]
  repeat (go_big_quiet_step (fail))
  refine wpQuiet_nil ?_
  intro w2 hb2
  have Y2 := Y1.out.below hb2
  have HB2 := Lib.hid (below_step HB1.out hb2)
  have y0 := Y2.at_ 0 _ rfl
  have y1 := Y2.at_ 1 _ rfl
  have y2 := Y2.at_ 2 _ rfl
  have z0 := Y2.frozen 0
  have z1 := Y2.frozen 1
  have z2 := Y2.frozen 2
  clear hb2 Y2 g0 g1 g2
  go_wp2_with fail
  refine bodyPost_ret (v := .agg #[.bool neg, .int .u64 ((p / g : Nat) : Int), .int .u64 ((q / g : Nat) : Int)]) (by simp [results, Tryd.results35, go_sem, y0, y1, y2]) rfl ⟨rfl, ?_⟩
  exact ((HB2.out.setCell (by simp) _).setCell (by simp) _).setCell (by simp) _

theorem wrapi {n : Int} (h : -9223372036854775808 ≤ n) (h' : n ≤ 9223372036854775807) : IntKind.i64.wrap n = n := IntWalk.i64_in _ ⟨h, h'⟩
set_option maxRecDepth 100000 in
set_option maxHeartbeats 4000000 in
theorem ratRat (neg : Bool) (p q : Nat) (w : World) (hp : p < 18446744073709551616) (hq : q < 18446744073709551616) :
    Calls Tryd.prog 36 #[.agg #[.bool neg, .int .u64 p, .int .u64 q]] w fun e w' => e = ret3r (ratF neg p q) ∧ Below w.heap.size w w' := by
  cases neg
  · by_cases c1 : 9223372036854775807 < p
    · have HE : Hid (ratF false p q = (0, 0, 3)) := Lib.hid (by unfold ratF; rw [if_pos (.inl (by simpa using c1))])
      have f1 : (9223372036854775807 : Int) < p := by omega
      clear c1
      go_enter Tryd.func36, Tryd.ntmps36
      go_wp2_with fail
      refine bodyPost_ret (v := .tuple #[.agg #[.int .i64 0, .int .i64 0], .int .i64 3]) (by simp [results, Tryd.results36, go_sem]) rfl ⟨by rw [HE.out]; rfl, ?_⟩
      exact below_step (below_alloc _ _) (below_alloc _ _)
    · by_cases c2 : 9223372036854775807 < q
      · have HE : Hid (ratF false p q = (0, 0, 3)) := Lib.hid (by unfold ratF; rw [if_pos (.inr c2)])
        have f1 : ¬ (9223372036854775807 : Int) < p := by omega
        have f2 : (9223372036854775807 : Int) < q := by omega
        clear c1 c2
        go_enter Tryd.func36, Tryd.ntmps36
        go_wp2_with fail
        refine bodyPost_ret (v := .tuple #[.agg #[.int .i64 0, .int .i64 0], .int .i64 3]) (by simp [results, Tryd.results36, go_sem]) rfl ⟨by rw [HE.out]; rfl, ?_⟩
        exact below_step (below_alloc _ _) (below_alloc _ _)
      · have HE : Hid (ratF false p q = ((p : Int), (q : Int), 0)) := Lib.hid (by unfold ratF; rw [if_neg (by simp; omega)]; rfl)
        have f1 : ¬ (9223372036854775807 : Int) < p := by omega
        have f2 : ¬ (9223372036854775807 : Int) < q := by omega
        have s1 : IntKind.i64.wrap (p : Int) = p := wrapi (by omega) (by omega)
        have s2 : IntKind.i64.wrap (q : Int) = q := wrapi (by omega) (by omega)
        clear c1 c2
        go_enter Tryd.func36, Tryd.ntmps36
        go_wp2_with fail
        refine bodyPost_ret (v := .tuple #[.agg #[.int .i64 p, .int .i64 q], .int .i64 0]) (by simp [results, Tryd.results36, go_sem]) rfl ⟨by rw [HE.out]; rfl, ?_⟩
        exact below_step (below_alloc _ _) (below_alloc _ _)
  · by_cases c1 : 9223372036854775808 < p
    · have HE : Hid (ratF true p q = (0, 0, 3)) := Lib.hid (by unfold ratF; rw [if_pos (.inl (by simpa using c1))])
      have f1 : (9223372036854775808 : Int) < p := by omega
      clear c1
      go_enter Tryd.func36, Tryd.ntmps36
      go_wp2_with fail
      refine bodyPost_ret (v := .tuple #[.agg #[.int .i64 0, .int .i64 0], .int .i64 3]) (by simp [results, Tryd.results36, go_sem]) rfl ⟨by rw [HE.out]; rfl, ?_⟩
      exact below_step (below_alloc _ _) (below_alloc _ _)
    have hp : p ≤ 9223372036854775808 := by omega
    by_cases c2 : 9223372036854775807 < q
    · have HE : Hid (ratF true p q = (0, 0, 3)) := Lib.hid (by unfold ratF; rw [if_pos (.inr c2)])
      have f1 : ¬ (9223372036854775808 : Int) < p := by omega
      have f2 : (9223372036854775807 : Int) < q := by omega
      clear c2
      go_enter Tryd.func36, Tryd.ntmps36
      go_wp2_with fail
      refine bodyPost_ret (v := .tuple #[.agg #[.int .i64 0, .int .i64 0], .int .i64 3]) (by simp [results, Tryd.results36, go_sem]) rfl ⟨by rw [HE.out]; rfl, ?_⟩
      exact below_step (below_alloc _ _) (below_alloc _ _)
    · have HE : Hid (ratF true p q = (-(p : Int), (q : Int), 0)) := Lib.hid (by unfold ratF; rw [if_neg (by simp; omega)]; rfl)
      have f1 : ¬ (9223372036854775808 : Int) < p := by omega
      have f2 : ¬ (9223372036854775807 : Int) < q := by omega
      have s2 : IntKind.i64.wrap (q : Int) = q := wrapi (by omega) (by omega)
      have hu : ∃ U V : Int, IntKind.u64.wrap (-(p : Int)) = U ∧ IntKind.i64.wrap U = -(p : Int) ∧ IntKind.i64.wrap (p : Int) = V ∧ 0 ≤ U := ⟨_, _, rfl, by rw [IntKind.wrap_u64, IntKind.wrap_i64]; omega, rfl, by rw [IntKind.wrap_u64]; omega⟩
      obtain ⟨U, V, u1, u2, u3, u4⟩ := hu
      clear c2
      go_enter Tryd.func36, Tryd.ntmps36
      go_wp2_with fail
      refine bodyPost_ret (v := .tuple #[.agg #[.int .i64 (-(p : Int)), .int .i64 q], .int .i64 0]) (by simp [results, Tryd.results36, go_sem]) rfl ⟨by rw [HE.out]; rfl, ?_⟩
      exact below_step (below_alloc _ _) (below_alloc _ _)

theorem mk_gcd (n d : Int) (h : d ≠ 0) : 0 < Nat.gcd n.natAbs d.natAbs := Nat.gcd_pos_of_pos_right _ (by omega)
set_option maxRecDepth 100000 in
set_option maxHeartbeats 4000000 in
theorem ratMake (n d : Int) (w : World) (n0 : -9223372036854775808 ≤ n) (n1 : n ≤ 9223372036854775807) (d0 : -9223372036854775808 ≤ d) (d1 : d ≤ 9223372036854775807) :
    Calls Tryd.prog 12 #[.int .i64 n, .int .i64 d] w fun e w' => e = ret3r (mk n d) ∧ Below w.heap.size w w' := by
  by_cases hd : d = 0
  · have HE : Hid (mk n d = (0, 0, 4)) := Lib.hid (by unfold mk; rw [if_pos hd])
    have f : (d == 0) = true := by simpa using hd
    clear hd
    go_enter Tryd.func12, Tryd.ntmps12
    go_wp2_with fail
    refine bodyPost_ret (v := .tuple #[.agg #[.int .i64 0, .int .i64 0], .int .i64 4]) (by simp [results, Tryd.results12, go_sem]) rfl ⟨by rw [HE.out]; rfl, ?_⟩
    exact below_alloc _ _
  · have hE : mk n d = ratF (sgn n d) (n.natAbs / Nat.gcd n.natAbs d.natAbs) (d.natAbs / Nat.gcd n.natAbs d.natAbs) := by unfold mk; rw [if_neg hd]
    have hg := mk_gcd n d hd
    have f : (d == 0) = false := by simpa using hd
    have SP := Lib.hid (fun w => ratSplit n d w n0 n1 d0 d1)
    have RE := Lib.hid (fun w => ratReduced (sgn n d) n.natAbs d.natAbs w (by omega) (by omega) hg)
    have RR := Lib.hid (fun w => ratRat (sgn n d) (n.natAbs / Nat.gcd n.natAbs d.natAbs) (d.natAbs / Nat.gcd n.natAbs d.natAbs) w (Nat.lt_of_le_of_lt (Nat.div_le_self _ _) (by omega)) (Nat.lt_of_le_of_lt (Nat.div_le_self _ _) (by omega)))
    rw [← hE] at RR
    obtain ⟨⟨a, b, e⟩, hm⟩ : ∃ r, r = mk n d := ⟨_, rfl⟩
    rw [← hm] at RR ⊢
    simp only [ret3r] at RR ⊢
    clear hE hg hd hm
    generalize sgn n d = s at *
    generalize n.natAbs / Nat.gcd n.natAbs d.natAbs = p at *
    generalize d.natAbs / Nat.gcd n.natAbs d.natAbs = q at *
    generalize n.natAbs = N at *
    generalize d.natAbs = D at *
    go_enter Tryd.func12, Tryd.ntmps12
    go_wp2_with fail
    refine (SP.out _).mono ?_; rintro e1 w1 ⟨rfl, hb⟩
    have Y1 := Lib.hid ((Box.new w 23 #[.int .i64 0, .int .i64 0]).below hb)
    have HB1 := Lib.hid (below_step (below_alloc w (.cells #[.int .i64 0, .int .i64 0] 23)) hb)
    clear hb
    go_wp2_with fail
    refine (RE.out _).mono ?_; rintro e2 w2 ⟨rfl, hb⟩
    have Y2 := Lib.hid (Y1.out.below hb)
    have HB2 := Lib.hid (below_step HB1.out hb)
    clear hb HB1 Y1
    go_wp2_with fail
    refine (RR.out _).mono ?_; rintro e3 w3 ⟨rfl, hb⟩
    have Y3 := Y2.out.below hb
    have HB3 := Lib.hid (below_step HB2.out hb)
    have y0 := Y3.at_ 0 _ rfl
    have y1 := Y3.at_ 1 _ rfl
    have z0 := Y3.frozen 0
    have z1 := Y3.frozen 1
    clear hb HB2 Y2 Y3
    go_wp2_with fail
    refine bodyPost_ret (v := .tuple #[.agg #[.int .i64 a, .int .i64 b], .int .i64 e]) (by simp [results, Tryd.results12, go_sem, y0, y1]) rfl ⟨rfl, ?_⟩
    exact (HB3.out.setCell (Nat.le_refl _) _).setCell (Nat.le_refl _) _

end Go.Proofs.YtbaalbmchhgmnaaDoor
