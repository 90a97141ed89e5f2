/-
  Contracts of rat.by, join, Add, Sub.
-/
import Derived.Test.YtbaalbmchhgmnaaDoorDivA
namespace Go.Proofs.YtbaalbmchhgmnaaDoor
open Go.RowKit
set_option linter.unusedVariables false
set_option linter.unusedSimpArgs false

theorem div64 (hi lo y : Nat) (w : World) (hl : lo < 18446744073709551616) (hy : y < 18446744073709551616) (h1 : hi < y) :
    Calls Tryd.prog 76 #[.int .u64 hi, .int .u64 lo, .int .u64 y] w fun e w' => e = .returned (.tuple #[.int .u64 (((hi * 18446744073709551616 + lo) / y : Nat) : Int), .int .u64 (((hi * 18446744073709551616 + lo) % y : Nat) : Int)]) ∧ ∃ n, w' = w.drewN n := by
  by_cases h0 : hi = 0
  · subst h0
    have := div64_easy lo y w hl hy (by omega)
    simpa using this
  · exact div64_hard hi lo y _ w hl hy (by omega) h1 rfl
theorem by_law {m d : Nat} (hd : 0 < d) : HI (m / d) = HI m / d ∧ LO (m / d) = (HI m % d * 18446744073709551616 + LO m) / d ∧ m % d = (HI m % d * 18446744073709551616 + LO m) % d := by
  have h1 := Nat.div_add_mod (HI m) d
  obtain ⟨a, b⟩ := dv_whole (B := 18446744073709551616) (d := LO m) hd h1
  have h2 := Nat.mod_lt (HI m) hd
  have h3 := LO_lt m
  have h4 : (HI m % d * 18446744073709551616 + LO m) / d < 18446744073709551616 := by
    rw [Nat.div_lt_iff_lt_mul hd]
    have : (HI m % d + 1) * 18446744073709551616 ≤ d * 18446744073709551616 := Nat.mul_le_mul_right _ h2
    rw [Nat.mul_comm 18446744073709551616]; omega
  rw [← HILO m] at a b
  rw [a, b]
  generalize (HI m % d * 18446744073709551616 + LO m) / d = x at *
  generalize HI m / d = y at *
  exact ⟨by unfold HI; omega, by unfold LO; omega, rfl⟩

set_option maxRecDepth 100000 in
set_option maxHeartbeats 4000000 in
theorem ratBy (neg : Bool) (m d : Nat) (w : World) (hm : m < 340282366920938463463374607431768211456) (hd : d < 18446744073709551616) (hd0 : 0 < d) :
    Calls Tryd.prog 60 #[W128 neg m, .int .u64 d] w fun e w' => e = .returned (.tuple #[W128 neg (m / d), .int .u64 ((m % d : Nat) : Int)]) ∧ Below w.heap.size w w' := by
  obtain ⟨x1, x2, x3⟩ := by_law (m := m) hd0
  have D1 : Hid (∀ w, Calls Tryd.prog 76 #[.int .u64 0, .int .u64 (HI m), .int .u64 d] w fun e w' => e = .returned (.tuple #[.int .u64 ((HI m / d : Nat) : Int), .int .u64 ((HI m % d : Nat) : Int)]) ∧ ∃ n, w' = w.drewN n) := Lib.hid fun w => div64_easy (HI m) d w (HI_lt hm) hd hd0
  have D2 := Lib.hid (fun w => div64 (HI m % d) (LO m) d w (LO_lt m) hd (Nat.mod_lt _ hd0))
  rw [← x2, ← x3] at D2
  rw [← x1] at D1
  unfold W128
  generalize HI (m / d) = h1 at *
  generalize LO (m / d) = l1 at *
  generalize m % d = r at *
  generalize HI m % d = r1 at *
  generalize HI m = h2 at *
  generalize LO m = l2 at *
  clear x1 x2 x3
  go_enter Tryd.func60, Tryd.ntmps60
  go_wp2_with fail
  refine (D1.out _).mono ?_; rintro e w1 ⟨rfl, n1, rfl⟩
  have X0 := Lib.hid (((Box.new w 59 #[.bool neg, .int .u64 h2, .int .u64 l2]).below (below_alloc _ (.cells #[.bool false, .int .u64 0, .int .u64 0] 59))).below (below_drewN (Below.refl _ _) n1))
  have X1 := Lib.hid ((box1 w (.cells #[.bool neg, .int .u64 h2, .int .u64 l2] 59) 59 #[.bool false, .int .u64 0, .int .u64 0]).below (below_drewN (Below.refl _ _) n1))
  have HB := Lib.hid (below_drewN (below_step (below_alloc w (.cells #[.bool neg, .int .u64 h2, .int .u64 l2] 59)) (below_alloc _ (.cells #[.bool false, .int .u64 0, .int .u64 0] 59))) n1)
  generalize ((w.alloc (.cells #[.bool neg, .int .u64 h2, .int .u64 l2] 59)).alloc (.cells #[.bool false, .int .u64 0, .int .u64 0] 59)).drewN n1 = w1 at *
  have p0 := X0.out.at_ 0 _ rfl
  have p1 := X0.out.at_ 1 _ rfl
  have p2 := X0.out.at_ 2 _ rfl
  go_wp2_with fail
  refine (D2.out _).mono ?_; rintro e w2 ⟨rfl, n2, rfl⟩
  have Y0 := X0.out.below (below_drewN (Below.refl _ _) n2)
  have Y1 := X1.out.below (below_drewN (Below.refl _ _) n2)
  have HB2 := Lib.hid (below_drewN HB.out n2)
  have q0 := Y0.at_ 0 _ rfl
  have y0 := Y1.at_ 0 _ rfl
  have y1 := Y1.at_ 1 _ rfl
  have y2 := Y1.at_ 2 _ rfl
  have z0 := Y1.frozen 0
  have z1 := Y1.frozen 1
  have z2 := Y1.frozen 2
  clear Y0 Y1 p0 p1 p2
  generalize w1.drewN n2 = w2 at *
  go_wp2_with fail
  refine bodyPost_ret (v := .tuple #[.agg #[.bool neg, .int .u64 h1, .int .u64 l1], .int .u64 r]) (by simp [results, Tryd.results60, go_sem, y0, y1, y2]) rfl ⟨rfl, ?_⟩
  repeat (refine Below.setCell ?_ (by simp; try omega) _)
  exact HB2.out

end Go.Proofs.YtbaalbmchhgmnaaDoor
