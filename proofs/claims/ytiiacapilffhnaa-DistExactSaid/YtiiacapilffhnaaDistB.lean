/-
  Contracts of the small functions of dist: kind, size, is, scale, owner.
-/
import Derived.Test.YtiiacapilffhnaaDistA
import Derived.Deep.RegionWith
namespace Go.Proofs.Ytiiacapilffhnaa
open Go.RowKit
set_option linter.unusedVariables false
set_option linter.unusedSimpArgs false

theorem distKind (lo hi wt : Int) (ea : Bool) (w : World) :
    Calls Try.prog 64 #[.agg #[.int .i64 lo, .int .i64 hi, .int .i64 wt, .bool ea]] w fun e w' => e = .returned (.int .i64 (if ea = true then 1 else 0)) ∧ Below w.heap.size w w' := by
  cases ea
  all_goals
    go_enter Try.func64, Try.ntmps64
    go_wp2_with fail
    go_ret
    exact ⟨rfl, (Below.refl _ _).alloc (Nat.le_refl _) _⟩
theorem distSize (lo hi wt : Int) (ea : Bool) (w : World) (h0 : 0 ≤ lo) (h1 : lo ≤ hi) (h2 : hi ≤ 255) :
    Calls Try.prog 57 #[.agg #[.int .i64 lo, .int .i64 hi, .int .i64 wt, .bool ea]] w fun e w' => e = .returned (.int .i64 (hi - lo + 1)) ∧ Below w.heap.size w w' := by
  go_enter Try.func57, Try.ntmps57
  go_wp2_with fail
  go_ret
  exact ⟨rfl, (Below.refl _ _).alloc (Nat.le_refl _) _⟩
theorem distIs (lo hi wt : Int) (ea : Bool) (c : Int) (hc : c = 115 ∨ c = 101) (w : World) :
    Calls Try.prog 55 #[.agg #[.int .i64 lo, .int .i64 hi, .int .i64 wt, .bool ea], .int .u8 c] w fun e w' => e = .returned (.bool (if c = 115 then !ea else ea)) ∧ Below w.heap.size w w' := by
  cases ea <;> rcases hc with rfl | rfl
  all_goals
    go_enter Try.func55, Try.ntmps55
    go_wp2_with fail
    refine (distKind _ _ _ _ _).mono ?_; rintro e w1 ⟨rfl, hb1⟩
    have X1 := (Box.new w 43 _).below hb1
    have HB1 := Lib.hid (below_step (below_alloc w _) hb1)
    have g0 := X1.at_ 0 _ rfl
    have g1 := X1.at_ 1 _ rfl
    have g2 := X1.at_ 2 _ rfl
    have g3 := X1.at_ 3 _ rfl
    clear hb1 X1
    go_wp2_with fail
    refine (distKind _ _ _ _ _).mono ?_; rintro e w2 ⟨rfl, hb2⟩
    have HB2 := Lib.hid (below_step HB1.out hb2)
    clear hb2 g0 g1 g2 g3
    go_wp2_with fail
    go_ret
    exact ⟨rfl, HB2.out⟩

end Go.Proofs.Ytiiacapilffhnaa
