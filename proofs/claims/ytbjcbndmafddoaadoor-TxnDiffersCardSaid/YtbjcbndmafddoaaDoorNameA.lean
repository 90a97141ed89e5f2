/-
  Contracts of lexer and of its reference: names.
-/
import Derived.Test.YtbjcbndmafddoaaDoorSlW
import Derived.Test.YtbjcbndmafddoaaDoorNumA
import Derived.Laws.RangeAny
import Derived.LoopTactic
namespace Go.Proofs.YtbjcbndmafddoaaDoor
open Go.RowKit
set_option linter.unusedVariables false
set_option linter.unusedSimpArgs false

theorem lexLower (c : Int) (w : World) (h0 : -2147483648 ≤ c) (h1 : c ≤ 2147483647) :
    Calls Tryd.prog 104 #[.int .i32 c] w fun e w' => e = .returned (.bool (lowC c)) ∧ w = w' := by
  go_enter Tryd.func104, Tryd.ntmps104
  go_wp2
  all_goals
    go_ret
    refine ⟨retb ?_, rfl⟩
    unfold lowC
    first | (rw [eq_comm]; exact decide_eq_true (by omega)) | (rw [eq_comm]; exact decide_eq_false (by omega)) | (simp; omega)
theorem lexDigit (c : Int) (w : World) (h0 : -2147483648 ≤ c) (h1 : c ≤ 2147483647) :
    Calls Tryd.prog 118 #[.int .i32 c] w fun e w' => e = .returned (.bool (digC c)) ∧ w = w' := by
  go_enter Tryd.func118, Tryd.ntmps118
  go_wp2
  all_goals
    go_ret
    refine ⟨retb ?_, rfl⟩
    unfold digC
    first | (rw [eq_comm]; exact decide_eq_true (by omega)) | (rw [eq_comm]; exact decide_eq_false (by omega)) | (simp; omega)
theorem inn_ways (c : Int) : (lowC c = true ∧ innC c = true) ∨ (lowC c = false ∧ digC c = true ∧ innC c = true) ∨ (lowC c = false ∧ digC c = false ∧ 65 ≤ c ∧ c ≤ 90 ∧ innC c = true) ∨
    (lowC c = false ∧ digC c = false ∧ ¬ 65 ≤ c ∧ (c == 95) = false ∧ innC c = false) ∨ (lowC c = false ∧ digC c = false ∧ 65 ≤ c ∧ decide (c ≤ 90) = false ∧ (c == 95) = true ∧ innC c = true) ∨ (lowC c = false ∧ digC c = false ∧ 65 ≤ c ∧ decide (c ≤ 90) = false ∧ (c == 95) = false ∧ innC c = false) := by
  unfold lowC digC innC
  simp only [decide_eq_true_eq, decide_eq_false_iff_not, beq_iff_eq, beq_eq_false_iff_ne]
  omega

set_option maxHeartbeats 1000000 in
theorem lexFollows (c : Int) (w : World) (h0 : -2147483648 ≤ c) (h1 : c ≤ 2147483647) :
    Calls Tryd.prog 105 #[.int .i32 c] w fun e w' => e = .returned (.bool (innC c)) ∧ w = w' := by
  have L1 := Lib.hid (fun w => lexLower c w h0 h1)
  have L2 := Lib.hid (fun w => lexDigit c w h0 h1)
  have key := inn_ways c
  generalize lowC c = lo at *
  generalize digC c = di at *
  rcases key with ⟨rfl, hI⟩ | ⟨rfl, rfl, hI⟩ | ⟨rfl, rfl, k1, k2, hI⟩ | ⟨rfl, rfl, k1, k2, hI⟩ | ⟨rfl, rfl, k1, k2, k3, hI⟩ | ⟨rfl, rfl, k1, k2, k3, hI⟩
  all_goals
    have HI := Lib.hid hI
    clear hI
    go_enter Tryd.func105, Tryd.ntmps105
    go_wp2_with fail
    refine (L1.out _).mono ?_; rintro e w' ⟨rfl, rfl⟩
    go_wp2_with (refine (L2.out _).mono ?_; rintro e w' ⟨rfl, rfl⟩)
    go_ret
    exact ⟨retb HI.out.symm, rfl⟩

theorem refSmall (c : Int) (w : World) (h0 : 0 ≤ c) (h1 : c ≤ 255) :
    Calls Tryd.prog 94 #[.int .u8 c] w fun e w' => e = .returned (.bool (lowC c)) ∧ w = w' := by
  go_enter Tryd.func94, Tryd.ntmps94
  go_wp2
  all_goals
    go_ret
    refine ⟨retb ?_, rfl⟩
    unfold lowC
    first | (rw [eq_comm]; exact decide_eq_true (by omega)) | (rw [eq_comm]; exact decide_eq_false (by omega)) | (simp; omega)
theorem refDigit7 (c : Int) (w : World) (h0 : 0 ≤ c) (h1 : c ≤ 255) :
    Calls Tryd.prog 108 #[.int .u8 c] w fun e w' => e = .returned (.bool (digC c)) ∧ w = w' := by
  go_enter Tryd.func108, Tryd.ntmps108
  go_wp2
  all_goals
    go_ret
    refine ⟨retb ?_, rfl⟩
    unfold digC
    first | (rw [eq_comm]; exact decide_eq_true (by omega)) | (rw [eq_comm]; exact decide_eq_false (by omega)) | (simp; omega)

set_option maxHeartbeats 1000000 in
theorem refInner (c : Int) (w : World) (h0 : 0 ≤ c) (h1 : c ≤ 255) :
    Calls Tryd.prog 96 #[.int .u8 c] w fun e w' => e = .returned (.bool (innC c)) ∧ w = w' := by
  have L1 := Lib.hid (fun w => refSmall c w h0 h1)
  have L2 := Lib.hid (fun w => refDigit7 c w h0 h1)
  have key := inn_ways c
  generalize lowC c = lo at *
  generalize digC c = di at *
  rcases key with ⟨rfl, hI⟩ | ⟨rfl, rfl, hI⟩ | ⟨rfl, rfl, k1, k2, hI⟩ | ⟨rfl, rfl, k1, k2, hI⟩ | ⟨rfl, rfl, k1, k2, k3, hI⟩ | ⟨rfl, rfl, k1, k2, k3, hI⟩
  all_goals
    have HI := Lib.hid hI
    clear hI
    go_enter Tryd.func96, Tryd.ntmps96
    go_wp2_with fail
    refine (L1.out _).mono ?_; rintro e w' ⟨rfl, rfl⟩
    go_wp2_with (refine (L2.out _).mono ?_; rintro e w' ⟨rfl, rfl⟩)
    go_ret
    exact ⟨retb HI.out.symm, rfl⟩

end Go.Proofs.YtbjcbndmafddoaaDoor
