/-
  Contracts of the reference's rational numbers: Mul, Div.
-/
import Derived.Test.YtiiacapilffhnaaRefC
namespace Go.Proofs.Ytiiacapilffhnaa
open Go.RowKit
set_option linter.unusedVariables false
set_option linter.unusedSimpArgs false

theorem mul_sign' {a b : Int} (h : a.natAbs * b.natAbs ≠ 0) : (decide (a < 0) != decide (b < 0)) = decide (a * b < 0) := by
  have ha : a ≠ 0 := fun h0 => h (by rw [h0]; simp)
  have hb : b ≠ 0 := fun h0 => h (by rw [h0]; simp)
  rcases Int.lt_or_gt_of_ne ha with h1 | h1 <;> rcases Int.lt_or_gt_of_ne hb with h2 | h2
  · have := Int.mul_pos_of_neg_of_neg h1 h2
    rw [decide_eq_true h1, decide_eq_true h2, decide_eq_false (by omega)]; rfl
  · have := Int.mul_neg_of_neg_of_pos h1 h2
    rw [decide_eq_true h1, decide_eq_false (by omega), decide_eq_true this]; rfl
  · have := Int.mul_neg_of_pos_of_neg h1 h2
    rw [decide_eq_false (by omega), decide_eq_true h2, decide_eq_true this]; rfl
  · have := Int.mul_pos h1 h2
    rw [decide_eq_false (by omega), decide_eq_false (by omega), decide_eq_false (by omega)]; rfl

theorem mulR_quo {an ad bn bd : Int} (hv : ratV an ad = true ∧ ratV bn bd = true) : mulR an ad bn bd = quoR (decide (an < 0) != decide (bn < 0)) (an.natAbs * bn.natAbs) (ad.natAbs * bd.natAbs) := by
  unfold mulR
  rw [if_pos hv, Int.natAbs_mul]
  exact (quoR_ratQ (Int.natAbs_mul _ _) mul_sign').symm
theorem divR_quo {an ad bn bd : Int} (hv : ratV an ad = true ∧ ratV bn bd = true) (h0 : bn ≠ 0) : divR an ad bn bd = quoR (decide (an < 0) != decide (bn < 0)) (an.natAbs * bd.natAbs) (ad.natAbs * bn.natAbs) := by
  unfold divR; rw [if_pos hv, if_neg h0]; rfl
theorem mul_PW {a b : Nat} (ha : a < PW 5) (hb : b < PW 5) : a * b < PW 10 := by
  have := Nat.mul_lt_mul'' ha hb
  rwa [← PW_add] at this

end Go.Proofs.Ytiiacapilffhnaa
