/-
  Contracts of the reference's Mul, of both Div.
-/
import Derived.Test.YtbjcbndmafddoaaDoorNumB
namespace Go.Proofs.YtbjcbndmafddoaaDoor
open Go.RowKit

/-- The test of the reference's Mul says whether the product fits. -/
theorem mul_test_no {a b : Int} (ha : -9223372036854775808 ≤ a) (ha' : a ≤ 9223372036854775807) (hb : -9223372036854775808 ≤ b) (hb' : b ≤ 9223372036854775807) (h0 : b ≠ 0) (hm : b ≠ -1)
    (hn : a * b < -9223372036854775808 ∨ 9223372036854775807 < a * b) : wrap64 ((wrap64 (a * b)).tdiv b) ≠ a := by
  intro h
  have hw := wrap64_eq (a * b)
  obtain ⟨p, hp⟩ : ∃ p, p = wrap64 (a * b) := ⟨_, rfl⟩
  rw [← hp] at h hw
  have hpb : -9223372036854775808 ≤ p ∧ p ≤ 9223372036854775807 := by omega
  have key : p.tdiv b = a ∨ (p.tdiv b = 9223372036854775808) := by
    have h1 : (p.tdiv b).natAbs ≤ p.natAbs := by
      rw [Int.natAbs_tdiv]; exact Nat.div_le_self _ _
    rw [wrap64_eq] at h
    omega
  have hd := Int.mul_tdiv_add_tmod p b
  have hlt : (p.tmod b).natAbs < b.natAbs := by
    rw [Int.natAbs_tmod]; exact Nat.mod_lt _ (by omega)
  rcases key with key | key
  · rw [key] at hd
    have e : b * a = a * b := Int.mul_comm _ _
    omega
  · have h3 : p.tdiv b ≠ 9223372036854775808 ∨ b = -1 := by
      by_cases e : b = -1
      · exact .inr e
      · left
        intro k
        have h4 : (p.tdiv b).natAbs = p.natAbs / b.natAbs := Int.natAbs_tdiv _ _
        by_cases e1 : b = 1
        · subst e1; simp at k; omega
        · have h5 : p.natAbs / b.natAbs ≤ p.natAbs / 2 := Nat.div_le_div_left (by omega) (by omega)
          omega
    rcases h3 with h3 | h3
    · exact h3 key
    · exact hm h3

theorem refMul (a b : Int) (w : World) (ha : -9223372036854775808 ≤ a) (ha' : a ≤ 9223372036854775807) (hb : -9223372036854775808 ≤ b) (hb' : b ≤ 9223372036854775807) :
    Calls Tryd.prog 85 #[.int .i64 a, .int .i64 b] w fun e w' => e = .returned (.tuple #[.int .i64 (cV (a*b)), .int .i64 (cE (a*b))]) ∧ w = w' := by
  by_cases h0 : a = 0
  · subst h0
    go_enter Tryd.func85, Tryd.ntmps85
    go_wp2
    go_ret2
    refine ⟨ret_c ?_, rfl⟩
    simp
  by_cases h1 : b = 0
  · subst h1
    go_enter Tryd.func85, Tryd.ntmps85
    go_wp2
    all_goals
      go_ret2
      refine ⟨ret_c ?_, rfl⟩
      simp
  have f0 : (a == 0) = false := by simpa using h0
  have f1 : (b == 0) = false := by simpa using h1
  by_cases h2 : a = -1
  · subst h2
    by_cases h3 : b = -9223372036854775808
    · subst h3
      go_enter Tryd.func85, Tryd.ntmps85
      go_wp2
      go_ret2
      refine ⟨ret_c ?_, rfl⟩
      simp
    · have f3 : (b == -9223372036854775808) = false := by simpa using h3
      have hq : (-b).tdiv b = -1 := by rw [Int.neg_tdiv, Int.tdiv_self h1]
      go_enter Tryd.func85, Tryd.ntmps85
      go_wp2
      all_goals
        go_ret2
        refine ⟨ret_c ?_, rfl⟩
        simp
        omega
  have f2 : (a == -1) = false := by simpa using h2
  by_cases h3 : b = -1
  · subst h3
    by_cases h4 : a = -9223372036854775808
    · subst h4
      go_enter Tryd.func85, Tryd.ntmps85
      go_wp2
      go_ret2
      refine ⟨ret_c ?_, rfl⟩
      simp
    · have f4 : (a == -9223372036854775808) = false := by simpa using h4
      go_enter Tryd.func85, Tryd.ntmps85
      go_wp2
      all_goals
        go_ret2
        refine ⟨ret_c ?_, rfl⟩
        simp
        omega
  have f3 : (b == -1) = false := by simpa using h3
  by_cases hf : -9223372036854775808 ≤ a * b ∧ a * b ≤ 9223372036854775807
  · obtain ⟨hf1, hf2⟩ := hf
    have hq : (a * b).tdiv b = a := Int.mul_tdiv_cancel _ h1
    go_enter Tryd.func85, Tryd.ntmps85
    go_wp2
    all_goals
      go_ret2
      refine ⟨ret_c (.inl ⟨hf1, hf2, rfl, rfl⟩), rfl⟩
  · have ht : (wrap64 ((wrap64 (a * b)).tdiv b) != a) = true := by
      rw [bne_iff_ne]; exact mul_test_no ha ha' hb hb' h1 h3 (by omega)
    go_enter Tryd.func85, Tryd.ntmps85
    go_wp2
    all_goals
      go_ret2
      refine ⟨ret_c (.inr ⟨by omega, rfl, rfl⟩), rfl⟩

/-- What Div returns. -/
def dUp (a b : Int) : Bool := a.tmod b != 0 && (!(decide (a.tmod b < 0) == decide (b < 0)))
def dV (a b : Int) : Int := if b = 0 then 0 else if a = -9223372036854775808 ∧ b = -1 then 0 else if dUp a b then a.tdiv b - 1 else a.tdiv b
def dE (a b : Int) : Int := if b = 0 then 4 else if a = -9223372036854775808 ∧ b = -1 then 3 else 0

theorem dV_bd {a b : Int} (ha : -9223372036854775808 ≤ a) (ha' : a ≤ 9223372036854775807) (hb : b ≠ 0) (hs : ¬ (a = -9223372036854775808 ∧ b = -1)) :
    -9223372036854775808 ≤ a.tdiv b ∧ a.tdiv b ≤ 9223372036854775807 ∧ (a.tmod b ≠ 0 → -9223372036854775807 ≤ a.tdiv b) := by
  have hd := Int.mul_tdiv_add_tmod a b
  have hlt : (a.tmod b).natAbs < b.natAbs := by
    rw [Int.natAbs_tmod]; exact Nat.mod_lt _ (by omega)
  have h1 : (a.tdiv b).natAbs ≤ a.natAbs := by rw [Int.natAbs_tdiv]; exact Nat.div_le_self _ _
  have h2 : b ≠ 1 → b ≠ -1 → (a.tdiv b).natAbs ≤ a.natAbs / 2 := by
    intro h3 h4
    rw [Int.natAbs_tdiv]; exact Nat.div_le_div_left (by omega) (by omega)
  by_cases h3 : b = 1
  · subst h3; simp at *; omega
  by_cases h4 : b = -1
  · subst h4; simp at *; omega
  have := h2 h3 h4
  omega

end Go.Proofs.YtbjcbndmafddoaaDoor
