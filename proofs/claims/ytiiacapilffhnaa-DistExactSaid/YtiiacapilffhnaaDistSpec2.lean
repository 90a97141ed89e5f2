/-
  Distributions in plain Lean: the support, the value with a number, sums of weights. No program in sight.
-/
import Derived.Test.YtiiacapilffhnaaDistSpec
namespace Go.Proofs.Ytiiacapilffhnaa
open Go.RowKit
set_option linter.unusedVariables false

theorem vld_8 {l : List Rg} {wd : Int} (h : vld l wd = 0) : vld l 8 = 0 := by
  obtain ⟨h1, h2, h3, h4, h5⟩ := vld_zero h
  refine vld_good (by omega) (by omega) (by omega) fun k hk => ?_
  have := vld_RV h k hk
  rw [rgOk_iff]
  obtain ⟨a, b, c, d, e⟩ := this
  exact ⟨a, b, by show _ < (256 : Int); omega, d, e⟩

/-! The support. -/
def supB (l : List Rg) (v : Nat) : Bool := match fnd l v with
  | none => false
  | some r => decide (0 < r.wt)
def supRun (l : List Rg) (k : Nat) : List Int := ((List.range k).filter (supB l)).map fun v : Nat => (v : Int)
def sup (l : List Rg) (wd : Int) : List Int := if vld l wd = 0 then supRun l (two wd) else []
theorem sup_yes {l : List Rg} {k : Nat} (h : supB l k = true) : supRun l (k + 1) = supRun l k ++ [(k : Int)] := by simp [supRun, List.range_succ, List.filter_append, h]
theorem sup_no {l : List Rg} {k : Nat} (h : supB l k = false) : supRun l (k + 1) = supRun l k := by simp [supRun, List.range_succ, List.filter_append, h]
theorem supRun_len (l : List Rg) (k : Nat) : (supRun l k).length ≤ k := by
  unfold supRun
  rw [List.length_map]
  have := List.length_filter_le (supB l) (List.range k)
  simpa using this

/-! The value with a number. -/
def nthRun (l : List Rg) (n : Int) : Nat → Nat → Int → Int × Int
  | 0, _, _ => (0, 12)
  | k + 1, v, x => if x < (wgt l n v).1 then (v, 0) else nthRun l n k (v + 1) (x - (wgt l n v).1)
def nth (l : List Rg) (wd x : Int) : Int × Int := if (tot l wd).2 ≠ 0 then (0, (tot l wd).2) else if x < 0 ∨ (tot l wd).1 ≤ x then (0, 12) else nthRun l (scl l).1 (two wd) 0 x
theorem nth_yes {l : List Rg} {n : Int} {B k : Nat} {x : Int} (h : k < B) (h1 : x < (wgt l n k).1) : nthRun l n (B - k) k x = ((k : Int), 0) := by
  obtain ⟨j, hj⟩ : ∃ j, B - k = j + 1 := ⟨B - k - 1, by omega⟩
  rw [hj, nthRun, if_pos h1]
theorem nth_no {l : List Rg} {n : Int} {B k : Nat} {x : Int} (h : k < B) (h1 : ¬ x < (wgt l n k).1) : nthRun l n (B - k) k x = nthRun l n (B - (k + 1)) (k + 1) (x - (wgt l n k).1) := by
  obtain ⟨j, hj⟩ : ∃ j, B - k = j + 1 := ⟨B - k - 1, by omega⟩
  rw [hj, nthRun, if_neg h1, show B - (k + 1) = j by omega]
theorem nth_end {l : List Rg} {n : Int} {B : Nat} {x : Int} : nthRun l n (B - B) B x = (0, 12) := by rw [Nat.sub_self, nthRun]
/-- The sum of the first weights. -/
def pre (l : List Rg) (n : Int) (k : Nat) : Int := (wl l n k).sum
theorem pre_zero (l : List Rg) (n : Int) : pre l n 0 = 0 := rfl
theorem pre_succ (l : List Rg) (n : Int) (k : Nat) : pre l n (k + 1) = pre l n k + (wgt l n k).1 := by unfold pre; rw [wl_succ, List.sum_append]; simp
theorem totRun_sum (l : List Rg) (n : Int) : ∀ (k v : Nat) (s t : Int), s = pre l n v → totRun l n k v s = (t, 0) → t = pre l n (v + k) ∧ ∀ j, v ≤ j → j < v + k → (wgt l n j).2 = 0
  | 0, v, s, t, hs, h => by
    rw [totRun] at h
    exact ⟨by rw [← (Prod.mk.inj h).1]; exact hs, fun j h1 h2 => absurd h2 (by omega)⟩
  | k + 1, v, s, t, hs, h => by
    rw [totRun] at h
    by_cases h1 : (wgt l n v).2 = 0
    · rw [if_pos h1] at h
      by_cases h2 : cE (s + (wgt l n v).1) = 0
      · rw [if_pos h2] at h
        obtain ⟨e1, e2⟩ := totRun_sum l n k (v + 1) _ t (by rw [hs, pre_succ]) h
        refine ⟨by rw [e1]; congr 1; omega, fun j h3 h4 => ?_⟩
        by_cases hj : j = v
        · rw [hj]; exact h1
        · exact e2 j (by omega) (by omega)
      · rw [if_neg h2] at h; simp at h
    · rw [if_neg h1] at h; simp at h
theorem totRun_bd {l : List Rg} {n : Int} (hv : RV l) (h1 : 1 ≤ n) : ∀ (k v : Nat) (s : Int), 0 ≤ s → s ≤ 9223372036854775807 → ((totRun l n k v s).2 = 0 ∧ s ≤ (totRun l n k v s).1 ∧ (totRun l n k v s).1 ≤ 9223372036854775807) ∨ totRun l n k v s = (0, 3)
  | 0, v, s, h0, h2 => .inl ⟨rfl, Int.le_refl _, h2⟩
  | k + 1, v, s, h0, h2 => by
    rw [totRun]
    by_cases h3 : (wgt l n v).2 = 0
    · rw [if_pos h3]
      by_cases h4 : cE (s + (wgt l n v).1) = 0
      · rw [if_pos h4]
        have := cE_zero h4
        have hx : 0 ≤ (wgt l n v).1 := by
          rcases wgt_ways hv h1 v with h | h
          · exact h.2.1
          · rw [h] at h3; simp at h3
        rcases totRun_bd hv h1 k (v + 1) _ (by omega) this.2 with h | h
        · exact .inl ⟨h.1, by omega, h.2.2⟩
        · exact .inr h
      · rw [if_neg h4]; exact .inr rfl
    · rw [if_neg h3]; exact .inr rfl
/-- The total, way by way. -/
theorem tot_ways (l : List Rg) (wd : Int) : ((tot l wd).2 ≠ 0 ∧ (tot l wd).1 = 0) ∨ ((tot l wd).2 = 0 ∧ vld l wd = 0 ∧ (scl l).2 = 0 ∧ 1 ≤ (scl l).1 ∧ (scl l).1 ≤ 9223372036854775807 ∧ 0 ≤ (tot l wd).1 ∧ (tot l wd).1 ≤ 9223372036854775807 ∧ (tot l wd).1 = pre l (scl l).1 (two wd) ∧ ∀ j, j < two wd → (wgt l (scl l).1 j).2 = 0) := by
  unfold tot
  by_cases hv : vld l wd = 0
  · rw [if_neg (by rw [hv]; decide)]
    rcases scl_bd hv with h | ⟨h1, h2, h3⟩
    · left; rw [if_pos (by rw [h]; decide), h]; exact ⟨by decide, rfl⟩
    · rw [if_neg (by rw [h1]; decide)]
      rcases totRun_bd (vld_RV hv) h2 (two wd) 0 0 (by omega) (by omega) with h | h
      · right
        obtain ⟨e1, e2⟩ := totRun_sum l (scl l).1 (two wd) 0 0 (totRun l (scl l).1 (two wd) 0 0).1 (pre_zero _ _).symm (Prod.ext rfl h.1)
        rw [Nat.zero_add] at e1
        exact ⟨h.1, hv, h1, h2, h3, h.2.1, h.2.2, e1, fun j hj => e2 j (by omega) (by omega)⟩
      · left; rw [h]; exact ⟨by decide, rfl⟩
  · rw [if_pos hv]; exact .inl ⟨hv, rfl⟩

end Go.Proofs.Ytiiacapilffhnaa
