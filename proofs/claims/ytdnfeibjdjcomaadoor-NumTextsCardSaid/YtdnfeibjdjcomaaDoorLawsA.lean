/-
  The walks of the laws on num's numbers: each returns true, whatever the input.
-/
import Derived.Test.YtdnfeibjdjcomaaDoorAwake
namespace Go.Proofs.YtdnfeibjdjcomaaDoor
open Go.RowKit

def I64 (a : Int) : Prop := -9223372036854775808 ≤ a ∧ a ≤ 9223372036854775807

theorem walkNumQuotients (a : Int) (wa : I64 a) (b : Int) (wb : I64 b) (w : World) (ht : Tab w) :
    Calls Tryd.prog 3 #[.int .i64 a, .int .i64 b] w fun e w' => e = .returned (.bool true) ∧ Below w.heap.size w w' := by
  obtain ⟨ha, ha'⟩ := wa
  obtain ⟨hb, hb'⟩ := wb
  have HT := Lib.hid ht
  clear ht
  go_enter Tryd.func3, Tryd.ntmps3
  go_wp2_with fail
  refine (numDiv a b _ ha ha' hb hb').mono ?_; rintro e w' ⟨rfl, rfl⟩
  go_wp2_with fail
  refine (refDiv a b _ ha ha' hb hb').mono ?_; rintro e w' ⟨rfl, rfl⟩
  go_wp2_with fail
  refine (awake _ HT.out).mono ?_; rintro e w' ⟨rfl, hw⟩
  go_wp2_with fail
  go_ret
  exact ⟨rfl, hw⟩

theorem walkNumSums (a : Int) (wa : I64 a) (b : Int) (wb : I64 b) (w : World) (ht : Tab w) :
    Calls Tryd.prog 9 #[.int .i64 a, .int .i64 b] w fun e w' => e = .returned (.bool true) ∧ Below w.heap.size w w' := by
  obtain ⟨ha, ha'⟩ := wa
  obtain ⟨hb, hb'⟩ := wb
  have HT := Lib.hid ht
  clear ht
  go_enter Tryd.func9, Tryd.ntmps9
  go_wp2_with fail
  refine (numAdd a b _ ha ha' hb hb').mono ?_; rintro e w' ⟨rfl, rfl⟩
  go_wp2_with fail
  refine (refAdd a b _ ha ha' hb hb').mono ?_; rintro e w' ⟨rfl, rfl⟩
  go_wp2_with fail
  refine (numSub a b _ ha ha' hb hb').mono ?_; rintro e w' ⟨rfl, rfl⟩
  go_wp2_with fail
  refine (refSub a b _ ha ha' hb hb').mono ?_; rintro e w' ⟨rfl, rfl⟩
  go_wp2_with fail
  refine (numMul a b _ ha ha' hb hb').mono ?_; rintro e w' ⟨rfl, rfl⟩
  go_wp2_with fail
  refine (refMul a b _ ha ha' hb hb').mono ?_; rintro e w' ⟨rfl, rfl⟩
  go_wp2_with fail
  refine (awake _ HT.out).mono ?_; rintro e w' ⟨rfl, hw⟩
  go_wp2_with fail
  go_ret
  exact ⟨rfl, hw⟩

/-- The remainder that belongs to the quotient rounded down. -/
theorem div_rest {a b : Int} (ha : -9223372036854775808 ≤ a) (ha' : a ≤ 9223372036854775807) (hb : -9223372036854775808 ≤ b) (hb' : b ≤ 9223372036854775807) (h0 : b ≠ 0) (hs : ¬ (a = -9223372036854775808 ∧ b = -1)) :
    dE a b = 0 ∧ ((0 < b ∧ 0 ≤ a - dV a b * b ∧ a - dV a b * b < b) ∨ (b < 0 ∧ a - dV a b * b ≤ 0 ∧ b < a - dV a b * b)) := by
  refine ⟨by unfold dE; rw [if_neg h0, if_neg hs], ?_⟩
  have hv : dV a b = if dUp a b then a.tdiv b - 1 else a.tdiv b := by unfold dV; rw [if_neg h0, if_neg hs]
  have hd := Int.mul_tdiv_add_tmod a b
  have hlt : (a.tmod b).natAbs < b.natAbs := by
    rw [Int.natAbs_tmod]; exact Nat.mod_lt _ (by omega)
  have hc : b * a.tdiv b = a.tdiv b * b := Int.mul_comm _ _
  cases hu : dUp a b
  · rw [hv, hu]
    unfold dUp at hu
    simp at hu
    simp only [Bool.false_eq_true, if_false]
    by_cases hz : a.tmod b = 0
    · omega
    · have := hu hz; omega
  · rw [hv, hu]
    unfold dUp at hu
    simp at hu
    rw [if_pos rfl, Int.sub_mul]
    omega
theorem dV_bound {a b : Int} (ha : -9223372036854775808 ≤ a) (ha' : a ≤ 9223372036854775807) (h0 : b ≠ 0) (hs : ¬ (a = -9223372036854775808 ∧ b = -1)) :
    -9223372036854775808 ≤ dV a b ∧ dV a b ≤ 9223372036854775807 := by
  obtain ⟨b1, b2, b3⟩ := dV_bd ha ha' h0 hs
  unfold dV
  rw [if_neg h0, if_neg hs]
  cases hu : dUp a b
  · exact ⟨b1, b2⟩
  · unfold dUp at hu
    simp at hu
    rw [if_pos rfl]
    have := b3 hu.1
    omega

theorem walkNumDivides (a : Int) (wa : I64 a) (b : Int) (wb : I64 b) (w : World) (ht : Tab w) :
    Calls Tryd.prog 4 #[.int .i64 a, .int .i64 b] w fun e w' => e = .returned (.bool true) ∧ Below w.heap.size w w' := by
  obtain ⟨ha, ha'⟩ := wa
  obtain ⟨hb, hb'⟩ := wb
  have HT := Lib.hid ht
  clear ht
  by_cases h0 : b = 0
  · subst h0
    go_enter Tryd.func4, Tryd.ntmps4
    go_wp2_with fail
    refine (numDiv a 0 _ ha ha' hb hb').mono ?_; rintro e w' ⟨rfl, rfl⟩
    rw [show dV a 0 = 0 from rfl, show dE a 0 = 4 from rfl]
    go_wp2_with fail
    refine (awake _ HT.out).mono ?_; rintro e w' ⟨rfl, hw⟩
    go_wp2_with fail
    go_ret
    exact ⟨rfl, hw⟩
  by_cases hs : a = -9223372036854775808 ∧ b = -1
  · obtain ⟨rfl, rfl⟩ := hs
    go_enter Tryd.func4, Tryd.ntmps4
    go_wp2_with fail
    refine (numDiv _ _ _ ha ha' hb hb').mono ?_; rintro e w' ⟨rfl, rfl⟩
    rw [show dV (-9223372036854775808) (-1) = 0 from rfl, show dE (-9223372036854775808) (-1) = 3 from rfl]
    go_wp2_with fail
    refine (awake _ HT.out).mono ?_; rintro e w' ⟨rfl, hw⟩
    go_wp2_with fail
    go_ret
    exact ⟨rfl, hw⟩
  obtain ⟨he, hr⟩ := div_rest ha ha' hb hb' h0 hs
  obtain ⟨q1, q2⟩ := dV_bound ha ha' h0 hs
  obtain ⟨q, hq⟩ : ∃ q, q = dV a b := ⟨_, rfl⟩
  have c : ∀ w, Calls Tryd.prog 10 #[.int .i64 a, .int .i64 b] w fun e w' => e = .returned (.tuple #[.int .i64 q, .int .i64 0]) ∧ w = w' := fun w => by
    rw [hq, ← he]; exact numDiv a b w ha ha' hb hb'
  rw [← hq] at hr q1 q2
  have hw : wrap64 (a - wrap64 (q * b)) = a - q * b := by
    rw [wrap64_eq, wrap64_eq]; omega
  obtain ⟨r, hrr⟩ : ∃ r, r = a - q * b := ⟨_, rfl⟩
  rw [← hrr] at hr hw
  have HCC := Lib.hid c
  clear c he hq hrr h0 hs
  rcases hr with ⟨r1, r2, r3⟩ | ⟨r1, r2, r3⟩
  all_goals
    go_enter Tryd.func4, Tryd.ntmps4
    go_wp2_with fail
    refine (HCC.out _).mono ?_; rintro e w' ⟨rfl, rfl⟩
    go_wp2_with fail
    refine (awake _ HT.out).mono ?_; rintro e w' ⟨rfl, hw⟩
    go_wp2_with fail
    go_ret
    exact ⟨rfl, hw⟩

theorem pE_zero {a n : Int} (h : pE a n = 0) : 0 ≤ n ∧ pV a n = pw a n.toNat ∧ -9223372036854775808 ≤ pw a n.toNat ∧ pw a n.toNat ≤ 9223372036854775807 := by
  unfold pE at h
  by_cases hn : n < 0
  · rw [if_pos hn] at h; omega
  · rw [if_neg hn] at h
    obtain ⟨h1, h2⟩ := cE_zero h
    exact ⟨by omega, by unfold pV; rw [if_neg hn, cV_yes h1 h2], h1, h2⟩

theorem walkNumPowers (a : Int) (wa : I64 a) (n : Int) (wn : I64 n) (w : World) (ht : Tab w) :
    Calls Tryd.prog 5 #[.int .i64 a, .int .i64 n] w fun e w' => e = .returned (.bool true) ∧ Below w.heap.size w w' := by
  obtain ⟨ha, ha'⟩ := wa
  obtain ⟨hn, hn'⟩ := wn
  have HT := Lib.hid ht
  clear ht
  by_cases he : pE a n = 0 ∧ n ≠ 9223372036854775807
  · obtain ⟨he, hl⟩ := he
    obtain ⟨h0, hv, h1, h2⟩ := pE_zero he
    have fe : (pE a n != 0) = false := by rw [he]; rfl
    have fl : (n == 9223372036854775807) = false := by simpa using hl
    have hn2 : n ≤ 9223372036854775806 := by omega
    have hm : pV a n * a = pw a (n + 1).toNat := by
      rw [hv, ← pw_succ]; congr 1; omega
    have hvn : pV a (n + 1) = cV (pV a n * a) := by unfold pV at hm ⊢; rw [if_neg (by omega), hm]
    have hen : pE a (n + 1) = cE (pV a n * a) := by rw [hm]; unfold pE; rw [if_neg (by omega)]
    have hvb : -9223372036854775808 ≤ pV a n ∧ pV a n ≤ 9223372036854775807 := by rw [hv]; exact ⟨h1, h2⟩
    obtain ⟨hvb1, hvb2⟩ := hvb
    have HV := Lib.hid hvn
    have HE := Lib.hid hen
    clear he hl hv h1 h2 hm hvn hen
    go_enter Tryd.func5, Tryd.ntmps5
    go_wp2_with fail
    refine (numPow a n _ ha ha' hn hn').mono ?_; rintro e w' ⟨rfl, rfl⟩
    go_wp2_with fail
    refine (refPow a n _ ha ha' hn hn').mono ?_; rintro e w' ⟨rfl, rfl⟩
    go_wp2_with fail
    refine (numPow a (n + 1) _ ha ha' (by omega) (by omega)).mono ?_; rintro e w' ⟨rfl, rfl⟩
    go_wp2_with fail
    refine (numMul (pV a n) a _ hvb1 hvb2 ha ha').mono ?_; rintro e w' ⟨rfl, rfl⟩
    rw [HV.out, HE.out]
    go_wp2_with fail
    refine (awake _ HT.out).mono ?_; rintro e w' ⟨rfl, hw⟩
    go_wp2_with fail
    go_ret
    exact ⟨rfl, hw⟩
  · have hcase : (pE a n != 0) = true ∨ ((pE a n != 0) = false ∧ (n == 9223372036854775807) = true) := by
      by_cases h : pE a n = 0
      · right
        refine ⟨by rw [h]; rfl, ?_⟩
        rw [beq_iff_eq]
        apply Classical.byContradiction
        intro hh; exact he ⟨h, hh⟩
      · left; simpa using h
    clear he
    rcases hcase with fe | ⟨fe, fn⟩
    all_goals
      go_enter Tryd.func5, Tryd.ntmps5
      go_wp2_with fail
      refine (numPow a n _ ha ha' hn hn').mono ?_; rintro e w' ⟨rfl, rfl⟩
      go_wp2_with fail
      refine (refPow a n _ ha ha' hn hn').mono ?_; rintro e w' ⟨rfl, rfl⟩
      go_wp2_with fail
      refine (awake _ HT.out).mono ?_; rintro e w' ⟨rfl, hw⟩
      go_wp2_with fail
      go_ret
      exact ⟨rfl, hw⟩

theorem walkNumDivisors (a : Int) (wa : I64 a) (b : Int) (wb : I64 b) (w : World) (ht : Tab w) :
    Calls Tryd.prog 6 #[.int .i64 a, .int .i64 b] w fun e w' => e = .returned (.bool true) ∧ Below w.heap.size w w' := by
  obtain ⟨ha, ha'⟩ := wa
  obtain ⟨hb, hb'⟩ := wb
  have HT := Lib.hid ht
  clear ht
  go_enter Tryd.func6, Tryd.ntmps6
  go_wp2_with fail
  refine (numLcm a b _ ha ha' hb hb').mono ?_; rintro e w' ⟨rfl, n1, rfl⟩
  go_wp2_with fail
  refine (refLcm a b _ ha ha' hb hb').mono ?_; rintro e w' ⟨rfl, n2, rfl⟩
  go_wp2_with fail
  refine (numGcd a b _ ha ha' hb hb').mono ?_; rintro e w' ⟨rfl, n3, rfl⟩
  go_wp2_with fail
  refine (refGcd a b _ ha ha' hb hb').mono ?_; rintro e w' ⟨rfl, rfl⟩
  go_wp2_with fail
  refine (awake _ (HT.out.drewN _)).mono ?_; rintro e w' ⟨rfl, hw⟩
  go_wp2_with fail
  go_ret
  exact ⟨rfl, ⟨hw.os, hw.tape, hw.output, hw.size, hw.block⟩⟩

end Go.Proofs.YtdnfeibjdjcomaaDoor
