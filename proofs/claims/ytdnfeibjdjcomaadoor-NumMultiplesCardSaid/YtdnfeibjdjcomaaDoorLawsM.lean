/-
  The walk of the law on common divisors and multiples.
-/
import Derived.Test.YtdnfeibjdjcomaaDoorLawsA
namespace Go.Proofs.YtdnfeibjdjcomaaDoor
open Go.RowKit

theorem cV_gcd (a b : Int) : cV (Int.gcd a b) = if (Int.gcd a b : Int) ≤ 9223372036854775807 then (Int.gcd a b : Int) else 0 := by
  by_cases h : (Int.gcd a b : Int) ≤ 9223372036854775807
  · rw [if_pos h, cV_yes (by omega) h]
  · rw [if_neg h, cV_no (by omega)]
theorem gcd_big {a b : Int} (ha : -9223372036854775808 ≤ a) (ha' : a ≤ 9223372036854775807) (hb : -9223372036854775808 ≤ b) (hb' : b ≤ 9223372036854775807)
    (h : ¬ (Int.gcd a b : Int) ≤ 9223372036854775807) : (a = 0 ∨ a = -9223372036854775808) ∧ (b = 0 ∨ b = -9223372036854775808) := by
  have h1 : Int.gcd a b ∣ a.natAbs := Nat.gcd_dvd_left _ _
  have h2 : Int.gcd a b ∣ b.natAbs := Nat.gcd_dvd_right _ _
  constructor
  · by_cases e : a = 0
    · exact .inl e
    · have := Nat.le_of_dvd (by omega) h1; omega
  · by_cases e : b = 0
    · exact .inl e
    · have := Nat.le_of_dvd (by omega) h2; omega
theorem below_of_drewN {w w' : World} {n : Nat} (h : Below w.heap.size (w.drewN n) w') : Below w.heap.size w w' := ⟨h.os, h.tape, h.output, h.size, h.block⟩

set_option maxRecDepth 100000 in
set_option maxHeartbeats 8000000 in
theorem walkNumMultiples (a : Int) (wa : I64 a) (b : Int) (wb : I64 b) (c : Int) (wc : I64 c) (w : World) (ht : Tab w) :
    Calls Tryd.prog 7 #[.int .i64 a, .int .i64 b, .int .i64 c] w fun e w' => e = .returned (.bool true) ∧ Below w.heap.size w w' := by
  obtain ⟨ha, ha'⟩ := wa
  obtain ⟨hb, hb'⟩ := wb
  obtain ⟨hc, hc'⟩ := wc
  have HT := Lib.hid ht
  clear ht
  obtain ⟨g, hg⟩ : ∃ g, g = cV (Int.gcd a b) := ⟨_, rfl⟩
  have cg : ∀ w, Calls Tryd.prog 18 #[.int .i64 a, .int .i64 b] w fun e w' => e = .returned (.int .i64 g) ∧ ∃ n, w' = w.drewN n := fun w => by rw [hg]; exact numGcd a b w ha ha' hb hb'
  have CG := Lib.hid cg
  clear cg
  by_cases hz : g = 0
  · have hab : (a = 0 ∨ a = -9223372036854775808) ∧ (b = 0 ∨ b = -9223372036854775808) := by
      rw [cV_gcd] at hg
      by_cases h : (Int.gcd a b : Int) ≤ 9223372036854775807
      · rw [if_pos h] at hg
        have : Int.gcd a b = 0 := by omega
        obtain ⟨h1, h2⟩ := Int.gcd_eq_zero_iff.1 this
        exact ⟨.inl h1, .inl h2⟩
      · exact gcd_big ha ha' hb hb' h
    subst hz
    clear hg
    obtain ⟨h1 | h1, h2 | h2⟩ := hab
    all_goals
      subst h1
      subst h2
      go_enter Tryd.func7, Tryd.ntmps7
      go_wp2_with fail
      refine (CG.out _).mono ?_; rintro e w' ⟨rfl, n1, rfl⟩
      go_wp2_with fail
      refine (awake _ (HT.out.drewN n1)).mono ?_; rintro e w' ⟨rfl, hw⟩
      go_wp2_with fail
      go_ret
      exact ⟨rfl, below_of_drewN hw⟩
  · have hgv : g = (Int.gcd a b : Int) ∧ (Int.gcd a b : Int) ≤ 9223372036854775807 := by
      rw [cV_gcd] at hg
      by_cases h : (Int.gcd a b : Int) ≤ 9223372036854775807
      · rw [if_pos h] at hg; exact ⟨hg, h⟩
      · rw [if_neg h] at hg; exact absurd hg hz
    obtain ⟨hgv, hgm⟩ := hgv
    have hg1 : 1 ≤ g := by omega
    have hg2 : g ≤ 9223372036854775807 := by omega
    have t1 : a.tmod g = 0 := Int.tmod_eq_zero_of_dvd (by rw [hgv]; exact Int.gcd_dvd_left _ _)
    have t2 : b.tmod g = 0 := Int.tmod_eq_zero_of_dvd (by rw [hgv]; exact Int.gcd_dvd_right _ _)
    have t3 : c ≠ 0 → a.tmod c = 0 → b.tmod c = 0 → g.tmod c = 0 := fun h0 h1 h2 => Int.tmod_eq_zero_of_dvd (by
      rw [hgv]; exact Int.dvd_coe_gcd (Int.dvd_of_tmod_eq_zero h1) (Int.dvd_of_tmod_eq_zero h2))
    have hprod : g * (Int.lcm a b : Int) = ((a * b).natAbs : Int) := by
      rw [hgv, ← Int.natCast_mul, Int.gcd_mul_lcm, Int.natAbs_mul]
    -- the third test, decided ahead of the walk
    have hcases : c = 0 ∨ ((c != 0) = true ∧ ¬ c = 0 ∧ (a.tmod c == 0) = false) ∨ ((c != 0) = true ∧ ¬ c = 0 ∧ (a.tmod c == 0) = true ∧ (b.tmod c == 0) = false) ∨ ((c != 0) = true ∧ ¬ c = 0 ∧ (a.tmod c == 0) = true ∧ (b.tmod c == 0) = true ∧ g.tmod c = 0 ∧ g % c = 0) := by
      by_cases h0 : c = 0
      · left; exact h0
      · right
        by_cases h1 : a.tmod c = 0
        · by_cases h2 : b.tmod c = 0
          · have h3 := t3 h0 h1 h2
            exact .inr (.inr ⟨by simpa using h0, h0, by simpa using h1, by simpa using h2, h3, by rw [← Int.tmod_eq_emod_of_nonneg (by omega)]; exact h3⟩)
          · exact .inr (.inl ⟨by simpa using h0, h0, by simpa using h1, by simpa using h2⟩)
        · exact .inl ⟨by simpa using h0, h0, by simpa using h1⟩
    obtain ⟨L, hL⟩ : ∃ L : Int, L = (Int.lcm a b : Int) := ⟨_, rfl⟩
    obtain ⟨p, hp⟩ : ∃ p : Int, p = a * b := ⟨_, rfl⟩
    have cl : ∀ w, Calls Tryd.prog 16 #[.int .i64 a, .int .i64 b] w fun e w' => e = .returned (.tuple #[.int .i64 (cV L), .int .i64 (cE L)]) ∧ ∃ n, w' = w.drewN n := fun w => by rw [hL]; exact numLcm a b w ha ha' hb hb'
    have cm : ∀ w, Calls Tryd.prog 15 #[.int .i64 a, .int .i64 b] w fun e w' => e = .returned (.tuple #[.int .i64 (cV p), .int .i64 (cE p)]) ∧ w = w' := fun w => by rw [hp]; exact numMul a b w ha ha' hb hb'
    rw [← hL, ← hp] at hprod
    have CL := Lib.hid cl
    have CM := Lib.hid cm
    clear cl cm hgv hgm hg t3 hL hp
    have hend : (cE L != 0) = true ∨ ((cE L != 0) = false ∧ (cE p != 0) = true) ∨ ((cE L != 0) = false ∧ (cE p != 0) = false ∧ (cV p == -9223372036854775808) = true) ∨
        ((cE L != 0) = false ∧ (cE p != 0) = false ∧ (cV p == -9223372036854775808) = false ∧ cV L = L ∧ cV p = p ∧ -9223372036854775808 < p ∧ p ≤ 9223372036854775807 ∧ -9223372036854775808 ≤ L ∧ L ≤ 9223372036854775807 ∧ cV (g * L) = (p.natAbs : Int) ∧ cE (g * L) = 0) := by
      by_cases e1 : cE L = 0
      · right
        have f1 : (cE L != 0) = false := by rw [e1]; rfl
        by_cases e2 : cE p = 0
        · right
          have f2 : (cE p != 0) = false := by rw [e2]; rfl
          by_cases e3 : cV p = -9223372036854775808
          · exact .inl ⟨f1, f2, by simpa using e3⟩
          · right
            obtain ⟨b1, b2⟩ := cE_zero e1
            obtain ⟨b3, b4⟩ := cE_zero e2
            have v := cV_yes b3 b4
            refine ⟨f1, f2, by simpa using e3, cV_yes b1 b2, v, by rw [v] at e3; omega, b4, b1, b2, ?_, ?_⟩
            · rw [hprod]; rw [v] at e3; exact cV_yes (by omega) (by omega)
            · rw [hprod]; rw [v] at e3; exact cE_yes (by omega) (by omega)
        · exact .inl ⟨f1, by simpa using e2⟩
      · left; simpa using e1
    have hgz : (g == 0) = false := by simpa using hz
    have hgn : decide (g < 0) = false := decide_eq_false (by omega)
    clear hz hprod
    rcases hend with f1 | ⟨f1, f2⟩ | ⟨f1, f2, f3⟩ | ⟨f1, f2, f3, v1, v2, b1, b2, b3, b4, v3, v4⟩
    · rcases hcases with rfl | ⟨h0, h00, h1⟩ | ⟨h0, h00, h1, h2⟩ | ⟨h0, h00, h1, h2, h3, h4⟩
      all_goals
        go_enter Tryd.func7, Tryd.ntmps7
        go_wp2_with fail
        refine (CG.out _).mono ?_; rintro e w' ⟨rfl, n1, rfl⟩
        go_wp2_with fail
        refine (CL.out _).mono ?_; rintro e w' ⟨rfl, n2, rfl⟩
        go_wp2_with fail
        refine (CM.out _).mono ?_; rintro e w' ⟨rfl, rfl⟩
        go_wp2_with fail
        refine (awake _ (HT.out.drewN _)).mono ?_; rintro e w' ⟨rfl, hw⟩
        go_wp2_with fail
        go_ret
        exact ⟨rfl, below_of_drewN hw⟩
    · rcases hcases with rfl | ⟨h0, h00, h1⟩ | ⟨h0, h00, h1, h2⟩ | ⟨h0, h00, h1, h2, h3, h4⟩
      all_goals
        go_enter Tryd.func7, Tryd.ntmps7
        go_wp2_with fail
        refine (CG.out _).mono ?_; rintro e w' ⟨rfl, n1, rfl⟩
        go_wp2_with fail
        refine (CL.out _).mono ?_; rintro e w' ⟨rfl, n2, rfl⟩
        go_wp2_with fail
        refine (CM.out _).mono ?_; rintro e w' ⟨rfl, rfl⟩
        go_wp2_with fail
        refine (awake _ (HT.out.drewN _)).mono ?_; rintro e w' ⟨rfl, hw⟩
        go_wp2_with fail
        go_ret
        exact ⟨rfl, below_of_drewN hw⟩
    · rcases hcases with rfl | ⟨h0, h00, h1⟩ | ⟨h0, h00, h1, h2⟩ | ⟨h0, h00, h1, h2, h3, h4⟩
      all_goals
        go_enter Tryd.func7, Tryd.ntmps7
        go_wp2_with fail
        refine (CG.out _).mono ?_; rintro e w' ⟨rfl, n1, rfl⟩
        go_wp2_with fail
        refine (CL.out _).mono ?_; rintro e w' ⟨rfl, n2, rfl⟩
        go_wp2_with fail
        refine (CM.out _).mono ?_; rintro e w' ⟨rfl, rfl⟩
        go_wp2_with fail
        refine (awake _ (HT.out.drewN _)).mono ?_; rintro e w' ⟨rfl, hw⟩
        go_wp2_with fail
        go_ret
        exact ⟨rfl, below_of_drewN hw⟩
    · rw [v2] at f3
      have V1 := Lib.hid v1
      have V2 := Lib.hid v2
      have V3 := Lib.hid v3
      have V4 := Lib.hid v4
      clear v1 v2 v3 v4
      by_cases hneg : p < 0
      · have hpp : (p.natAbs : Int) = -p := by omega
        have HP := Lib.hid hpp
        clear hpp
        rcases hcases with rfl | ⟨h0, h00, h1⟩ | ⟨h0, h00, h1, h2⟩ | ⟨h0, h00, h1, h2, h3, h4⟩
        all_goals
          go_enter Tryd.func7, Tryd.ntmps7
          go_wp2_with fail
          refine (CG.out _).mono ?_; rintro e w' ⟨rfl, n1, rfl⟩
          go_wp2_with fail
          refine (CL.out _).mono ?_; rintro e w' ⟨rfl, n2, rfl⟩
          rw [V1.out]
          go_wp2_with fail
          refine (CM.out _).mono ?_; rintro e w' ⟨rfl, rfl⟩
          rw [V2.out]
          go_wp2_with fail
          refine (numMul g L _ (by omega) hg2 b3 b4).mono ?_; rintro e w' ⟨rfl, rfl⟩
          rw [V3.out, V4.out, HP.out]
          go_wp2_with fail
          refine (awake _ (HT.out.drewN _)).mono ?_; rintro e w' ⟨rfl, hw⟩
          go_wp2_with fail
          go_ret
          exact ⟨rfl, below_of_drewN hw⟩
      · have hpp : (p.natAbs : Int) = p := by omega
        have HP := Lib.hid hpp
        clear hpp
        rcases hcases with rfl | ⟨h0, h00, h1⟩ | ⟨h0, h00, h1, h2⟩ | ⟨h0, h00, h1, h2, h3, h4⟩
        all_goals
          go_enter Tryd.func7, Tryd.ntmps7
          go_wp2_with fail
          refine (CG.out _).mono ?_; rintro e w' ⟨rfl, n1, rfl⟩
          go_wp2_with fail
          refine (CL.out _).mono ?_; rintro e w' ⟨rfl, n2, rfl⟩
          rw [V1.out]
          go_wp2_with fail
          refine (CM.out _).mono ?_; rintro e w' ⟨rfl, rfl⟩
          rw [V2.out]
          go_wp2_with fail
          refine (numMul g L _ (by omega) hg2 b3 b4).mono ?_; rintro e w' ⟨rfl, rfl⟩
          rw [V3.out, V4.out, HP.out]
          go_wp2_with fail
          refine (awake _ (HT.out.drewN _)).mono ?_; rintro e w' ⟨rfl, hw⟩
          go_wp2_with fail
          go_ret
          exact ⟨rfl, below_of_drewN hw⟩
end Go.Proofs.YtdnfeibjdjcomaaDoor
