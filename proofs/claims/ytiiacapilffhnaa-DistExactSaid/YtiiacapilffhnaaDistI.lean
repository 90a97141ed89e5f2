/-
  Contracts of Nth and its reference.
-/
import Derived.Test.YtiiacapilffhnaaDistG
namespace Go.Proofs.Ytiiacapilffhnaa
open Go.RowKit
set_option linter.unusedVariables false
set_option linter.unusedSimpArgs false

set_option maxRecDepth 100000 in
set_option maxHeartbeats 8000000 in
theorem distNth (w : World) (v : Value) (l : List Rg) (wd x : Int) (h : DL w v l) (hf : LF l) (w0 : -9223372036854775808 ≤ wd) (w1 : wd ≤ 9223372036854775807) (x0 : -9223372036854775808 ≤ x) (x1 : x ≤ 9223372036854775807) :
    Calls Try.prog 13 #[v, .int .i64 wd, .int .i64 x] w fun e w' => e = .returned (.tuple #[.int .i64 (nth l wd x).1, .int .i64 (nth l wd x).2]) ∧ Below w.heap.size w w' := by
  have HW := Lib.hid (distWeights w v l wd h hf w0 w1)
  have hN : nth l wd x = if (tot l wd).2 ≠ 0 then (0, (tot l wd).2) else if x < 0 ∨ (tot l wd).1 ≤ x then (0, 12) else nthRun l (scl l).1 (two wd) 0 x := rfl
  rcases tot_ways l wd with ⟨h1, h2⟩ | ⟨h1, hv, hs, n0, n1, t0, t1, hp, hj⟩
  · have HE : Hid (nth l wd x = (0, (tot l wd).2)) := Lib.hid (by rw [hN, if_pos h1])
    have f : ((tot l wd).2 != 0) = true := by simpa using h1
    clear hN h1 h hf
    generalize tot l wd = r at *
    obtain ⟨t, er⟩ := r
    simp only at h2 f HE
    subst h2
    go_enter Try.func13, Try.ntmps13
    go_wp2_with fail
    refine (HW.out).mono ?_; rintro e w1 ⟨v1, rfl, _, hb⟩
    have HB1 := Lib.hid hb
    clear hb
    go_wp2_with fail
    go_ret2
    exact ⟨ret2 (by rw [HE.out]) (by rw [HE.out]), HB1.out⟩
  rw [if_neg (by rw [h1]; decide)] at hN
  have hrv := vld_RV hv
  obtain ⟨g1, g2, _, _, _⟩ := vld_zero hv
  obtain ⟨B, hB, B1, B2, hwr⟩ := pow_nat g1 g2
  have hl : twl l wd = wl l (scl l).1 (two wd) := twl_ok (s := (tot l wd).1) (Prod.ext rfl h1)
  have hte : tot l wd = ((tot l wd).1, 0) := Prod.ext rfl h1
  rw [← hB] at hl hN hp hj
  generalize (scl l).1 = n at *
  rw [hte] at HW
  generalize (tot l wd).1 = t at *
  by_cases c1 : x < 0
  · have HE : Hid (nth l wd x = (0, 12)) := Lib.hid (by rw [hN, if_pos (.inl c1)])
    clear hN hl hp hj hte h1 hs hv h hf hrv hB
    go_enter Try.func13, Try.ntmps13
    go_wp2_with fail
    refine (HW.out).mono ?_; rintro e w1 ⟨v1, rfl, _, hb⟩
    have HB1 := Lib.hid hb
    clear hb
    go_wp2_with fail
    go_ret2
    exact ⟨ret2 (by rw [HE.out]) (by rw [HE.out]), HB1.out⟩
  by_cases c2 : t ≤ x
  · have HE : Hid (nth l wd x = (0, 12)) := Lib.hid (by rw [hN, if_pos (.inr c2)])
    clear hN hl hp hj hte h1 hs hv h hf hrv hB
    go_enter Try.func13, Try.ntmps13
    go_wp2_with fail
    refine (HW.out).mono ?_; rintro e w1 ⟨v1, rfl, _, hb⟩
    have HB1 := Lib.hid hb
    clear hb
    go_wp2_with fail
    go_ret2
    exact ⟨ret2 (by rw [HE.out]) (by rw [HE.out]), HB1.out⟩
  rw [if_neg (by omega)] at hN
  have HNT := Lib.hid hN
  have HL := Lib.hid hl
  have HRV := Lib.hid hrv
  have HJ := Lib.hid hj
  have c3 : ¬ x < 0 := c1
  clear hN hl hp hj hte h1 hs hv h hf hrv hB
  go_enter Try.func13, Try.ntmps13
  go_wp2_with fail
  refine (HW.out).mono ?_; rintro e w1 ⟨v1, rfl, hil, hb⟩
  have HB1 := Lib.hid hb
  rw [HL.out] at hil
  obtain ⟨A, c, rfl, hc, hcell⟩ := hil
  have HC := Lib.hid hcell
  have HCC := Lib.hid hc
  rw [wl_len]
  clear hb hc hcell
  go_wp2_with fail
  go_loop [32, 2] (fun c s => ∃ (k : Nat) (y : Int), k ≤ B ∧ c = .int .i64 k ∧ s = .int .i64 y ∧ 0 ≤ y ∧ y ≤ 9223372036854775807 ∧ nthRun l n (B - k) k y = nth l wd x) (fun c _ => B - (intOf c).toNat)
  case atStart => exact ⟨0, x, Nat.zero_le _, rfl, rfl, by omega, by omega, HNT.out.symm⟩
  case round =>
    obtain ⟨k, y, hk, rfl, rfl, y0, y1, hg⟩ := hrel
    have HG := Lib.hid hg
    clear hg
    by_cases hlt : k < B
    · have hlt2 : (k : Int) < B := by omega
      obtain ⟨a, rfl, ha, hcl⟩ := HC.out (by rw [wl_len]; omega)
      have g0 := hcl k (by rw [wl_len]; exact hlt)
      rw [wl_get l n B k hlt] at g0
      have hy := nth_yes (l := l) (n := n) (x := y) hlt
      have hn := nth_no (l := l) (n := n) (x := y) hlt
      have hww := wgt_ways HRV.out n0 k
      have hjj := HJ.out k hlt
      rw [HG.out] at hy hn
      generalize wgt l n k = r at *
      obtain ⟨u, ue⟩ := r
      simp only at hy hn hww hjj g0
      have hu : 0 ≤ u ∧ u ≤ 9223372036854775807 := by
        rcases hww with h | h
        · exact h.2
        · exact absurd hjj (by rw [(Prod.mk.inj h).2]; decide)
      obtain ⟨u0, u1⟩ := hu
      clear hcl ha hww hjj HG
      by_cases hyu : y < u
      · have HE := Lib.hid (hy hyu)
        clear hy hn
        go_wp2_with fail
        go_ret2
        exact ⟨ret2 (by rw [HE.out]) (by rw [HE.out]), HB1.out⟩
      · have HE := Lib.hid (hn hyu)
        clear hy hn
        go_wp2_with fail
        go_round
        case rel => exact ⟨k + 1, y - u, by omega, by go_num, rfl, by omega, by omega, HE.out.symm⟩
        case measure => simp [intOf]; omega
    · have hkn : k = B := by omega
      have hlt2 : ¬ (k : Int) < B := by omega
      subst hkn
      have HE : Hid ((0, 12) = nth l wd x) := Lib.hid (by have := HG.out; rwa [nth_end] at this)
      go_wp2_with fail
      go_ret2
      exact ⟨ret2 (by rw [← HE.out]) (by rw [← HE.out]), HB1.out⟩

set_option maxRecDepth 100000 in
set_option maxHeartbeats 8000000 in
theorem refNth (w : World) (v : Value) (l : List Rg) (wd x : Int) (h : DL w v l) (hf : LF l) (w0 : -9223372036854775808 ≤ wd) (w1 : wd ≤ 9223372036854775807) (x0 : -9223372036854775808 ≤ x) (x1 : x ≤ 9223372036854775807) :
    Calls Try.prog 14 #[v, .int .i64 wd, .int .i64 x] w fun e w' => e = .returned (.tuple #[.int .i64 (nth l wd x).1, .int .i64 (nth l wd x).2]) ∧ Below w.heap.size w w' := by
  have HW := Lib.hid (refTotal w v l wd h hf w0 w1)
  have HD := Lib.hid h
  have hN : nth l wd x = if (tot l wd).2 ≠ 0 then (0, (tot l wd).2) else if x < 0 ∨ (tot l wd).1 ≤ x then (0, 12) else nthRun l (scl l).1 (two wd) 0 x := rfl
  rcases tot_ways l wd with ⟨h1, h2⟩ | ⟨h1, hv, hs, n0, n1, t0, t1, hp, hj⟩
  · have HE : Hid (nth l wd x = (0, (tot l wd).2)) := Lib.hid (by rw [hN, if_pos h1])
    have f : ((tot l wd).2 != 0) = true := by simpa using h1
    clear hN h1 h hf
    generalize tot l wd = r at *
    obtain ⟨t, er⟩ := r
    simp only at h2 f HE HW
    subst h2
    go_enter Try.func14, Try.ntmps14
    go_wp2_with fail
    refine (HW.out).mono ?_; rintro e w1 ⟨rfl, hb⟩
    have HB1 := Lib.hid hb
    clear hb
    go_wp2_with fail
    go_ret2
    exact ⟨ret2 (by rw [HE.out]) (by rw [HE.out]), HB1.out⟩
  rw [if_neg (by rw [h1]; decide)] at hN
  have hrv := vld_RV hv
  obtain ⟨g1, g2, _, _, _⟩ := vld_zero hv
  obtain ⟨B, hB, B1, B2, hwr⟩ := pow_nat g1 g2
  have hE : ∀ x, wgtE l x = wgt l (scl l).1 x := fun x => by
    unfold wgtE sclE; rw [if_pos (vld_8 hv), if_pos hs]
  have hwt : ∀ (k : Nat), (k : Int) < 9223372036854775807 → ∀ w, DL w v l → Calls Try.prog 25 #[v, .int .i64 k] w fun e w' => e = .returned (.tuple #[.int .i64 (wgtE l k).1, .int .i64 (wgtE l k).2]) ∧ Below w.heap.size w w' := fun k hk w h => refWeight w v l k h hf (by omega) (by omega)
  simp only [hE] at hwt
  have hte : tot l wd = ((tot l wd).1, 0) := Prod.ext rfl h1
  rw [← hB] at hN hp hj
  generalize (scl l).1 = n at *
  rw [hte] at HW
  simp only at HW
  generalize (tot l wd).1 = t at *
  by_cases c1 : x < 0
  · have HE : Hid (nth l wd x = (0, 12)) := Lib.hid (by rw [hN, if_pos (.inl c1)])
    clear hN hp hj hte h1 hs hv h hf hrv hB hE hwt
    go_enter Try.func14, Try.ntmps14
    go_wp2_with fail
    refine (HW.out).mono ?_; rintro e w1 ⟨rfl, hb⟩
    have HB1 := Lib.hid hb
    clear hb
    go_wp2_with fail
    go_ret2
    exact ⟨ret2 (by rw [HE.out]) (by rw [HE.out]), HB1.out⟩
  by_cases c2 : t ≤ x
  · have HE : Hid (nth l wd x = (0, 12)) := Lib.hid (by rw [hN, if_pos (.inr c2)])
    clear hN hp hj hte h1 hs hv h hf hrv hB hE hwt
    go_enter Try.func14, Try.ntmps14
    go_wp2_with fail
    refine (HW.out).mono ?_; rintro e w1 ⟨rfl, hb⟩
    have HB1 := Lib.hid hb
    clear hb
    go_wp2_with fail
    go_ret2
    exact ⟨ret2 (by rw [HE.out]) (by rw [HE.out]), HB1.out⟩
  rw [if_neg (by omega)] at hN
  have HNT := Lib.hid hN
  have HRV := Lib.hid hrv
  have HJ := Lib.hid hj
  have HP := Lib.hid hp
  have HWT0 := Lib.hid hwt
  clear hN hp hj hte h1 hs hv h hf hrv hB hE hwt
  go_enter Try.func14, Try.ntmps14
  go_wp2_with fail
  refine (HW.out).mono ?_; rintro e w1 ⟨rfl, hb⟩
  have HB1 := Lib.hid hb
  clear hb
  go_wp2_with fail
  go_loopw [11, 10] (fun c s wr => ∃ (k : Nat) (y : Int), k ≤ B ∧ c = .int .i64 k ∧ s = .int .i64 y ∧ 0 ≤ y ∧ y ≤ 9223372036854775807 ∧ y = x - pre l n k ∧ nthRun l n (B - k) k y = nth l wd x ∧ Below w.heap.size w wr) (fun c _ _ => B - (intOf c).toNat)
  case atStart => exact ⟨0, x, Nat.zero_le _, rfl, rfl, by omega, by omega, by rw [pre_zero]; omega, HNT.out.symm, HB1.out⟩
  case round =>
    obtain ⟨k, y, hk, rfl, rfl, y0, y1, hpre, hg, hb⟩ := hrel
    have HG := Lib.hid hg
    have HBL := Lib.hid hb
    clear hg hb
    have hlt : k < B := by
      apply Classical.byContradiction
      intro hc
      have hkB : k = B := by omega
      have := HP.out
      rw [← hkB] at this
      omega
    have hsu := pre_succ l n k
    have hy := nth_yes (l := l) (n := n) (x := y) hlt
    have hn := nth_no (l := l) (n := n) (x := y) hlt
    have hww := wgt_ways HRV.out n0 k
    have hjj := HJ.out k hlt
    have hwt := HWT0.out k (by omega)
    rw [HG.out] at hy hn
    generalize wgt l n k = r at *
    obtain ⟨u, ue⟩ := r
    simp only at hy hn hww hjj hsu hwt
    have hu : 0 ≤ u ∧ u ≤ 9223372036854775807 := by
      rcases hww with h | h
      · exact h.2
      · exact absurd hjj (by rw [(Prod.mk.inj h).2]; decide)
    obtain ⟨u0, u1⟩ := hu
    have HWT := Lib.hid hwt
    have HSU : Hid (y - u = x - pre l n (k + 1)) := Lib.hid (by omega)
    clear hww hjj HG hwt hsu hpre
    by_cases hyu : y < u
    · have HE := Lib.hid (hy hyu)
      clear hy hn
      go_wp2_with fail
      refine (HWT.out _ (HD.out.below HBL.out)).mono ?_; rintro e w3 ⟨rfl, hb3⟩
      have HBL2 := Lib.hid (below_step HBL.out hb3)
      clear hb3 HBL
      go_wp2_with fail
      go_ret2
      exact ⟨ret2 (by rw [HE.out]) (by rw [HE.out]), HBL2.out⟩
    · have HE := Lib.hid (hn hyu)
      clear hy hn
      go_wp2_with fail
      refine (HWT.out _ (HD.out.below HBL.out)).mono ?_; rintro e w3 ⟨rfl, hb3⟩
      have HBL2 := Lib.hid (below_step HBL.out hb3)
      clear hb3 HBL
      go_wp2_with fail
      go_roundw
      case rel => exact ⟨k + 1, y - u, by omega, by go_num, rfl, by omega, by omega, HSU.out, HE.out.symm, HBL2.out⟩
      case measure => simp [intOf]; omega

end Go.Proofs.Ytiiacapilffhnaa
