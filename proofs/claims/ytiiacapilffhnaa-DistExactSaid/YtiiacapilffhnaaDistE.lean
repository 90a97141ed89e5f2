/-
  Contracts of dist.Weight, of the reference's Weight, of dist.weights.
-/
import Derived.Test.YtiiacapilffhnaaDistD
import Derived.Test.YtiiacapilffhnaaRows0
namespace Go.Proofs.Ytiiacapilffhnaa
open Go.RowKit
set_option linter.unusedVariables false
set_option linter.unusedSimpArgs false

/-- What Weight returns. -/
def wgtE (l : List Rg) (x : Int) : Int × Int := if (sclE l).2 = 0 then wgt l (sclE l).1 x else (0, (sclE l).2)
theorem sclE_ways (l : List Rg) : ((sclE l).2 = 0 ∧ RV l ∧ sclE l = scl l ∧ 1 ≤ (sclE l).1 ∧ (sclE l).1 ≤ 9223372036854775807) ∨ ((sclE l).2 ≠ 0 ∧ (sclE l).1 = 0) := by
  unfold sclE
  by_cases hz : vld l 8 = 0
  · rw [if_pos hz]
    rcases scl_bd hz with h | ⟨h1, h2, h3⟩
    · right; rw [h]; simp
    · exact .inl ⟨h1, vld_RV hz, rfl, h2, h3⟩
  · rw [if_neg hz]; exact .inr ⟨hz, rfl⟩
set_option maxHeartbeats 2000000 in
theorem distWeightAll (w : World) (v : Value) (l : List Rg) (x : Int) (h : DL w v l) (hf : LF l) (x0 : -9223372036854775808 ≤ x) (x1 : x ≤ 9223372036854775807) :
    Calls Try.prog 24 #[v, .int .i64 x] w fun e w' => e = .returned (.tuple #[.int .i64 (wgtE l x).1, .int .i64 (wgtE l x).2]) ∧ Below w.heap.size w w' := by
  have HS := Lib.hid (distScaleAll w v l h hf)
  have HD := Lib.hid h
  have hw := sclE_ways l
  have he : wgtE l x = if (sclE l).2 = 0 then wgt l (sclE l).1 x else (0, (sclE l).2) := rfl
  clear h
  generalize sclE l = r at *
  obtain ⟨n, er⟩ := r
  simp only at HS hw he
  rcases hw with ⟨rfl, hv, _, n0, n1⟩ | ⟨hn, rfl⟩
  · have HE : Hid (wgtE l x = wgt l n x) := Lib.hid (by rw [he]; rfl)
    clear he
    have HV := Lib.hid hv
    clear hv
    go_enter Try.func24, Try.ntmps24
    go_wp2_with fail
    refine (HS.out).mono ?_; rintro e w1 ⟨rfl, hb⟩
    have HB1 := Lib.hid hb
    clear hb
    go_wp2_with fail
    refine (distWeight _ _ l n x (HD.out.below HB1.out) HV.out n0 n1 x0 x1).mono ?_; rintro e w2 ⟨rfl, hb⟩
    have HB2 := Lib.hid (below_step HB1.out hb)
    clear hb
    go_wp2_with fail
    go_ret2
    exact ⟨ret2 (by rw [HE.out]) (by rw [HE.out]), HB2.out⟩
  · have HE : Hid (wgtE l x = (0, er)) := Lib.hid (by rw [he, if_neg hn])
    have f : (er != 0) = true := by simpa using hn
    clear he hn
    go_enter Try.func24, Try.ntmps24
    go_wp2_with fail
    refine (HS.out).mono ?_; rintro e w1 ⟨rfl, hb⟩
    have HB1 := Lib.hid hb
    clear hb
    go_wp2_with fail
    go_ret2
    exact ⟨ret2 (by rw [HE.out]) (by rw [HE.out]), HB1.out⟩

set_option maxRecDepth 100000 in
set_option maxHeartbeats 4000000 in
theorem refWeight (w : World) (v : Value) (l : List Rg) (x : Int) (h : DL w v l) (hf : LF l) (x0 : -9223372036854775808 ≤ x) (x1 : x ≤ 9223372036854775807) :
    Calls Try.prog 25 #[v, .int .i64 x] w fun e w' => e = .returned (.tuple #[.int .i64 (wgtE l x).1, .int .i64 (wgtE l x).2]) ∧ Below w.heap.size w w' := by
  have HS := Lib.hid (refScale w v l h hf)
  have HD := Lib.hid h
  have hw := sclE_ways l
  have he : wgtE l x = if (sclE l).2 = 0 then wgt l (sclE l).1 x else (0, (sclE l).2) := rfl
  generalize sclE l = r at *
  obtain ⟨n, er⟩ := r
  simp only at HS hw he
  rcases hw with ⟨rfl, hv, _, n0, n1⟩ | ⟨hn, rfl⟩
  · rcases fstI_fnd l x 0 with ⟨h1, h2⟩ | ⟨i, h1, h2, h3⟩
    · have HE : Hid (wgtE l x = (0, 0)) := Lib.hid (by rw [he, if_pos rfl]; unfold wgt; rw [h2])
      have HF : Hid (∀ w, DL w v l → Calls Try.prog 31 #[v, .int .i64 x] w fun e w' => e = .returned (.int .i64 (-1)) ∧ w = w') := Lib.hid fun w h => by have := refFirst w v l x h x0 x1; rwa [h1] at this
      clear he h h1 h2 hv
      go_enter Try.func25, Try.ntmps25
      go_wp2_with fail
      refine (HS.out).mono ?_; rintro e w1 ⟨rfl, hb⟩
      have HB1 := Lib.hid hb
      clear hb
      go_wp2_with fail
      refine (HF.out _ (HD.out.below HB1.out)).mono ?_; rintro e w2 ⟨rfl, rfl⟩
      go_wp2_with fail
      go_ret2
      exact ⟨ret2 (by rw [HE.out]) (by rw [HE.out]), HB1.out⟩
    · have HF : Hid (∀ w, DL w v l → Calls Try.prog 31 #[v, .int .i64 x] w fun e w' => e = .returned (.int .i64 i) ∧ w = w') := Lib.hid fun w h => by have := refFirst w v l x h x0 x1; rw [h1] at this; simpa using this
      have hr := hv i h2
      have hE : wgtE l x = (cV (wgt1 (l.getD i rg0) n), cE (wgt1 (l.getD i rg0) n)) := by rw [he, if_pos rfl]; unfold wgt; rw [h3]
      have hd := wgt_bd hr n0
      obtain ⟨A, c, rfl, hc, hm, hs⟩ := h
      obtain ⟨a, rfl, hg⟩ := hs (by omega)
      obtain ⟨r, hrr⟩ : ∃ r, l.getD i rg0 = r := ⟨_, rfl⟩
      rw [hrr] at hr hE hd
      obtain ⟨lo, hi, wt, ea⟩ := r
      simp only at hr hd
      obtain ⟨r0, r1, r2, r3, r4⟩ := hr
      obtain ⟨d0, d1⟩ := hd
      obtain ⟨N, hN⟩ : ∃ N, N = l.length := ⟨_, rfl⟩
      rw [← hN] at HD HF HS h2 hc ⊢
      have g := fun (w1 : World) (hb : Below w.heap.size w w1) => hg.at_ hb (by rw [← hN]; exact h2) hrr
      have HG := Lib.hid g
      have HN := Lib.hid hN
      have h2i : (i : Int) < N := by omega
      have h2n : (0 : Int) ≤ (i : Int) := by omega
      clear he h1 h3 hv hs hg hrr g hN
      cases ea
      · have s1 : IntKind.i64.wrap (hi - lo) = hi - lo := IntWalk.i64_in _ (by omega)
        have s2 : IntKind.i64.wrap (hi - lo + 1) = hi - lo + 1 := IntWalk.i64_in _ (by omega)
        have s3 : IntKind.i64.wrap (n / (hi - lo + 1)) = n / (hi - lo + 1) := IntWalk.i64_in _ (by omega)
        have s4 : ¬ (hi - lo + 1 = 0) := by omega
        have s5 : (hi - lo + 1 == 0) = false := by simpa using s4
        have MU : Hid (∀ w, Calls Try.prog 43 #[.int .i64 wt, .int .i64 (n / (hi - lo + 1))] w fun e w' => e = .returned (.tuple #[.int .i64 (cV (wt * (n / (hi - lo + 1)))), .int .i64 (cE (wt * (n / (hi - lo + 1))))]) ∧ w = w') := fun w => refMul wt _ w (by omega) (by omega) (by omega) (by omega)
        have HW2 : Hid (wgtE l x = (cV (wt * (n / (hi - lo + 1))), cE (wt * (n / (hi - lo + 1))))) := Lib.hid (by rw [hE]; rfl)
        clear hE
        go_enter Try.func25, Try.ntmps25
        go_wp2_with fail
        refine (HS.out).mono ?_; rintro e w1 ⟨rfl, hb⟩
        have HB1 := Lib.hid hb
        clear hb
        go_wp2_with fail
        refine (HF.out _ (HD.out.below HB1.out)).mono ?_; rintro e w2 ⟨rfl, rfl⟩
        obtain ⟨c0, c1, c2, c3⟩ := HG.out _ HB1.out
        go_wp2_with fail
        go_quiet ((first | exact quiet_left (MU.out _) | exact quiet_add_left (MU.out _)))
        go_wp2_with fail
        go_ret2
        exact ⟨ret2 (by rw [HW2.out]) (by rw [HW2.out]), below_drewN HB1.out _⟩
      · have MU : Hid (∀ w, Calls Try.prog 43 #[.int .i64 wt, .int .i64 n] w fun e w' => e = .returned (.tuple #[.int .i64 (cV (wt * n)), .int .i64 (cE (wt * n))]) ∧ w = w') := fun w => refMul wt _ w (by omega) (by omega) (by omega) (by omega)
        have HW2 : Hid (wgtE l x = (cV (wt * n), cE (wt * n))) := Lib.hid (by rw [hE]; rfl)
        clear hE
        go_enter Try.func25, Try.ntmps25
        go_wp2_with fail
        refine (HS.out).mono ?_; rintro e w1 ⟨rfl, hb⟩
        have HB1 := Lib.hid hb
        clear hb
        go_wp2_with fail
        refine (HF.out _ (HD.out.below HB1.out)).mono ?_; rintro e w2 ⟨rfl, rfl⟩
        obtain ⟨c0, c1, c2, c3⟩ := HG.out _ HB1.out
        go_wp2_with fail
        refine (MU.out _).mono ?_; rintro e w3 ⟨rfl, rfl⟩
        go_wp2_with fail
        go_ret2
        exact ⟨ret2 (by rw [HW2.out]) (by rw [HW2.out]), HB1.out⟩
  · have HE : Hid (wgtE l x = (0, er)) := Lib.hid (by rw [he, if_neg hn])
    have f : (er != 0) = true := by simpa using hn
    clear he hn h
    go_enter Try.func25, Try.ntmps25
    go_wp2_with fail
    refine (HS.out).mono ?_; rintro e w1 ⟨rfl, hb⟩
    have HB1 := Lib.hid hb
    clear hb
    go_wp2_with fail
    go_ret2
    exact ⟨ret2 (by rw [HE.out]) (by rw [HE.out]), HB1.out⟩

end Go.Proofs.Ytiiacapilffhnaa
