/-
  Contracts of the reference's rational numbers: sum.
-/
import Derived.Test.YtbaalbmchhgmnaaDoorRefA
import Derived.Deep.CutBlock
namespace Go.Proofs.YtbaalbmchhgmnaaDoor
open Go.RowKit
set_option linter.unusedVariables false
set_option linter.unusedSimpArgs false

theorem bigPlusN (w : World) (v1 v2 : Value) (x y : Nat) (h1 : BN w v1 x) (h2 : BN w v2 y) (hx : x < PW 150) (hy : y < PW 150) : Calls Tryd.prog 62 #[v1, v2] w (BL w (x + y)) := by
  have := bigPlus w v1 v2 (dg x) (dg y) h1 h2 (Addend.dg (Nat.lt_trans hx (PW_lt.2 (by omega)))) (Addend.dg (Nat.lt_trans hy (PW_lt.2 (by omega)))) (by
    rw [vl_dg, vl_dg]
    have h3 : x + y < PW 151 := by rw [PW_succ]; omega
    have h4 : PW 151 < PW 300 := PW_lt.2 (by omega)
    have : ((x + y : Nat) : Int) < (PW 300 : Int) := Int.ofNat_lt.2 (by omega)
    rwa [Int.natCast_add] at this)
  rw [vl_dg, vl_dg, show ((x : Int) + (y : Int)).toNat = x + y by omega] at this
  exact this
def sumN (s1 : Bool) (x : Nat) (s2 : Bool) (y : Nat) : Nat := if s1 = s2 then x + y else if y ≤ x then x - y else y - x
def sumS (s1 : Bool) (x : Nat) (s2 : Bool) (y : Nat) : Bool := if s1 = s2 then s1 else if y ≤ x then s1 else s2
theorem sum_law (s1 : Bool) (x : Nat) (s2 : Bool) (y : Nat) : sumN s1 x s2 y = (sv s1 x + sv s2 y).natAbs ∧ (sumN s1 x s2 y ≠ 0 → sumS s1 x s2 y = decide (sv s1 x + sv s2 y < 0)) := by
  unfold sumN sumS sv
  rcases Nat.lt_or_ge x y with hl | hl
  · have hn : ¬ y ≤ x := by omega
    cases s1 <;> cases s2 <;> simp [hn] <;> first | omega | (refine ⟨by omega, fun h => ?_⟩; first | omega | (symm; simp; omega))
  · cases s1 <;> cases s2 <;> simp [hl] <;> first | omega | (refine ⟨by omega, fun h => ?_⟩; first | omega | (symm; simp; omega))

set_option maxRecDepth 100000 in
set_option maxHeartbeats 8000000 in
theorem refSum (w : World) (s1 s2 : Bool) (v1 v2 : Value) (x y : Nat) (h1 : BN w v1 x) (h2 : BN w v2 y) (hx : x < PW 50) (hy : y < PW 50) :
    Calls Tryd.prog 41 #[.agg #[.bool s1, v1], .agg #[.bool s2, v2]] w (SGN w (sumS s1 x s2 y) (sumN s1 x s2 y)) := by
  have H1 := Lib.hid h1
  have H2 := Lib.hid h2
  have CP : Hid (∀ w v1 v2, BN w v1 x → BN w v2 y → Calls Tryd.prog 62 #[v1, v2] w (BL w (x + y))) := Lib.hid fun w v1 v2 h1 h2 => bigPlusN w v1 v2 x y h1 h2 (Nat.lt_trans hx (PW_lt.2 (by omega))) (Nat.lt_trans hy (PW_lt.2 (by omega)))
  have CO : Hid (∀ w v1 v2, BN w v1 x → BN w v2 y → Calls Tryd.prog 63 #[v1, v2] w fun e w' => e = .returned (.int .i64 (cmpN x y)) ∧ ∃ n, w' = w.drewN n) := Lib.hid fun w v1 v2 h1 h2 => bigOrder w v1 v2 x y h1 h2 (Nat.lt_trans hx (PW_lt.2 (by omega))) (Nat.lt_trans hy (PW_lt.2 (by omega)))
  have CM1 : Hid (y ≤ x → ∀ w v1 v2, BN w v1 x → BN w v2 y → Calls Tryd.prog 64 #[v1, v2] w (BL w (x - y))) := Lib.hid fun h w v1 v2 h1 h2 => bigMinus w v1 v2 x y h1 h2 h (Nat.lt_trans hx (PW_lt.2 (by omega)))
  have CM2 : Hid (x ≤ y → ∀ w v1 v2, BN w v1 y → BN w v2 x → Calls Tryd.prog 64 #[v1, v2] w (BL w (y - x))) := Lib.hid fun h w v1 v2 h1 h2 => bigMinus w v1 v2 y x h1 h2 h (Nat.lt_trans hy (PW_lt.2 (by omega)))
  have HS0 : Hid (sumS s1 x s2 y = if s1 = s2 then s1 else if y ≤ x then s1 else s2) := Lib.hid rfl
  have HN0 : Hid (sumN s1 x s2 y = if s1 = s2 then x + y else if y ≤ x then x - y else y - x) := Lib.hid rfl
  generalize sumS s1 x s2 y = S at *
  generalize sumN s1 x s2 y = N at *
  obtain ⟨A1, c1, rfl, _, _⟩ := h1
  obtain ⟨A2, c2, rfl, _, _⟩ := h2
  obtain ⟨N1, hN1⟩ : ∃ k, k = (dg x).length := ⟨_, rfl⟩
  obtain ⟨N2, hN2⟩ : ∃ k, k = (dg y).length := ⟨_, rfl⟩
  rw [← hN1] at H1 ⊢
  rw [← hN2] at H2 ⊢
  clear hN1 hN2 hx hy
  by_cases hs : s1 = s2
  · have HS : Hid (S = s1) := Lib.hid (by rw [HS0.out, if_pos hs])
    have HN : Hid (N = x + y) := Lib.hid (by rw [HN0.out, if_pos hs])
    subst hs
    clear HS0 HN0 CM1 CM2 CO
    go_enter Tryd.func41, Tryd.ntmps41
    go_upto_region 1 with fail
    have XA := Lib.hid (((Box.new w 53 #[.bool s1, .slice A1 N1 c1]).below (below_alloc _ (.cells #[.bool s1, .slice A2 N2 c2] 53))).below (below_alloc _ (.cells #[.bool false, .slice none 0 0] 53)))
    have XB := Lib.hid ((box1 w (.cells #[.bool s1, .slice A1 N1 c1] 53) 53 #[.bool s1, .slice A2 N2 c2]).below (below_alloc _ (.cells #[.bool false, .slice none 0 0] 53)))
    have XR := Lib.hid (box2 w (.cells #[.bool s1, .slice A1 N1 c1] 53) (.cells #[.bool s1, .slice A2 N2 c2] 53) 53 #[.bool false, .slice none 0 0])
    have HB := Lib.hid (below_step (below_step (below_alloc w (.cells #[.bool s1, .slice A1 N1 c1] 53)) (below_alloc _ (.cells #[.bool s1, .slice A2 N2 c2] 53))) (below_alloc _ (.cells #[.bool false, .slice none 0 0] 53)))
    generalize ((w.alloc (.cells #[.bool s1, .slice A1 N1 c1] 53)).alloc (.cells #[.bool s1, .slice A2 N2 c2] 53)).alloc (.cells #[.bool false, .slice none 0 0] 53) = w1 at *
    have HV1 := Lib.hid (H1.out.below HB.out)
    have HV2 := Lib.hid (H2.out.below HB.out)
    have a0 := XA.out.at_ 0 _ rfl
    have a1 := XA.out.at_ 1 _ rfl
    have b0 := XB.out.at_ 0 _ rfl
    have b1 := XB.out.at_ 1 _ rfl
    go_wp2_with fail
    clear a0 a1 b0 b1
    refine wp_region_gen 8 (Kit.of [fBN 6 [] (x + y)]) (by kernel_rfl) (by kernel_rfl) (fun γ => by kernel_rfl) (by kernel_rfl) (Kit.of_stable ?_) (Kit.of_known ?_) ?_
    · intro z hz; simp only [List.mem_cons, List.not_mem_nil, or_false] at hz; rcases hz with rfl
      · apply fBN_st
    · intro z hz; simp only [List.mem_cons, List.not_mem_nil, or_false] at hz; rcases hz with rfl
      · apply fBN_kn
    intro γ hγ C hC hne
    obtain ⟨A6, c6, e6⟩ : SL (x + y) (γ 6) := hγ 6 rfl
    have l0 := XA.out.latC (C := C) 0 _ rfl
    have l1 := XA.out.latC (C := C) 1 _ rfl
    have l2 := XB.out.latC (C := C) 0 _ rfl
    have l3 := XB.out.latC (C := C) 1 _ rfl
    simp only [List.take_succ_cons, List.take_zero, List.drop_succ_cons, List.drop_zero]
    iterate 6 (refine wpF_quiet rfl ?_; go_big_quiet_step (fail); refine wpQuiet_nil ?_)
    refine wpF_fresh rfl (freshAt_call (args := #[.slice A1 N1 c1, .slice A2 N2 c2]) rfl _ _ _ (run_go Tryd.func62 (by kernel_rfl) (by kernel_rfl)) rfl (by simp [Act.eval]) (fun w' hb hf => (CP.out w' _ _ (HV1.out.below hb) (HV2.out.below hb)).mono fun e w2 ⟨v, he, h1, h2⟩ => ⟨v, he, h1, h2⟩)) ?_
    simp only [Nat.zero_add, Nat.reduceAdd, e6]
    go_simp
    iterate 1 (refine wpF_quiet rfl ?_; go_big_quiet_step (fail); refine wpQuiet_nil ?_)
    intro w2 hb2 hF
    have F6 : BN w2 (γ 6) (x + y) := hF 6 (by decide) rfl
    rw [e6] at F6
    have HF := Lib.hid F6
    have YR := XR.out.below hb2
    have HB2 := Lib.hid (below_step HB.out hb2)
    have y0 := YR.at_ 0 _ rfl
    have y1 := YR.at_ 1 _ rfl
    have z0 := YR.frozen 0
    have z1 := YR.frozen 1
    have HYR := Lib.hid YR
    clear l0 l1 l2 l3 hF F6 hb2 e6 hγ hC hne YR
    go_wp2_with fail
    refine bodyPost_ret (v := .agg #[.bool s1, .slice A6 (dg (x + y)).length c6]) (by simp [results, Tryd.results41, go_sem, y0, y1]) rfl ⟨_, by rw [HS.out], ?_, ?_⟩
    · rw [HN.out]
      exact (HF.out.set_box HYR.out (noInt2 _ _ _ _) 0 (.bool s1)).set_box (HYR.out.set_ 0 (.bool s1)) (noInt2 _ _ _ _) 1 _
    · exact (HB2.out.setCell (by simp; omega) _).setCell (by simp; omega) _
  · have fs : (s1 == s2) = false := by simpa using hs
    by_cases hle : y ≤ x
    · have HS : Hid (S = s1) := Lib.hid (by rw [HS0.out, if_neg hs, if_pos hle])
      have HN : Hid (N = x - y) := Lib.hid (by rw [HN0.out, if_neg hs, if_pos hle])
      have CM := Lib.hid (CM1.out hle)
      have hcm : 0 ≤ cmpN x y := by
        rcases Nat.lt_or_ge y x with h | h
        · rw [cmp_gt h]; omega
        · rw [cmp_eq (by omega)]; omega
      clear HS0 HN0 CM1 CM2 CP hle
      generalize cmpN x y = cm at *
      go_enter Tryd.func41, Tryd.ntmps41
      go_upto_region 1 with fail
      have XA := Lib.hid (((Box.new w 53 #[.bool s1, .slice A1 N1 c1]).below (below_alloc _ (.cells #[.bool s2, .slice A2 N2 c2] 53))).below (below_alloc _ (.cells #[.bool false, .slice none 0 0] 53)))
      have XB := Lib.hid ((box1 w (.cells #[.bool s1, .slice A1 N1 c1] 53) 53 #[.bool s2, .slice A2 N2 c2]).below (below_alloc _ (.cells #[.bool false, .slice none 0 0] 53)))
      have XR := Lib.hid (box2 w (.cells #[.bool s1, .slice A1 N1 c1] 53) (.cells #[.bool s2, .slice A2 N2 c2] 53) 53 #[.bool false, .slice none 0 0])
      have HB := Lib.hid (below_step (below_step (below_alloc w (.cells #[.bool s1, .slice A1 N1 c1] 53)) (below_alloc _ (.cells #[.bool s2, .slice A2 N2 c2] 53))) (below_alloc _ (.cells #[.bool false, .slice none 0 0] 53)))
      generalize ((w.alloc (.cells #[.bool s1, .slice A1 N1 c1] 53)).alloc (.cells #[.bool s2, .slice A2 N2 c2] 53)).alloc (.cells #[.bool false, .slice none 0 0] 53) = w1 at *
      have HV1 := Lib.hid (H1.out.below HB.out)
      have HV2 := Lib.hid (H2.out.below HB.out)
      have a0 := XA.out.at_ 0 _ rfl
      have a1 := XA.out.at_ 1 _ rfl
      have b0 := XB.out.at_ 0 _ rfl
      have b1 := XB.out.at_ 1 _ rfl
      go_wp2_with fail
      refine (CO.out _ _ _ HV1.out HV2.out).mono ?_; rintro e w2 ⟨rfl, n2, rfl⟩
      replace XA := Lib.hid (XA.out.below (below_drewN (Below.refl _ _) n2)); replace XB := Lib.hid (XB.out.below (below_drewN (Below.refl _ _) n2)); replace XR := Lib.hid (XR.out.below (below_drewN (Below.refl _ _) n2)); replace HB := Lib.hid (below_drewN HB.out n2)
      replace HV1 := Lib.hid (H1.out.below HB.out); replace HV2 := Lib.hid (H2.out.below HB.out)
      clear a0 a1 b0 b1
      generalize w1.drewN n2 = w2 at *
      have a0 := XA.out.at_ 0 _ rfl
      have a1 := XA.out.at_ 1 _ rfl
      have b0 := XB.out.at_ 0 _ rfl
      have b1 := XB.out.at_ 1 _ rfl
      go_wp2_with fail
      clear a0 a1 b0 b1
      refine wp_region_gen 8 (Kit.of [fBN 6 [] (x - y)]) (by kernel_rfl) (by kernel_rfl) (fun γ => by kernel_rfl) (by kernel_rfl) (Kit.of_stable ?_) (Kit.of_known ?_) ?_
      · intro z hz; simp only [List.mem_cons, List.not_mem_nil, or_false] at hz; rcases hz with rfl
        · apply fBN_st
      · intro z hz; simp only [List.mem_cons, List.not_mem_nil, or_false] at hz; rcases hz with rfl
        · apply fBN_kn
      intro γ hγ C hC hne
      obtain ⟨A6, c6, e6⟩ : SL (x - y) (γ 6) := hγ 6 rfl
      have l0 := XA.out.latC (C := C) 0 _ rfl
      have l1 := XA.out.latC (C := C) 1 _ rfl
      have l2 := XB.out.latC (C := C) 0 _ rfl
      have l3 := XB.out.latC (C := C) 1 _ rfl
      simp only [List.take_succ_cons, List.take_zero, List.drop_succ_cons, List.drop_zero]
      iterate 6 (refine wpF_quiet rfl ?_; go_big_quiet_step (fail); refine wpQuiet_nil ?_)
      refine wpF_fresh rfl (freshAt_call (args := #[.slice A1 N1 c1, .slice A2 N2 c2]) rfl _ _ _ (run_go Tryd.func64 (by kernel_rfl) (by kernel_rfl)) rfl (by simp [Act.eval]) (fun w' hb hf => (CM.out w' _ _ (HV1.out.below hb) (HV2.out.below hb)).mono fun e w2 ⟨v, he, h1, h2⟩ => ⟨v, he, h1, h2⟩)) ?_
      simp only [Nat.zero_add, Nat.reduceAdd, e6]
      go_simp
      iterate 1 (refine wpF_quiet rfl ?_; go_big_quiet_step (fail); refine wpQuiet_nil ?_)
      intro w2 hb2 hF
      have F6 : BN w2 (γ 6) (x - y) := hF 6 (by decide) rfl
      rw [e6] at F6
      have HF := Lib.hid F6
      have YR := XR.out.below hb2
      have HB2 := Lib.hid (below_step HB.out hb2)
      have y0 := YR.at_ 0 _ rfl
      have y1 := YR.at_ 1 _ rfl
      have z0 := YR.frozen 0
      have z1 := YR.frozen 1
      have HYR := Lib.hid YR
      clear l0 l1 l2 l3 hF F6 hb2 e6 hγ hC hne YR
      go_wp2_with fail
      refine bodyPost_ret (v := .agg #[.bool s1, .slice A6 (dg (x - y)).length c6]) (by simp [results, Tryd.results41, go_sem, y0, y1]) rfl ⟨_, by rw [HS.out], ?_, ?_⟩
      · rw [HN.out]
        exact (HF.out.set_box HYR.out (noInt2 _ _ _ _) 0 (.bool s1)).set_box (HYR.out.set_ 0 (.bool s1)) (noInt2 _ _ _ _) 1 _
      · exact (HB2.out.setCell (by simp; omega) _).setCell (by simp; omega) _
    · have HS : Hid (S = s2) := Lib.hid (by rw [HS0.out, if_neg hs, if_neg hle])
      have HN : Hid (N = y - x) := Lib.hid (by rw [HN0.out, if_neg hs, if_neg hle])
      have CM := Lib.hid (CM2.out (by omega))
      have hcm : ¬ 0 ≤ cmpN x y := by rw [cmp_lt (by omega)]; omega
      clear HS0 HN0 CM1 CM2 CP hle
      generalize cmpN x y = cm at *
      go_enter Tryd.func41, Tryd.ntmps41
      go_upto_region 1 with fail
      have XA := Lib.hid (((Box.new w 53 #[.bool s1, .slice A1 N1 c1]).below (below_alloc _ (.cells #[.bool s2, .slice A2 N2 c2] 53))).below (below_alloc _ (.cells #[.bool false, .slice none 0 0] 53)))
      have XB := Lib.hid ((box1 w (.cells #[.bool s1, .slice A1 N1 c1] 53) 53 #[.bool s2, .slice A2 N2 c2]).below (below_alloc _ (.cells #[.bool false, .slice none 0 0] 53)))
      have XR := Lib.hid (box2 w (.cells #[.bool s1, .slice A1 N1 c1] 53) (.cells #[.bool s2, .slice A2 N2 c2] 53) 53 #[.bool false, .slice none 0 0])
      have HB := Lib.hid (below_step (below_step (below_alloc w (.cells #[.bool s1, .slice A1 N1 c1] 53)) (below_alloc _ (.cells #[.bool s2, .slice A2 N2 c2] 53))) (below_alloc _ (.cells #[.bool false, .slice none 0 0] 53)))
      generalize ((w.alloc (.cells #[.bool s1, .slice A1 N1 c1] 53)).alloc (.cells #[.bool s2, .slice A2 N2 c2] 53)).alloc (.cells #[.bool false, .slice none 0 0] 53) = w1 at *
      have HV1 := Lib.hid (H1.out.below HB.out)
      have HV2 := Lib.hid (H2.out.below HB.out)
      have a0 := XA.out.at_ 0 _ rfl
      have a1 := XA.out.at_ 1 _ rfl
      have b0 := XB.out.at_ 0 _ rfl
      have b1 := XB.out.at_ 1 _ rfl
      go_wp2_with fail
      refine (CO.out _ _ _ HV1.out HV2.out).mono ?_; rintro e w2 ⟨rfl, n2, rfl⟩
      replace XA := Lib.hid (XA.out.below (below_drewN (Below.refl _ _) n2)); replace XB := Lib.hid (XB.out.below (below_drewN (Below.refl _ _) n2)); replace XR := Lib.hid (XR.out.below (below_drewN (Below.refl _ _) n2)); replace HB := Lib.hid (below_drewN HB.out n2)
      replace HV1 := Lib.hid (H1.out.below HB.out); replace HV2 := Lib.hid (H2.out.below HB.out)
      clear a0 a1 b0 b1
      generalize w1.drewN n2 = w2 at *
      have a0 := XA.out.at_ 0 _ rfl
      have a1 := XA.out.at_ 1 _ rfl
      have b0 := XB.out.at_ 0 _ rfl
      have b1 := XB.out.at_ 1 _ rfl
      go_wp2_with fail
      clear a0 a1 b0 b1
      refine wp_region_gen 8 (Kit.of [fBN 6 [] (y - x)]) (by kernel_rfl) (by kernel_rfl) (fun γ => by kernel_rfl) (by kernel_rfl) (Kit.of_stable ?_) (Kit.of_known ?_) ?_
      · intro z hz; simp only [List.mem_cons, List.not_mem_nil, or_false] at hz; rcases hz with rfl
        · apply fBN_st
      · intro z hz; simp only [List.mem_cons, List.not_mem_nil, or_false] at hz; rcases hz with rfl
        · apply fBN_kn
      intro γ hγ C hC hne
      obtain ⟨A6, c6, e6⟩ : SL (y - x) (γ 6) := hγ 6 rfl
      have l0 := XA.out.latC (C := C) 0 _ rfl
      have l1 := XA.out.latC (C := C) 1 _ rfl
      have l2 := XB.out.latC (C := C) 0 _ rfl
      have l3 := XB.out.latC (C := C) 1 _ rfl
      simp only [List.take_succ_cons, List.take_zero, List.drop_succ_cons, List.drop_zero]
      iterate 6 (refine wpF_quiet rfl ?_; go_big_quiet_step (fail); refine wpQuiet_nil ?_)
      refine wpF_fresh rfl (freshAt_call (args := #[.slice A2 N2 c2, .slice A1 N1 c1]) rfl _ _ _ (run_go Tryd.func64 (by kernel_rfl) (by kernel_rfl)) rfl (by simp [Act.eval]) (fun w' hb hf => (CM.out w' _ _ (HV2.out.below hb) (HV1.out.below hb)).mono fun e w2 ⟨v, he, h1, h2⟩ => ⟨v, he, h1, h2⟩)) ?_
      simp only [Nat.zero_add, Nat.reduceAdd, e6]
      go_simp
      iterate 1 (refine wpF_quiet rfl ?_; go_big_quiet_step (fail); refine wpQuiet_nil ?_)
      intro w2 hb2 hF
      have F6 : BN w2 (γ 6) (y - x) := hF 6 (by decide) rfl
      rw [e6] at F6
      have HF := Lib.hid F6
      have YR := XR.out.below hb2
      have HB2 := Lib.hid (below_step HB.out hb2)
      have y0 := YR.at_ 0 _ rfl
      have y1 := YR.at_ 1 _ rfl
      have z0 := YR.frozen 0
      have z1 := YR.frozen 1
      have HYR := Lib.hid YR
      clear l0 l1 l2 l3 hF F6 hb2 e6 hγ hC hne YR
      go_wp2_with fail
      refine bodyPost_ret (v := .agg #[.bool s2, .slice A6 (dg (y - x)).length c6]) (by simp [results, Tryd.results41, go_sem, y0, y1]) rfl ⟨_, by rw [HS.out], ?_, ?_⟩
      · rw [HN.out]
        exact (HF.out.set_box HYR.out (noInt2 _ _ _ _) 0 (.bool s2)).set_box (HYR.out.set_ 0 (.bool s2)) (noInt2 _ _ _ _) 1 _
      · exact (HB2.out.setCell (by simp; omega) _).setCell (by simp; omega) _

end Go.Proofs.YtbaalbmchhgmnaaDoor
