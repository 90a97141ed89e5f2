/-
  Contracts of the reference's rational numbers: Mul, Div.
-/
import Derived.Test.YtbaalbmchhgmnaaDoorRefC
import Derived.Test.YtbaalbmchhgmnaaDoorRatI
namespace Go.Proofs.YtbaalbmchhgmnaaDoor
open Go.RowKit
set_option linter.unusedVariables false
set_option linter.unusedSimpArgs false

theorem mulR_quo {an ad bn bd : Int} (hv : ratV an ad = true ∧ ratV bn bd = true) : mulR an ad bn bd = quoR (decide (an < 0) != decide (bn < 0)) (an.natAbs * bn.natAbs) (ad.natAbs * bd.natAbs) := by
  unfold mulR
  rw [if_pos hv, Int.natAbs_mul]
  exact (quoR_ratQ (Int.natAbs_mul _ _) mul_sign).symm
theorem divR_quo {an ad bn bd : Int} (hv : ratV an ad = true ∧ ratV bn bd = true) (h0 : bn ≠ 0) : divR an ad bn bd = quoR (decide (an < 0) != decide (bn < 0)) (an.natAbs * bd.natAbs) (ad.natAbs * bn.natAbs) := by
  unfold divR; rw [if_pos hv, if_neg h0]; rfl
theorem mul_PW {a b : Nat} (ha : a < PW 5) (hb : b < PW 5) : a * b < PW 10 := by
  have := Nat.mul_lt_mul'' ha hb
  rwa [← PW_add] at this

set_option maxRecDepth 100000 in
set_option maxHeartbeats 8000000 in
theorem refMul05 (an ad bn bd : Int) (w : World) (h1 : I64 an) (h2 : I64 ad) (h3 : I64 bn) (h4 : I64 bd) :
    Calls Tryd.prog 22 #[.agg #[.int .i64 an, .int .i64 ad], .agg #[.int .i64 bn, .int .i64 bd]] w fun e w' => e = ret3r (mulR an ad bn bd) ∧ Below w.heap.size w w' := by
  have CV1 := Lib.hid (fun w => refValid05 an ad w h1 h2)
  have CV2 := Lib.hid (fun w => refValid05 bn bd w h3 h4)
  by_cases hv : ratV an ad = true ∧ ratV bn bd = true
  · skip
    have hE := mulR_quo hv
    have S1 := Lib.hid (fun w => bigSize w an h1.1 h1.2)
    have S2 := Lib.hid (fun w => bigSize w ad h2.1 h2.2)
    have S3 := Lib.hid (fun w => bigSize w bn h3.1 h3.2)
    have S4 := Lib.hid (fun w => bigSize w bd h4.1 h4.2)
    have l1 := i64_PW h1
    have l2 := i64_PW h2
    have l3 := i64_PW h3
    have l4 := i64_PW h4
    have g1 := (ratV_iff.1 hv.1).1
    have g2 := (ratV_iff.1 hv.2).1
    obtain ⟨x, hx⟩ : ∃ x, x = an.natAbs := ⟨_, rfl⟩
    obtain ⟨p, hp⟩ : ∃ x, x = ad.natAbs := ⟨_, rfl⟩
    obtain ⟨y, hy⟩ : ∃ x, x = bn.natAbs := ⟨_, rfl⟩
    obtain ⟨q, hq⟩ : ∃ x, x = bd.natAbs := ⟨_, rfl⟩
    rw [← hx] at S1 l1 hE
    rw [← hp] at S2 l2 hE
    rw [← hy] at S3 l3 hE
    rw [← hq] at S4 l4 hE
    have m1 := mul_PW l1 l3
    have m2 := mul_PW l2 l4
    have h56 : PW 5 < PW 60 := PW_lt.2 (by omega)
    have h15 : PW 10 < PW 50 := PW_lt.2 (by omega)
    have T1 : Hid (∀ w v1 v2, BN w v1 x → BN w v2 y → Calls Tryd.prog 43 #[v1, v2] w (BL w (x * y))) := Lib.hid fun w v1 v2 h1 h2 => bigTimes w v1 v2 _ _ h1 h2 (by omega) (by omega)
    have T2 : Hid (∀ w v1 v2, BN w v1 p → BN w v2 q → Calls Tryd.prog 43 #[v1, v2] w (BL w (p * q))) := Lib.hid fun w v1 v2 h1 h2 => bigTimes w v1 v2 _ _ h1 h2 (by omega) (by omega)
    obtain ⟨sa, hsa⟩ : ∃ s : Bool, s = decide (an < 0) := ⟨_, rfl⟩
    obtain ⟨sb, hsb⟩ : ∃ s : Bool, s = decide (bn < 0) := ⟨_, rfl⟩
    have f1 : decide (an < 0) = sa := hsa.symm
    have f2 : decide (bn < 0) = sb := hsb.symm
    obtain ⟨su, hsu⟩ : ∃ s : Bool, s = (sa != sb) := ⟨_, rfl⟩
    have u1 : (!(sa == sb)) = su := by rw [hsu]; rfl
    have u2 : (sa != sb) = su := hsu.symm
    rw [f1, f2, u2] at hE
    have CQ : Hid (∀ w v1 v2, BN w v1 (x * y) → BN w v2 (p * q) → Calls Tryd.prog 37 #[.bool su, v1, v2] w fun e w' => e = ret3r (quoR su (x * y) (p * q)) ∧ Below w.heap.size w w') := Lib.hid fun w v1 v2 h1 h2 =>
      bigQuotient w su v1 v2 _ _ h1 h2 (by omega) (by omega) (Nat.mul_pos (by omega) (by omega))
    rw [← hE] at CQ
    rw [hv.1] at CV1
    rw [hv.2] at CV2
    clear hE l1 l2 l3 l4 g1 g2 hx hp hy hq m1 m2 h56 h15 hsa hsb hsu hv h1 h2 h3 h4
    generalize mulR an ad bn bd = res at *
    obtain ⟨ra, rb, re⟩ := res
    simp only [ret3r] at CQ ⊢
    go_enter Tryd.func22, Tryd.ntmps22
    go_wp2_with fail
    have XA := Lib.hid (((Box.new w 23 #[.int .i64 an, .int .i64 ad]).below (below_alloc _ (.cells #[.int .i64 bn, .int .i64 bd] 23))).below (below_alloc _ (.cells #[.int .i64 0, .int .i64 0] 23)))
    have XB := Lib.hid ((box1 w (.cells #[.int .i64 an, .int .i64 ad] 23) 23 #[.int .i64 bn, .int .i64 bd]).below (below_alloc _ (.cells #[.int .i64 0, .int .i64 0] 23)))
    have XR := Lib.hid (box2 w (.cells #[.int .i64 an, .int .i64 ad] 23) (.cells #[.int .i64 bn, .int .i64 bd] 23) 23 #[.int .i64 0, .int .i64 0])
    have HB := Lib.hid (below_step (below_step (below_alloc w (.cells #[.int .i64 an, .int .i64 ad] 23)) (below_alloc _ (.cells #[.int .i64 bn, .int .i64 bd] 23))) (below_alloc _ (.cells #[.int .i64 0, .int .i64 0] 23)))
    refine (CV1.out _).mono ?_; rintro e w2 ⟨rfl, hb⟩
    replace XA := Lib.hid (XA.out.below hb); replace XB := Lib.hid (XB.out.below hb); replace XR := Lib.hid (XR.out.below hb); replace HB := Lib.hid (below_step HB.out hb)
    clear hb
    have b0 := XB.out.at_ 0 _ rfl
    have b1 := XB.out.at_ 1 _ rfl
    go_wp2_with fail
    refine (CV2.out _).mono ?_; rintro e w3 ⟨rfl, hb⟩
    clear b0 b1
    replace XA := Lib.hid (XA.out.below hb); replace XB := Lib.hid (XB.out.below hb); replace XR := Lib.hid (XR.out.below hb); replace HB := Lib.hid (below_step HB.out hb)
    clear hb
    go_wp2_with fail
    refine wp_region_gen 24 (Kit.of [fBN 9 [] x, fBN 12 [] y, fBN 13 [9, 12] (x * y), fBN 16 [] p, fBN 19 [] q, fBN 20 [16, 19] (p * q), fVal 21 [13, 20] (.tuple #[.agg #[.int .i64 ra, .int .i64 rb], .int .i64 re])]) (by kernel_rfl) (by kernel_rfl) (fun γ => by kernel_rfl) (by kernel_rfl) (Kit.of_stable ?_) (Kit.of_known ?_) ?_
    · intro z hz; simp only [List.mem_cons, List.not_mem_nil, or_false] at hz; rcases hz with rfl | rfl | rfl | rfl | rfl | rfl | rfl
      · apply fBN_st
      · apply fBN_st
      · apply fBN_st
      · apply fBN_st
      · apply fBN_st
      · apply fBN_st
      · apply fVal_st
    · intro z hz; simp only [List.mem_cons, List.not_mem_nil, or_false] at hz; rcases hz with rfl | rfl | rfl | rfl | rfl | rfl | rfl
      · apply fBN_kn
      · apply fBN_kn
      · apply fBN_kn
      · apply fBN_kn
      · apply fBN_kn
      · apply fBN_kn
      · apply fVal_kn
    intro γ hγ C hC hne
    obtain ⟨A9, c9, e9⟩ : SL x (γ 9) := hγ 9 rfl
    obtain ⟨A12, c12, e12⟩ : SL y (γ 12) := hγ 12 rfl
    obtain ⟨A13, c13, e13⟩ : SL (x * y) (γ 13) := hγ 13 rfl
    obtain ⟨A16, c16, e16⟩ : SL p (γ 16) := hγ 16 rfl
    obtain ⟨A19, c19, e19⟩ : SL q (γ 19) := hγ 19 rfl
    obtain ⟨A20, c20, e20⟩ : SL (p * q) (γ 20) := hγ 20 rfl
    have e21 : γ 21 = .tuple #[.agg #[.int .i64 ra, .int .i64 rb], .int .i64 re] := hγ 21 rfl
    have l0 := XA.out.latC (C := C) 0 _ rfl
    have l1 := XA.out.latC (C := C) 1 _ rfl
    have l2 := XB.out.latC (C := C) 0 _ rfl
    have l3 := XB.out.latC (C := C) 1 _ rfl
    simp only [List.take_succ_cons, List.take_zero, List.drop_succ_cons, List.drop_zero]
    iterate 9 (refine wpF_quiet rfl ?_; go_big_quiet_step (fail); refine wpQuiet_nil ?_)
    refine wpF_fresh rfl (freshAt_call (args := #[.int .i64 an]) rfl _ _ _ (run_go Tryd.func38 (by kernel_rfl) (by kernel_rfl)) rfl (by simp [Act.eval]) (fun w' hb hf => (S1.out w').mono fun e w2 ⟨v, he, h1, h2⟩ => ⟨v, he, h1, h2⟩)) ?_
    simp only [Nat.zero_add, Nat.reduceAdd, e9]
    go_simp
    iterate 2 (refine wpF_quiet rfl ?_; go_big_quiet_step (fail); refine wpQuiet_nil ?_)
    refine wpF_fresh rfl (freshAt_call (args := #[.int .i64 bn]) rfl _ _ _ (run_go Tryd.func38 (by kernel_rfl) (by kernel_rfl)) rfl (by simp [Act.eval]) (fun w' hb hf => (S3.out w').mono fun e w2 ⟨v, he, h1, h2⟩ => ⟨v, he, h1, h2⟩)) ?_
    simp only [Nat.zero_add, Nat.reduceAdd, e12]
    go_simp
    refine wpF_fresh rfl (freshAt_call (args := #[.slice A9 (dg x).length c9, .slice A12 (dg y).length c12]) rfl _ _ _ (run_go Tryd.func43 (by kernel_rfl) (by kernel_rfl)) rfl (by simp [Act.eval]) (fun w' hb hf => (T1.out w' _ _ (by have h5 : BN w' (γ 9) x := hf 9 (show 9 ∈ [9, 12] by decide); rwa [e9] at h5) (by have h8 : BN w' (γ 12) y := hf 12 (show 12 ∈ [9, 12] by decide); rwa [e12] at h8)).mono fun e w2 ⟨v, he, h1, h2⟩ => ⟨v, he, h1, h2⟩)) ?_
    simp only [Nat.zero_add, Nat.reduceAdd, e13]
    go_simp
    iterate 2 (refine wpF_quiet rfl ?_; go_big_quiet_step (fail); refine wpQuiet_nil ?_)
    refine wpF_fresh rfl (freshAt_call (args := #[.int .i64 ad]) rfl _ _ _ (run_go Tryd.func38 (by kernel_rfl) (by kernel_rfl)) rfl (by simp [Act.eval]) (fun w' hb hf => (S2.out w').mono fun e w2 ⟨v, he, h1, h2⟩ => ⟨v, he, h1, h2⟩)) ?_
    simp only [Nat.zero_add, Nat.reduceAdd, e16]
    go_simp
    iterate 2 (refine wpF_quiet rfl ?_; go_big_quiet_step (fail); refine wpQuiet_nil ?_)
    refine wpF_fresh rfl (freshAt_call (args := #[.int .i64 bd]) rfl _ _ _ (run_go Tryd.func38 (by kernel_rfl) (by kernel_rfl)) rfl (by simp [Act.eval]) (fun w' hb hf => (S4.out w').mono fun e w2 ⟨v, he, h1, h2⟩ => ⟨v, he, h1, h2⟩)) ?_
    simp only [Nat.zero_add, Nat.reduceAdd, e19]
    go_simp
    refine wpF_fresh rfl (freshAt_call (args := #[.slice A16 (dg p).length c16, .slice A19 (dg q).length c19]) rfl _ _ _ (run_go Tryd.func43 (by kernel_rfl) (by kernel_rfl)) rfl (by simp [Act.eval]) (fun w' hb hf => (T2.out w' _ _ (by have h5 : BN w' (γ 16) p := hf 16 (show 16 ∈ [16, 19] by decide); rwa [e16] at h5) (by have h8 : BN w' (γ 19) q := hf 19 (show 19 ∈ [16, 19] by decide); rwa [e19] at h8)).mono fun e w2 ⟨v, he, h1, h2⟩ => ⟨v, he, h1, h2⟩)) ?_
    simp only [Nat.zero_add, Nat.reduceAdd, e20]
    go_simp
    refine wpF_fresh rfl (freshAt_call (args := #[.bool su, .slice A13 (dg (x * y)).length c13, .slice A20 (dg (p * q)).length c20]) rfl _ _ _ (run_go Tryd.func37 (by kernel_rfl) (by kernel_rfl)) rfl (by simp [Act.eval]) (fun w' hb hf => (CQ.out w' _ _ (by have h5 : BN w' (γ 13) (x * y) := hf 13 (show 13 ∈ [13, 20] by decide); rwa [e13] at h5) (by have h8 : BN w' (γ 20) (p * q) := hf 20 (show 20 ∈ [13, 20] by decide); rwa [e20] at h8)).mono fun e w2 ⟨he, hb2⟩ => ⟨_, he, rfl, hb2⟩)) ?_
    simp only [Nat.zero_add, Nat.reduceAdd, e21]
    go_simp
    iterate 2 (refine wpF_quiet rfl ?_; go_big_quiet_step (fail); refine wpQuiet_nil ?_)
    intro w5 hb hF
    clear l0 l1 l2 l3 hF e9 e12 e13 e16 e19 e20 e21 hγ hC hne
    replace XA := Lib.hid (XA.out.below hb); replace XB := Lib.hid (XB.out.below hb); replace XR := Lib.hid (XR.out.below hb); replace HB := Lib.hid (below_step HB.out hb)
    clear hb
    have r0 := XR.out.at_ 0 _ rfl
    have r1 := XR.out.at_ 1 _ rfl
    have z0 := XR.out.frozen 0
    have z1 := XR.out.frozen 1
    go_wp2_with fail
    refine bodyPost_ret (v := .tuple #[.agg #[.int .i64 ra, .int .i64 rb], .int .i64 re]) (by simp [results, Tryd.results22, go_sem, r0, r1]) rfl ⟨rfl, ?_⟩
    exact (HB.out.setCell (by simp; omega) _).setCell (by simp; omega) _
  · have HE : Hid (mulR an ad bn bd = (0, 0, 1)) := Lib.hid (by unfold mulR; rw [if_neg hv])
    by_cases hva : ratV an ad = true
    · have hvb : ratV bn bd = false := by
        cases h : ratV bn bd
        · rfl
        · exact absurd ⟨hva, h⟩ hv
      rw [hva] at CV1
      rw [hvb] at CV2
      clear hv hva hvb h1 h2 h3 h4
      go_enter Tryd.func22, Tryd.ntmps22
      go_wp2_with fail
      have XA := Lib.hid (((Box.new w 23 #[.int .i64 an, .int .i64 ad]).below (below_alloc _ (.cells #[.int .i64 bn, .int .i64 bd] 23))).below (below_alloc _ (.cells #[.int .i64 0, .int .i64 0] 23)))
      have XB := Lib.hid ((box1 w (.cells #[.int .i64 an, .int .i64 ad] 23) 23 #[.int .i64 bn, .int .i64 bd]).below (below_alloc _ (.cells #[.int .i64 0, .int .i64 0] 23)))
      have XR := Lib.hid (box2 w (.cells #[.int .i64 an, .int .i64 ad] 23) (.cells #[.int .i64 bn, .int .i64 bd] 23) 23 #[.int .i64 0, .int .i64 0])
      have HB := Lib.hid (below_step (below_step (below_alloc w (.cells #[.int .i64 an, .int .i64 ad] 23)) (below_alloc _ (.cells #[.int .i64 bn, .int .i64 bd] 23))) (below_alloc _ (.cells #[.int .i64 0, .int .i64 0] 23)))
      refine (CV1.out _).mono ?_; rintro e w2 ⟨rfl, hb⟩
      replace XA := Lib.hid (XA.out.below hb); replace XB := Lib.hid (XB.out.below hb); replace XR := Lib.hid (XR.out.below hb); replace HB := Lib.hid (below_step HB.out hb)
      clear hb
      have b0 := XB.out.at_ 0 _ rfl
      have b1 := XB.out.at_ 1 _ rfl
      go_wp2_with fail
      refine (CV2.out _).mono ?_; rintro e w3 ⟨rfl, hb⟩
      clear b0 b1
      replace XA := Lib.hid (XA.out.below hb); replace XB := Lib.hid (XB.out.below hb); replace XR := Lib.hid (XR.out.below hb); replace HB := Lib.hid (below_step HB.out hb)
      clear hb
      have r0 := XR.out.at_ 0 _ rfl
      have r1 := XR.out.at_ 1 _ rfl
      have z0 := XR.out.frozen 0
      have z1 := XR.out.frozen 1
      go_wp2_with fail
      refine bodyPost_ret (v := .tuple #[.agg #[.int .i64 0, .int .i64 0], .int .i64 1]) (by simp [results, Tryd.results22, go_sem, r0, r1]) rfl ⟨by rw [HE.out]; rfl, ?_⟩
      exact (HB.out.setCell (by simp; omega) _).setCell (by simp; omega) _
    · have hvf : ratV an ad = false := by simpa using hva
      rw [hvf] at CV1
      clear hv hva hvf h1 h2 h3 h4
      go_enter Tryd.func22, Tryd.ntmps22
      go_wp2_with fail
      have XA := Lib.hid (((Box.new w 23 #[.int .i64 an, .int .i64 ad]).below (below_alloc _ (.cells #[.int .i64 bn, .int .i64 bd] 23))).below (below_alloc _ (.cells #[.int .i64 0, .int .i64 0] 23)))
      have XB := Lib.hid ((box1 w (.cells #[.int .i64 an, .int .i64 ad] 23) 23 #[.int .i64 bn, .int .i64 bd]).below (below_alloc _ (.cells #[.int .i64 0, .int .i64 0] 23)))
      have XR := Lib.hid (box2 w (.cells #[.int .i64 an, .int .i64 ad] 23) (.cells #[.int .i64 bn, .int .i64 bd] 23) 23 #[.int .i64 0, .int .i64 0])
      have HB := Lib.hid (below_step (below_step (below_alloc w (.cells #[.int .i64 an, .int .i64 ad] 23)) (below_alloc _ (.cells #[.int .i64 bn, .int .i64 bd] 23))) (below_alloc _ (.cells #[.int .i64 0, .int .i64 0] 23)))
      refine (CV1.out _).mono ?_; rintro e w2 ⟨rfl, hb⟩
      replace XA := Lib.hid (XA.out.below hb); replace XB := Lib.hid (XB.out.below hb); replace XR := Lib.hid (XR.out.below hb); replace HB := Lib.hid (below_step HB.out hb)
      clear hb
      have r0 := XR.out.at_ 0 _ rfl
      have r1 := XR.out.at_ 1 _ rfl
      have z0 := XR.out.frozen 0
      have z1 := XR.out.frozen 1
      go_wp2_with fail
      refine bodyPost_ret (v := .tuple #[.agg #[.int .i64 0, .int .i64 0], .int .i64 1]) (by simp [results, Tryd.results22, go_sem, r0, r1]) rfl ⟨by rw [HE.out]; rfl, ?_⟩
      exact (HB.out.setCell (by simp; omega) _).setCell (by simp; omega) _

set_option maxRecDepth 100000 in
set_option maxHeartbeats 8000000 in
theorem refDiv05 (an ad bn bd : Int) (w : World) (h1 : I64 an) (h2 : I64 ad) (h3 : I64 bn) (h4 : I64 bd) :
    Calls Tryd.prog 24 #[.agg #[.int .i64 an, .int .i64 ad], .agg #[.int .i64 bn, .int .i64 bd]] w fun e w' => e = ret3r (divR an ad bn bd) ∧ Below w.heap.size w w' := by
  have CV1 := Lib.hid (fun w => refValid05 an ad w h1 h2)
  have CV2 := Lib.hid (fun w => refValid05 bn bd w h3 h4)
  by_cases hv : ratV an ad = true ∧ ratV bn bd = true
  · by_cases h0 : bn = 0
    · skip
      have HE : Hid (divR an ad bn bd = (0, 0, 4)) := Lib.hid (by unfold divR; rw [if_pos hv, if_pos h0])
      have f0 : (bn == 0) = true := by simpa using h0
      rw [hv.1] at CV1
      rw [hv.2] at CV2
      clear hv h1 h2 h3 h4 h0
      go_enter Tryd.func24, Tryd.ntmps24
      go_wp2_with fail
      have XA := Lib.hid (((Box.new w 23 #[.int .i64 an, .int .i64 ad]).below (below_alloc _ (.cells #[.int .i64 bn, .int .i64 bd] 23))).below (below_alloc _ (.cells #[.int .i64 0, .int .i64 0] 23)))
      have XB := Lib.hid ((box1 w (.cells #[.int .i64 an, .int .i64 ad] 23) 23 #[.int .i64 bn, .int .i64 bd]).below (below_alloc _ (.cells #[.int .i64 0, .int .i64 0] 23)))
      have XR := Lib.hid (box2 w (.cells #[.int .i64 an, .int .i64 ad] 23) (.cells #[.int .i64 bn, .int .i64 bd] 23) 23 #[.int .i64 0, .int .i64 0])
      have HB := Lib.hid (below_step (below_step (below_alloc w (.cells #[.int .i64 an, .int .i64 ad] 23)) (below_alloc _ (.cells #[.int .i64 bn, .int .i64 bd] 23))) (below_alloc _ (.cells #[.int .i64 0, .int .i64 0] 23)))
      refine (CV1.out _).mono ?_; rintro e w2 ⟨rfl, hb⟩
      replace XA := Lib.hid (XA.out.below hb); replace XB := Lib.hid (XB.out.below hb); replace XR := Lib.hid (XR.out.below hb); replace HB := Lib.hid (below_step HB.out hb)
      clear hb
      have b0 := XB.out.at_ 0 _ rfl
      have b1 := XB.out.at_ 1 _ rfl
      go_wp2_with fail
      refine (CV2.out _).mono ?_; rintro e w3 ⟨rfl, hb⟩
      clear b0 b1
      replace XA := Lib.hid (XA.out.below hb); replace XB := Lib.hid (XB.out.below hb); replace XR := Lib.hid (XR.out.below hb); replace HB := Lib.hid (below_step HB.out hb)
      clear hb
      have b0 := XB.out.at_ 0 _ rfl
      have b1 := XB.out.at_ 1 _ rfl
      have r0 := XR.out.at_ 0 _ rfl
      have r1 := XR.out.at_ 1 _ rfl
      have z0 := XR.out.frozen 0
      have z1 := XR.out.frozen 1
      go_wp2_with fail
      refine bodyPost_ret (v := .tuple #[.agg #[.int .i64 0, .int .i64 0], .int .i64 4]) (by simp [results, Tryd.results24, go_sem, r0, r1]) rfl ⟨by rw [HE.out]; rfl, ?_⟩
      exact (HB.out.setCell (by simp; omega) _).setCell (by simp; omega) _
    · skip
      have hE := divR_quo hv h0
      have S1 := Lib.hid (fun w => bigSize w an h1.1 h1.2)
      have S2 := Lib.hid (fun w => bigSize w ad h2.1 h2.2)
      have S3 := Lib.hid (fun w => bigSize w bn h3.1 h3.2)
      have S4 := Lib.hid (fun w => bigSize w bd h4.1 h4.2)
      have l1 := i64_PW h1
      have l2 := i64_PW h2
      have l3 := i64_PW h3
      have l4 := i64_PW h4
      have g1 := (ratV_iff.1 hv.1).1
      have g2 := (ratV_iff.1 hv.2).1
      obtain ⟨x, hx⟩ : ∃ x, x = an.natAbs := ⟨_, rfl⟩
      obtain ⟨p, hp⟩ : ∃ x, x = ad.natAbs := ⟨_, rfl⟩
      obtain ⟨y, hy⟩ : ∃ x, x = bn.natAbs := ⟨_, rfl⟩
      obtain ⟨q, hq⟩ : ∃ x, x = bd.natAbs := ⟨_, rfl⟩
      rw [← hx] at S1 l1 hE
      rw [← hp] at S2 l2 hE
      rw [← hy] at S3 l3 hE
      rw [← hq] at S4 l4 hE
      have m1 := mul_PW l1 l4
      have m2 := mul_PW l2 l3
      have h56 : PW 5 < PW 60 := PW_lt.2 (by omega)
      have h15 : PW 10 < PW 50 := PW_lt.2 (by omega)
      have T1 : Hid (∀ w v1 v2, BN w v1 x → BN w v2 q → Calls Tryd.prog 43 #[v1, v2] w (BL w (x * q))) := Lib.hid fun w v1 v2 h1 h2 => bigTimes w v1 v2 _ _ h1 h2 (by omega) (by omega)
      have T2 : Hid (∀ w v1 v2, BN w v1 p → BN w v2 y → Calls Tryd.prog 43 #[v1, v2] w (BL w (p * y))) := Lib.hid fun w v1 v2 h1 h2 => bigTimes w v1 v2 _ _ h1 h2 (by omega) (by omega)
      obtain ⟨sa, hsa⟩ : ∃ s : Bool, s = decide (an < 0) := ⟨_, rfl⟩
      obtain ⟨sb, hsb⟩ : ∃ s : Bool, s = decide (bn < 0) := ⟨_, rfl⟩
      have f1 : decide (an < 0) = sa := hsa.symm
      have f2 : decide (bn < 0) = sb := hsb.symm
      obtain ⟨su, hsu⟩ : ∃ s : Bool, s = (sa != sb) := ⟨_, rfl⟩
      have u1 : (!(sa == sb)) = su := by rw [hsu]; rfl
      have u2 : (sa != sb) = su := hsu.symm
      rw [f1, f2, u2] at hE
      have CQ : Hid (∀ w v1 v2, BN w v1 (x * q) → BN w v2 (p * y) → Calls Tryd.prog 37 #[.bool su, v1, v2] w fun e w' => e = ret3r (quoR su (x * q) (p * y)) ∧ Below w.heap.size w w') := Lib.hid fun w v1 v2 h1 h2 =>
        bigQuotient w su v1 v2 _ _ h1 h2 (by omega) (by omega) (Nat.mul_pos (by omega) (by omega))
      rw [← hE] at CQ
      rw [hv.1] at CV1
      rw [hv.2] at CV2
      have f0 : (bn == 0) = false := by simpa using h0
      clear hE l1 l2 l3 l4 g1 g2 hx hp hy hq m1 m2 h56 h15 hsa hsb hsu hv h1 h2 h3 h4 h0
      generalize divR an ad bn bd = res at *
      obtain ⟨ra, rb, re⟩ := res
      simp only [ret3r] at CQ ⊢
      go_enter Tryd.func24, Tryd.ntmps24
      go_wp2_with fail
      have XA := Lib.hid (((Box.new w 23 #[.int .i64 an, .int .i64 ad]).below (below_alloc _ (.cells #[.int .i64 bn, .int .i64 bd] 23))).below (below_alloc _ (.cells #[.int .i64 0, .int .i64 0] 23)))
      have XB := Lib.hid ((box1 w (.cells #[.int .i64 an, .int .i64 ad] 23) 23 #[.int .i64 bn, .int .i64 bd]).below (below_alloc _ (.cells #[.int .i64 0, .int .i64 0] 23)))
      have XR := Lib.hid (box2 w (.cells #[.int .i64 an, .int .i64 ad] 23) (.cells #[.int .i64 bn, .int .i64 bd] 23) 23 #[.int .i64 0, .int .i64 0])
      have HB := Lib.hid (below_step (below_step (below_alloc w (.cells #[.int .i64 an, .int .i64 ad] 23)) (below_alloc _ (.cells #[.int .i64 bn, .int .i64 bd] 23))) (below_alloc _ (.cells #[.int .i64 0, .int .i64 0] 23)))
      refine (CV1.out _).mono ?_; rintro e w2 ⟨rfl, hb⟩
      replace XA := Lib.hid (XA.out.below hb); replace XB := Lib.hid (XB.out.below hb); replace XR := Lib.hid (XR.out.below hb); replace HB := Lib.hid (below_step HB.out hb)
      clear hb
      have b0 := XB.out.at_ 0 _ rfl
      have b1 := XB.out.at_ 1 _ rfl
      go_wp2_with fail
      refine (CV2.out _).mono ?_; rintro e w3 ⟨rfl, hb⟩
      clear b0 b1
      replace XA := Lib.hid (XA.out.below hb); replace XB := Lib.hid (XB.out.below hb); replace XR := Lib.hid (XR.out.below hb); replace HB := Lib.hid (below_step HB.out hb)
      clear hb
      have b0 := XB.out.at_ 0 _ rfl
      have b1 := XB.out.at_ 1 _ rfl
      go_wp2_with fail
      clear b0 b1
      refine wp_region_gen 24 (Kit.of [fBN 9 [] x, fBN 12 [] q, fBN 13 [9, 12] (x * q), fBN 16 [] p, fBN 19 [] y, fBN 20 [16, 19] (p * y), fVal 21 [13, 20] (.tuple #[.agg #[.int .i64 ra, .int .i64 rb], .int .i64 re])]) (by kernel_rfl) (by kernel_rfl) (fun γ => by kernel_rfl) (by kernel_rfl) (Kit.of_stable ?_) (Kit.of_known ?_) ?_
      · intro z hz; simp only [List.mem_cons, List.not_mem_nil, or_false] at hz; rcases hz with rfl | rfl | rfl | rfl | rfl | rfl | rfl
        · apply fBN_st
        · apply fBN_st
        · apply fBN_st
        · apply fBN_st
        · apply fBN_st
        · apply fBN_st
        · apply fVal_st
      · intro z hz; simp only [List.mem_cons, List.not_mem_nil, or_false] at hz; rcases hz with rfl | rfl | rfl | rfl | rfl | rfl | rfl
        · apply fBN_kn
        · apply fBN_kn
        · apply fBN_kn
        · apply fBN_kn
        · apply fBN_kn
        · apply fBN_kn
        · apply fVal_kn
      intro γ hγ C hC hne
      obtain ⟨A9, c9, e9⟩ : SL x (γ 9) := hγ 9 rfl
      obtain ⟨A12, c12, e12⟩ : SL q (γ 12) := hγ 12 rfl
      obtain ⟨A13, c13, e13⟩ : SL (x * q) (γ 13) := hγ 13 rfl
      obtain ⟨A16, c16, e16⟩ : SL p (γ 16) := hγ 16 rfl
      obtain ⟨A19, c19, e19⟩ : SL y (γ 19) := hγ 19 rfl
      obtain ⟨A20, c20, e20⟩ : SL (p * y) (γ 20) := hγ 20 rfl
      have e21 : γ 21 = .tuple #[.agg #[.int .i64 ra, .int .i64 rb], .int .i64 re] := hγ 21 rfl
      have l0 := XA.out.latC (C := C) 0 _ rfl
      have l1 := XA.out.latC (C := C) 1 _ rfl
      have l2 := XB.out.latC (C := C) 0 _ rfl
      have l3 := XB.out.latC (C := C) 1 _ rfl
      simp only [List.take_succ_cons, List.take_zero, List.drop_succ_cons, List.drop_zero]
      iterate 9 (refine wpF_quiet rfl ?_; go_big_quiet_step (fail); refine wpQuiet_nil ?_)
      refine wpF_fresh rfl (freshAt_call (args := #[.int .i64 an]) rfl _ _ _ (run_go Tryd.func38 (by kernel_rfl) (by kernel_rfl)) rfl (by simp [Act.eval]) (fun w' hb hf => (S1.out w').mono fun e w2 ⟨v, he, h1, h2⟩ => ⟨v, he, h1, h2⟩)) ?_
      simp only [Nat.zero_add, Nat.reduceAdd, e9]
      go_simp
      iterate 2 (refine wpF_quiet rfl ?_; go_big_quiet_step (fail); refine wpQuiet_nil ?_)
      refine wpF_fresh rfl (freshAt_call (args := #[.int .i64 bd]) rfl _ _ _ (run_go Tryd.func38 (by kernel_rfl) (by kernel_rfl)) rfl (by simp [Act.eval]) (fun w' hb hf => (S4.out w').mono fun e w2 ⟨v, he, h1, h2⟩ => ⟨v, he, h1, h2⟩)) ?_
      simp only [Nat.zero_add, Nat.reduceAdd, e12]
      go_simp
      refine wpF_fresh rfl (freshAt_call (args := #[.slice A9 (dg x).length c9, .slice A12 (dg q).length c12]) rfl _ _ _ (run_go Tryd.func43 (by kernel_rfl) (by kernel_rfl)) rfl (by simp [Act.eval]) (fun w' hb hf => (T1.out w' _ _ (by have h5 : BN w' (γ 9) x := hf 9 (show 9 ∈ [9, 12] by decide); rwa [e9] at h5) (by have h8 : BN w' (γ 12) q := hf 12 (show 12 ∈ [9, 12] by decide); rwa [e12] at h8)).mono fun e w2 ⟨v, he, h1, h2⟩ => ⟨v, he, h1, h2⟩)) ?_
      simp only [Nat.zero_add, Nat.reduceAdd, e13]
      go_simp
      iterate 2 (refine wpF_quiet rfl ?_; go_big_quiet_step (fail); refine wpQuiet_nil ?_)
      refine wpF_fresh rfl (freshAt_call (args := #[.int .i64 ad]) rfl _ _ _ (run_go Tryd.func38 (by kernel_rfl) (by kernel_rfl)) rfl (by simp [Act.eval]) (fun w' hb hf => (S2.out w').mono fun e w2 ⟨v, he, h1, h2⟩ => ⟨v, he, h1, h2⟩)) ?_
      simp only [Nat.zero_add, Nat.reduceAdd, e16]
      go_simp
      iterate 2 (refine wpF_quiet rfl ?_; go_big_quiet_step (fail); refine wpQuiet_nil ?_)
      refine wpF_fresh rfl (freshAt_call (args := #[.int .i64 bn]) rfl _ _ _ (run_go Tryd.func38 (by kernel_rfl) (by kernel_rfl)) rfl (by simp [Act.eval]) (fun w' hb hf => (S3.out w').mono fun e w2 ⟨v, he, h1, h2⟩ => ⟨v, he, h1, h2⟩)) ?_
      simp only [Nat.zero_add, Nat.reduceAdd, e19]
      go_simp
      refine wpF_fresh rfl (freshAt_call (args := #[.slice A16 (dg p).length c16, .slice A19 (dg y).length c19]) rfl _ _ _ (run_go Tryd.func43 (by kernel_rfl) (by kernel_rfl)) rfl (by simp [Act.eval]) (fun w' hb hf => (T2.out w' _ _ (by have h5 : BN w' (γ 16) p := hf 16 (show 16 ∈ [16, 19] by decide); rwa [e16] at h5) (by have h8 : BN w' (γ 19) y := hf 19 (show 19 ∈ [16, 19] by decide); rwa [e19] at h8)).mono fun e w2 ⟨v, he, h1, h2⟩ => ⟨v, he, h1, h2⟩)) ?_
      simp only [Nat.zero_add, Nat.reduceAdd, e20]
      go_simp
      refine wpF_fresh rfl (freshAt_call (args := #[.bool su, .slice A13 (dg (x * q)).length c13, .slice A20 (dg (p * y)).length c20]) rfl _ _ _ (run_go Tryd.func37 (by kernel_rfl) (by kernel_rfl)) rfl (by simp [Act.eval]) (fun w' hb hf => (CQ.out w' _ _ (by have h5 : BN w' (γ 13) (x * q) := hf 13 (show 13 ∈ [13, 20] by decide); rwa [e13] at h5) (by have h8 : BN w' (γ 20) (p * y) := hf 20 (show 20 ∈ [13, 20] by decide); rwa [e20] at h8)).mono fun e w2 ⟨he, hb2⟩ => ⟨_, he, rfl, hb2⟩)) ?_
      simp only [Nat.zero_add, Nat.reduceAdd, e21]
      go_simp
      iterate 2 (refine wpF_quiet rfl ?_; go_big_quiet_step (fail); refine wpQuiet_nil ?_)
      intro w5 hb hF
      clear l0 l1 l2 l3 hF e9 e12 e13 e16 e19 e20 e21 hγ hC hne
      replace XA := Lib.hid (XA.out.below hb); replace XB := Lib.hid (XB.out.below hb); replace XR := Lib.hid (XR.out.below hb); replace HB := Lib.hid (below_step HB.out hb)
      clear hb
      have r0 := XR.out.at_ 0 _ rfl
      have r1 := XR.out.at_ 1 _ rfl
      have z0 := XR.out.frozen 0
      have z1 := XR.out.frozen 1
      go_wp2_with fail
      refine bodyPost_ret (v := .tuple #[.agg #[.int .i64 ra, .int .i64 rb], .int .i64 re]) (by simp [results, Tryd.results24, go_sem, r0, r1]) rfl ⟨rfl, ?_⟩
      exact (HB.out.setCell (by simp; omega) _).setCell (by simp; omega) _
  · have HE : Hid (divR an ad bn bd = (0, 0, 1)) := Lib.hid (by unfold divR; rw [if_neg hv])
    by_cases hva : ratV an ad = true
    · have hvb : ratV bn bd = false := by
        cases h : ratV bn bd
        · rfl
        · exact absurd ⟨hva, h⟩ hv
      rw [hva] at CV1
      rw [hvb] at CV2
      clear hv hva hvb h1 h2 h3 h4
      go_enter Tryd.func24, Tryd.ntmps24
      go_wp2_with fail
      have XA := Lib.hid (((Box.new w 23 #[.int .i64 an, .int .i64 ad]).below (below_alloc _ (.cells #[.int .i64 bn, .int .i64 bd] 23))).below (below_alloc _ (.cells #[.int .i64 0, .int .i64 0] 23)))
      have XB := Lib.hid ((box1 w (.cells #[.int .i64 an, .int .i64 ad] 23) 23 #[.int .i64 bn, .int .i64 bd]).below (below_alloc _ (.cells #[.int .i64 0, .int .i64 0] 23)))
      have XR := Lib.hid (box2 w (.cells #[.int .i64 an, .int .i64 ad] 23) (.cells #[.int .i64 bn, .int .i64 bd] 23) 23 #[.int .i64 0, .int .i64 0])
      have HB := Lib.hid (below_step (below_step (below_alloc w (.cells #[.int .i64 an, .int .i64 ad] 23)) (below_alloc _ (.cells #[.int .i64 bn, .int .i64 bd] 23))) (below_alloc _ (.cells #[.int .i64 0, .int .i64 0] 23)))
      refine (CV1.out _).mono ?_; rintro e w2 ⟨rfl, hb⟩
      replace XA := Lib.hid (XA.out.below hb); replace XB := Lib.hid (XB.out.below hb); replace XR := Lib.hid (XR.out.below hb); replace HB := Lib.hid (below_step HB.out hb)
      clear hb
      have b0 := XB.out.at_ 0 _ rfl
      have b1 := XB.out.at_ 1 _ rfl
      go_wp2_with fail
      refine (CV2.out _).mono ?_; rintro e w3 ⟨rfl, hb⟩
      clear b0 b1
      replace XA := Lib.hid (XA.out.below hb); replace XB := Lib.hid (XB.out.below hb); replace XR := Lib.hid (XR.out.below hb); replace HB := Lib.hid (below_step HB.out hb)
      clear hb
      have r0 := XR.out.at_ 0 _ rfl
      have r1 := XR.out.at_ 1 _ rfl
      have z0 := XR.out.frozen 0
      have z1 := XR.out.frozen 1
      go_wp2_with fail
      refine bodyPost_ret (v := .tuple #[.agg #[.int .i64 0, .int .i64 0], .int .i64 1]) (by simp [results, Tryd.results24, go_sem, r0, r1]) rfl ⟨by rw [HE.out]; rfl, ?_⟩
      exact (HB.out.setCell (by simp; omega) _).setCell (by simp; omega) _
    · have hvf : ratV an ad = false := by simpa using hva
      rw [hvf] at CV1
      clear hv hva hvf h1 h2 h3 h4
      go_enter Tryd.func24, Tryd.ntmps24
      go_wp2_with fail
      have XA := Lib.hid (((Box.new w 23 #[.int .i64 an, .int .i64 ad]).below (below_alloc _ (.cells #[.int .i64 bn, .int .i64 bd] 23))).below (below_alloc _ (.cells #[.int .i64 0, .int .i64 0] 23)))
      have XB := Lib.hid ((box1 w (.cells #[.int .i64 an, .int .i64 ad] 23) 23 #[.int .i64 bn, .int .i64 bd]).below (below_alloc _ (.cells #[.int .i64 0, .int .i64 0] 23)))
      have XR := Lib.hid (box2 w (.cells #[.int .i64 an, .int .i64 ad] 23) (.cells #[.int .i64 bn, .int .i64 bd] 23) 23 #[.int .i64 0, .int .i64 0])
      have HB := Lib.hid (below_step (below_step (below_alloc w (.cells #[.int .i64 an, .int .i64 ad] 23)) (below_alloc _ (.cells #[.int .i64 bn, .int .i64 bd] 23))) (below_alloc _ (.cells #[.int .i64 0, .int .i64 0] 23)))
      refine (CV1.out _).mono ?_; rintro e w2 ⟨rfl, hb⟩
      replace XA := Lib.hid (XA.out.below hb); replace XB := Lib.hid (XB.out.below hb); replace XR := Lib.hid (XR.out.below hb); replace HB := Lib.hid (below_step HB.out hb)
      clear hb
      have r0 := XR.out.at_ 0 _ rfl
      have r1 := XR.out.at_ 1 _ rfl
      have z0 := XR.out.frozen 0
      have z1 := XR.out.frozen 1
      go_wp2_with fail
      refine bodyPost_ret (v := .tuple #[.agg #[.int .i64 0, .int .i64 0], .int .i64 1]) (by simp [results, Tryd.results24, go_sem, r0, r1]) rfl ⟨by rw [HE.out]; rfl, ?_⟩
      exact (HB.out.setCell (by simp; omega) _).setCell (by simp; omega) _

end Go.Proofs.YtbaalbmchhgmnaaDoor
