/-
  Contracts of rat.Mul, Div.
-/
import Derived.Test.YtbaalbmchhgmnaaDoorRatH
namespace Go.Proofs.YtbaalbmchhgmnaaDoor
open Go.RowKit
set_option linter.unusedVariables false
set_option linter.unusedSimpArgs false

theorem mul_sign {a b : Int} (h : a.natAbs * b.natAbs ≠ 0) : (decide (a < 0) != decide (b < 0)) = decide (a * b < 0) := by
  have ha : a ≠ 0 := fun h0 => h (by rw [h0]; simp)
  have hb : b ≠ 0 := fun h0 => h (by rw [h0]; simp)
  rcases Int.lt_or_gt_of_ne ha with h1 | h1 <;> rcases Int.lt_or_gt_of_ne hb with h2 | h2
  · have := Int.mul_pos_of_neg_of_neg h1 h2
    rw [decide_eq_true h1, decide_eq_true h2, decide_eq_false (by omega)]; rfl
  · have := Int.mul_neg_of_neg_of_pos h1 h2
    rw [decide_eq_true h1, decide_eq_false (by omega), decide_eq_true this]; rfl
  · have := Int.mul_neg_of_pos_of_neg h1 h2
    rw [decide_eq_false (by omega), decide_eq_true h2, decide_eq_true this]; rfl
  · have := Int.mul_pos h1 h2
    rw [decide_eq_false (by omega), decide_eq_false (by omega), decide_eq_false (by omega)]; rfl
theorem mulR_law {an ad bn bd : Int} (hv : ratV an ad = true ∧ ratV bn bd = true) : mulR an ad bn bd = quoR (sgn an ad != sgn bn bd) (an.natAbs * bn.natAbs) (ad.natAbs * bd.natAbs) := by
  have h1 := (ratV_iff.1 hv.1).1
  have h2 := (ratV_iff.1 hv.2).1
  unfold mulR
  rw [if_pos hv, sgn_pos h1, sgn_pos h2, Int.natAbs_mul]
  exact (quoR_ratQ (Int.natAbs_mul _ _) mul_sign).symm
theorem sgn_neg' {d n : Int} (h : 1 ≤ d) : sgn d n = decide (n < 0) := by
  unfold sgn; rw [decide_eq_false (show ¬ d < 0 by omega)]; cases decide (n < 0) <;> rfl
theorem divR_law {an ad bn bd : Int} (hv : ratV an ad = true ∧ ratV bn bd = true) (h0 : bn ≠ 0) : divR an ad bn bd = quoR (sgn an ad != sgn bd bn) (an.natAbs * bd.natAbs) (ad.natAbs * bn.natAbs) := by
  have h1 := (ratV_iff.1 hv.1).1
  have h2 := (ratV_iff.1 hv.2).1
  unfold divR
  rw [if_pos hv, if_neg h0, sgn_pos h1, sgn_neg' h2]
  rfl

set_option maxRecDepth 100000 in
set_option maxHeartbeats 4000000 in
theorem ratMul (an ad bn bd : Int) (w : World) (h1 : I64 an) (h2 : I64 ad) (h3 : I64 bn) (h4 : I64 bd) :
    Calls Tryd.prog 21 #[.agg #[.int .i64 an, .int .i64 ad], .agg #[.int .i64 bn, .int .i64 bd]] w fun e w' => e = ret3r (mulR an ad bn bd) ∧ Below w.heap.size w w' := by
  have CB := Lib.hid (fun w => ratBoth an ad bn bd w h1 h2 h3 h4)
  by_cases hv : ratV an ad = true ∧ ratV bn bd = true
  · skip
    have g1 := (ratV_iff.1 hv.1).2
    have g2 : Nat.gcd bn.natAbs bd.natAbs = 1 := (ratV_iff.1 hv.2).2
    have g3 := (ratV_iff.1 hv.1).1
    have g4 := (ratV_iff.1 hv.2).1
    have k1 := h1
    have k2 := h2
    have k3 := h3
    have k4 := h4
    unfold I64 at k1 k2 k3 k4
    have hE := mulR_law hv
    have S1 := Lib.hid (fun w => ratSplit an ad w h1.1 h1.2 h2.1 h2.2)
    have S2 := Lib.hid (fun w => ratSplit bn bd w h3.1 h3.2 h4.1 h4.2)
    have CP := Lib.hid (fun w => ratProduct (sgn an ad) (sgn bn bd) an.natAbs ad.natAbs bn.natAbs bd.natAbs w g1 g2 (by omega) (by omega) (by omega) (by omega) (by omega) (by omega))
    rw [hv.1, hv.2] at CB
    rw [← hE] at CP
    generalize mulR an ad bn bd = res at *
    clear hv hE h1 h2 h3 h4 k1 k2 k3 k4 g1 g2 g3 g4
    generalize sgn an ad = s1 at *
    generalize sgn bn bd = s2 at *
    generalize an.natAbs = x at *
    generalize ad.natAbs = z at *
    generalize bn.natAbs = y at *
    generalize bd.natAbs = u at *
    obtain ⟨ra, rb, re⟩ := res
    simp only [ret3r] at CP ⊢
    go_enter Tryd.func21, Tryd.ntmps21
    go_wp2_with fail
    have XA := Lib.hid (((Box.new w 23 #[.int .i64 an, .int .i64 ad]).below (below_alloc _ (.cells #[.int .i64 bn, .int .i64 bd] 23))).below (below_alloc _ (.cells #[.int .i64 0, .int .i64 0] 23)))
    have XB := Lib.hid ((box1 w (.cells #[.int .i64 an, .int .i64 ad] 23) 23 #[.int .i64 bn, .int .i64 bd]).below (below_alloc _ (.cells #[.int .i64 0, .int .i64 0] 23)))
    have XR := Lib.hid (box2 w (.cells #[.int .i64 an, .int .i64 ad] 23) (.cells #[.int .i64 bn, .int .i64 bd] 23) 23 #[.int .i64 0, .int .i64 0])
    have HB := Lib.hid (below_step (below_step (below_alloc w (.cells #[.int .i64 an, .int .i64 ad] 23)) (below_alloc _ (.cells #[.int .i64 bn, .int .i64 bd] 23))) (below_alloc _ (.cells #[.int .i64 0, .int .i64 0] 23)))
    refine (CB.out _).mono ?_; rintro e w1 ⟨rfl, hb⟩
    replace XA := Lib.hid (XA.out.below hb); replace XB := Lib.hid (XB.out.below hb); replace XR := Lib.hid (XR.out.below hb); replace HB := Lib.hid (below_step HB.out hb)
    clear hb
    go_wp2_with fail
    have l0 := XA.out.lat 0 _ rfl
    have l1 := XA.out.lat 1 _ rfl
    have l2 := XB.out.lat 0 _ rfl
    have l3 := XB.out.lat 1 _ rfl
    refine wp_region_tail 13 (by kernel_rfl) (by kernel_rfl) ?_
    simp only [List.take_succ_cons, List.take_zero, List.drop_succ_cons, List.drop_zero]
    repeat (go_big_quiet_step (first | (with_reducible exact lat_call (S1.out _)) | (with_reducible exact lat_call (S2.out _)) | (with_reducible exact lat_call (CP.out _))))
    refine wpQuiet_nil ?_; intro w2 hb
    clear l0 l1 l2 l3
    replace XR := Lib.hid (XR.out.below hb); replace HB := Lib.hid (below_step HB.out hb)
    clear hb
    have r0 := XR.out.at_ 0 _ rfl
    have r1 := XR.out.at_ 1 _ rfl
    have z0 := XR.out.frozen 0
    have z1 := XR.out.frozen 1
    go_wp2_with fail
    refine bodyPost_ret (v := .tuple #[.agg #[.int .i64 ra, .int .i64 rb], .int .i64 re]) (by simp [results, Tryd.results21, go_sem, r0, r1]) rfl ⟨rfl, ?_⟩
    exact (HB.out.setCell (by simp; omega) _).setCell (by simp; omega) _
  · have HE : Hid (mulR an ad bn bd = (0, 0, 1)) := Lib.hid (by unfold mulR; rw [if_neg hv])
    have hb : (ratV an ad && ratV bn bd) = false := by revert hv; cases ratV an ad <;> cases ratV bn bd <;> simp
    rw [hb] at CB
    clear hv hb h1 h2 h3 h4
    go_enter Tryd.func21, Tryd.ntmps21
    go_wp2_with fail
    have XA := Lib.hid (((Box.new w 23 #[.int .i64 an, .int .i64 ad]).below (below_alloc _ (.cells #[.int .i64 bn, .int .i64 bd] 23))).below (below_alloc _ (.cells #[.int .i64 0, .int .i64 0] 23)))
    have XB := Lib.hid ((box1 w (.cells #[.int .i64 an, .int .i64 ad] 23) 23 #[.int .i64 bn, .int .i64 bd]).below (below_alloc _ (.cells #[.int .i64 0, .int .i64 0] 23)))
    have XR := Lib.hid (box2 w (.cells #[.int .i64 an, .int .i64 ad] 23) (.cells #[.int .i64 bn, .int .i64 bd] 23) 23 #[.int .i64 0, .int .i64 0])
    have HB := Lib.hid (below_step (below_step (below_alloc w (.cells #[.int .i64 an, .int .i64 ad] 23)) (below_alloc _ (.cells #[.int .i64 bn, .int .i64 bd] 23))) (below_alloc _ (.cells #[.int .i64 0, .int .i64 0] 23)))
    refine (CB.out _).mono ?_; rintro e w1 ⟨rfl, hb⟩
    replace XA := Lib.hid (XA.out.below hb); replace XB := Lib.hid (XB.out.below hb); replace XR := Lib.hid (XR.out.below hb); replace HB := Lib.hid (below_step HB.out hb)
    clear hb
    have r0 := XR.out.at_ 0 _ rfl
    have r1 := XR.out.at_ 1 _ rfl
    have z0 := XR.out.frozen 0
    have z1 := XR.out.frozen 1
    go_wp2_with fail
    refine bodyPost_ret (v := .tuple #[.agg #[.int .i64 0, .int .i64 0], .int .i64 1]) (by simp [results, Tryd.results21, go_sem, r0, r1]) rfl ⟨by rw [HE.out]; rfl, ?_⟩
    exact (HB.out.setCell (by simp; omega) _).setCell (by simp; omega) _

set_option maxRecDepth 100000 in
set_option maxHeartbeats 4000000 in
theorem ratDiv (an ad bn bd : Int) (w : World) (h1 : I64 an) (h2 : I64 ad) (h3 : I64 bn) (h4 : I64 bd) :
    Calls Tryd.prog 23 #[.agg #[.int .i64 an, .int .i64 ad], .agg #[.int .i64 bn, .int .i64 bd]] w fun e w' => e = ret3r (divR an ad bn bd) ∧ Below w.heap.size w w' := by
  have CB := Lib.hid (fun w => ratBoth an ad bn bd w h1 h2 h3 h4)
  by_cases hv : ratV an ad = true ∧ ratV bn bd = true
  · by_cases h0 : bn = 0
    · skip
      have HE : Hid (divR an ad bn bd = (0, 0, 4)) := Lib.hid (by unfold divR; rw [if_pos hv, if_pos h0])
      rw [hv.1, hv.2] at CB
      subst h0
      clear hv h1 h2 h3 h4
      go_enter Tryd.func23, Tryd.ntmps23
      go_wp2_with fail
      have XA := Lib.hid (((Box.new w 23 #[.int .i64 an, .int .i64 ad]).below (below_alloc _ (.cells #[.int .i64 0, .int .i64 bd] 23))).below (below_alloc _ (.cells #[.int .i64 0, .int .i64 0] 23)))
      have XB := Lib.hid ((box1 w (.cells #[.int .i64 an, .int .i64 ad] 23) 23 #[.int .i64 0, .int .i64 bd]).below (below_alloc _ (.cells #[.int .i64 0, .int .i64 0] 23)))
      have XR := Lib.hid (box2 w (.cells #[.int .i64 an, .int .i64 ad] 23) (.cells #[.int .i64 0, .int .i64 bd] 23) 23 #[.int .i64 0, .int .i64 0])
      have HB := Lib.hid (below_step (below_step (below_alloc w (.cells #[.int .i64 an, .int .i64 ad] 23)) (below_alloc _ (.cells #[.int .i64 0, .int .i64 bd] 23))) (below_alloc _ (.cells #[.int .i64 0, .int .i64 0] 23)))
      refine (CB.out _).mono ?_; rintro e w1 ⟨rfl, hb⟩
      replace XA := Lib.hid (XA.out.below hb); replace XB := Lib.hid (XB.out.below hb); replace XR := Lib.hid (XR.out.below hb); replace HB := Lib.hid (below_step HB.out hb)
      clear hb
      have b0 := XB.out.at_ 0 _ rfl
      have r0 := XR.out.at_ 0 _ rfl
      have r1 := XR.out.at_ 1 _ rfl
      have z0 := XR.out.frozen 0
      have z1 := XR.out.frozen 1
      go_wp2_with fail
      refine bodyPost_ret (v := .tuple #[.agg #[.int .i64 0, .int .i64 0], .int .i64 4]) (by simp [results, Tryd.results23, go_sem, r0, r1]) rfl ⟨by rw [HE.out]; rfl, ?_⟩
      exact (HB.out.setCell (by simp; omega) _).setCell (by simp; omega) _
    · skip
      have g1 := (ratV_iff.1 hv.1).2
      have g2 : Nat.gcd bd.natAbs bn.natAbs = 1 := (by rw [Nat.gcd_comm]; exact (ratV_iff.1 hv.2).2)
      have g3 := (ratV_iff.1 hv.1).1
      have g4 := (ratV_iff.1 hv.2).1
      have k1 := h1
      have k2 := h2
      have k3 := h3
      have k4 := h4
      unfold I64 at k1 k2 k3 k4
      have hE := divR_law hv h0
      have S1 := Lib.hid (fun w => ratSplit an ad w h1.1 h1.2 h2.1 h2.2)
      have S2 := Lib.hid (fun w => ratSplit bd bn w h4.1 h4.2 h3.1 h3.2)
      have CP := Lib.hid (fun w => ratProduct (sgn an ad) (sgn bd bn) an.natAbs ad.natAbs bd.natAbs bn.natAbs w g1 g2 (by omega) (by omega) (by omega) (by omega) (by omega) (by omega))
      rw [hv.1, hv.2] at CB
      rw [← hE] at CP
      generalize divR an ad bn bd = res at *
      have f0 : (bn == 0) = false := by simpa using h0
      clear hv hE h1 h2 h3 h4 k1 k2 k3 k4 g1 g2 g3 g4 h0
      generalize sgn an ad = s1 at *
      generalize sgn bd bn = s2 at *
      generalize an.natAbs = x at *
      generalize ad.natAbs = z at *
      generalize bn.natAbs = y at *
      generalize bd.natAbs = u at *
      obtain ⟨ra, rb, re⟩ := res
      simp only [ret3r] at CP ⊢
      go_enter Tryd.func23, Tryd.ntmps23
      go_wp2_with fail
      have XA := Lib.hid (((Box.new w 23 #[.int .i64 an, .int .i64 ad]).below (below_alloc _ (.cells #[.int .i64 bn, .int .i64 bd] 23))).below (below_alloc _ (.cells #[.int .i64 0, .int .i64 0] 23)))
      have XB := Lib.hid ((box1 w (.cells #[.int .i64 an, .int .i64 ad] 23) 23 #[.int .i64 bn, .int .i64 bd]).below (below_alloc _ (.cells #[.int .i64 0, .int .i64 0] 23)))
      have XR := Lib.hid (box2 w (.cells #[.int .i64 an, .int .i64 ad] 23) (.cells #[.int .i64 bn, .int .i64 bd] 23) 23 #[.int .i64 0, .int .i64 0])
      have HB := Lib.hid (below_step (below_step (below_alloc w (.cells #[.int .i64 an, .int .i64 ad] 23)) (below_alloc _ (.cells #[.int .i64 bn, .int .i64 bd] 23))) (below_alloc _ (.cells #[.int .i64 0, .int .i64 0] 23)))
      refine (CB.out _).mono ?_; rintro e w1 ⟨rfl, hb⟩
      replace XA := Lib.hid (XA.out.below hb); replace XB := Lib.hid (XB.out.below hb); replace XR := Lib.hid (XR.out.below hb); replace HB := Lib.hid (below_step HB.out hb)
      clear hb
      have b0 := XB.out.at_ 0 _ rfl
      go_wp2_with fail
      clear b0
      have l0 := XA.out.lat 0 _ rfl
      have l1 := XA.out.lat 1 _ rfl
      have l2 := XB.out.lat 0 _ rfl
      have l3 := XB.out.lat 1 _ rfl
      refine wp_region_tail 13 (by kernel_rfl) (by kernel_rfl) ?_
      simp only [List.take_succ_cons, List.take_zero, List.drop_succ_cons, List.drop_zero]
      repeat (go_big_quiet_step (first | (with_reducible exact lat_call (S1.out _)) | (with_reducible exact lat_call (S2.out _)) | (with_reducible exact lat_call (CP.out _))))
      refine wpQuiet_nil ?_; intro w2 hb
      clear l0 l1 l2 l3
      replace XR := Lib.hid (XR.out.below hb); replace HB := Lib.hid (below_step HB.out hb)
      clear hb
      have r0 := XR.out.at_ 0 _ rfl
      have r1 := XR.out.at_ 1 _ rfl
      have z0 := XR.out.frozen 0
      have z1 := XR.out.frozen 1
      go_wp2_with fail
      refine bodyPost_ret (v := .tuple #[.agg #[.int .i64 ra, .int .i64 rb], .int .i64 re]) (by simp [results, Tryd.results23, go_sem, r0, r1]) rfl ⟨rfl, ?_⟩
      exact (HB.out.setCell (by simp; omega) _).setCell (by simp; omega) _
  · have HE : Hid (divR an ad bn bd = (0, 0, 1)) := Lib.hid (by unfold divR; rw [if_neg hv])
    have hb : (ratV an ad && ratV bn bd) = false := by revert hv; cases ratV an ad <;> cases ratV bn bd <;> simp
    rw [hb] at CB
    clear hv hb h1 h2 h3 h4
    go_enter Tryd.func23, Tryd.ntmps23
    go_wp2_with fail
    have XA := Lib.hid (((Box.new w 23 #[.int .i64 an, .int .i64 ad]).below (below_alloc _ (.cells #[.int .i64 bn, .int .i64 bd] 23))).below (below_alloc _ (.cells #[.int .i64 0, .int .i64 0] 23)))
    have XB := Lib.hid ((box1 w (.cells #[.int .i64 an, .int .i64 ad] 23) 23 #[.int .i64 bn, .int .i64 bd]).below (below_alloc _ (.cells #[.int .i64 0, .int .i64 0] 23)))
    have XR := Lib.hid (box2 w (.cells #[.int .i64 an, .int .i64 ad] 23) (.cells #[.int .i64 bn, .int .i64 bd] 23) 23 #[.int .i64 0, .int .i64 0])
    have HB := Lib.hid (below_step (below_step (below_alloc w (.cells #[.int .i64 an, .int .i64 ad] 23)) (below_alloc _ (.cells #[.int .i64 bn, .int .i64 bd] 23))) (below_alloc _ (.cells #[.int .i64 0, .int .i64 0] 23)))
    refine (CB.out _).mono ?_; rintro e w1 ⟨rfl, hb⟩
    replace XA := Lib.hid (XA.out.below hb); replace XB := Lib.hid (XB.out.below hb); replace XR := Lib.hid (XR.out.below hb); replace HB := Lib.hid (below_step HB.out hb)
    clear hb
    have r0 := XR.out.at_ 0 _ rfl
    have r1 := XR.out.at_ 1 _ rfl
    have z0 := XR.out.frozen 0
    have z1 := XR.out.frozen 1
    go_wp2_with fail
    refine bodyPost_ret (v := .tuple #[.agg #[.int .i64 0, .int .i64 0], .int .i64 1]) (by simp [results, Tryd.results23, go_sem, r0, r1]) rfl ⟨by rw [HE.out]; rfl, ?_⟩
    exact (HB.out.setCell (by simp; omega) _).setCell (by simp; omega) _

end Go.Proofs.YtbaalbmchhgmnaaDoor
