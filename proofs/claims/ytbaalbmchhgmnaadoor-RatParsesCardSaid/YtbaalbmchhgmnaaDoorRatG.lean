/-
  Contracts of rat.Add, Sub.
-/
import Derived.Test.YtbaalbmchhgmnaaDoorRatE
namespace Go.Proofs.YtbaalbmchhgmnaaDoor
open Go.RowKit
set_option linter.unusedVariables false
set_option linter.unusedSimpArgs false

theorem rat_nat {n d : Int} (h : ratV n d = true) : ∃ p : Nat, d = (p : Int) := ⟨d.natAbs, by have := (ratV_iff.1 h).1; omega⟩

set_option maxRecDepth 100000 in
set_option maxHeartbeats 4000000 in
theorem ratAdd (an ad bn bd : Int) (w : World) (h1 : I64 an) (h2 : I64 ad) (h3 : I64 bn) (h4 : I64 bd) :
    Calls Tryd.prog 17 #[.agg #[.int .i64 an, .int .i64 ad], .agg #[.int .i64 bn, .int .i64 bd]] w fun e w' => e = ret3r (addR an ad bn bd) ∧ Below w.heap.size w w' := by
  have CB := Lib.hid (fun w => ratBoth an ad bn bd w h1 h2 h3 h4)
  by_cases hv : ratV an ad = true ∧ ratV bn bd = true
  · obtain ⟨p, rfl⟩ := rat_nat hv.1
    obtain ⟨q, rfl⟩ := rat_nat hv.2
    have hE : addR an p bn q = ratQ (an * q + turn false bn * p) (p * q) := by
      unfold addR
      rw [if_pos hv, Int.natAbs_mul, Int.natAbs_natCast, Int.natAbs_natCast]
      rfl
    have CJ := Lib.hid (fun w => ratJoin an bn p q false w hv.1 hv.2 h1 h2 h3 h4)
    rw [hv.1, hv.2] at CB
    rw [← hE] at CJ
    generalize addR an p bn q = res at *
    clear hv hE h1 h2 h3 h4
    obtain ⟨ra, rb, re⟩ := res
    simp only [ret3r] at CJ ⊢
    go_enter Tryd.func17, Tryd.ntmps17
    go_wp2_with fail
    have XA := Lib.hid (((Box.new w 23 #[.int .i64 an, .int .i64 p]).below (below_alloc _ (.cells #[.int .i64 bn, .int .i64 q] 23))).below (below_alloc _ (.cells #[.int .i64 0, .int .i64 0] 23)))
    have XB := Lib.hid ((box1 w (.cells #[.int .i64 an, .int .i64 p] 23) 23 #[.int .i64 bn, .int .i64 q]).below (below_alloc _ (.cells #[.int .i64 0, .int .i64 0] 23)))
    have XR := Lib.hid (box2 w (.cells #[.int .i64 an, .int .i64 p] 23) (.cells #[.int .i64 bn, .int .i64 q] 23) 23 #[.int .i64 0, .int .i64 0])
    have HB := Lib.hid (below_step (below_step (below_alloc w (.cells #[.int .i64 an, .int .i64 p] 23)) (below_alloc _ (.cells #[.int .i64 bn, .int .i64 q] 23))) (below_alloc _ (.cells #[.int .i64 0, .int .i64 0] 23)))
    refine (CB.out _).mono ?_; rintro e w1 ⟨rfl, hb⟩
    replace XA := Lib.hid (XA.out.below hb); replace XB := Lib.hid (XB.out.below hb); replace XR := Lib.hid (XR.out.below hb); replace HB := Lib.hid (below_step HB.out hb)
    clear hb
    have a0 := XA.out.at_ 0 _ rfl
    have a1 := XA.out.at_ 1 _ rfl
    have b0 := XB.out.at_ 0 _ rfl
    have b1 := XB.out.at_ 1 _ rfl
    go_wp2_with fail
    refine (CJ.out _).mono ?_; rintro e w2 ⟨rfl, hb⟩
    replace XR := Lib.hid (XR.out.below hb); replace HB := Lib.hid (below_step HB.out hb)
    clear hb a0 a1 b0 b1
    have r0 := XR.out.at_ 0 _ rfl
    have r1 := XR.out.at_ 1 _ rfl
    have z0 := XR.out.frozen 0
    have z1 := XR.out.frozen 1
    go_wp2_with fail
    refine bodyPost_ret (v := .tuple #[.agg #[.int .i64 ra, .int .i64 rb], .int .i64 re]) (by simp [results, Tryd.results17, go_sem, r0, r1]) rfl ⟨rfl, ?_⟩
    exact (HB.out.setCell (by simp; omega) _).setCell (by simp; omega) _
  · have HE : Hid (addR an ad bn bd = (0, 0, 1)) := Lib.hid (by unfold addR; rw [if_neg hv])
    have hb : (ratV an ad && ratV bn bd) = false := by revert hv; cases ratV an ad <;> cases ratV bn bd <;> simp
    rw [hb] at CB
    clear hv hb h1 h2 h3 h4
    go_enter Tryd.func17, Tryd.ntmps17
    go_wp2_with fail
    have XR := Lib.hid (box2 w (.cells #[.int .i64 an, .int .i64 ad] 23) (.cells #[.int .i64 bn, .int .i64 bd] 23) 23 #[.int .i64 0, .int .i64 0])
    have HB := Lib.hid (below_step (below_step (below_alloc w (.cells #[.int .i64 an, .int .i64 ad] 23)) (below_alloc _ (.cells #[.int .i64 bn, .int .i64 bd] 23))) (below_alloc _ (.cells #[.int .i64 0, .int .i64 0] 23)))
    refine (CB.out _).mono ?_; rintro e w1 ⟨rfl, hb⟩
    replace XR := Lib.hid (XR.out.below hb); replace HB := Lib.hid (below_step HB.out hb)
    clear hb
    have r0 := XR.out.at_ 0 _ rfl
    have r1 := XR.out.at_ 1 _ rfl
    have z0 := XR.out.frozen 0
    have z1 := XR.out.frozen 1
    go_wp2_with fail
    refine bodyPost_ret (v := .tuple #[.agg #[.int .i64 0, .int .i64 0], .int .i64 1]) (by simp [results, Tryd.results17, go_sem, r0, r1]) rfl ⟨by rw [HE.out]; rfl, ?_⟩
    exact (HB.out.setCell (by simp; omega) _).setCell (by simp; omega) _

set_option maxRecDepth 100000 in
set_option maxHeartbeats 4000000 in
theorem ratSub (an ad bn bd : Int) (w : World) (h1 : I64 an) (h2 : I64 ad) (h3 : I64 bn) (h4 : I64 bd) :
    Calls Tryd.prog 19 #[.agg #[.int .i64 an, .int .i64 ad], .agg #[.int .i64 bn, .int .i64 bd]] w fun e w' => e = ret3r (subR an ad bn bd) ∧ Below w.heap.size w w' := by
  have CB := Lib.hid (fun w => ratBoth an ad bn bd w h1 h2 h3 h4)
  by_cases hv : ratV an ad = true ∧ ratV bn bd = true
  · obtain ⟨p, rfl⟩ := rat_nat hv.1
    obtain ⟨q, rfl⟩ := rat_nat hv.2
    have hE : subR an p bn q = ratQ (an * q + turn true bn * p) (p * q) := by
      unfold subR
      rw [if_pos hv, Int.natAbs_mul, Int.natAbs_natCast, Int.natAbs_natCast]
      rw [show turn true bn = -bn from rfl, Int.neg_mul, Int.sub_eq_add_neg]
    have CJ := Lib.hid (fun w => ratJoin an bn p q true w hv.1 hv.2 h1 h2 h3 h4)
    rw [hv.1, hv.2] at CB
    rw [← hE] at CJ
    generalize subR an p bn q = res at *
    clear hv hE h1 h2 h3 h4
    obtain ⟨ra, rb, re⟩ := res
    simp only [ret3r] at CJ ⊢
    go_enter Tryd.func19, Tryd.ntmps19
    go_wp2_with fail
    have XA := Lib.hid (((Box.new w 23 #[.int .i64 an, .int .i64 p]).below (below_alloc _ (.cells #[.int .i64 bn, .int .i64 q] 23))).below (below_alloc _ (.cells #[.int .i64 0, .int .i64 0] 23)))
    have XB := Lib.hid ((box1 w (.cells #[.int .i64 an, .int .i64 p] 23) 23 #[.int .i64 bn, .int .i64 q]).below (below_alloc _ (.cells #[.int .i64 0, .int .i64 0] 23)))
    have XR := Lib.hid (box2 w (.cells #[.int .i64 an, .int .i64 p] 23) (.cells #[.int .i64 bn, .int .i64 q] 23) 23 #[.int .i64 0, .int .i64 0])
    have HB := Lib.hid (below_step (below_step (below_alloc w (.cells #[.int .i64 an, .int .i64 p] 23)) (below_alloc _ (.cells #[.int .i64 bn, .int .i64 q] 23))) (below_alloc _ (.cells #[.int .i64 0, .int .i64 0] 23)))
    refine (CB.out _).mono ?_; rintro e w1 ⟨rfl, hb⟩
    replace XA := Lib.hid (XA.out.below hb); replace XB := Lib.hid (XB.out.below hb); replace XR := Lib.hid (XR.out.below hb); replace HB := Lib.hid (below_step HB.out hb)
    clear hb
    have a0 := XA.out.at_ 0 _ rfl
    have a1 := XA.out.at_ 1 _ rfl
    have b0 := XB.out.at_ 0 _ rfl
    have b1 := XB.out.at_ 1 _ rfl
    go_wp2_with fail
    refine (CJ.out _).mono ?_; rintro e w2 ⟨rfl, hb⟩
    replace XR := Lib.hid (XR.out.below hb); replace HB := Lib.hid (below_step HB.out hb)
    clear hb a0 a1 b0 b1
    have r0 := XR.out.at_ 0 _ rfl
    have r1 := XR.out.at_ 1 _ rfl
    have z0 := XR.out.frozen 0
    have z1 := XR.out.frozen 1
    go_wp2_with fail
    refine bodyPost_ret (v := .tuple #[.agg #[.int .i64 ra, .int .i64 rb], .int .i64 re]) (by simp [results, Tryd.results19, go_sem, r0, r1]) rfl ⟨rfl, ?_⟩
    exact (HB.out.setCell (by simp; omega) _).setCell (by simp; omega) _
  · have HE : Hid (subR an ad bn bd = (0, 0, 1)) := Lib.hid (by unfold subR; rw [if_neg hv])
    have hb : (ratV an ad && ratV bn bd) = false := by revert hv; cases ratV an ad <;> cases ratV bn bd <;> simp
    rw [hb] at CB
    clear hv hb h1 h2 h3 h4
    go_enter Tryd.func19, Tryd.ntmps19
    go_wp2_with fail
    have XR := Lib.hid (box2 w (.cells #[.int .i64 an, .int .i64 ad] 23) (.cells #[.int .i64 bn, .int .i64 bd] 23) 23 #[.int .i64 0, .int .i64 0])
    have HB := Lib.hid (below_step (below_step (below_alloc w (.cells #[.int .i64 an, .int .i64 ad] 23)) (below_alloc _ (.cells #[.int .i64 bn, .int .i64 bd] 23))) (below_alloc _ (.cells #[.int .i64 0, .int .i64 0] 23)))
    refine (CB.out _).mono ?_; rintro e w1 ⟨rfl, hb⟩
    replace XR := Lib.hid (XR.out.below hb); replace HB := Lib.hid (below_step HB.out hb)
    clear hb
    have r0 := XR.out.at_ 0 _ rfl
    have r1 := XR.out.at_ 1 _ rfl
    have z0 := XR.out.frozen 0
    have z1 := XR.out.frozen 1
    go_wp2_with fail
    refine bodyPost_ret (v := .tuple #[.agg #[.int .i64 0, .int .i64 0], .int .i64 1]) (by simp [results, Tryd.results19, go_sem, r0, r1]) rfl ⟨by rw [HE.out]; rfl, ?_⟩
    exact (HB.out.setCell (by simp; omega) _).setCell (by simp; omega) _

end Go.Proofs.YtbaalbmchhgmnaaDoor
