/-
  Contract of the reference's Prob; the law DistProbs: the walk.
-/
import Derived.Test.YtiiacapilffhnaaDistK
import Derived.Test.YtiiacapilffhnaaDistG
import Derived.Test.YtiiacapilffhnaaRefC
namespace Go.Proofs.Ytiiacapilffhnaa
open Go.RowKit Go.WideShapes Go.ChangeShapes Go.Deep
set_option linter.unusedVariables false
set_option linter.unusedSimpArgs false

set_option maxRecDepth 100000 in
set_option maxHeartbeats 8000000 in
theorem refProb20 (w : World) (v : Value) (l : List Rg) (wd x : Int) (h : DL w v l) (hf : LF l) (w0 : -9223372036854775808 ≤ wd) (w1 : wd ≤ 9223372036854775807) (x0 : -9223372036854775808 ≤ x) (x1 : x ≤ 9223372036854775807) :
    Calls Try.prog 19 #[v, .int .i64 wd, .int .i64 x] w fun e w' => e = ret3r (prob l wd x) ∧ Below w.heap.size w w' := by
  have HVL : Hid (∀ w, DL w v l → Calls Try.prog 26 #[v, .int .i64 wd] w fun e w' => e = .returned (.int .i64 (vld l wd)) ∧ Below w.heap.size w w') := Lib.hid fun w h => refValid w v l wd h hf w0 w1
  have HW := Lib.hid (fun w h => refTotal w v l wd h hf w0 w1)
  have HX := Lib.hid (fun w h => refWeight w v l x h hf x0 x1)
  have HD := Lib.hid h
  have hP : prob l wd x = if vld l wd ≠ 0 then (0, 0, vld l wd) else if x < 0 ∨ (two wd : Int) ≤ x then (0, 0, 1) else if (tot l wd).2 ≠ 0 then (0, 0, (tot l wd).2) else mk (wgt l (scl l).1 x).1 (tot l wd).1 := rfl
  clear h
  by_cases hv : vld l wd = 0
  case neg =>
    have HE : Hid (prob l wd x = (0, 0, vld l wd)) := Lib.hid (by rw [hP, if_pos hv])
    have f : (vld l wd != 0) = true := by simpa using hv
    clear hv hP
    go_enter Try.func19, Try.ntmps19
    go_wp2_with fail
    have XR := Lib.hid (box_new (W := w) (g := w.heap.size) 33 #[.int .i64 0, .int .i64 0] (by simp))
    have HB := Lib.hid (below_alloc w (.cells #[.int .i64 0, .int .i64 0] 33))
    generalize w.alloc (.cells #[.int .i64 0, .int .i64 0] 33) = wa at *
    refine (HVL.out _ (HD.out.below HB.out)).mono ?_; rintro e w1 ⟨rfl, hb⟩
    replace XR := Lib.hid (XR.out.below hb)
    replace HB := Lib.hid (below_step HB.out hb)
    clear hb
    have XR_0 := XR.out.at_ 0 _ rfl
    have XR_1 := XR.out.at_ 1 _ rfl
    have XR_z0 := XR.out.frozen 0
    have XR_z1 := XR.out.frozen 1
    go_wp2_with fail
    refine bodyPost_ret (v := .tuple #[.agg #[.int .i64 0, .int .i64 0], .int .i64 (vld l wd)]) (by simp [results, Try.results19, go_sem, XR_0, XR_1]) rfl ⟨by rw [HE.out]; rfl, ?_⟩
    exact (HB.out.setCell (Nat.le_refl _) _).setCell (Nat.le_refl _) _
  rw [if_neg (by rw [hv]; decide)] at hP
  obtain ⟨g1, g2, _, _, _⟩ := vld_zero hv
  obtain ⟨B, hB, B1, B2, hwr⟩ := pow_nat g1 g2
  rw [← hB] at hP
  rw [hv] at HVL
  by_cases c1 : x < 0 ∨ (B : Int) ≤ x
  · have HE : Hid (prob l wd x = (0, 0, 1)) := Lib.hid (by rw [hP, if_pos c1])
    clear hP hB hv
    have key : x < 0 ∨ (¬ x < 0 ∧ (B : Int) ≤ x) := by omega
    clear c1
    rcases key with c1 | ⟨c1, c2⟩
    all_goals
      go_enter Try.func19, Try.ntmps19
      go_wp2_with fail
      have XR := Lib.hid (box_new (W := w) (g := w.heap.size) 33 #[.int .i64 0, .int .i64 0] (by simp))
      have HB := Lib.hid (below_alloc w (.cells #[.int .i64 0, .int .i64 0] 33))
      generalize w.alloc (.cells #[.int .i64 0, .int .i64 0] 33) = wa at *
      refine (HVL.out _ (HD.out.below HB.out)).mono ?_; rintro e w1 ⟨rfl, hb⟩
      replace XR := Lib.hid (XR.out.below hb)
      replace HB := Lib.hid (below_step HB.out hb)
      clear hb
      have XR_0 := XR.out.at_ 0 _ rfl
      have XR_1 := XR.out.at_ 1 _ rfl
      have XR_z0 := XR.out.frozen 0
      have XR_z1 := XR.out.frozen 1
      go_wp2_with fail
      refine bodyPost_ret (v := .tuple #[.agg #[.int .i64 0, .int .i64 0], .int .i64 1]) (by simp [results, Try.results19, go_sem, XR_0, XR_1]) rfl ⟨by rw [HE.out]; rfl, ?_⟩
      exact (HB.out.setCell (Nat.le_refl _) _).setCell (Nat.le_refl _) _
  rw [if_neg c1] at hP
  have c2 : ¬ x < 0 := by omega
  have c3 : ¬ (B : Int) ≤ x := by omega
  rcases tot_ways l wd with ⟨h1, h2⟩ | ⟨h1, _, hs, n0, n1, t0, t1, hp, hj⟩
  · have HE : Hid (prob l wd x = (0, 0, (tot l wd).2)) := Lib.hid (by rw [hP, if_pos h1])
    have f : ((tot l wd).2 != 0) = true := by simpa using h1
    clear hP h1 hB hv c1
    generalize tot l wd = r at *
    obtain ⟨t, er⟩ := r
    simp only at h2 f HE HW
    subst h2
    go_enter Try.func19, Try.ntmps19
    go_wp2_with fail
    have XR := Lib.hid (box_new (W := w) (g := w.heap.size) 33 #[.int .i64 0, .int .i64 0] (by simp))
    have HB := Lib.hid (below_alloc w (.cells #[.int .i64 0, .int .i64 0] 33))
    generalize w.alloc (.cells #[.int .i64 0, .int .i64 0] 33) = wa at *
    refine (HVL.out _ (HD.out.below HB.out)).mono ?_; rintro e w1 ⟨rfl, hb⟩
    replace XR := Lib.hid (XR.out.below hb)
    replace HB := Lib.hid (below_step HB.out hb)
    clear hb
    go_wp2_with fail
    refine (HW.out _ (HD.out.below HB.out)).mono ?_; rintro e w2 ⟨rfl, hb⟩
    replace XR := Lib.hid (XR.out.below hb)
    replace HB := Lib.hid (below_step HB.out hb)
    clear hb
    have XR_0 := XR.out.at_ 0 _ rfl
    have XR_1 := XR.out.at_ 1 _ rfl
    have XR_z0 := XR.out.frozen 0
    have XR_z1 := XR.out.frozen 1
    go_wp2_with fail
    refine bodyPost_ret (v := .tuple #[.agg #[.int .i64 0, .int .i64 0], .int .i64 er]) (by simp [results, Try.results19, go_sem, XR_0, XR_1]) rfl ⟨by rw [HE.out]; rfl, ?_⟩
    exact (HB.out.setCell (Nat.le_refl _) _).setCell (Nat.le_refl _) _
  rw [if_neg (by rw [h1]; decide)] at hP
  obtain ⟨k, rfl⟩ := Int.eq_ofNat_of_zero_le (show 0 ≤ x by omega)
  have hkB : k < B := by omega
  have hwE : wgtE l k = wgt l (scl l).1 k := by unfold wgtE sclE; rw [if_pos (vld_8 hv), if_pos hs]
  rw [hwE] at HX
  have hte : tot l wd = ((tot l wd).1, 0) := Prod.ext rfl h1
  rw [← hB] at hj
  have hww := wgt_ways (vld_RV hv) n0 k
  have hjj := hj k hkB
  generalize (scl l).1 = n at *
  have hu : 0 ≤ (wgt l n k).1 ∧ (wgt l n k).1 ≤ 9223372036854775807 := by
    rcases hww with h | h
    · exact h.2
    · exact absurd hjj (by rw [h]; decide)
  rw [hte] at HW
  rw [hjj] at HX
  simp only at HW
  generalize (tot l wd).1 = t at *
  generalize (wgt l n k).1 = u at *
  obtain ⟨u0, u1⟩ := hu
  have MK := Lib.hid (fun w => refMake u t w ⟨by omega, u1⟩ ⟨by omega, t1⟩)
  rw [← hP] at MK
  generalize prob l wd k = r at *
  obtain ⟨ra, rb, re⟩ := r
  simp only [ret3r] at MK ⊢
  clear hP hte h1 hs hp hj hww hjj hv hB c1 hwE
  go_enter Try.func19, Try.ntmps19
  go_wp2_with fail
  have XR := Lib.hid (box_new (W := w) (g := w.heap.size) 33 #[.int .i64 0, .int .i64 0] (by simp))
  have HB := Lib.hid (below_alloc w (.cells #[.int .i64 0, .int .i64 0] 33))
  generalize w.alloc (.cells #[.int .i64 0, .int .i64 0] 33) = wa at *
  refine (HVL.out _ (HD.out.below HB.out)).mono ?_; rintro e w1 ⟨rfl, hb⟩
  replace XR := Lib.hid (XR.out.below hb)
  replace HB := Lib.hid (below_step HB.out hb)
  clear hb
  go_wp2_with fail
  refine (HW.out _ (HD.out.below HB.out)).mono ?_; rintro e w2 ⟨rfl, hb⟩
  replace XR := Lib.hid (XR.out.below hb)
  replace HB := Lib.hid (below_step HB.out hb)
  clear hb
  go_wp2_with fail
  refine (HX.out _ (HD.out.below HB.out)).mono ?_; rintro e w3 ⟨rfl, hb⟩
  replace XR := Lib.hid (XR.out.below hb)
  replace HB := Lib.hid (below_step HB.out hb)
  clear hb
  go_wp2_with fail
  refine (MK.out _).mono ?_; rintro e w4 ⟨rfl, hb⟩
  replace XR := Lib.hid (XR.out.below hb)
  replace HB := Lib.hid (below_step HB.out hb)
  clear hb
  have XR_0 := XR.out.at_ 0 _ rfl
  have XR_1 := XR.out.at_ 1 _ rfl
  have XR_z0 := XR.out.frozen 0
  have XR_z1 := XR.out.frozen 1
  go_wp2_with fail
  refine bodyPost_ret (v := .tuple #[.agg #[.int .i64 ra, .int .i64 rb], .int .i64 re]) (by simp [results, Try.results19, go_sem, XR_0, XR_1]) rfl ⟨rfl, ?_⟩
  exact (HB.out.setCell (Nat.le_refl _) _).setCell (Nat.le_refl _) _

set_option maxRecDepth 100000 in
set_option maxHeartbeats 8000000 in
theorem walkDistProbs {H : Type} {enc : TypeId × Value → H} {base : Nat} (v : Value) (d : DataW H) (p : List MemPlace) (w : World)
    (h : DataW.Trod enc Try.prog w 0 (fun _ => true) true 22 v d p) (hv : Value.okWide Try.prog w .any base 22 v) (wd : Int) (hw : I64 wd) (x : Int) (hx : I64 x) :
    Calls Try.prog 4 #[v, .int .i64 wd, .int .i64 x] w fun e w' => e = .returned (.bool true) ∧ Below w.heap.size w w' := by
  obtain ⟨l, hd, hf⟩ := arg_weights h hv
  obtain ⟨w0, w1⟩ := hw
  obtain ⟨x0, x1⟩ := hx
  have C1 := Lib.hid (fun w h => distProb w v l wd x h hf w0 w1 x0 x1)
  have C2 := Lib.hid (fun w h => refProb20 w v l wd x h hf w0 w1 x0 x1)
  generalize prob l wd x = r at *
  obtain ⟨ra, rb, re⟩ := r
  simp only [ret3r] at C1 C2
  have HD := Lib.hid hd
  obtain ⟨A, c, rfl, _, _, _⟩ := hd
  obtain ⟨N, hN⟩ : ∃ N, N = l.length := ⟨_, rfl⟩
  rw [← hN] at HD C1 C2 ⊢
  clear hN h hv hf
  by_cases hn : (30 : Int) < N
  · go_enter Try.func4, Try.ntmps4
    go_wp2_with fail
    refine (awake _).mono ?_; rintro e w1 ⟨rfl, hb⟩
    go_wp2_with fail
    go_ret
    exact ⟨rfl, hb⟩
  · have b1 : (ra == ra) = true := by simp
    have b2 : (rb == rb) = true := by simp
    have b3 : (re == re) = true := by simp
    go_enter Try.func4, Try.ntmps4
    go_wp2_with fail
    refine (C1.out _ HD.out).mono ?_; rintro e w1 ⟨rfl, hb⟩
    have HB := Lib.hid hb
    clear hb
    go_wp2_with fail
    have XA := Lib.hid (box_new (W := w1) (g := w1.heap.size) 33 #[.int .i64 ra, .int .i64 rb] (by simp))
    have hba := (below_alloc w1 (.cells #[.int .i64 ra, .int .i64 rb] 33))
    replace HB := Lib.hid (below_step HB.out hba)
    clear hba
    generalize w1.alloc (.cells #[.int .i64 ra, .int .i64 rb] 33) = w2 at *
    refine (C2.out _ (HD.out.below HB.out)).mono ?_; rintro e w3 ⟨rfl, hb⟩
    replace XA := Lib.hid (XA.out.below hb)
    replace HB := Lib.hid (below_step HB.out hb)
    clear hb
    have XA_0 := XA.out.at_ 0 _ rfl
    have XA_1 := XA.out.at_ 1 _ rfl
    have XA_l := XA.out.lt
    go_wp2_with fail
    clear XA_0 XA_1 XA_l
    have XB := Lib.hid (box_new (W := w3) (g := w3.heap.size) 33 #[.int .i64 ra, .int .i64 rb] (by simp))
    have hba := (below_alloc w3 (.cells #[.int .i64 ra, .int .i64 rb] 33))
    replace XA := Lib.hid (XA.out.below hba)
    replace HB := Lib.hid (below_step HB.out hba)
    clear hba
    generalize w3.alloc (.cells #[.int .i64 ra, .int .i64 rb] 33) = w4 at *
    refine (awake _).mono ?_; rintro e w5 ⟨rfl, hb⟩
    replace XA := Lib.hid (XA.out.below hb)
    replace XB := Lib.hid (XB.out.below hb)
    replace HB := Lib.hid (below_step HB.out hb)
    clear hb
    go_wp2_with fail
    go_ret
    exact ⟨rfl, HB.out⟩

end Go.Proofs.Ytiiacapilffhnaa
