/-
  The law RatField: the walk.
-/
import Derived.Test.YtbaalbmchhgmnaaDoorFieldLaw
import Derived.Deep.DeepCutAuto
namespace Go.Proofs.YtbaalbmchhgmnaaDoor
open Go.RowKit Go.WideShapes Go.ChangeShapes Go.Deep
set_option linter.unusedVariables false
set_option linter.unusedSimpArgs false

set_option maxRecDepth 100000 in
set_option maxHeartbeats 16000000 in
theorem walkRatField {H : Type} {enc : TypeId × Value → H} {base : Nat} (v : Value) (d : DataW H) (p : List MemPlace) {w : World} (h : DataW.Trod enc Tryd.prog w 0 (fun _ => true) true 23 v d p) (hv : Value.okWide Tryd.prog w .any base 23 v)
    (v' : Value) (d' : DataW H) (p' : List MemPlace) (h' : DataW.Trod enc Tryd.prog w 0 (fun _ => true) true 23 v' d' p') (hv' : Value.okWide Tryd.prog w .any base 23 v')
    (v'' : Value) (d'' : DataW H) (p'' : List MemPlace) (h'' : DataW.Trod enc Tryd.prog w 0 (fun _ => true) true 23 v'' d'' p'') (hv'' : Value.okWide Tryd.prog w .any base 23 v'') (ht : Tab w) :
    Calls Tryd.prog 7 #[v, v', v''] w fun e w' => e = .returned (.bool true) ∧ Below w.heap.size w w' := by
  obtain ⟨an, ad, rfl, h1, h2⟩ := arg_rat h hv
  obtain ⟨bn, bd, rfl, h3, h4⟩ := arg_rat h' hv'
  obtain ⟨cn, cd, rfl, h5, h6⟩ := arg_rat h'' hv''
  have HT := Lib.hid ht
  have C1 := Lib.hid (fun w => ratAdd an ad bn bd w h1 h2 h3 h4)
  have C2 := Lib.hid (fun w => ratAdd bn bd an ad w h3 h4 h1 h2)
  have C3 := Lib.hid (fun w => ratAdd bn bd cn cd w h3 h4 h5 h6)
  have C4 := Lib.hid (fun w => ratMul an ad bn bd w h1 h2 h3 h4)
  have C5 := Lib.hid (fun w => ratMul bn bd an ad w h3 h4 h1 h2)
  have C6 := Lib.hid (fun w => ratMul an ad cn cd w h1 h2 h5 h6)
  have C11 := Lib.hid (fun w => ratDiv an ad an ad w h1 h2 h1 h2)
  rw [addR_comm bn bd an ad] at C2
  rw [mulR_comm bn bd an ad] at C5
  obtain ⟨⟨x1, y1, e1⟩, m1⟩ : ∃ r, r = addR an ad bn bd := ⟨_, rfl⟩
  obtain ⟨j1, k1⟩ := addR_I64 m1.symm
  obtain ⟨⟨x3, y3, e3⟩, m3⟩ : ∃ r, r = addR bn bd cn cd := ⟨_, rfl⟩
  obtain ⟨j3, k3⟩ := addR_I64 m3.symm
  obtain ⟨⟨x4, y4, e4⟩, m4⟩ : ∃ r, r = mulR an ad bn bd := ⟨_, rfl⟩
  obtain ⟨j4, k4⟩ := mulR_I64 m4.symm
  obtain ⟨⟨x6, y6, e6⟩, m6⟩ : ∃ r, r = mulR an ad cn cd := ⟨_, rfl⟩
  obtain ⟨j6, k6⟩ := mulR_I64 m6.symm
  have C7 := Lib.hid (fun w => ratAdd x1 y1 cn cd w j1 k1 h5 h6)
  obtain ⟨⟨x7, y7, e7⟩, m7⟩ : ∃ r, r = addR x1 y1 cn cd := ⟨_, rfl⟩
  obtain ⟨j7, k7⟩ := addR_I64 m7.symm
  have C8 := Lib.hid (fun w => ratAdd an ad x3 y3 w h1 h2 j3 k3)
  obtain ⟨⟨x8, y8, e8⟩, m8⟩ : ∃ r, r = addR an ad x3 y3 := ⟨_, rfl⟩
  obtain ⟨j8, k8⟩ := addR_I64 m8.symm
  have C9 := Lib.hid (fun w => ratMul an ad x3 y3 w h1 h2 j3 k3)
  obtain ⟨⟨x9, y9, e9⟩, m9⟩ : ∃ r, r = mulR an ad x3 y3 := ⟨_, rfl⟩
  obtain ⟨j9, k9⟩ := mulR_I64 m9.symm
  have C10 := Lib.hid (fun w => ratAdd x4 y4 x6 y6 w j4 k4 j6 k6)
  obtain ⟨⟨x10, y10, e10⟩, m10⟩ : ∃ r, r = addR x4 y4 x6 y6 := ⟨_, rfl⟩
  obtain ⟨j10, k10⟩ := addR_I64 m10.symm
  obtain ⟨⟨x11, y11, e11⟩, m11⟩ : ∃ r, r = divR an ad an ad := ⟨_, rfl⟩
  have KD := div_ways an ad
  rw [← m11] at KD
  have K1 : Hid (e1 = 0 → e3 = 0 → e7 = 0 → e8 = 0 → x7 = x8 ∧ y7 = y8) := Lib.hid fun g1 g2 g3 g4 => by
    subst g1 g2 g3 g4; exact add_assoc m1.symm m3.symm m7.symm m8.symm
  have K2 : Hid (e3 = 0 → e4 = 0 → e6 = 0 → e9 = 0 → e10 = 0 → x9 = x10 ∧ y9 = y10) := Lib.hid fun g1 g2 g3 g4 g5 => by
    subst g1 g2 g3 g4 g5; exact mul_add m3.symm m4.symm m6.symm m9.symm m10.symm
  replace KD : Hid (e11 ≠ 0 ∨ (x11 = 1 ∧ y11 = 1 ∧ e11 = 0)) := Lib.hid (KD.imp id fun h => by injection h with g1 g2; injection g2 with g2 g3; exact ⟨g1, g2, g3⟩)
  rw [← m1] at C1 C2
  rw [← m4] at C4 C5
  rw [← m3] at C3
  rw [← m6] at C6
  rw [← m7] at C7
  rw [← m8] at C8
  rw [← m9] at C9
  rw [← m10] at C10
  rw [← m11] at C11
  simp only [ret3r] at C1 C2 C3 C4 C5 C6 C7 C8 C9 C10 C11
  clear m1 m3 m4 m6 m7 m8 m9 m10 m11 j1 k1 j3 k3 j4 k4 j6 k6 j7 k7 j8 k8 j9 k9 j10 k10 h1 h2 h3 h4 h5 h6 ht h hv h' hv' h'' hv''
  go_enter Tryd.func7, Tryd.ntmps7
  go_wp2_with fail
  have XA := Lib.hid (((Box.new w 23 #[.int .i64 an, .int .i64 ad]).below (below_alloc _ (.cells #[.int .i64 bn, .int .i64 bd] 23))).below (below_alloc _ (.cells #[.int .i64 cn, .int .i64 cd] 23)))
  have XB := Lib.hid ((box1 w (.cells #[.int .i64 an, .int .i64 ad] 23) 23 #[.int .i64 bn, .int .i64 bd]).below (below_alloc _ (.cells #[.int .i64 cn, .int .i64 cd] 23)))
  have XC := Lib.hid (box2 w (.cells #[.int .i64 an, .int .i64 ad] 23) (.cells #[.int .i64 bn, .int .i64 bd] 23) 23 #[.int .i64 cn, .int .i64 cd])
  have HB := Lib.hid (below_step (below_step (below_alloc w (.cells #[.int .i64 an, .int .i64 ad] 23)) (below_alloc _ (.cells #[.int .i64 bn, .int .i64 bd] 23))) (below_alloc _ (.cells #[.int .i64 cn, .int .i64 cd] 23)))
  refine (C1.out _).mono ?_; rintro e w1 ⟨rfl, hb⟩
  replace XA := Lib.hid (XA.out.below hb)
  replace XB := Lib.hid (XB.out.below hb)
  replace XC := Lib.hid (XC.out.below hb)
  replace HB := Lib.hid (below_step HB.out hb)
  clear hb C1
  have XA_0 := XA.out.at_ 0 _ rfl
  have XA_1 := XA.out.at_ 1 _ rfl
  have XA_2 := XA.out.lt
  have XB_0 := XB.out.at_ 0 _ rfl
  have XB_1 := XB.out.at_ 1 _ rfl
  have XB_2 := XB.out.lt
  go_wp2_with fail
  refine (C2.out _).mono ?_; rintro e w2 ⟨rfl, hb⟩
  clear XA_0 XA_1 XA_2 XB_0 XB_1 XB_2
  have X1 := Lib.hid ((Box.new w1 23 #[.int .i64 x1, .int .i64 y1]).below hb)
  replace hb := below_step (below_alloc w1 (.cells #[.int .i64 x1, .int .i64 y1] 23)) hb
  replace XA := Lib.hid (XA.out.below hb)
  replace XB := Lib.hid (XB.out.below hb)
  replace XC := Lib.hid (XC.out.below hb)
  replace HB := Lib.hid (below_step HB.out hb)
  clear hb C2
  have XB_0 := XB.out.at_ 0 _ rfl
  have XB_1 := XB.out.at_ 1 _ rfl
  have XB_2 := XB.out.lt
  have XC_0 := XC.out.at_ 0 _ rfl
  have XC_1 := XC.out.at_ 1 _ rfl
  have XC_2 := XC.out.lt
  go_wp2_with fail
  refine (C3.out _).mono ?_; rintro e w3 ⟨rfl, hb⟩
  clear XB_0 XB_1 XB_2 XC_0 XC_1 XC_2
  have X2 := Lib.hid ((Box.new w2 23 #[.int .i64 x1, .int .i64 y1]).below hb)
  replace hb := below_step (below_alloc w2 (.cells #[.int .i64 x1, .int .i64 y1] 23)) hb
  replace XA := Lib.hid (XA.out.below hb)
  replace XB := Lib.hid (XB.out.below hb)
  replace XC := Lib.hid (XC.out.below hb)
  replace X1 := Lib.hid (X1.out.below hb)
  replace HB := Lib.hid (below_step HB.out hb)
  clear hb C3
  have XA_0 := XA.out.at_ 0 _ rfl
  have XA_1 := XA.out.at_ 1 _ rfl
  have XA_2 := XA.out.lt
  have XB_0 := XB.out.at_ 0 _ rfl
  have XB_1 := XB.out.at_ 1 _ rfl
  have XB_2 := XB.out.lt
  go_wp2_with fail
  refine (C4.out _).mono ?_; rintro e w4 ⟨rfl, hb⟩
  clear XA_0 XA_1 XA_2 XB_0 XB_1 XB_2
  have X3 := Lib.hid ((Box.new w3 23 #[.int .i64 x3, .int .i64 y3]).below hb)
  replace hb := below_step (below_alloc w3 (.cells #[.int .i64 x3, .int .i64 y3] 23)) hb
  replace XA := Lib.hid (XA.out.below hb)
  replace XB := Lib.hid (XB.out.below hb)
  replace XC := Lib.hid (XC.out.below hb)
  replace X1 := Lib.hid (X1.out.below hb)
  replace X2 := Lib.hid (X2.out.below hb)
  replace HB := Lib.hid (below_step HB.out hb)
  clear hb C4
  have XA_0 := XA.out.at_ 0 _ rfl
  have XA_1 := XA.out.at_ 1 _ rfl
  have XA_2 := XA.out.lt
  have XB_0 := XB.out.at_ 0 _ rfl
  have XB_1 := XB.out.at_ 1 _ rfl
  have XB_2 := XB.out.lt
  go_wp2_with fail
  refine (C5.out _).mono ?_; rintro e w5 ⟨rfl, hb⟩
  clear XA_0 XA_1 XA_2 XB_0 XB_1 XB_2
  have X4 := Lib.hid ((Box.new w4 23 #[.int .i64 x4, .int .i64 y4]).below hb)
  replace hb := below_step (below_alloc w4 (.cells #[.int .i64 x4, .int .i64 y4] 23)) hb
  replace XA := Lib.hid (XA.out.below hb)
  replace XB := Lib.hid (XB.out.below hb)
  replace XC := Lib.hid (XC.out.below hb)
  replace X1 := Lib.hid (X1.out.below hb)
  replace X2 := Lib.hid (X2.out.below hb)
  replace X3 := Lib.hid (X3.out.below hb)
  replace HB := Lib.hid (below_step HB.out hb)
  clear hb C5
  have XA_0 := XA.out.at_ 0 _ rfl
  have XA_1 := XA.out.at_ 1 _ rfl
  have XA_2 := XA.out.lt
  have XC_0 := XC.out.at_ 0 _ rfl
  have XC_1 := XC.out.at_ 1 _ rfl
  have XC_2 := XC.out.lt
  go_wp2_with fail
  refine (C6.out _).mono ?_; rintro e w6 ⟨rfl, hb⟩
  clear XA_0 XA_1 XA_2 XC_0 XC_1 XC_2
  have X5 := Lib.hid ((Box.new w5 23 #[.int .i64 x4, .int .i64 y4]).below hb)
  replace hb := below_step (below_alloc w5 (.cells #[.int .i64 x4, .int .i64 y4] 23)) hb
  replace XA := Lib.hid (XA.out.below hb)
  replace XB := Lib.hid (XB.out.below hb)
  replace XC := Lib.hid (XC.out.below hb)
  replace X1 := Lib.hid (X1.out.below hb)
  replace X2 := Lib.hid (X2.out.below hb)
  replace X3 := Lib.hid (X3.out.below hb)
  replace X4 := Lib.hid (X4.out.below hb)
  replace HB := Lib.hid (below_step HB.out hb)
  clear hb C6
  have X1_0 := X1.out.at_ 0 _ rfl
  have X1_1 := X1.out.at_ 1 _ rfl
  have X1_2 := X1.out.lt
  have X2_0 := X2.out.at_ 0 _ rfl
  have X2_1 := X2.out.at_ 1 _ rfl
  have X2_2 := X2.out.lt
  have X4_0 := X4.out.at_ 0 _ rfl
  have X4_1 := X4.out.at_ 1 _ rfl
  have X4_2 := X4.out.lt
  have X5_0 := X5.out.at_ 0 _ rfl
  have X5_1 := X5.out.at_ 1 _ rfl
  have X5_2 := X5.out.lt
  have XC_0 := XC.out.at_ 0 _ rfl
  have XC_1 := XC.out.at_ 1 _ rfl
  have XC_2 := XC.out.lt
  go_wp2_with fail
  refine (C7.out _).mono ?_; rintro e w7 ⟨rfl, hb⟩
  clear X1_0 X1_1 X1_2 X2_0 X2_1 X2_2 X4_0 X4_1 X4_2 X5_0 X5_1 X5_2 XC_0 XC_1 XC_2
  have X6 := Lib.hid ((Box.new w6 23 #[.int .i64 x6, .int .i64 y6]).below hb)
  replace hb := below_step (below_alloc w6 (.cells #[.int .i64 x6, .int .i64 y6] 23)) hb
  replace XA := Lib.hid (XA.out.below hb)
  replace XB := Lib.hid (XB.out.below hb)
  replace XC := Lib.hid (XC.out.below hb)
  replace X1 := Lib.hid (X1.out.below hb)
  replace X2 := Lib.hid (X2.out.below hb)
  replace X3 := Lib.hid (X3.out.below hb)
  replace X4 := Lib.hid (X4.out.below hb)
  replace X5 := Lib.hid (X5.out.below hb)
  replace HB := Lib.hid (below_step HB.out hb)
  clear hb C7
  have XA_0 := XA.out.at_ 0 _ rfl
  have XA_1 := XA.out.at_ 1 _ rfl
  have XA_2 := XA.out.lt
  have X3_0 := X3.out.at_ 0 _ rfl
  have X3_1 := X3.out.at_ 1 _ rfl
  have X3_2 := X3.out.lt
  go_wp2_with fail
  refine (C8.out _).mono ?_; rintro e w8 ⟨rfl, hb⟩
  clear XA_0 XA_1 XA_2 X3_0 X3_1 X3_2
  have X7 := Lib.hid ((Box.new w7 23 #[.int .i64 x7, .int .i64 y7]).below hb)
  replace hb := below_step (below_alloc w7 (.cells #[.int .i64 x7, .int .i64 y7] 23)) hb
  replace XA := Lib.hid (XA.out.below hb)
  replace XB := Lib.hid (XB.out.below hb)
  replace XC := Lib.hid (XC.out.below hb)
  replace X1 := Lib.hid (X1.out.below hb)
  replace X2 := Lib.hid (X2.out.below hb)
  replace X3 := Lib.hid (X3.out.below hb)
  replace X4 := Lib.hid (X4.out.below hb)
  replace X5 := Lib.hid (X5.out.below hb)
  replace X6 := Lib.hid (X6.out.below hb)
  replace HB := Lib.hid (below_step HB.out hb)
  clear hb C8
  have X7_0 := X7.out.at_ 0 _ rfl
  have X7_1 := X7.out.at_ 1 _ rfl
  have X7_2 := X7.out.lt
  go_upto_region 11 with fail
  go_cut [113] (fun s wx => s = .bool false ∧ wx = w8.alloc (.cells #[.int .i64 x8, .int .i64 y8] 23))
  case first =>
    by_cases g1 : e1 = 0
    case neg =>
      have f0 : (e1 == 0) = false := by simpa using g1
      clear g1
      go_wp2_with fail
      go_meet; exact ⟨rfl, rfl⟩
    subst g1
    by_cases g3 : e3 = 0
    case neg =>
      have f0 : (e3 == 0) = false := by simpa using g3
      clear g3
      go_wp2_with fail
      go_meet; exact ⟨rfl, rfl⟩
    subst g3
    by_cases g7 : e7 = 0
    case neg =>
      have f0 : (e7 == 0) = false := by simpa using g7
      clear g7
      go_wp2_with fail
      go_meet; exact ⟨rfl, rfl⟩
    subst g7
    by_cases g8 : e8 = 0
    case neg =>
      have f0 : (e8 == 0) = false := by simpa using g8
      clear g8
      go_wp2_with fail
      go_meet; exact ⟨rfl, rfl⟩
    subst g8
    obtain ⟨rfl, rfl⟩ := K1.out rfl rfl rfl rfl
    go_wp2_with fail
    go_meet; exact ⟨by simp, rfl⟩
  obtain ⟨rfl, rfl⟩ := hcut
  have XA_0 := XA.out.at_ 0 _ rfl
  have XA_1 := XA.out.at_ 1 _ rfl
  have XA_2 := XA.out.lt
  have X3_0 := X3.out.at_ 0 _ rfl
  have X3_1 := X3.out.at_ 1 _ rfl
  have X3_2 := X3.out.lt
  go_wp2_with fail
  refine (C9.out _).mono ?_; rintro e w9 ⟨rfl, hb⟩
  clear X7_0 X7_1 X7_2 XA_0 XA_1 XA_2 X3_0 X3_1 X3_2
  have X8 := Lib.hid ((Box.new w8 23 #[.int .i64 x8, .int .i64 y8]).below hb)
  replace hb := below_step (below_alloc w8 (.cells #[.int .i64 x8, .int .i64 y8] 23)) hb
  replace XA := Lib.hid (XA.out.below hb)
  replace XB := Lib.hid (XB.out.below hb)
  replace XC := Lib.hid (XC.out.below hb)
  replace X1 := Lib.hid (X1.out.below hb)
  replace X2 := Lib.hid (X2.out.below hb)
  replace X3 := Lib.hid (X3.out.below hb)
  replace X4 := Lib.hid (X4.out.below hb)
  replace X5 := Lib.hid (X5.out.below hb)
  replace X6 := Lib.hid (X6.out.below hb)
  replace X7 := Lib.hid (X7.out.below hb)
  replace HB := Lib.hid (below_step HB.out hb)
  clear hb C9
  have X4_0 := X4.out.at_ 0 _ rfl
  have X4_1 := X4.out.at_ 1 _ rfl
  have X4_2 := X4.out.lt
  have X6_0 := X6.out.at_ 0 _ rfl
  have X6_1 := X6.out.at_ 1 _ rfl
  have X6_2 := X6.out.lt
  go_wp2_with fail
  refine (C10.out _).mono ?_; rintro e w10 ⟨rfl, hb⟩
  clear X4_0 X4_1 X4_2 X6_0 X6_1 X6_2
  have X9 := Lib.hid ((Box.new w9 23 #[.int .i64 x9, .int .i64 y9]).below hb)
  replace hb := below_step (below_alloc w9 (.cells #[.int .i64 x9, .int .i64 y9] 23)) hb
  replace XA := Lib.hid (XA.out.below hb)
  replace XB := Lib.hid (XB.out.below hb)
  replace XC := Lib.hid (XC.out.below hb)
  replace X1 := Lib.hid (X1.out.below hb)
  replace X2 := Lib.hid (X2.out.below hb)
  replace X3 := Lib.hid (X3.out.below hb)
  replace X4 := Lib.hid (X4.out.below hb)
  replace X5 := Lib.hid (X5.out.below hb)
  replace X6 := Lib.hid (X6.out.below hb)
  replace X7 := Lib.hid (X7.out.below hb)
  replace X8 := Lib.hid (X8.out.below hb)
  replace HB := Lib.hid (below_step HB.out hb)
  clear hb C10
  have X9_0 := X9.out.at_ 0 _ rfl
  have X9_1 := X9.out.at_ 1 _ rfl
  have X9_2 := X9.out.lt
  go_upto_region 15 with fail
  go_cut [148] (fun s wx => s = .bool false ∧ wx = w10.alloc (.cells #[.int .i64 x10, .int .i64 y10] 23))
  case first =>
    by_cases g3 : e3 = 0
    case neg =>
      have f0 : (e3 == 0) = false := by simpa using g3
      clear g3
      go_wp2_with fail
      go_meet; exact ⟨rfl, rfl⟩
    subst g3
    by_cases g4 : e4 = 0
    case neg =>
      have f0 : (e4 == 0) = false := by simpa using g4
      clear g4
      go_wp2_with fail
      go_meet; exact ⟨rfl, rfl⟩
    subst g4
    by_cases g6 : e6 = 0
    case neg =>
      have f0 : (e6 == 0) = false := by simpa using g6
      clear g6
      go_wp2_with fail
      go_meet; exact ⟨rfl, rfl⟩
    subst g6
    by_cases g9 : e9 = 0
    case neg =>
      have f0 : (e9 == 0) = false := by simpa using g9
      clear g9
      go_wp2_with fail
      go_meet; exact ⟨rfl, rfl⟩
    subst g9
    by_cases g10 : e10 = 0
    case neg =>
      have f0 : (e10 == 0) = false := by simpa using g10
      clear g10
      go_wp2_with fail
      go_meet; exact ⟨rfl, rfl⟩
    subst g10
    obtain ⟨rfl, rfl⟩ := K2.out rfl rfl rfl rfl rfl
    go_wp2_with fail
    go_meet; exact ⟨by simp, rfl⟩
  obtain ⟨rfl, rfl⟩ := hcut
  have XA_0 := XA.out.at_ 0 _ rfl
  have XA_1 := XA.out.at_ 1 _ rfl
  have XA_2 := XA.out.lt
  go_wp2_with fail
  refine (C11.out _).mono ?_; rintro e w11 ⟨rfl, hb⟩
  clear X9_0 X9_1 X9_2 XA_0 XA_1 XA_2
  replace HB := Lib.hid (below_step HB.out (below_step (below_alloc w10 (.cells #[.int .i64 x10, .int .i64 y10] 23)) hb))
  clear hb C11 XA XB XC X1 X2 X3 X4 X5 X6 X7 X8 X9
  rcases KD.out with h0 | ⟨rfl, rfl, rfl⟩
  · have f0 : (e11 == 0) = false := by simpa using h0
    have f1 : (e11 != 0) = true := by simpa using h0
    clear h0 KD
    go_wp2_with fail
    have XO := Lib.hid (Box.new w11 23 #[.int .i64 x11, .int .i64 y11])
    replace HB := Lib.hid (below_step HB.out (below_alloc w11 (.cells #[.int .i64 x11, .int .i64 y11] 23)))
    generalize w11.alloc (.cells #[.int .i64 x11, .int .i64 y11] 23) = w12 at *
    have HT2 := Lib.hid (HT.out.below HB.out)
    have AW := Lib.hid (fun p : Lat w12 => awake05 p.w (HT2.out.below p.h))
    have LO := Lib.hid (fun p : Lat w12 => lawOf 1 1 p.w)
    have l0 := XO.out.lat 0 _ rfl
    have l1 := XO.out.lat 1 _ rfl
    refine wp_region_lat (by kernel_rfl) (by kernel_rfl) ?_
    repeat (go_big_quiet_step (first | (with_reducible exact lat_call (LO.out _)) | (with_reducible exact lat_call (AW.out _))))
    refine wpQuiet_nil ?_; intro w13 hb
    replace HB := Lib.hid (below_step HB.out hb)
    clear hb l0 l1
    go_wp2_with fail
    go_ret
    exact ⟨rfl, HB.out⟩
  · clear KD
    go_wp2_with fail
    have XO := Lib.hid (Box.new w11 23 #[.int .i64 1, .int .i64 1])
    replace HB := Lib.hid (below_step HB.out (below_alloc w11 (.cells #[.int .i64 1, .int .i64 1] 23)))
    generalize w11.alloc (.cells #[.int .i64 1, .int .i64 1] 23) = w12 at *
    have HT2 := Lib.hid (HT.out.below HB.out)
    have AW := Lib.hid (fun p : Lat w12 => awake05 p.w (HT2.out.below p.h))
    have LO := Lib.hid (fun p : Lat w12 => lawOf 1 1 p.w)
    have l0 := XO.out.lat 0 _ rfl
    have l1 := XO.out.lat 1 _ rfl
    refine wp_region_lat (by kernel_rfl) (by kernel_rfl) ?_
    repeat (go_big_quiet_step (first | (with_reducible exact lat_call (LO.out _)) | (with_reducible exact lat_call (AW.out _))))
    refine wpQuiet_nil ?_; intro w13 hb
    replace HB := Lib.hid (below_step HB.out hb)
    clear hb l0 l1
    go_wp2_with fail
    go_ret
    exact ⟨rfl, HB.out⟩

end Go.Proofs.YtbaalbmchhgmnaaDoor
