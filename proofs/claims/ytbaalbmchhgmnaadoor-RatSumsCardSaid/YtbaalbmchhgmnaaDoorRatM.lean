/-
  The laws RatAdds and RatMuls: the walks.
-/
import Derived.Test.YtbaalbmchhgmnaaDoorRatL
namespace Go.Proofs.YtbaalbmchhgmnaaDoor
open Go.RowKit Go.WideShapes Go.ChangeShapes Go.Deep
set_option linter.unusedVariables false
set_option linter.unusedSimpArgs false

theorem mul_nat_pos {ad bd : Int} (h1 : 1 ≤ ad) (h2 : 1 ≤ bd) : 0 < (ad * bd).natAbs := by rw [Int.natAbs_mul]; exact Nat.mul_pos (by omega) (by omega)
theorem mul_nat_eq {ad bd : Int} (h1 : 1 ≤ ad) (h2 : 1 ≤ bd) : (((ad * bd).natAbs : Nat) : Int) = ad * bd := by
  have := Int.mul_pos (show 0 < ad by omega) (show 0 < bd by omega); omega
theorem addR_ok {an ad bn bd n d : Int} (h : addR an ad bn bd = (n, d, 0)) : ratV an ad = true ∧ ratV bn bd = true ∧ ratV n d = true ∧ I64 n ∧ I64 d ∧ (an * bd + bn * ad) * d = n * (ad * bd) := by
  unfold addR at h
  by_cases hv : ratV an ad = true ∧ ratV bn bd = true
  · rw [if_pos hv] at h
    have g1 := (ratV_iff.1 hv.1).1
    have g2 := (ratV_iff.1 hv.2).1
    obtain ⟨h1, h2, h3, h4, h5⟩ := ratQ_ok (mul_nat_pos g1 g2) h
    rw [mul_nat_eq g1 g2] at h5
    exact ⟨hv.1, hv.2, ratV_iff.2 ⟨h1, h2⟩, h3, h4, h5⟩
  · rw [if_neg hv] at h; cases h
theorem sub_add {an ad bn bd n d : Int} (h1 : I64 an) (h2 : I64 ad) (h : addR an ad bn bd = (n, d, 0)) : subR n d bn bd = (an, ad, 0) := by
  obtain ⟨va, vb, vn, _, _, he⟩ := addR_ok h
  obtain ⟨a1, a2⟩ := ratV_iff.1 va
  obtain ⟨b1, b2⟩ := ratV_iff.1 vb
  obtain ⟨d1, d2⟩ := ratV_iff.1 vn
  unfold subR
  rw [if_pos ⟨vn, vb⟩]
  refine ratQ_mk (mul_nat_pos d1 b1) a1 a2 h1 h2 ?_
  rw [mul_nat_eq d1 b1]
  grind
theorem mulR_ok {an ad bn bd n d : Int} (h : mulR an ad bn bd = (n, d, 0)) : ratV an ad = true ∧ ratV bn bd = true ∧ ratV n d = true ∧ I64 n ∧ I64 d ∧ (an * bn) * d = n * (ad * bd) := by
  unfold mulR at h
  by_cases hv : ratV an ad = true ∧ ratV bn bd = true
  · rw [if_pos hv] at h
    have g1 := (ratV_iff.1 hv.1).1
    have g2 := (ratV_iff.1 hv.2).1
    obtain ⟨h1, h2, h3, h4, h5⟩ := ratQ_ok (mul_nat_pos g1 g2) h
    rw [mul_nat_eq g1 g2] at h5
    exact ⟨hv.1, hv.2, ratV_iff.2 ⟨h1, h2⟩, h3, h4, h5⟩
  · rw [if_neg hv] at h; cases h
theorem divR_ratQ {n d bn bd : Int} (vn : ratV n d = true) (vb : ratV bn bd = true) (h0 : bn ≠ 0) : divR n d bn bd = ratQ (if bn < 0 then -(n * bd) else n * bd) (d.natAbs * bn.natAbs) := by
  obtain ⟨b1, _⟩ := ratV_iff.1 vb
  unfold divR
  rw [if_pos ⟨vn, vb⟩, if_neg h0]
  refine quoR_ratQ ?_ fun hne => ?_
  · split
    · rw [Int.natAbs_neg, Int.natAbs_mul]
    · rw [Int.natAbs_mul]
  · have hn : n ≠ 0 := fun h => hne (by rw [h]; simp)
    unfold sgn
    by_cases hb : bn < 0
    · rw [if_pos hb, decide_eq_true hb]
      rcases Int.lt_or_gt_of_ne hn with h | h
      · have := Int.mul_neg_of_neg_of_pos h (show 0 < bd by omega)
        rw [decide_eq_true h, decide_eq_false (by omega)]; rfl
      · have := Int.mul_pos h (show 0 < bd by omega)
        rw [decide_eq_false (by omega), decide_eq_true (by omega)]; rfl
    · rw [if_neg hb, decide_eq_false hb]
      rcases Int.lt_or_gt_of_ne hn with h | h
      · have := Int.mul_neg_of_neg_of_pos h (show 0 < bd by omega)
        rw [decide_eq_true h, decide_eq_true (by omega)]; rfl
      · have := Int.mul_pos h (show 0 < bd by omega)
        rw [decide_eq_false (by omega), decide_eq_false (by omega)]; rfl
theorem div_mul {an ad bn bd n d : Int} (h1 : I64 an) (h2 : I64 ad) (h : mulR an ad bn bd = (n, d, 0)) (h0 : bn ≠ 0) : divR n d bn bd = (an, ad, 0) := by
  obtain ⟨va, vb, vn, _, _, he⟩ := mulR_ok h
  obtain ⟨a1, a2⟩ := ratV_iff.1 va
  obtain ⟨b1, b2⟩ := ratV_iff.1 vb
  obtain ⟨d1, d2⟩ := ratV_iff.1 vn
  rw [divR_ratQ vn vb h0]
  refine ratQ_mk (Nat.mul_pos (by omega) (by omega)) a1 a2 h1 h2 ?_
  rw [Int.natCast_mul, show ((d.natAbs : Nat) : Int) = d by omega]
  by_cases hb : bn < 0
  · rw [if_pos hb, show ((bn.natAbs : Nat) : Int) = -bn by omega]; grind
  · rw [if_neg hb, show ((bn.natAbs : Nat) : Int) = bn by omega]; grind

set_option maxRecDepth 100000 in
set_option maxHeartbeats 8000000 in
theorem walkRatAdds {H : Type} {enc : TypeId × Value → H} {base : Nat} (v : Value) (d : DataW H) (p : List MemPlace) {w : World} (h : DataW.Trod enc Tryd.prog w 0 (fun _ => true) true 23 v d p) (hv : Value.okWide Tryd.prog w .any base 23 v)
    (v' : Value) (d' : DataW H) (p' : List MemPlace) (h' : DataW.Trod enc Tryd.prog w 0 (fun _ => true) true 23 v' d' p') (hv' : Value.okWide Tryd.prog w .any base 23 v') (ht : Tab w) :
    Calls Tryd.prog 5 #[v, v'] w fun e w' => e = .returned (.bool true) ∧ Below w.heap.size w w' := by
  obtain ⟨an, ad, rfl, h1, h2⟩ := arg_rat h hv
  obtain ⟨bn, bd, rfl, h3, h4⟩ := arg_rat h' hv'
  have HT := Lib.hid ht
  have C1 := Lib.hid (fun w => ratAdd an ad bn bd w h1 h2 h3 h4)
  have C2 := Lib.hid (fun w => refAdd05 an ad bn bd w h1 h2 h3 h4)
  have C3 := Lib.hid (fun w => ratSub an ad bn bd w h1 h2 h3 h4)
  have C4 := Lib.hid (fun w => refSub05 an ad bn bd w h1 h2 h3 h4)
  have key : ∀ x y e, addR an ad bn bd = (x, y, e) → e = 0 → ∀ w, Calls Tryd.prog 19 #[.agg #[.int .i64 x, .int .i64 y], .agg #[.int .i64 bn, .int .i64 bd]] w fun e w' => e = .returned (.tuple #[.agg #[.int .i64 an, .int .i64 ad], .int .i64 0]) ∧ Below w.heap.size w w' := fun x y e h he w => by
    subst he
    obtain ⟨_, _, _, k3, k4, _⟩ := addR_ok h
    have := ratSub x y bn bd w k3 k4 h3 h4
    rwa [sub_add h1 h2 h] at this
  obtain ⟨⟨x, y, er⟩, hm⟩ : ∃ r, r = addR an ad bn bd := ⟨_, rfl⟩
  obtain ⟨⟨u, z, ev⟩, hm2⟩ : ∃ r, r = subR an ad bn bd := ⟨_, rfl⟩
  have KEY := Lib.hid (key x y er hm.symm)
  rw [← hm] at C1 C2
  rw [← hm2] at C3 C4
  simp only [ret3r] at C1 C2 C3 C4
  clear key hm hm2 h1 h2 h3 h4 ht h hv h' hv'
  by_cases h0 : er = 0
  · subst h0
    have CB := Lib.hid (KEY.out rfl)
    clear KEY
    go_enter Tryd.func5, Tryd.ntmps5
    go_wp2_with fail
    have XA := Lib.hid ((Box.new w 23 #[.int .i64 an, .int .i64 ad]).below (below_alloc _ (.cells #[.int .i64 bn, .int .i64 bd] 23)))
    have XB := Lib.hid (box1 w (.cells #[.int .i64 an, .int .i64 ad] 23) 23 #[.int .i64 bn, .int .i64 bd])
    have HB := Lib.hid (below_step (below_alloc w (.cells #[.int .i64 an, .int .i64 ad] 23)) (below_alloc _ (.cells #[.int .i64 bn, .int .i64 bd] 23)))
    refine (C1.out _).mono ?_; rintro e w1 ⟨rfl, hb⟩
    replace XA := Lib.hid (XA.out.below hb)
    replace XB := Lib.hid (XB.out.below hb)
    replace HB := Lib.hid (below_step HB.out hb)
    clear hb
    have XA_0 := XA.out.at_ 0 _ rfl
    have XA_1 := XA.out.at_ 1 _ rfl
    have XA_2 := XA.out.lt
    have XB_0 := XB.out.at_ 0 _ rfl
    have XB_1 := XB.out.at_ 1 _ rfl
    have XB_2 := XB.out.lt
    go_wp2_with fail
    refine (C2.out _).mono ?_; rintro e w2 ⟨rfl, hb⟩
    clear XA_0 XA_1 XA_2 XB_0 XB_1 XB_2
    have X1 := Lib.hid ((Box.new w1 23 #[.int .i64 x, .int .i64 y]).below hb)
    replace hb := below_step (below_alloc w1 (.cells #[.int .i64 x, .int .i64 y] 23)) hb
    replace XA := Lib.hid (XA.out.below hb)
    replace XB := Lib.hid (XB.out.below hb)
    replace HB := Lib.hid (below_step HB.out hb)
    clear hb
    have XA_0 := XA.out.at_ 0 _ rfl
    have XA_1 := XA.out.at_ 1 _ rfl
    have XA_2 := XA.out.lt
    have XB_0 := XB.out.at_ 0 _ rfl
    have XB_1 := XB.out.at_ 1 _ rfl
    have XB_2 := XB.out.lt
    have X1_0 := X1.out.at_ 0 _ rfl
    have X1_1 := X1.out.at_ 1 _ rfl
    have X1_2 := X1.out.lt
    go_wp2_with fail
    refine (C3.out _).mono ?_; rintro e w3 ⟨rfl, hb⟩
    clear XA_0 XA_1 XA_2 XB_0 XB_1 XB_2 X1_0 X1_1 X1_2
    have X2 := Lib.hid ((Box.new w2 23 #[.int .i64 x, .int .i64 y]).below hb)
    replace hb := below_step (below_alloc w2 (.cells #[.int .i64 x, .int .i64 y] 23)) hb
    replace XA := Lib.hid (XA.out.below hb)
    replace XB := Lib.hid (XB.out.below hb)
    replace X1 := Lib.hid (X1.out.below hb)
    replace HB := Lib.hid (below_step HB.out hb)
    clear hb
    have XA_0 := XA.out.at_ 0 _ rfl
    have XA_1 := XA.out.at_ 1 _ rfl
    have XA_2 := XA.out.lt
    have XB_0 := XB.out.at_ 0 _ rfl
    have XB_1 := XB.out.at_ 1 _ rfl
    have XB_2 := XB.out.lt
    have X1_0 := X1.out.at_ 0 _ rfl
    have X1_1 := X1.out.at_ 1 _ rfl
    have X1_2 := X1.out.lt
    have X2_0 := X2.out.at_ 0 _ rfl
    have X2_1 := X2.out.at_ 1 _ rfl
    have X2_2 := X2.out.lt
    go_wp2_with fail
    refine (C4.out _).mono ?_; rintro e w4 ⟨rfl, hb⟩
    clear XA_0 XA_1 XA_2 XB_0 XB_1 XB_2 X1_0 X1_1 X1_2 X2_0 X2_1 X2_2
    have X3 := Lib.hid ((Box.new w3 23 #[.int .i64 u, .int .i64 z]).below hb)
    replace hb := below_step (below_alloc w3 (.cells #[.int .i64 u, .int .i64 z] 23)) hb
    replace XA := Lib.hid (XA.out.below hb)
    replace XB := Lib.hid (XB.out.below hb)
    replace X1 := Lib.hid (X1.out.below hb)
    replace X2 := Lib.hid (X2.out.below hb)
    replace HB := Lib.hid (below_step HB.out hb)
    clear hb
    have XA_0 := XA.out.at_ 0 _ rfl
    have XA_1 := XA.out.at_ 1 _ rfl
    have XA_2 := XA.out.lt
    have XB_0 := XB.out.at_ 0 _ rfl
    have XB_1 := XB.out.at_ 1 _ rfl
    have XB_2 := XB.out.lt
    have X1_0 := X1.out.at_ 0 _ rfl
    have X1_1 := X1.out.at_ 1 _ rfl
    have X1_2 := X1.out.lt
    have X2_0 := X2.out.at_ 0 _ rfl
    have X2_1 := X2.out.at_ 1 _ rfl
    have X2_2 := X2.out.lt
    have X3_0 := X3.out.at_ 0 _ rfl
    have X3_1 := X3.out.at_ 1 _ rfl
    have X3_2 := X3.out.lt
    go_wp2_with fail
    refine (CB.out _).mono ?_; rintro e w5 ⟨rfl, hb⟩
    clear XA_0 XA_1 XA_2 XB_0 XB_1 XB_2 X1_0 X1_1 X1_2 X2_0 X2_1 X2_2 X3_0 X3_1 X3_2
    have X4 := Lib.hid ((Box.new w4 23 #[.int .i64 u, .int .i64 z]).below hb)
    replace hb := below_step (below_alloc w4 (.cells #[.int .i64 u, .int .i64 z] 23)) hb
    replace XA := Lib.hid (XA.out.below hb)
    replace XB := Lib.hid (XB.out.below hb)
    replace X1 := Lib.hid (X1.out.below hb)
    replace X2 := Lib.hid (X2.out.below hb)
    replace X3 := Lib.hid (X3.out.below hb)
    replace HB := Lib.hid (below_step HB.out hb)
    clear hb
    have XA_0 := XA.out.at_ 0 _ rfl
    have XA_1 := XA.out.at_ 1 _ rfl
    have XA_2 := XA.out.lt
    have XB_0 := XB.out.at_ 0 _ rfl
    have XB_1 := XB.out.at_ 1 _ rfl
    have XB_2 := XB.out.lt
    have X1_0 := X1.out.at_ 0 _ rfl
    have X1_1 := X1.out.at_ 1 _ rfl
    have X1_2 := X1.out.lt
    have X2_0 := X2.out.at_ 0 _ rfl
    have X2_1 := X2.out.at_ 1 _ rfl
    have X2_2 := X2.out.lt
    have X3_0 := X3.out.at_ 0 _ rfl
    have X3_1 := X3.out.at_ 1 _ rfl
    have X3_2 := X3.out.lt
    have X4_0 := X4.out.at_ 0 _ rfl
    have X4_1 := X4.out.at_ 1 _ rfl
    have X4_2 := X4.out.lt
    go_wp2_with fail
    refine (awake05 _ ((HT.out.below HB.out).below (below_alloc _ _))).mono ?_; rintro e w9 ⟨rfl, hb⟩
    replace HB := Lib.hid (below_step HB.out (below_step (below_alloc w5 (.cells #[.int .i64 an, .int .i64 ad] 23)) hb))
    clear hb XA_0 XA_1 XA_2 XB_0 XB_1 XB_2 X1_0 X1_1 X1_2 X2_0 X2_1 X2_2 X3_0 X3_1 X3_2 X4_0 X4_1 X4_2
    go_wp2_with fail
    go_ret
    exact ⟨rfl, HB.out⟩
  · have f0 : (er == 0) = false := by simpa using h0
    clear h0 KEY
    go_enter Tryd.func5, Tryd.ntmps5
    go_wp2_with fail
    have XA := Lib.hid ((Box.new w 23 #[.int .i64 an, .int .i64 ad]).below (below_alloc _ (.cells #[.int .i64 bn, .int .i64 bd] 23)))
    have XB := Lib.hid (box1 w (.cells #[.int .i64 an, .int .i64 ad] 23) 23 #[.int .i64 bn, .int .i64 bd])
    have HB := Lib.hid (below_step (below_alloc w (.cells #[.int .i64 an, .int .i64 ad] 23)) (below_alloc _ (.cells #[.int .i64 bn, .int .i64 bd] 23)))
    refine (C1.out _).mono ?_; rintro e w1 ⟨rfl, hb⟩
    replace XA := Lib.hid (XA.out.below hb)
    replace XB := Lib.hid (XB.out.below hb)
    replace HB := Lib.hid (below_step HB.out hb)
    clear hb
    have XA_0 := XA.out.at_ 0 _ rfl
    have XA_1 := XA.out.at_ 1 _ rfl
    have XA_2 := XA.out.lt
    have XB_0 := XB.out.at_ 0 _ rfl
    have XB_1 := XB.out.at_ 1 _ rfl
    have XB_2 := XB.out.lt
    go_wp2_with fail
    refine (C2.out _).mono ?_; rintro e w2 ⟨rfl, hb⟩
    clear XA_0 XA_1 XA_2 XB_0 XB_1 XB_2
    have X1 := Lib.hid ((Box.new w1 23 #[.int .i64 x, .int .i64 y]).below hb)
    replace hb := below_step (below_alloc w1 (.cells #[.int .i64 x, .int .i64 y] 23)) hb
    replace XA := Lib.hid (XA.out.below hb)
    replace XB := Lib.hid (XB.out.below hb)
    replace HB := Lib.hid (below_step HB.out hb)
    clear hb
    have XA_0 := XA.out.at_ 0 _ rfl
    have XA_1 := XA.out.at_ 1 _ rfl
    have XA_2 := XA.out.lt
    have XB_0 := XB.out.at_ 0 _ rfl
    have XB_1 := XB.out.at_ 1 _ rfl
    have XB_2 := XB.out.lt
    have X1_0 := X1.out.at_ 0 _ rfl
    have X1_1 := X1.out.at_ 1 _ rfl
    have X1_2 := X1.out.lt
    go_wp2_with fail
    refine (C3.out _).mono ?_; rintro e w3 ⟨rfl, hb⟩
    clear XA_0 XA_1 XA_2 XB_0 XB_1 XB_2 X1_0 X1_1 X1_2
    have X2 := Lib.hid ((Box.new w2 23 #[.int .i64 x, .int .i64 y]).below hb)
    replace hb := below_step (below_alloc w2 (.cells #[.int .i64 x, .int .i64 y] 23)) hb
    replace XA := Lib.hid (XA.out.below hb)
    replace XB := Lib.hid (XB.out.below hb)
    replace X1 := Lib.hid (X1.out.below hb)
    replace HB := Lib.hid (below_step HB.out hb)
    clear hb
    have XA_0 := XA.out.at_ 0 _ rfl
    have XA_1 := XA.out.at_ 1 _ rfl
    have XA_2 := XA.out.lt
    have XB_0 := XB.out.at_ 0 _ rfl
    have XB_1 := XB.out.at_ 1 _ rfl
    have XB_2 := XB.out.lt
    have X1_0 := X1.out.at_ 0 _ rfl
    have X1_1 := X1.out.at_ 1 _ rfl
    have X1_2 := X1.out.lt
    have X2_0 := X2.out.at_ 0 _ rfl
    have X2_1 := X2.out.at_ 1 _ rfl
    have X2_2 := X2.out.lt
    go_wp2_with fail
    refine (C4.out _).mono ?_; rintro e w4 ⟨rfl, hb⟩
    clear XA_0 XA_1 XA_2 XB_0 XB_1 XB_2 X1_0 X1_1 X1_2 X2_0 X2_1 X2_2
    have X3 := Lib.hid ((Box.new w3 23 #[.int .i64 u, .int .i64 z]).below hb)
    replace hb := below_step (below_alloc w3 (.cells #[.int .i64 u, .int .i64 z] 23)) hb
    replace XA := Lib.hid (XA.out.below hb)
    replace XB := Lib.hid (XB.out.below hb)
    replace X1 := Lib.hid (X1.out.below hb)
    replace X2 := Lib.hid (X2.out.below hb)
    replace HB := Lib.hid (below_step HB.out hb)
    clear hb
    have XA_0 := XA.out.at_ 0 _ rfl
    have XA_1 := XA.out.at_ 1 _ rfl
    have XA_2 := XA.out.lt
    have XB_0 := XB.out.at_ 0 _ rfl
    have XB_1 := XB.out.at_ 1 _ rfl
    have XB_2 := XB.out.lt
    have X1_0 := X1.out.at_ 0 _ rfl
    have X1_1 := X1.out.at_ 1 _ rfl
    have X1_2 := X1.out.lt
    have X2_0 := X2.out.at_ 0 _ rfl
    have X2_1 := X2.out.at_ 1 _ rfl
    have X2_2 := X2.out.lt
    have X3_0 := X3.out.at_ 0 _ rfl
    have X3_1 := X3.out.at_ 1 _ rfl
    have X3_2 := X3.out.lt
    go_wp2_with fail
    refine (awake05 _ ((HT.out.below HB.out).below (below_alloc _ _))).mono ?_; rintro e w9 ⟨rfl, hb⟩
    replace HB := Lib.hid (below_step HB.out (below_step (below_alloc w4 (.cells #[.int .i64 u, .int .i64 z] 23)) hb))
    clear hb XA_0 XA_1 XA_2 XB_0 XB_1 XB_2 X1_0 X1_1 X1_2 X2_0 X2_1 X2_2 X3_0 X3_1 X3_2
    go_wp2_with fail
    go_ret
    exact ⟨rfl, HB.out⟩

set_option maxRecDepth 100000 in
set_option maxHeartbeats 8000000 in
theorem walkRatMuls {H : Type} {enc : TypeId × Value → H} {base : Nat} (v : Value) (d : DataW H) (p : List MemPlace) {w : World} (h : DataW.Trod enc Tryd.prog w 0 (fun _ => true) true 23 v d p) (hv : Value.okWide Tryd.prog w .any base 23 v)
    (v' : Value) (d' : DataW H) (p' : List MemPlace) (h' : DataW.Trod enc Tryd.prog w 0 (fun _ => true) true 23 v' d' p') (hv' : Value.okWide Tryd.prog w .any base 23 v') (ht : Tab w) :
    Calls Tryd.prog 6 #[v, v'] w fun e w' => e = .returned (.bool true) ∧ Below w.heap.size w w' := by
  obtain ⟨an, ad, rfl, h1, h2⟩ := arg_rat h hv
  obtain ⟨bn, bd, rfl, h3, h4⟩ := arg_rat h' hv'
  have HT := Lib.hid ht
  have C1 := Lib.hid (fun w => ratMul an ad bn bd w h1 h2 h3 h4)
  have C2 := Lib.hid (fun w => refMul05 an ad bn bd w h1 h2 h3 h4)
  have C3 := Lib.hid (fun w => ratDiv an ad bn bd w h1 h2 h3 h4)
  have C4 := Lib.hid (fun w => refDiv05 an ad bn bd w h1 h2 h3 h4)
  have key : ∀ x y e, mulR an ad bn bd = (x, y, e) → e = 0 → bn ≠ 0 → ∀ w, Calls Tryd.prog 23 #[.agg #[.int .i64 x, .int .i64 y], .agg #[.int .i64 bn, .int .i64 bd]] w fun e w' => e = .returned (.tuple #[.agg #[.int .i64 an, .int .i64 ad], .int .i64 0]) ∧ Below w.heap.size w w' := fun x y e h he hb0 w => by
    subst he
    obtain ⟨_, _, _, k3, k4, _⟩ := mulR_ok h
    have := ratDiv x y bn bd w k3 k4 h3 h4
    rwa [div_mul h1 h2 h hb0] at this
  obtain ⟨⟨x, y, er⟩, hm⟩ : ∃ r, r = mulR an ad bn bd := ⟨_, rfl⟩
  obtain ⟨⟨u, z, ev⟩, hm2⟩ : ∃ r, r = divR an ad bn bd := ⟨_, rfl⟩
  have KEY := Lib.hid (key x y er hm.symm)
  rw [← hm] at C1 C2
  rw [← hm2] at C3 C4
  simp only [ret3r] at C1 C2 C3 C4
  clear key hm hm2 h1 h2 h3 h4 ht h hv h' hv'
  by_cases h0 : er = 0
  · subst h0
    by_cases hb0 : bn = 0
    · have f1 : (bn == 0) = true := by simpa using hb0
      clear hb0 KEY
      go_enter Tryd.func6, Tryd.ntmps6
      go_wp2_with fail
      have XA := Lib.hid ((Box.new w 23 #[.int .i64 an, .int .i64 ad]).below (below_alloc _ (.cells #[.int .i64 bn, .int .i64 bd] 23)))
      have XB := Lib.hid (box1 w (.cells #[.int .i64 an, .int .i64 ad] 23) 23 #[.int .i64 bn, .int .i64 bd])
      have HB := Lib.hid (below_step (below_alloc w (.cells #[.int .i64 an, .int .i64 ad] 23)) (below_alloc _ (.cells #[.int .i64 bn, .int .i64 bd] 23)))
      refine (C1.out _).mono ?_; rintro e w1 ⟨rfl, hb⟩
      replace XA := Lib.hid (XA.out.below hb)
      replace XB := Lib.hid (XB.out.below hb)
      replace HB := Lib.hid (below_step HB.out hb)
      clear hb
      have XA_0 := XA.out.at_ 0 _ rfl
      have XA_1 := XA.out.at_ 1 _ rfl
      have XA_2 := XA.out.lt
      have XB_0 := XB.out.at_ 0 _ rfl
      have XB_1 := XB.out.at_ 1 _ rfl
      have XB_2 := XB.out.lt
      go_wp2_with fail
      refine (C2.out _).mono ?_; rintro e w2 ⟨rfl, hb⟩
      clear XA_0 XA_1 XA_2 XB_0 XB_1 XB_2
      have X1 := Lib.hid ((Box.new w1 23 #[.int .i64 x, .int .i64 y]).below hb)
      replace hb := below_step (below_alloc w1 (.cells #[.int .i64 x, .int .i64 y] 23)) hb
      replace XA := Lib.hid (XA.out.below hb)
      replace XB := Lib.hid (XB.out.below hb)
      replace HB := Lib.hid (below_step HB.out hb)
      clear hb
      have XA_0 := XA.out.at_ 0 _ rfl
      have XA_1 := XA.out.at_ 1 _ rfl
      have XA_2 := XA.out.lt
      have XB_0 := XB.out.at_ 0 _ rfl
      have XB_1 := XB.out.at_ 1 _ rfl
      have XB_2 := XB.out.lt
      have X1_0 := X1.out.at_ 0 _ rfl
      have X1_1 := X1.out.at_ 1 _ rfl
      have X1_2 := X1.out.lt
      go_wp2_with fail
      refine (C3.out _).mono ?_; rintro e w3 ⟨rfl, hb⟩
      clear XA_0 XA_1 XA_2 XB_0 XB_1 XB_2 X1_0 X1_1 X1_2
      have X2 := Lib.hid ((Box.new w2 23 #[.int .i64 x, .int .i64 y]).below hb)
      replace hb := below_step (below_alloc w2 (.cells #[.int .i64 x, .int .i64 y] 23)) hb
      replace XA := Lib.hid (XA.out.below hb)
      replace XB := Lib.hid (XB.out.below hb)
      replace X1 := Lib.hid (X1.out.below hb)
      replace HB := Lib.hid (below_step HB.out hb)
      clear hb
      have XA_0 := XA.out.at_ 0 _ rfl
      have XA_1 := XA.out.at_ 1 _ rfl
      have XA_2 := XA.out.lt
      have XB_0 := XB.out.at_ 0 _ rfl
      have XB_1 := XB.out.at_ 1 _ rfl
      have XB_2 := XB.out.lt
      have X1_0 := X1.out.at_ 0 _ rfl
      have X1_1 := X1.out.at_ 1 _ rfl
      have X1_2 := X1.out.lt
      have X2_0 := X2.out.at_ 0 _ rfl
      have X2_1 := X2.out.at_ 1 _ rfl
      have X2_2 := X2.out.lt
      go_wp2_with fail
      refine (C4.out _).mono ?_; rintro e w4 ⟨rfl, hb⟩
      clear XA_0 XA_1 XA_2 XB_0 XB_1 XB_2 X1_0 X1_1 X1_2 X2_0 X2_1 X2_2
      have X3 := Lib.hid ((Box.new w3 23 #[.int .i64 u, .int .i64 z]).below hb)
      replace hb := below_step (below_alloc w3 (.cells #[.int .i64 u, .int .i64 z] 23)) hb
      replace XA := Lib.hid (XA.out.below hb)
      replace XB := Lib.hid (XB.out.below hb)
      replace X1 := Lib.hid (X1.out.below hb)
      replace X2 := Lib.hid (X2.out.below hb)
      replace HB := Lib.hid (below_step HB.out hb)
      clear hb
      have XA_0 := XA.out.at_ 0 _ rfl
      have XA_1 := XA.out.at_ 1 _ rfl
      have XA_2 := XA.out.lt
      have XB_0 := XB.out.at_ 0 _ rfl
      have XB_1 := XB.out.at_ 1 _ rfl
      have XB_2 := XB.out.lt
      have X1_0 := X1.out.at_ 0 _ rfl
      have X1_1 := X1.out.at_ 1 _ rfl
      have X1_2 := X1.out.lt
      have X2_0 := X2.out.at_ 0 _ rfl
      have X2_1 := X2.out.at_ 1 _ rfl
      have X2_2 := X2.out.lt
      have X3_0 := X3.out.at_ 0 _ rfl
      have X3_1 := X3.out.at_ 1 _ rfl
      have X3_2 := X3.out.lt
      go_wp2_with fail
      refine (awake05 _ ((HT.out.below HB.out).below (below_alloc _ _))).mono ?_; rintro e w9 ⟨rfl, hb⟩
      replace HB := Lib.hid (below_step HB.out (below_step (below_alloc w4 (.cells #[.int .i64 u, .int .i64 z] 23)) hb))
      clear hb XA_0 XA_1 XA_2 XB_0 XB_1 XB_2 X1_0 X1_1 X1_2 X2_0 X2_1 X2_2 X3_0 X3_1 X3_2
      go_wp2_with fail
      go_ret
      exact ⟨rfl, HB.out⟩
    · have CB := Lib.hid (KEY.out rfl hb0)
      have f1 : (bn == 0) = false := by simpa using hb0
      clear hb0 KEY
      go_enter Tryd.func6, Tryd.ntmps6
      go_wp2_with fail
      have XA := Lib.hid ((Box.new w 23 #[.int .i64 an, .int .i64 ad]).below (below_alloc _ (.cells #[.int .i64 bn, .int .i64 bd] 23)))
      have XB := Lib.hid (box1 w (.cells #[.int .i64 an, .int .i64 ad] 23) 23 #[.int .i64 bn, .int .i64 bd])
      have HB := Lib.hid (below_step (below_alloc w (.cells #[.int .i64 an, .int .i64 ad] 23)) (below_alloc _ (.cells #[.int .i64 bn, .int .i64 bd] 23)))
      refine (C1.out _).mono ?_; rintro e w1 ⟨rfl, hb⟩
      replace XA := Lib.hid (XA.out.below hb)
      replace XB := Lib.hid (XB.out.below hb)
      replace HB := Lib.hid (below_step HB.out hb)
      clear hb
      have XA_0 := XA.out.at_ 0 _ rfl
      have XA_1 := XA.out.at_ 1 _ rfl
      have XA_2 := XA.out.lt
      have XB_0 := XB.out.at_ 0 _ rfl
      have XB_1 := XB.out.at_ 1 _ rfl
      have XB_2 := XB.out.lt
      go_wp2_with fail
      refine (C2.out _).mono ?_; rintro e w2 ⟨rfl, hb⟩
      clear XA_0 XA_1 XA_2 XB_0 XB_1 XB_2
      have X1 := Lib.hid ((Box.new w1 23 #[.int .i64 x, .int .i64 y]).below hb)
      replace hb := below_step (below_alloc w1 (.cells #[.int .i64 x, .int .i64 y] 23)) hb
      replace XA := Lib.hid (XA.out.below hb)
      replace XB := Lib.hid (XB.out.below hb)
      replace HB := Lib.hid (below_step HB.out hb)
      clear hb
      have XA_0 := XA.out.at_ 0 _ rfl
      have XA_1 := XA.out.at_ 1 _ rfl
      have XA_2 := XA.out.lt
      have XB_0 := XB.out.at_ 0 _ rfl
      have XB_1 := XB.out.at_ 1 _ rfl
      have XB_2 := XB.out.lt
      have X1_0 := X1.out.at_ 0 _ rfl
      have X1_1 := X1.out.at_ 1 _ rfl
      have X1_2 := X1.out.lt
      go_wp2_with fail
      refine (C3.out _).mono ?_; rintro e w3 ⟨rfl, hb⟩
      clear XA_0 XA_1 XA_2 XB_0 XB_1 XB_2 X1_0 X1_1 X1_2
      have X2 := Lib.hid ((Box.new w2 23 #[.int .i64 x, .int .i64 y]).below hb)
      replace hb := below_step (below_alloc w2 (.cells #[.int .i64 x, .int .i64 y] 23)) hb
      replace XA := Lib.hid (XA.out.below hb)
      replace XB := Lib.hid (XB.out.below hb)
      replace X1 := Lib.hid (X1.out.below hb)
      replace HB := Lib.hid (below_step HB.out hb)
      clear hb
      have XA_0 := XA.out.at_ 0 _ rfl
      have XA_1 := XA.out.at_ 1 _ rfl
      have XA_2 := XA.out.lt
      have XB_0 := XB.out.at_ 0 _ rfl
      have XB_1 := XB.out.at_ 1 _ rfl
      have XB_2 := XB.out.lt
      have X1_0 := X1.out.at_ 0 _ rfl
      have X1_1 := X1.out.at_ 1 _ rfl
      have X1_2 := X1.out.lt
      have X2_0 := X2.out.at_ 0 _ rfl
      have X2_1 := X2.out.at_ 1 _ rfl
      have X2_2 := X2.out.lt
      go_wp2_with fail
      refine (C4.out _).mono ?_; rintro e w4 ⟨rfl, hb⟩
      clear XA_0 XA_1 XA_2 XB_0 XB_1 XB_2 X1_0 X1_1 X1_2 X2_0 X2_1 X2_2
      have X3 := Lib.hid ((Box.new w3 23 #[.int .i64 u, .int .i64 z]).below hb)
      replace hb := below_step (below_alloc w3 (.cells #[.int .i64 u, .int .i64 z] 23)) hb
      replace XA := Lib.hid (XA.out.below hb)
      replace XB := Lib.hid (XB.out.below hb)
      replace X1 := Lib.hid (X1.out.below hb)
      replace X2 := Lib.hid (X2.out.below hb)
      replace HB := Lib.hid (below_step HB.out hb)
      clear hb
      have XA_0 := XA.out.at_ 0 _ rfl
      have XA_1 := XA.out.at_ 1 _ rfl
      have XA_2 := XA.out.lt
      have XB_0 := XB.out.at_ 0 _ rfl
      have XB_1 := XB.out.at_ 1 _ rfl
      have XB_2 := XB.out.lt
      have X1_0 := X1.out.at_ 0 _ rfl
      have X1_1 := X1.out.at_ 1 _ rfl
      have X1_2 := X1.out.lt
      have X2_0 := X2.out.at_ 0 _ rfl
      have X2_1 := X2.out.at_ 1 _ rfl
      have X2_2 := X2.out.lt
      have X3_0 := X3.out.at_ 0 _ rfl
      have X3_1 := X3.out.at_ 1 _ rfl
      have X3_2 := X3.out.lt
      go_wp2_with fail
      refine (CB.out _).mono ?_; rintro e w5 ⟨rfl, hb⟩
      clear XA_0 XA_1 XA_2 XB_0 XB_1 XB_2 X1_0 X1_1 X1_2 X2_0 X2_1 X2_2 X3_0 X3_1 X3_2
      have X4 := Lib.hid ((Box.new w4 23 #[.int .i64 u, .int .i64 z]).below hb)
      replace hb := below_step (below_alloc w4 (.cells #[.int .i64 u, .int .i64 z] 23)) hb
      replace XA := Lib.hid (XA.out.below hb)
      replace XB := Lib.hid (XB.out.below hb)
      replace X1 := Lib.hid (X1.out.below hb)
      replace X2 := Lib.hid (X2.out.below hb)
      replace X3 := Lib.hid (X3.out.below hb)
      replace HB := Lib.hid (below_step HB.out hb)
      clear hb
      have XA_0 := XA.out.at_ 0 _ rfl
      have XA_1 := XA.out.at_ 1 _ rfl
      have XA_2 := XA.out.lt
      have XB_0 := XB.out.at_ 0 _ rfl
      have XB_1 := XB.out.at_ 1 _ rfl
      have XB_2 := XB.out.lt
      have X1_0 := X1.out.at_ 0 _ rfl
      have X1_1 := X1.out.at_ 1 _ rfl
      have X1_2 := X1.out.lt
      have X2_0 := X2.out.at_ 0 _ rfl
      have X2_1 := X2.out.at_ 1 _ rfl
      have X2_2 := X2.out.lt
      have X3_0 := X3.out.at_ 0 _ rfl
      have X3_1 := X3.out.at_ 1 _ rfl
      have X3_2 := X3.out.lt
      have X4_0 := X4.out.at_ 0 _ rfl
      have X4_1 := X4.out.at_ 1 _ rfl
      have X4_2 := X4.out.lt
      go_wp2_with fail
      refine (awake05 _ ((HT.out.below HB.out).below (below_alloc _ _))).mono ?_; rintro e w9 ⟨rfl, hb⟩
      replace HB := Lib.hid (below_step HB.out (below_step (below_alloc w5 (.cells #[.int .i64 an, .int .i64 ad] 23)) hb))
      clear hb XA_0 XA_1 XA_2 XB_0 XB_1 XB_2 X1_0 X1_1 X1_2 X2_0 X2_1 X2_2 X3_0 X3_1 X3_2 X4_0 X4_1 X4_2
      go_wp2_with fail
      go_ret
      exact ⟨rfl, HB.out⟩
  · have f0 : (er == 0) = false := by simpa using h0
    clear h0 KEY
    go_enter Tryd.func6, Tryd.ntmps6
    go_wp2_with fail
    have XA := Lib.hid ((Box.new w 23 #[.int .i64 an, .int .i64 ad]).below (below_alloc _ (.cells #[.int .i64 bn, .int .i64 bd] 23)))
    have XB := Lib.hid (box1 w (.cells #[.int .i64 an, .int .i64 ad] 23) 23 #[.int .i64 bn, .int .i64 bd])
    have HB := Lib.hid (below_step (below_alloc w (.cells #[.int .i64 an, .int .i64 ad] 23)) (below_alloc _ (.cells #[.int .i64 bn, .int .i64 bd] 23)))
    refine (C1.out _).mono ?_; rintro e w1 ⟨rfl, hb⟩
    replace XA := Lib.hid (XA.out.below hb)
    replace XB := Lib.hid (XB.out.below hb)
    replace HB := Lib.hid (below_step HB.out hb)
    clear hb
    have XA_0 := XA.out.at_ 0 _ rfl
    have XA_1 := XA.out.at_ 1 _ rfl
    have XA_2 := XA.out.lt
    have XB_0 := XB.out.at_ 0 _ rfl
    have XB_1 := XB.out.at_ 1 _ rfl
    have XB_2 := XB.out.lt
    go_wp2_with fail
    refine (C2.out _).mono ?_; rintro e w2 ⟨rfl, hb⟩
    clear XA_0 XA_1 XA_2 XB_0 XB_1 XB_2
    have X1 := Lib.hid ((Box.new w1 23 #[.int .i64 x, .int .i64 y]).below hb)
    replace hb := below_step (below_alloc w1 (.cells #[.int .i64 x, .int .i64 y] 23)) hb
    replace XA := Lib.hid (XA.out.below hb)
    replace XB := Lib.hid (XB.out.below hb)
    replace HB := Lib.hid (below_step HB.out hb)
    clear hb
    have XA_0 := XA.out.at_ 0 _ rfl
    have XA_1 := XA.out.at_ 1 _ rfl
    have XA_2 := XA.out.lt
    have XB_0 := XB.out.at_ 0 _ rfl
    have XB_1 := XB.out.at_ 1 _ rfl
    have XB_2 := XB.out.lt
    have X1_0 := X1.out.at_ 0 _ rfl
    have X1_1 := X1.out.at_ 1 _ rfl
    have X1_2 := X1.out.lt
    go_wp2_with fail
    refine (C3.out _).mono ?_; rintro e w3 ⟨rfl, hb⟩
    clear XA_0 XA_1 XA_2 XB_0 XB_1 XB_2 X1_0 X1_1 X1_2
    have X2 := Lib.hid ((Box.new w2 23 #[.int .i64 x, .int .i64 y]).below hb)
    replace hb := below_step (below_alloc w2 (.cells #[.int .i64 x, .int .i64 y] 23)) hb
    replace XA := Lib.hid (XA.out.below hb)
    replace XB := Lib.hid (XB.out.below hb)
    replace X1 := Lib.hid (X1.out.below hb)
    replace HB := Lib.hid (below_step HB.out hb)
    clear hb
    have XA_0 := XA.out.at_ 0 _ rfl
    have XA_1 := XA.out.at_ 1 _ rfl
    have XA_2 := XA.out.lt
    have XB_0 := XB.out.at_ 0 _ rfl
    have XB_1 := XB.out.at_ 1 _ rfl
    have XB_2 := XB.out.lt
    have X1_0 := X1.out.at_ 0 _ rfl
    have X1_1 := X1.out.at_ 1 _ rfl
    have X1_2 := X1.out.lt
    have X2_0 := X2.out.at_ 0 _ rfl
    have X2_1 := X2.out.at_ 1 _ rfl
    have X2_2 := X2.out.lt
    go_wp2_with fail
    refine (C4.out _).mono ?_; rintro e w4 ⟨rfl, hb⟩
    clear XA_0 XA_1 XA_2 XB_0 XB_1 XB_2 X1_0 X1_1 X1_2 X2_0 X2_1 X2_2
    have X3 := Lib.hid ((Box.new w3 23 #[.int .i64 u, .int .i64 z]).below hb)
    replace hb := below_step (below_alloc w3 (.cells #[.int .i64 u, .int .i64 z] 23)) hb
    replace XA := Lib.hid (XA.out.below hb)
    replace XB := Lib.hid (XB.out.below hb)
    replace X1 := Lib.hid (X1.out.below hb)
    replace X2 := Lib.hid (X2.out.below hb)
    replace HB := Lib.hid (below_step HB.out hb)
    clear hb
    have XA_0 := XA.out.at_ 0 _ rfl
    have XA_1 := XA.out.at_ 1 _ rfl
    have XA_2 := XA.out.lt
    have XB_0 := XB.out.at_ 0 _ rfl
    have XB_1 := XB.out.at_ 1 _ rfl
    have XB_2 := XB.out.lt
    have X1_0 := X1.out.at_ 0 _ rfl
    have X1_1 := X1.out.at_ 1 _ rfl
    have X1_2 := X1.out.lt
    have X2_0 := X2.out.at_ 0 _ rfl
    have X2_1 := X2.out.at_ 1 _ rfl
    have X2_2 := X2.out.lt
    have X3_0 := X3.out.at_ 0 _ rfl
    have X3_1 := X3.out.at_ 1 _ rfl
    have X3_2 := X3.out.lt
    go_wp2_with fail
    refine (awake05 _ ((HT.out.below HB.out).below (below_alloc _ _))).mono ?_; rintro e w9 ⟨rfl, hb⟩
    replace HB := Lib.hid (below_step HB.out (below_step (below_alloc w4 (.cells #[.int .i64 u, .int .i64 z] 23)) hb))
    clear hb XA_0 XA_1 XA_2 XB_0 XB_1 XB_2 X1_0 X1_1 X1_2 X2_0 X2_1 X2_2 X3_0 X3_1 X3_2
    go_wp2_with fail
    go_ret
    exact ⟨rfl, HB.out⟩

end Go.Proofs.YtbaalbmchhgmnaaDoor
