/-
  The law RatCompares: the walk.
-/
import Derived.Test.YtbaalbmchhgmnaaDoorRatM
namespace Go.Proofs.YtbaalbmchhgmnaaDoor
open Go.RowKit Go.WideShapes Go.ChangeShapes Go.Deep
set_option linter.unusedVariables false
set_option linter.unusedSimpArgs false

theorem sg_opp (s : Int) : sg (-s) = -sg s := by unfold sg; by_cases h : s = 0 <;> by_cases h2 : s < 0 <;> simp [h, h2] <;> omega
theorem cmp_swap (an ad bn bd : Int) : cmpR bn bd an ad = (-(cmpR an ad bn bd).1, (cmpR an ad bn bd).2) := by
  unfold cmpR
  by_cases hv : ratV an ad = true ∧ ratV bn bd = true
  · rw [if_pos hv, if_pos ⟨hv.2, hv.1⟩]
    have : bn * ad - an * bd = -(an * bd - bn * ad) := by omega
    rw [this, sg_opp]
  · rw [if_neg hv, if_neg (fun h => hv ⟨h.2, h.1⟩)]; rfl
/-- The order, and the difference. -/
theorem cmp_ways {an ad bn bd u z ev : Int} (hs : subR an ad bn bd = (u, z, ev)) :
    (cmpR an ad bn bd = (0, 1) ∧ ev = 1) ∨ (cmpR an ad bn bd = (-1, 0) ∧ (ev = 0 → u < 0) ∧ ¬ (an = bn ∧ ad = bd)) ∨ (cmpR an ad bn bd = (0, 0) ∧ (ev = 0 → u = 0) ∧ (an = bn ∧ ad = bd)) ∨ (cmpR an ad bn bd = (1, 0) ∧ (ev = 0 → 0 < u) ∧ ¬ (an = bn ∧ ad = bd)) := by
  unfold subR at hs
  unfold cmpR
  by_cases hv : ratV an ad = true ∧ ratV bn bd = true
  · rw [if_pos hv] at hs ⊢
    have g1 := (ratV_iff.1 hv.1).1
    have g2 := (ratV_iff.1 hv.2).1
    have hD := Int.mul_pos (show 0 < ad by omega) (show 0 < bd by omega)
    have hk : ev = 0 → (an * bd - bn * ad) * z = u * (ad * bd) ∧ 0 < z := fun h => by
      subst h
      obtain ⟨h1, _, _, _, h5⟩ := ratQ_ok (mul_nat_pos g1 g2) hs
      rw [mul_nat_eq g1 g2] at h5
      exact ⟨h5, by omega⟩
    right
    rcases Int.lt_trichotomy (an * bd - bn * ad) 0 with h | h | h
    · left
      refine ⟨by rw [sg_neg h], fun he => ?_, fun ⟨h1, h2⟩ => by rw [h1, h2] at h; omega⟩
      obtain ⟨k1, k2⟩ := hk he
      have : (an * bd - bn * ad) * z < 0 := Int.mul_neg_of_neg_of_pos h k2
      rw [k1] at this
      exact Int.neg_of_mul_neg_left this (by omega)
    · right; left
      refine ⟨by rw [h]; rfl, fun he => ?_, ?_⟩
      · obtain ⟨k1, k2⟩ := hk he
        rw [h, Int.zero_mul] at k1
        rcases Int.mul_eq_zero.1 k1.symm with h1 | h1
        · exact h1
        · omega
      · obtain ⟨p, rfl⟩ := rat_nat hv.1
        obtain ⟨q, rfl⟩ := rat_nat hv.2
        obtain ⟨e1, e2⟩ := rat_ne hv.1 hv.2 (by omega)
        exact ⟨e1, by rw [e2]⟩
    · right; right
      refine ⟨by rw [sg_pos h], fun he => ?_, fun ⟨h1, h2⟩ => by rw [h1, h2] at h; omega⟩
      obtain ⟨k1, k2⟩ := hk he
      have : 0 < (an * bd - bn * ad) * z := Int.mul_pos h k2
      rw [k1] at this
      exact Int.pos_of_mul_pos_left this (by omega)
  · rw [if_neg hv] at hs ⊢
    injection hs with _ hs
    injection hs with _ hs
    exact .inl ⟨rfl, hs.symm⟩

set_option maxRecDepth 100000 in
set_option maxHeartbeats 8000000 in
theorem walkRatCompares {H : Type} {enc : TypeId × Value → H} {base : Nat} (v : Value) (d : DataW H) (p : List MemPlace) {w : World} (h : DataW.Trod enc Tryd.prog w 0 (fun _ => true) true 23 v d p) (hv : Value.okWide Tryd.prog w .any base 23 v)
    (v' : Value) (d' : DataW H) (p' : List MemPlace) (h' : DataW.Trod enc Tryd.prog w 0 (fun _ => true) true 23 v' d' p') (hv' : Value.okWide Tryd.prog w .any base 23 v') (ht : Tab w) :
    Calls Tryd.prog 9 #[v, v'] w fun e w' => e = .returned (.bool true) ∧ Below w.heap.size w w' := by
  obtain ⟨an, ad, rfl, h1, h2⟩ := arg_rat h hv
  obtain ⟨bn, bd, rfl, h3, h4⟩ := arg_rat h' hv'
  have HT := Lib.hid ht
  have C1 := Lib.hid (fun w => ratCompare an ad bn bd w h1 h2 h3 h4)
  have C2 := Lib.hid (fun w => refCompare05 an ad bn bd w h1 h2 h3 h4)
  have C3 := Lib.hid (fun w => ratCompare bn bd an ad w h3 h4 h1 h2)
  have C4 := Lib.hid (fun w => ratSub an ad bn bd w h1 h2 h3 h4)
  rw [cmp_swap] at C3
  obtain ⟨⟨u, z, ev⟩, hm⟩ : ∃ r, r = subR an ad bn bd := ⟨_, rfl⟩
  have key := cmp_ways hm.symm
  rw [← hm] at C4
  simp only [ret3r] at C4
  clear hm h1 h2 h3 h4 ht h hv h' hv'
  rcases key with ⟨hc, rfl⟩ | ⟨hc, hu, hne⟩ | ⟨hc, hu, rfl, rfl⟩ | ⟨hc, hu, hne⟩
  · rw [hc] at C1 C2 C3
    simp only [Int.neg_zero, Int.neg_neg] at C1 C2 C3
    clear hc
    go_enter Tryd.func9, Tryd.ntmps9
    go_wp2_with fail
    have XA := Lib.hid ((Box.new w 23 #[.int .i64 an, .int .i64 ad]).below (below_alloc _ (.cells #[.int .i64 bn, .int .i64 bd] 23)))
    have XB := Lib.hid (box1 w (.cells #[.int .i64 an, .int .i64 ad] 23) 23 #[.int .i64 bn, .int .i64 bd])
    have HB := Lib.hid (below_step (below_alloc w (.cells #[.int .i64 an, .int .i64 ad] 23)) (below_alloc _ (.cells #[.int .i64 bn, .int .i64 bd] 23)))
    refine (C1.out _).mono ?_; rintro e w1 ⟨rfl, hb⟩
    replace XA := Lib.hid (XA.out.below hb)
    replace XB := Lib.hid (XB.out.below hb)
    replace HB := Lib.hid (below_step HB.out hb)
    clear hb
    have XA_0 := XA.out.at_ 0 _ rfl
    have XA_1 := XA.out.at_ 1 _ rfl
    have XA_2 := XA.out.lt
    have XB_0 := XB.out.at_ 0 _ rfl
    have XB_1 := XB.out.at_ 1 _ rfl
    have XB_2 := XB.out.lt
    go_wp2_with fail
    refine (C2.out _).mono ?_; rintro e w2 ⟨rfl, hb⟩
    clear XA_0 XA_1 XA_2 XB_0 XB_1 XB_2
    replace XA := Lib.hid (XA.out.below hb)
    replace XB := Lib.hid (XB.out.below hb)
    replace HB := Lib.hid (below_step HB.out hb)
    clear hb
    have XA_0 := XA.out.at_ 0 _ rfl
    have XA_1 := XA.out.at_ 1 _ rfl
    have XA_2 := XA.out.lt
    have XB_0 := XB.out.at_ 0 _ rfl
    have XB_1 := XB.out.at_ 1 _ rfl
    have XB_2 := XB.out.lt
    go_wp2_with fail
    refine (C3.out _).mono ?_; rintro e w3 ⟨rfl, hb⟩
    clear XA_0 XA_1 XA_2 XB_0 XB_1 XB_2
    replace XA := Lib.hid (XA.out.below hb)
    replace XB := Lib.hid (XB.out.below hb)
    replace HB := Lib.hid (below_step HB.out hb)
    clear hb
    have XA_0 := XA.out.at_ 0 _ rfl
    have XA_1 := XA.out.at_ 1 _ rfl
    have XA_2 := XA.out.lt
    have XB_0 := XB.out.at_ 0 _ rfl
    have XB_1 := XB.out.at_ 1 _ rfl
    have XB_2 := XB.out.lt
    go_wp2_with fail
    refine (C4.out _).mono ?_; rintro e w4 ⟨rfl, hb⟩
    clear XA_0 XA_1 XA_2 XB_0 XB_1 XB_2
    replace XA := Lib.hid (XA.out.below hb)
    replace XB := Lib.hid (XB.out.below hb)
    replace HB := Lib.hid (below_step HB.out hb)
    clear hb
    have XA_0 := XA.out.at_ 0 _ rfl
    have XA_1 := XA.out.at_ 1 _ rfl
    have XA_2 := XA.out.lt
    have XB_0 := XB.out.at_ 0 _ rfl
    have XB_1 := XB.out.at_ 1 _ rfl
    have XB_2 := XB.out.lt
    go_wp2_with fail
    refine (awake05 _ ((HT.out.below HB.out).below (below_alloc _ _))).mono ?_; rintro e w9 ⟨rfl, hb⟩
    replace HB := Lib.hid (below_step HB.out (below_step (below_alloc w4 (.cells #[.int .i64 u, .int .i64 z] 23)) hb))
    clear hb XA_0 XA_1 XA_2 XB_0 XB_1 XB_2
    go_wp2_with fail
    go_ret
    exact ⟨rfl, HB.out⟩
  · rw [hc] at C1 C2 C3
    simp only [Int.neg_zero, Int.neg_neg] at C1 C2 C3
    clear hc
    have fe : (an == bn) = false ∨ (an = bn ∧ (ad == bd) = false) := by
      by_cases he : an = bn
      · right; exact ⟨he, by simpa using fun h => hne ⟨he, h⟩⟩
      · left; simpa using he
    clear hne
    by_cases h0 : ev = 0
    · subst h0
      have hu' := hu rfl
      have g1 : (u == 0) = false := by
        have : ¬ u = 0 := by omega
        simpa using this
      clear hu
      rcases fe with fe | ⟨rfl, fe⟩
      · skip
        go_enter Tryd.func9, Tryd.ntmps9
        go_wp2_with fail
        have XA := Lib.hid ((Box.new w 23 #[.int .i64 an, .int .i64 ad]).below (below_alloc _ (.cells #[.int .i64 bn, .int .i64 bd] 23)))
        have XB := Lib.hid (box1 w (.cells #[.int .i64 an, .int .i64 ad] 23) 23 #[.int .i64 bn, .int .i64 bd])
        have HB := Lib.hid (below_step (below_alloc w (.cells #[.int .i64 an, .int .i64 ad] 23)) (below_alloc _ (.cells #[.int .i64 bn, .int .i64 bd] 23)))
        refine (C1.out _).mono ?_; rintro e w1 ⟨rfl, hb⟩
        replace XA := Lib.hid (XA.out.below hb)
        replace XB := Lib.hid (XB.out.below hb)
        replace HB := Lib.hid (below_step HB.out hb)
        clear hb
        have XA_0 := XA.out.at_ 0 _ rfl
        have XA_1 := XA.out.at_ 1 _ rfl
        have XA_2 := XA.out.lt
        have XB_0 := XB.out.at_ 0 _ rfl
        have XB_1 := XB.out.at_ 1 _ rfl
        have XB_2 := XB.out.lt
        go_wp2_with fail
        refine (C2.out _).mono ?_; rintro e w2 ⟨rfl, hb⟩
        clear XA_0 XA_1 XA_2 XB_0 XB_1 XB_2
        replace XA := Lib.hid (XA.out.below hb)
        replace XB := Lib.hid (XB.out.below hb)
        replace HB := Lib.hid (below_step HB.out hb)
        clear hb
        have XA_0 := XA.out.at_ 0 _ rfl
        have XA_1 := XA.out.at_ 1 _ rfl
        have XA_2 := XA.out.lt
        have XB_0 := XB.out.at_ 0 _ rfl
        have XB_1 := XB.out.at_ 1 _ rfl
        have XB_2 := XB.out.lt
        go_wp2_with fail
        refine (C3.out _).mono ?_; rintro e w3 ⟨rfl, hb⟩
        clear XA_0 XA_1 XA_2 XB_0 XB_1 XB_2
        replace XA := Lib.hid (XA.out.below hb)
        replace XB := Lib.hid (XB.out.below hb)
        replace HB := Lib.hid (below_step HB.out hb)
        clear hb
        have XA_0 := XA.out.at_ 0 _ rfl
        have XA_1 := XA.out.at_ 1 _ rfl
        have XA_2 := XA.out.lt
        have XB_0 := XB.out.at_ 0 _ rfl
        have XB_1 := XB.out.at_ 1 _ rfl
        have XB_2 := XB.out.lt
        go_wp2_with fail
        refine (C4.out _).mono ?_; rintro e w4 ⟨rfl, hb⟩
        clear XA_0 XA_1 XA_2 XB_0 XB_1 XB_2
        replace XA := Lib.hid (XA.out.below hb)
        replace XB := Lib.hid (XB.out.below hb)
        replace HB := Lib.hid (below_step HB.out hb)
        clear hb
        have XA_0 := XA.out.at_ 0 _ rfl
        have XA_1 := XA.out.at_ 1 _ rfl
        have XA_2 := XA.out.lt
        have XB_0 := XB.out.at_ 0 _ rfl
        have XB_1 := XB.out.at_ 1 _ rfl
        have XB_2 := XB.out.lt
        go_wp2_with fail
        refine (awake05 _ ((HT.out.below HB.out).below (below_alloc _ _))).mono ?_; rintro e w9 ⟨rfl, hb⟩
        replace HB := Lib.hid (below_step HB.out (below_step (below_alloc w4 (.cells #[.int .i64 u, .int .i64 z] 23)) hb))
        clear hb XA_0 XA_1 XA_2 XB_0 XB_1 XB_2
        go_wp2_with fail
        go_ret
        exact ⟨rfl, HB.out⟩
      · skip
        go_enter Tryd.func9, Tryd.ntmps9
        go_wp2_with fail
        have XA := Lib.hid ((Box.new w 23 #[.int .i64 an, .int .i64 ad]).below (below_alloc _ (.cells #[.int .i64 an, .int .i64 bd] 23)))
        have XB := Lib.hid (box1 w (.cells #[.int .i64 an, .int .i64 ad] 23) 23 #[.int .i64 an, .int .i64 bd])
        have HB := Lib.hid (below_step (below_alloc w (.cells #[.int .i64 an, .int .i64 ad] 23)) (below_alloc _ (.cells #[.int .i64 an, .int .i64 bd] 23)))
        refine (C1.out _).mono ?_; rintro e w1 ⟨rfl, hb⟩
        replace XA := Lib.hid (XA.out.below hb)
        replace XB := Lib.hid (XB.out.below hb)
        replace HB := Lib.hid (below_step HB.out hb)
        clear hb
        have XA_0 := XA.out.at_ 0 _ rfl
        have XA_1 := XA.out.at_ 1 _ rfl
        have XA_2 := XA.out.lt
        have XB_0 := XB.out.at_ 0 _ rfl
        have XB_1 := XB.out.at_ 1 _ rfl
        have XB_2 := XB.out.lt
        go_wp2_with fail
        refine (C2.out _).mono ?_; rintro e w2 ⟨rfl, hb⟩
        clear XA_0 XA_1 XA_2 XB_0 XB_1 XB_2
        replace XA := Lib.hid (XA.out.below hb)
        replace XB := Lib.hid (XB.out.below hb)
        replace HB := Lib.hid (below_step HB.out hb)
        clear hb
        have XA_0 := XA.out.at_ 0 _ rfl
        have XA_1 := XA.out.at_ 1 _ rfl
        have XA_2 := XA.out.lt
        have XB_0 := XB.out.at_ 0 _ rfl
        have XB_1 := XB.out.at_ 1 _ rfl
        have XB_2 := XB.out.lt
        go_wp2_with fail
        refine (C3.out _).mono ?_; rintro e w3 ⟨rfl, hb⟩
        clear XA_0 XA_1 XA_2 XB_0 XB_1 XB_2
        replace XA := Lib.hid (XA.out.below hb)
        replace XB := Lib.hid (XB.out.below hb)
        replace HB := Lib.hid (below_step HB.out hb)
        clear hb
        have XA_0 := XA.out.at_ 0 _ rfl
        have XA_1 := XA.out.at_ 1 _ rfl
        have XA_2 := XA.out.lt
        have XB_0 := XB.out.at_ 0 _ rfl
        have XB_1 := XB.out.at_ 1 _ rfl
        have XB_2 := XB.out.lt
        go_wp2_with fail
        refine (C4.out _).mono ?_; rintro e w4 ⟨rfl, hb⟩
        clear XA_0 XA_1 XA_2 XB_0 XB_1 XB_2
        replace XA := Lib.hid (XA.out.below hb)
        replace XB := Lib.hid (XB.out.below hb)
        replace HB := Lib.hid (below_step HB.out hb)
        clear hb
        have XA_0 := XA.out.at_ 0 _ rfl
        have XA_1 := XA.out.at_ 1 _ rfl
        have XA_2 := XA.out.lt
        have XB_0 := XB.out.at_ 0 _ rfl
        have XB_1 := XB.out.at_ 1 _ rfl
        have XB_2 := XB.out.lt
        go_wp2_with fail
        refine (awake05 _ ((HT.out.below HB.out).below (below_alloc _ _))).mono ?_; rintro e w9 ⟨rfl, hb⟩
        replace HB := Lib.hid (below_step HB.out (below_step (below_alloc w4 (.cells #[.int .i64 u, .int .i64 z] 23)) hb))
        clear hb XA_0 XA_1 XA_2 XB_0 XB_1 XB_2
        go_wp2_with fail
        go_ret
        exact ⟨rfl, HB.out⟩
    · have f0 : (ev == 0) = false := by simpa using h0
      clear h0 hu fe
      go_enter Tryd.func9, Tryd.ntmps9
      go_wp2_with fail
      have XA := Lib.hid ((Box.new w 23 #[.int .i64 an, .int .i64 ad]).below (below_alloc _ (.cells #[.int .i64 bn, .int .i64 bd] 23)))
      have XB := Lib.hid (box1 w (.cells #[.int .i64 an, .int .i64 ad] 23) 23 #[.int .i64 bn, .int .i64 bd])
      have HB := Lib.hid (below_step (below_alloc w (.cells #[.int .i64 an, .int .i64 ad] 23)) (below_alloc _ (.cells #[.int .i64 bn, .int .i64 bd] 23)))
      refine (C1.out _).mono ?_; rintro e w1 ⟨rfl, hb⟩
      replace XA := Lib.hid (XA.out.below hb)
      replace XB := Lib.hid (XB.out.below hb)
      replace HB := Lib.hid (below_step HB.out hb)
      clear hb
      have XA_0 := XA.out.at_ 0 _ rfl
      have XA_1 := XA.out.at_ 1 _ rfl
      have XA_2 := XA.out.lt
      have XB_0 := XB.out.at_ 0 _ rfl
      have XB_1 := XB.out.at_ 1 _ rfl
      have XB_2 := XB.out.lt
      go_wp2_with fail
      refine (C2.out _).mono ?_; rintro e w2 ⟨rfl, hb⟩
      clear XA_0 XA_1 XA_2 XB_0 XB_1 XB_2
      replace XA := Lib.hid (XA.out.below hb)
      replace XB := Lib.hid (XB.out.below hb)
      replace HB := Lib.hid (below_step HB.out hb)
      clear hb
      have XA_0 := XA.out.at_ 0 _ rfl
      have XA_1 := XA.out.at_ 1 _ rfl
      have XA_2 := XA.out.lt
      have XB_0 := XB.out.at_ 0 _ rfl
      have XB_1 := XB.out.at_ 1 _ rfl
      have XB_2 := XB.out.lt
      go_wp2_with fail
      refine (C3.out _).mono ?_; rintro e w3 ⟨rfl, hb⟩
      clear XA_0 XA_1 XA_2 XB_0 XB_1 XB_2
      replace XA := Lib.hid (XA.out.below hb)
      replace XB := Lib.hid (XB.out.below hb)
      replace HB := Lib.hid (below_step HB.out hb)
      clear hb
      have XA_0 := XA.out.at_ 0 _ rfl
      have XA_1 := XA.out.at_ 1 _ rfl
      have XA_2 := XA.out.lt
      have XB_0 := XB.out.at_ 0 _ rfl
      have XB_1 := XB.out.at_ 1 _ rfl
      have XB_2 := XB.out.lt
      go_wp2_with fail
      refine (C4.out _).mono ?_; rintro e w4 ⟨rfl, hb⟩
      clear XA_0 XA_1 XA_2 XB_0 XB_1 XB_2
      replace XA := Lib.hid (XA.out.below hb)
      replace XB := Lib.hid (XB.out.below hb)
      replace HB := Lib.hid (below_step HB.out hb)
      clear hb
      have XA_0 := XA.out.at_ 0 _ rfl
      have XA_1 := XA.out.at_ 1 _ rfl
      have XA_2 := XA.out.lt
      have XB_0 := XB.out.at_ 0 _ rfl
      have XB_1 := XB.out.at_ 1 _ rfl
      have XB_2 := XB.out.lt
      go_wp2_with fail
      refine (awake05 _ ((HT.out.below HB.out).below (below_alloc _ _))).mono ?_; rintro e w9 ⟨rfl, hb⟩
      replace HB := Lib.hid (below_step HB.out (below_step (below_alloc w4 (.cells #[.int .i64 u, .int .i64 z] 23)) hb))
      clear hb XA_0 XA_1 XA_2 XB_0 XB_1 XB_2
      go_wp2_with fail
      go_ret
      exact ⟨rfl, HB.out⟩
  · rw [hc] at C1 C2 C3
    simp only [Int.neg_zero, Int.neg_neg] at C1 C2 C3
    clear hc
    by_cases h0 : ev = 0
    · subst h0
      have hu' := hu rfl
      subst hu'
      clear hu
      go_enter Tryd.func9, Tryd.ntmps9
      go_wp2_with fail
      have XA := Lib.hid ((Box.new w 23 #[.int .i64 an, .int .i64 ad]).below (below_alloc _ (.cells #[.int .i64 an, .int .i64 ad] 23)))
      have XB := Lib.hid (box1 w (.cells #[.int .i64 an, .int .i64 ad] 23) 23 #[.int .i64 an, .int .i64 ad])
      have HB := Lib.hid (below_step (below_alloc w (.cells #[.int .i64 an, .int .i64 ad] 23)) (below_alloc _ (.cells #[.int .i64 an, .int .i64 ad] 23)))
      refine (C1.out _).mono ?_; rintro e w1 ⟨rfl, hb⟩
      replace XA := Lib.hid (XA.out.below hb)
      replace XB := Lib.hid (XB.out.below hb)
      replace HB := Lib.hid (below_step HB.out hb)
      clear hb
      have XA_0 := XA.out.at_ 0 _ rfl
      have XA_1 := XA.out.at_ 1 _ rfl
      have XA_2 := XA.out.lt
      have XB_0 := XB.out.at_ 0 _ rfl
      have XB_1 := XB.out.at_ 1 _ rfl
      have XB_2 := XB.out.lt
      go_wp2_with fail
      refine (C2.out _).mono ?_; rintro e w2 ⟨rfl, hb⟩
      clear XA_0 XA_1 XA_2 XB_0 XB_1 XB_2
      replace XA := Lib.hid (XA.out.below hb)
      replace XB := Lib.hid (XB.out.below hb)
      replace HB := Lib.hid (below_step HB.out hb)
      clear hb
      have XA_0 := XA.out.at_ 0 _ rfl
      have XA_1 := XA.out.at_ 1 _ rfl
      have XA_2 := XA.out.lt
      have XB_0 := XB.out.at_ 0 _ rfl
      have XB_1 := XB.out.at_ 1 _ rfl
      have XB_2 := XB.out.lt
      go_wp2_with fail
      refine (C3.out _).mono ?_; rintro e w3 ⟨rfl, hb⟩
      clear XA_0 XA_1 XA_2 XB_0 XB_1 XB_2
      replace XA := Lib.hid (XA.out.below hb)
      replace XB := Lib.hid (XB.out.below hb)
      replace HB := Lib.hid (below_step HB.out hb)
      clear hb
      have XA_0 := XA.out.at_ 0 _ rfl
      have XA_1 := XA.out.at_ 1 _ rfl
      have XA_2 := XA.out.lt
      have XB_0 := XB.out.at_ 0 _ rfl
      have XB_1 := XB.out.at_ 1 _ rfl
      have XB_2 := XB.out.lt
      go_wp2_with fail
      refine (C4.out _).mono ?_; rintro e w4 ⟨rfl, hb⟩
      clear XA_0 XA_1 XA_2 XB_0 XB_1 XB_2
      replace XA := Lib.hid (XA.out.below hb)
      replace XB := Lib.hid (XB.out.below hb)
      replace HB := Lib.hid (below_step HB.out hb)
      clear hb
      have XA_0 := XA.out.at_ 0 _ rfl
      have XA_1 := XA.out.at_ 1 _ rfl
      have XA_2 := XA.out.lt
      have XB_0 := XB.out.at_ 0 _ rfl
      have XB_1 := XB.out.at_ 1 _ rfl
      have XB_2 := XB.out.lt
      go_wp2_with fail
      refine (awake05 _ ((HT.out.below HB.out).below (below_alloc _ _))).mono ?_; rintro e w9 ⟨rfl, hb⟩
      replace HB := Lib.hid (below_step HB.out (below_step (below_alloc w4 (.cells #[.int .i64 0, .int .i64 z] 23)) hb))
      clear hb XA_0 XA_1 XA_2 XB_0 XB_1 XB_2
      go_wp2_with fail
      go_ret
      exact ⟨rfl, HB.out⟩
    · have f0 : (ev == 0) = false := by simpa using h0
      clear h0 hu
      go_enter Tryd.func9, Tryd.ntmps9
      go_wp2_with fail
      have XA := Lib.hid ((Box.new w 23 #[.int .i64 an, .int .i64 ad]).below (below_alloc _ (.cells #[.int .i64 an, .int .i64 ad] 23)))
      have XB := Lib.hid (box1 w (.cells #[.int .i64 an, .int .i64 ad] 23) 23 #[.int .i64 an, .int .i64 ad])
      have HB := Lib.hid (below_step (below_alloc w (.cells #[.int .i64 an, .int .i64 ad] 23)) (below_alloc _ (.cells #[.int .i64 an, .int .i64 ad] 23)))
      refine (C1.out _).mono ?_; rintro e w1 ⟨rfl, hb⟩
      replace XA := Lib.hid (XA.out.below hb)
      replace XB := Lib.hid (XB.out.below hb)
      replace HB := Lib.hid (below_step HB.out hb)
      clear hb
      have XA_0 := XA.out.at_ 0 _ rfl
      have XA_1 := XA.out.at_ 1 _ rfl
      have XA_2 := XA.out.lt
      have XB_0 := XB.out.at_ 0 _ rfl
      have XB_1 := XB.out.at_ 1 _ rfl
      have XB_2 := XB.out.lt
      go_wp2_with fail
      refine (C2.out _).mono ?_; rintro e w2 ⟨rfl, hb⟩
      clear XA_0 XA_1 XA_2 XB_0 XB_1 XB_2
      replace XA := Lib.hid (XA.out.below hb)
      replace XB := Lib.hid (XB.out.below hb)
      replace HB := Lib.hid (below_step HB.out hb)
      clear hb
      have XA_0 := XA.out.at_ 0 _ rfl
      have XA_1 := XA.out.at_ 1 _ rfl
      have XA_2 := XA.out.lt
      have XB_0 := XB.out.at_ 0 _ rfl
      have XB_1 := XB.out.at_ 1 _ rfl
      have XB_2 := XB.out.lt
      go_wp2_with fail
      refine (C3.out _).mono ?_; rintro e w3 ⟨rfl, hb⟩
      clear XA_0 XA_1 XA_2 XB_0 XB_1 XB_2
      replace XA := Lib.hid (XA.out.below hb)
      replace XB := Lib.hid (XB.out.below hb)
      replace HB := Lib.hid (below_step HB.out hb)
      clear hb
      have XA_0 := XA.out.at_ 0 _ rfl
      have XA_1 := XA.out.at_ 1 _ rfl
      have XA_2 := XA.out.lt
      have XB_0 := XB.out.at_ 0 _ rfl
      have XB_1 := XB.out.at_ 1 _ rfl
      have XB_2 := XB.out.lt
      go_wp2_with fail
      refine (C4.out _).mono ?_; rintro e w4 ⟨rfl, hb⟩
      clear XA_0 XA_1 XA_2 XB_0 XB_1 XB_2
      replace XA := Lib.hid (XA.out.below hb)
      replace XB := Lib.hid (XB.out.below hb)
      replace HB := Lib.hid (below_step HB.out hb)
      clear hb
      have XA_0 := XA.out.at_ 0 _ rfl
      have XA_1 := XA.out.at_ 1 _ rfl
      have XA_2 := XA.out.lt
      have XB_0 := XB.out.at_ 0 _ rfl
      have XB_1 := XB.out.at_ 1 _ rfl
      have XB_2 := XB.out.lt
      go_wp2_with fail
      refine (awake05 _ ((HT.out.below HB.out).below (below_alloc _ _))).mono ?_; rintro e w9 ⟨rfl, hb⟩
      replace HB := Lib.hid (below_step HB.out (below_step (below_alloc w4 (.cells #[.int .i64 u, .int .i64 z] 23)) hb))
      clear hb XA_0 XA_1 XA_2 XB_0 XB_1 XB_2
      go_wp2_with fail
      go_ret
      exact ⟨rfl, HB.out⟩
  · rw [hc] at C1 C2 C3
    simp only [Int.neg_zero, Int.neg_neg] at C1 C2 C3
    clear hc
    have fe : (an == bn) = false ∨ (an = bn ∧ (ad == bd) = false) := by
      by_cases he : an = bn
      · right; exact ⟨he, by simpa using fun h => hne ⟨he, h⟩⟩
      · left; simpa using he
    clear hne
    by_cases h0 : ev = 0
    · subst h0
      have hu' := hu rfl
      have g1 : (u == 0) = false := by
        have : ¬ u = 0 := by omega
        simpa using this
      have g2 : decide (u < 0) = false := by
        have : ¬ u < 0 := by omega
        simpa using this
      clear hu
      rcases fe with fe | ⟨rfl, fe⟩
      · skip
        go_enter Tryd.func9, Tryd.ntmps9
        go_wp2_with fail
        have XA := Lib.hid ((Box.new w 23 #[.int .i64 an, .int .i64 ad]).below (below_alloc _ (.cells #[.int .i64 bn, .int .i64 bd] 23)))
        have XB := Lib.hid (box1 w (.cells #[.int .i64 an, .int .i64 ad] 23) 23 #[.int .i64 bn, .int .i64 bd])
        have HB := Lib.hid (below_step (below_alloc w (.cells #[.int .i64 an, .int .i64 ad] 23)) (below_alloc _ (.cells #[.int .i64 bn, .int .i64 bd] 23)))
        refine (C1.out _).mono ?_; rintro e w1 ⟨rfl, hb⟩
        replace XA := Lib.hid (XA.out.below hb)
        replace XB := Lib.hid (XB.out.below hb)
        replace HB := Lib.hid (below_step HB.out hb)
        clear hb
        have XA_0 := XA.out.at_ 0 _ rfl
        have XA_1 := XA.out.at_ 1 _ rfl
        have XA_2 := XA.out.lt
        have XB_0 := XB.out.at_ 0 _ rfl
        have XB_1 := XB.out.at_ 1 _ rfl
        have XB_2 := XB.out.lt
        go_wp2_with fail
        refine (C2.out _).mono ?_; rintro e w2 ⟨rfl, hb⟩
        clear XA_0 XA_1 XA_2 XB_0 XB_1 XB_2
        replace XA := Lib.hid (XA.out.below hb)
        replace XB := Lib.hid (XB.out.below hb)
        replace HB := Lib.hid (below_step HB.out hb)
        clear hb
        have XA_0 := XA.out.at_ 0 _ rfl
        have XA_1 := XA.out.at_ 1 _ rfl
        have XA_2 := XA.out.lt
        have XB_0 := XB.out.at_ 0 _ rfl
        have XB_1 := XB.out.at_ 1 _ rfl
        have XB_2 := XB.out.lt
        go_wp2_with fail
        refine (C3.out _).mono ?_; rintro e w3 ⟨rfl, hb⟩
        clear XA_0 XA_1 XA_2 XB_0 XB_1 XB_2
        replace XA := Lib.hid (XA.out.below hb)
        replace XB := Lib.hid (XB.out.below hb)
        replace HB := Lib.hid (below_step HB.out hb)
        clear hb
        have XA_0 := XA.out.at_ 0 _ rfl
        have XA_1 := XA.out.at_ 1 _ rfl
        have XA_2 := XA.out.lt
        have XB_0 := XB.out.at_ 0 _ rfl
        have XB_1 := XB.out.at_ 1 _ rfl
        have XB_2 := XB.out.lt
        go_wp2_with fail
        refine (C4.out _).mono ?_; rintro e w4 ⟨rfl, hb⟩
        clear XA_0 XA_1 XA_2 XB_0 XB_1 XB_2
        replace XA := Lib.hid (XA.out.below hb)
        replace XB := Lib.hid (XB.out.below hb)
        replace HB := Lib.hid (below_step HB.out hb)
        clear hb
        have XA_0 := XA.out.at_ 0 _ rfl
        have XA_1 := XA.out.at_ 1 _ rfl
        have XA_2 := XA.out.lt
        have XB_0 := XB.out.at_ 0 _ rfl
        have XB_1 := XB.out.at_ 1 _ rfl
        have XB_2 := XB.out.lt
        go_wp2_with fail
        refine (awake05 _ ((HT.out.below HB.out).below (below_alloc _ _))).mono ?_; rintro e w9 ⟨rfl, hb⟩
        replace HB := Lib.hid (below_step HB.out (below_step (below_alloc w4 (.cells #[.int .i64 u, .int .i64 z] 23)) hb))
        clear hb XA_0 XA_1 XA_2 XB_0 XB_1 XB_2
        go_wp2_with fail
        go_ret
        exact ⟨rfl, HB.out⟩
      · skip
        go_enter Tryd.func9, Tryd.ntmps9
        go_wp2_with fail
        have XA := Lib.hid ((Box.new w 23 #[.int .i64 an, .int .i64 ad]).below (below_alloc _ (.cells #[.int .i64 an, .int .i64 bd] 23)))
        have XB := Lib.hid (box1 w (.cells #[.int .i64 an, .int .i64 ad] 23) 23 #[.int .i64 an, .int .i64 bd])
        have HB := Lib.hid (below_step (below_alloc w (.cells #[.int .i64 an, .int .i64 ad] 23)) (below_alloc _ (.cells #[.int .i64 an, .int .i64 bd] 23)))
        refine (C1.out _).mono ?_; rintro e w1 ⟨rfl, hb⟩
        replace XA := Lib.hid (XA.out.below hb)
        replace XB := Lib.hid (XB.out.below hb)
        replace HB := Lib.hid (below_step HB.out hb)
        clear hb
        have XA_0 := XA.out.at_ 0 _ rfl
        have XA_1 := XA.out.at_ 1 _ rfl
        have XA_2 := XA.out.lt
        have XB_0 := XB.out.at_ 0 _ rfl
        have XB_1 := XB.out.at_ 1 _ rfl
        have XB_2 := XB.out.lt
        go_wp2_with fail
        refine (C2.out _).mono ?_; rintro e w2 ⟨rfl, hb⟩
        clear XA_0 XA_1 XA_2 XB_0 XB_1 XB_2
        replace XA := Lib.hid (XA.out.below hb)
        replace XB := Lib.hid (XB.out.below hb)
        replace HB := Lib.hid (below_step HB.out hb)
        clear hb
        have XA_0 := XA.out.at_ 0 _ rfl
        have XA_1 := XA.out.at_ 1 _ rfl
        have XA_2 := XA.out.lt
        have XB_0 := XB.out.at_ 0 _ rfl
        have XB_1 := XB.out.at_ 1 _ rfl
        have XB_2 := XB.out.lt
        go_wp2_with fail
        refine (C3.out _).mono ?_; rintro e w3 ⟨rfl, hb⟩
        clear XA_0 XA_1 XA_2 XB_0 XB_1 XB_2
        replace XA := Lib.hid (XA.out.below hb)
        replace XB := Lib.hid (XB.out.below hb)
        replace HB := Lib.hid (below_step HB.out hb)
        clear hb
        have XA_0 := XA.out.at_ 0 _ rfl
        have XA_1 := XA.out.at_ 1 _ rfl
        have XA_2 := XA.out.lt
        have XB_0 := XB.out.at_ 0 _ rfl
        have XB_1 := XB.out.at_ 1 _ rfl
        have XB_2 := XB.out.lt
        go_wp2_with fail
        refine (C4.out _).mono ?_; rintro e w4 ⟨rfl, hb⟩
        clear XA_0 XA_1 XA_2 XB_0 XB_1 XB_2
        replace XA := Lib.hid (XA.out.below hb)
        replace XB := Lib.hid (XB.out.below hb)
        replace HB := Lib.hid (below_step HB.out hb)
        clear hb
        have XA_0 := XA.out.at_ 0 _ rfl
        have XA_1 := XA.out.at_ 1 _ rfl
        have XA_2 := XA.out.lt
        have XB_0 := XB.out.at_ 0 _ rfl
        have XB_1 := XB.out.at_ 1 _ rfl
        have XB_2 := XB.out.lt
        go_wp2_with fail
        refine (awake05 _ ((HT.out.below HB.out).below (below_alloc _ _))).mono ?_; rintro e w9 ⟨rfl, hb⟩
        replace HB := Lib.hid (below_step HB.out (below_step (below_alloc w4 (.cells #[.int .i64 u, .int .i64 z] 23)) hb))
        clear hb XA_0 XA_1 XA_2 XB_0 XB_1 XB_2
        go_wp2_with fail
        go_ret
        exact ⟨rfl, HB.out⟩
    · have f0 : (ev == 0) = false := by simpa using h0
      clear h0 hu fe
      go_enter Tryd.func9, Tryd.ntmps9
      go_wp2_with fail
      have XA := Lib.hid ((Box.new w 23 #[.int .i64 an, .int .i64 ad]).below (below_alloc _ (.cells #[.int .i64 bn, .int .i64 bd] 23)))
      have XB := Lib.hid (box1 w (.cells #[.int .i64 an, .int .i64 ad] 23) 23 #[.int .i64 bn, .int .i64 bd])
      have HB := Lib.hid (below_step (below_alloc w (.cells #[.int .i64 an, .int .i64 ad] 23)) (below_alloc _ (.cells #[.int .i64 bn, .int .i64 bd] 23)))
      refine (C1.out _).mono ?_; rintro e w1 ⟨rfl, hb⟩
      replace XA := Lib.hid (XA.out.below hb)
      replace XB := Lib.hid (XB.out.below hb)
      replace HB := Lib.hid (below_step HB.out hb)
      clear hb
      have XA_0 := XA.out.at_ 0 _ rfl
      have XA_1 := XA.out.at_ 1 _ rfl
      have XA_2 := XA.out.lt
      have XB_0 := XB.out.at_ 0 _ rfl
      have XB_1 := XB.out.at_ 1 _ rfl
      have XB_2 := XB.out.lt
      go_wp2_with fail
      refine (C2.out _).mono ?_; rintro e w2 ⟨rfl, hb⟩
      clear XA_0 XA_1 XA_2 XB_0 XB_1 XB_2
      replace XA := Lib.hid (XA.out.below hb)
      replace XB := Lib.hid (XB.out.below hb)
      replace HB := Lib.hid (below_step HB.out hb)
      clear hb
      have XA_0 := XA.out.at_ 0 _ rfl
      have XA_1 := XA.out.at_ 1 _ rfl
      have XA_2 := XA.out.lt
      have XB_0 := XB.out.at_ 0 _ rfl
      have XB_1 := XB.out.at_ 1 _ rfl
      have XB_2 := XB.out.lt
      go_wp2_with fail
      refine (C3.out _).mono ?_; rintro e w3 ⟨rfl, hb⟩
      clear XA_0 XA_1 XA_2 XB_0 XB_1 XB_2
      replace XA := Lib.hid (XA.out.below hb)
      replace XB := Lib.hid (XB.out.below hb)
      replace HB := Lib.hid (below_step HB.out hb)
      clear hb
      have XA_0 := XA.out.at_ 0 _ rfl
      have XA_1 := XA.out.at_ 1 _ rfl
      have XA_2 := XA.out.lt
      have XB_0 := XB.out.at_ 0 _ rfl
      have XB_1 := XB.out.at_ 1 _ rfl
      have XB_2 := XB.out.lt
      go_wp2_with fail
      refine (C4.out _).mono ?_; rintro e w4 ⟨rfl, hb⟩
      clear XA_0 XA_1 XA_2 XB_0 XB_1 XB_2
      replace XA := Lib.hid (XA.out.below hb)
      replace XB := Lib.hid (XB.out.below hb)
      replace HB := Lib.hid (below_step HB.out hb)
      clear hb
      have XA_0 := XA.out.at_ 0 _ rfl
      have XA_1 := XA.out.at_ 1 _ rfl
      have XA_2 := XA.out.lt
      have XB_0 := XB.out.at_ 0 _ rfl
      have XB_1 := XB.out.at_ 1 _ rfl
      have XB_2 := XB.out.lt
      go_wp2_with fail
      refine (awake05 _ ((HT.out.below HB.out).below (below_alloc _ _))).mono ?_; rintro e w9 ⟨rfl, hb⟩
      replace HB := Lib.hid (below_step HB.out (below_step (below_alloc w4 (.cells #[.int .i64 u, .int .i64 z] 23)) hb))
      clear hb XA_0 XA_1 XA_2 XB_0 XB_1 XB_2
      go_wp2_with fail
      go_ret
      exact ⟨rfl, HB.out⟩

end Go.Proofs.YtbaalbmchhgmnaaDoor
