/-
  Contracts of rat.Compare, Sum.
-/
import Derived.Test.YtbaalbmchhgmnaaDoorRatI
import Derived.Deep.CutBlock
namespace Go.Proofs.YtbaalbmchhgmnaaDoor
open Go.RowKit
set_option linter.unusedVariables false
set_option linter.unusedSimpArgs false

def cmpV (sa sb lt : Bool) : Int := if sa = sb then (if lt = sa then 1 else -1) else (if sa = true then -1 else 1)
theorem rat_ne {an bn : Int} {p q : Nat} (ha : ratV an p = true) (hb : ratV bn q = true) (h : an * (q : Int) = bn * (p : Int)) : an = bn ∧ p = q := by
  obtain ⟨a1, a2⟩ := ratV_iff.1 ha
  obtain ⟨b1, b2⟩ := ratV_iff.1 hb
  rw [Int.natAbs_natCast] at a2 b2
  have hn : an.natAbs * q = bn.natAbs * p := by
    have := congrArg Int.natAbs h
    rwa [Int.natAbs_mul, Int.natAbs_mul, Int.natAbs_natCast, Int.natAbs_natCast] at this
  obtain ⟨e1, e2⟩ := lowest_unique (by omega) (by omega) b2 hn
  rw [a2, Nat.div_one] at e1 e2
  subst e2
  exact ⟨Int.eq_of_mul_eq_mul_right (by omega) h, rfl⟩
theorem sg_neg {s : Int} (h : s < 0) : sg s = -1 := by unfold sg; rw [if_neg (by omega), if_pos h]
theorem sg_pos {s : Int} (h : 0 < s) : sg s = 1 := by unfold sg; rw [if_neg (by omega), if_neg (by omega)]
theorem sg_sv {sa sb : Bool} {x y : Nat} (hne : sv sa x ≠ sv sb y) (zl : sa = true → 0 < x) (zr : sb = true → 0 < y) : sg (sv sa x - sv sb y) = cmpV sa sb (decide (x < y)) := by
  cases sa <;> cases sb
  · have e1 : sv false x = x := rfl
    have e2 : sv false y = y := rfl
    rw [e1, e2] at hne ⊢
    by_cases h : x < y
    · rw [decide_eq_true h, sg_neg (by omega)]; rfl
    · rw [decide_eq_false h, sg_pos (by omega)]; rfl
  · have e1 : sv false x = x := rfl
    have e2 : sv true y = -(y : Int) := rfl
    have := zr rfl
    rw [e1, e2, sg_pos (by omega)]
    cases decide (x < y) <;> rfl
  · have e1 : sv true x = -(x : Int) := rfl
    have e2 : sv false y = y := rfl
    have := zl rfl
    rw [e1, e2, sg_neg (by omega)]
    cases decide (x < y) <;> rfl
  · have e1 : sv true x = -(x : Int) := rfl
    have e2 : sv true y = -(y : Int) := rfl
    rw [e1, e2] at hne ⊢
    by_cases h : x < y
    · rw [decide_eq_true h, sg_pos (by omega)]; rfl
    · rw [decide_eq_false h, sg_neg (by omega)]; rfl
theorem cmp_law {an bn : Int} {p q : Nat} (ha : ratV an p = true) (hb : ratV bn q = true) (hne : ¬ (an = bn ∧ p = q)) : cmpR an p bn q = (cmpV (decide (an < 0)) (decide (bn < 0)) (decide (an.natAbs * q < bn.natAbs * p)), 0) := by
  have hLR : an * (q : Int) ≠ bn * (p : Int) := fun h => hne (rat_ne ha hb h)
  obtain ⟨a1, _⟩ := ratV_iff.1 ha
  obtain ⟨b1, _⟩ := ratV_iff.1 hb
  have hL := sv_mul an q
  have hR := sv_mul bn p
  unfold cmpR
  rw [if_pos ⟨ha, hb⟩]
  congr 1
  rw [← hL, ← hR] at hLR ⊢
  have zl : decide (an < 0) = true → 0 < an.natAbs * q := fun h => Nat.mul_pos (by have := of_decide_eq_true h; omega) (by omega)
  have zr : decide (bn < 0) = true → 0 < bn.natAbs * p := fun h => Nat.mul_pos (by have := of_decide_eq_true h; omega) (by omega)
  exact sg_sv hLR zl zr

set_option maxRecDepth 100000 in
set_option maxHeartbeats 8000000 in
theorem ratCompare (an ad bn bd : Int) (w : World) (h1 : I64 an) (h2 : I64 ad) (h3 : I64 bn) (h4 : I64 bd) :
    Calls Tryd.prog 28 #[.agg #[.int .i64 an, .int .i64 ad], .agg #[.int .i64 bn, .int .i64 bd]] w fun e w' => e = .returned (.tuple #[.int .i64 (cmpR an ad bn bd).1, .int .i64 (cmpR an ad bn bd).2]) ∧ Below w.heap.size w w' := by
  have CB := Lib.hid (fun w => ratBoth an ad bn bd w h1 h2 h3 h4)
  by_cases hv : ratV an ad = true ∧ ratV bn bd = true
  · obtain ⟨p, rfl⟩ := rat_nat hv.1
    obtain ⟨q, rfl⟩ := rat_nat hv.2
    by_cases heq : an = bn ∧ p = q
    · obtain ⟨rfl, rfl⟩ := heq
      have HE : Hid (cmpR an p an p = (0, 0)) := Lib.hid (by unfold cmpR; rw [if_pos hv, Int.sub_self]; rfl)
      rw [hv.1] at CB
      clear hv h1 h2 h3 h4
      go_enter Tryd.func28, Tryd.ntmps28
      go_wp2_with fail
      have XA := Lib.hid ((Box.new w 23 #[.int .i64 an, .int .i64 p]).below (below_alloc _ (.cells #[.int .i64 an, .int .i64 p] 23)))
      have XB := Lib.hid (box1 w (.cells #[.int .i64 an, .int .i64 p] 23) 23 #[.int .i64 an, .int .i64 p])
      have HB := Lib.hid (below_step (below_alloc w (.cells #[.int .i64 an, .int .i64 p] 23)) (below_alloc _ (.cells #[.int .i64 an, .int .i64 p] 23)))
      refine (CB.out _).mono ?_; rintro e w1 ⟨rfl, hb⟩
      have YA := XA.out.below hb
      have YB := XB.out.below hb
      have a0 := YA.at_ 0 _ rfl
      have a1 := YA.at_ 1 _ rfl
      have b0 := YB.at_ 0 _ rfl
      have b1 := YB.at_ 1 _ rfl
      replace HB := Lib.hid (below_step HB.out hb)
      clear hb YA YB
      go_wp2_with fail
      go_ret2
      exact ⟨by rw [HE.out]; rfl, HB.out⟩
    · have HE := Lib.hid (cmp_law hv.1 hv.2 heq)
      have k1 := h1
      have k2 := h2
      have k3 := h3
      have k4 := h4
      unfold I64 at k1 k2 k3 k4
      have T1 := Lib.hid (fun w => ratTimes an q w h1 (by omega))
      have T2 := Lib.hid (fun w => ratTimes bn p w h3 (by omega))
      have LS := Lib.hid (fun w => ratLess (decide (an < 0)) (decide (bn < 0)) (an.natAbs * q) (bn.natAbs * p) w)
      have v1 : IntKind.u64.wrap (p : Int) = (p : Int) := wrapu (by omega)
      have v2 : IntKind.u64.wrap (q : Int) = (q : Int) := wrapu (by omega)
      have key : (an == bn) = false ∨ ((an == bn) = true ∧ ((p : Int) == (q : Int)) = false) := by
        by_cases he : an = bn
        · right
          refine ⟨by simpa using he, ?_⟩
          have : ¬ (p : Int) = q := fun h => heq ⟨he, by omega⟩
          simpa using this
        · left; simpa using he
      rw [hv.1, hv.2] at CB
      unfold W128 at T1 T2 LS
      generalize cmpR an p bn q = res at *
      generalize HI (an.natAbs * q) = ah at *
      generalize LO (an.natAbs * q) = al at *
      generalize HI (bn.natAbs * p) = bh at *
      generalize LO (bn.natAbs * p) = bl at *
      generalize decide (an.natAbs * q < bn.natAbs * p) = lt at *
      generalize decide (an < 0) = sa at *
      generalize decide (bn < 0) = sb at *
      clear hv h1 h2 h3 h4 heq
      have key2 : Hid (∀ P : Prop, ((an == bn) = false → P) → ((an == bn) = true → ((p : Int) == (q : Int)) = false → P) → P) := Lib.hid fun P f g => key.elim f fun h => g h.1 h.2
      clear key
      go_enter Tryd.func28, Tryd.ntmps28
      go_wp2_with fail
      have XA := Lib.hid ((Box.new w 23 #[.int .i64 an, .int .i64 p]).below (below_alloc _ (.cells #[.int .i64 bn, .int .i64 q] 23)))
      have XB := Lib.hid (box1 w (.cells #[.int .i64 an, .int .i64 p] 23) 23 #[.int .i64 bn, .int .i64 q])
      have HB := Lib.hid (below_step (below_alloc w (.cells #[.int .i64 an, .int .i64 p] 23)) (below_alloc _ (.cells #[.int .i64 bn, .int .i64 q] 23)))
      refine (CB.out _).mono ?_; rintro e w1 ⟨rfl, hb⟩
      replace XA := Lib.hid (XA.out.below hb); replace XB := Lib.hid (XB.out.below hb); replace HB := Lib.hid (below_step HB.out hb)
      clear hb
      have a0 := XA.out.at_ 0 _ rfl
      have a1 := XA.out.at_ 1 _ rfl
      have b0 := XB.out.at_ 0 _ rfl
      have b1 := XB.out.at_ 1 _ rfl
      refine key2.out _ (fun f1 => ?_) (fun f1 f2 => ?_)
      all_goals
        first | (have e1 := eq_of_beq f1; subst e1; clear f1) | skip
        go_wp2_with fail
        clear a0 a1 b0 b1
        refine wp_region_fresh 14 (fun _ => #[.bool false, .int .u64 0, .int .u64 0]) (by kernel_rfl) (fun γ => by kernel_rfl) (by kernel_rfl) (by kernel_rfl) (allocs_ok ?_) ?_
        · repeat (first | exact List.forall_mem_nil _ | refine List.forall_mem_cons.2 ⟨by first | trivial | exact ⟨rfl, allocWide⟩, ?_⟩)
        intro γ C hC hne
        have l0 := XA.out.latC (C := C) 0 _ rfl
        have l1 := XA.out.latC (C := C) 1 _ rfl
        have l2 := XB.out.latC (C := C) 0 _ rfl
        have l3 := XB.out.latC (C := C) 1 _ rfl
        simp only [pseL, pseO, Nat.zero_add, Nat.reduceAdd, List.take_succ_cons, List.take_zero, List.drop_succ_cons, List.drop_zero]
        repeat (go_big_quiet_step (first | (with_reducible exact latC_call hC (T1.out _)) | (with_reducible exact latC_call hC (T2.out _))))
        refine wpQuiet_nil ?_; intro w4 hb4 hbx hnx
        obtain ⟨Y, hgy⟩ := hbx 12 _ (by omega) ⟨_, rfl, rfl⟩
        obtain ⟨Z, hgz⟩ := hbx 13 _ (by omega) ⟨_, rfl, rfl⟩
        have hyz := hnx 12 13 _ _ (by omega) (by omega) ⟨_, rfl, rfl⟩ ⟨_, rfl, rfl⟩ (by omega)
        clear l0 l1 l2 l3 hbx hnx hC hne
        generalize γ 12 = gy at *
        generalize γ 13 = gz at *
        have y0 := Y.at_ 0 _ rfl
        have y1 := Y.at_ 1 _ rfl
        have y2 := Y.at_ 2 _ rfl
        have y3 := Y.frozen 0
        have y4 := Y.frozen 1
        have y5 := Y.frozen 2
        have z0 := Z.at_ 0 _ rfl
        have z1 := Z.at_ 1 _ rfl
        have z2 := Z.at_ 2 _ rfl
        have z3 := Z.frozen 0
        have z4 := Z.frozen 1
        have z5 := Z.frozen 2
        have hzy : gz ≠ gy := Ne.symm hyz
        have HY := Lib.hid ((((((Y.set_ 0 (.bool sa)).set_ 1 (.int .u64 ah)).set_ 2 (.int .u64 al)).setNe (p := ⟨gz, 0, none⟩) hzy (.bool sb)).setNe (p := ⟨gz, 1, none⟩) hzy (.int .u64 bh)).setNe (p := ⟨gz, 2, none⟩) hzy (.int .u64 bl))
        have HZ := Lib.hid ((((((Z.setNe (p := ⟨gy, 0, none⟩) hyz (.bool sa)).setNe (p := ⟨gy, 1, none⟩) hyz (.int .u64 ah)).setNe (p := ⟨gy, 2, none⟩) hyz (.int .u64 al)).set_ 0 (.bool sb)).set_ 1 (.int .u64 bh)).set_ 2 (.int .u64 bl))
        have HB4 := Lib.hid ((((((hb4.setCell (p := ⟨gy, 0, none⟩) hgy (.bool sa)).setCell (p := ⟨gy, 1, none⟩) hgy (.int .u64 ah)).setCell (p := ⟨gy, 2, none⟩) hgy (.int .u64 al)).setCell (p := ⟨gz, 0, none⟩) hgz (.bool sb)).setCell (p := ⟨gz, 1, none⟩) hgz (.int .u64 bh)).setCell (p := ⟨gz, 2, none⟩) hgz (.int .u64 bl))
        replace HB := Lib.hid (below_step HB.out HB4.out)
        clear Y Z hb4 HB4
        clear hgy hgz
        go_upto_region 6 with fail
        clear y0 y1 y2 y3 y4 y5 z0 z1 z2 z3 z4 z5
        generalize (((((w4.setCell ⟨gy, 0, none⟩ (.bool sa)).setCell ⟨gy, 1, none⟩ (.int .u64 ah)).setCell ⟨gy, 2, none⟩ (.int .u64 al)).setCell ⟨gz, 0, none⟩ (.bool sb)).setCell ⟨gz, 1, none⟩ (.int .u64 bh)).setCell ⟨gz, 2, none⟩ (.int .u64 bl) = w5 at *
        have XY : Hid (Box w5 gy #[.bool sa, .int .u64 ah, .int .u64 al] 59) := HY
        have XZ : Hid (Box w5 gz #[.bool sb, .int .u64 bh, .int .u64 bl] 59) := HZ
        clear HY HZ hyz hzy
        have y0 := XY.out.at_ 0 _ rfl
        have z0 := XZ.out.at_ 0 _ rfl
        have HVV : Hid (∀ sa' sb' lt' v, sa = sa' → sb = sb' → lt = lt' → cmpV sa' sb' lt' = v → res = (v, 0)) := Lib.hid fun sa' sb' lt' v e1 e2 e3 e4 => by rw [HE.out, e1, e2, e3, e4]
        clear HE
        cases sa <;> cases sb
        · have l0 := XY.out.lat 0 _ rfl
          have l1 := XY.out.lat 1 _ rfl
          have l2 := XY.out.lat 2 _ rfl
          have l3 := XZ.out.lat 0 _ rfl
          have l4 := XZ.out.lat 1 _ rfl
          have l5 := XZ.out.lat 2 _ rfl
          go_wp2_with fail
          refine wp_region_lat (by kernel_rfl) (by kernel_rfl) ?_
          repeat (go_big_quiet_step (with_reducible exact lat_call (LS.out _)))
          refine wpQuiet_nil ?_; intro w6 hb6
          replace HB := Lib.hid (below_step HB.out hb6)
          clear hb6 l0 l1 l2 l3 l4 l5 y0 z0
          cases lt
          · go_wp2_with fail
            go_ret2
            exact ⟨by rw [HVV.out _ _ _ _ rfl rfl rfl rfl]; rfl, HB.out⟩
          · go_wp2_with fail
            go_ret2
            exact ⟨by rw [HVV.out _ _ _ _ rfl rfl rfl rfl]; rfl, HB.out⟩
        · go_wp2_with fail
          go_ret2
          exact ⟨by rw [HVV.out _ _ _ _ rfl rfl rfl rfl]; cases lt <;> rfl, HB.out⟩
        · go_wp2_with fail
          go_ret2
          exact ⟨by rw [HVV.out _ _ _ _ rfl rfl rfl rfl]; cases lt <;> rfl, HB.out⟩
        · have l0 := XY.out.lat 0 _ rfl
          have l1 := XY.out.lat 1 _ rfl
          have l2 := XY.out.lat 2 _ rfl
          have l3 := XZ.out.lat 0 _ rfl
          have l4 := XZ.out.lat 1 _ rfl
          have l5 := XZ.out.lat 2 _ rfl
          go_wp2_with fail
          refine wp_region_lat (by kernel_rfl) (by kernel_rfl) ?_
          repeat (go_big_quiet_step (with_reducible exact lat_call (LS.out _)))
          refine wpQuiet_nil ?_; intro w6 hb6
          replace HB := Lib.hid (below_step HB.out hb6)
          clear hb6 l0 l1 l2 l3 l4 l5 y0 z0
          cases lt
          · go_wp2_with fail
            go_ret2
            exact ⟨by rw [HVV.out _ _ _ _ rfl rfl rfl rfl]; rfl, HB.out⟩
          · go_wp2_with fail
            go_ret2
            exact ⟨by rw [HVV.out _ _ _ _ rfl rfl rfl rfl]; rfl, HB.out⟩
  · have HE : Hid (cmpR an ad bn bd = (0, 1)) := Lib.hid (by unfold cmpR; rw [if_neg hv])
    have hb : (ratV an ad && ratV bn bd) = false := by revert hv; cases ratV an ad <;> cases ratV bn bd <;> simp
    rw [hb] at CB
    clear hv hb h1 h2 h3 h4
    go_enter Tryd.func28, Tryd.ntmps28
    go_wp2_with fail
    have HB := Lib.hid (below_step (below_alloc w (.cells #[.int .i64 an, .int .i64 ad] 23)) (below_alloc _ (.cells #[.int .i64 bn, .int .i64 bd] 23)))
    refine (CB.out _).mono ?_; rintro e w1 ⟨rfl, hb⟩
    replace HB := Lib.hid (below_step HB.out hb)
    clear hb
    go_wp2_with fail
    go_ret2
    exact ⟨by rw [HE.out]; rfl, HB.out⟩

end Go.Proofs.YtbaalbmchhgmnaaDoor
