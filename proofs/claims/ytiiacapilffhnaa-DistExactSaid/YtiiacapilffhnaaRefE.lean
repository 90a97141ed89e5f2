/-
  Contracts of the reference's rational numbers: Add, Sub, Compare.
-/
import Derived.Test.YtiiacapilffhnaaRefD
import Derived.Deep.CutBlock
namespace Go.Proofs.Ytiiacapilffhnaa
open Go.RowKit
set_option linter.unusedVariables false
set_option linter.unusedSimpArgs false

theorem allocSigned : AllocRun Try.prog 56 #[.bool false, .slice none 0 0] := fun o ho a w => by
  unfold execOp; rw [ho]; kernel_rfl
theorem sg_bn {v : Value} {A : Option Addr} {k c n : Nat} {s : Bool} {w : World} (e : v = .agg #[.bool s, .slice A k c]) (h : ∃ v', v = .agg #[.bool s, v'] ∧ BN w v' n) : BN w (.slice A k c) n := by
  obtain ⟨v', e', h⟩ := h
  rw [e] at e'
  simp at e'
  rw [e']; exact h
theorem box_at {v : Value} {g : Nat} {w : World} {cs : Array Value} {T : TypeId} {B : Nat} (e : v = .pointer (some ⟨g, 0, none⟩)) (h : ∃ g', v = .pointer (some ⟨g', 0, none⟩) ∧ Box w g' cs T ∧ B ≤ g') : Box w g cs T ∧ B ≤ g := by
  obtain ⟨g', e', h⟩ := h
  rw [e] at e'
  simp at e'
  rw [e']; exact h
theorem sv_not (s : Bool) (m : Nat) : sv (!s) m = -sv s m := by unfold sv; cases s <;> simp
theorem add_quo {an ad bn bd : Int} (hv : ratV an ad = true ∧ ratV bn bd = true) : addR an ad bn bd = quoR (sumS (decide (an < 0)) (an.natAbs * bd.natAbs) (decide (bn < 0)) (bn.natAbs * ad.natAbs)) (sumN (decide (an < 0)) (an.natAbs * bd.natAbs) (decide (bn < 0)) (bn.natAbs * ad.natAbs)) (ad.natAbs * bd.natAbs) := by
  obtain ⟨h1, h2⟩ := sum_law (decide (an < 0)) (an.natAbs * bd.natAbs) (decide (bn < 0)) (bn.natAbs * ad.natAbs)
  have g1 := (ratV_iff.1 hv.1).1
  have g2 := (ratV_iff.1 hv.2).1
  rw [sv_mul, sv_mul, show ((bd.natAbs : Nat) : Int) = bd by omega, show ((ad.natAbs : Nat) : Int) = ad by omega] at h1 h2
  unfold addR
  rw [if_pos hv, Int.natAbs_mul]
  exact (quoR_ratQ h1.symm h2).symm
theorem sub_quo {an ad bn bd : Int} (hv : ratV an ad = true ∧ ratV bn bd = true) : subR an ad bn bd = quoR (sumS (decide (an < 0)) (an.natAbs * bd.natAbs) (!decide (bn < 0)) (bn.natAbs * ad.natAbs)) (sumN (decide (an < 0)) (an.natAbs * bd.natAbs) (!decide (bn < 0)) (bn.natAbs * ad.natAbs)) (ad.natAbs * bd.natAbs) := by
  obtain ⟨h1, h2⟩ := sum_law (decide (an < 0)) (an.natAbs * bd.natAbs) (!decide (bn < 0)) (bn.natAbs * ad.natAbs)
  have g1 := (ratV_iff.1 hv.1).1
  have g2 := (ratV_iff.1 hv.2).1
  rw [sv_not, sv_mul, sv_mul, show ((bd.natAbs : Nat) : Int) = bd by omega, show ((ad.natAbs : Nat) : Int) = ad by omega, ← Int.sub_eq_add_neg] at h1 h2
  unfold subR
  rw [if_pos hv, Int.natAbs_mul]
  exact (quoR_ratQ h1.symm h2).symm
theorem cmp_quo {an ad bn bd : Int} (hv : ratV an ad = true ∧ ratV bn bd = true) : ∃ N S, N = sumN (decide (an < 0)) (an.natAbs * bd.natAbs) (!decide (bn < 0)) (bn.natAbs * ad.natAbs) ∧ S = sumS (decide (an < 0)) (an.natAbs * bd.natAbs) (!decide (bn < 0)) (bn.natAbs * ad.natAbs) ∧
    cmpR an ad bn bd = (if N = 0 then 0 else if S = true then -1 else 1, 0) := by
  obtain ⟨h1, h2⟩ := sum_law (decide (an < 0)) (an.natAbs * bd.natAbs) (!decide (bn < 0)) (bn.natAbs * ad.natAbs)
  have g1 := (ratV_iff.1 hv.1).1
  have g2 := (ratV_iff.1 hv.2).1
  rw [sv_not, sv_mul, sv_mul, show ((bd.natAbs : Nat) : Int) = bd by omega, show ((ad.natAbs : Nat) : Int) = ad by omega, ← Int.sub_eq_add_neg] at h1 h2
  refine ⟨_, _, rfl, rfl, ?_⟩
  unfold cmpR sg
  rw [if_pos hv]
  generalize sumN (decide (an < 0)) (an.natAbs * bd.natAbs) (!decide (bn < 0)) (bn.natAbs * ad.natAbs) = N at *
  generalize sumS (decide (an < 0)) (an.natAbs * bd.natAbs) (!decide (bn < 0)) (bn.natAbs * ad.natAbs) = S at *
  generalize an * bd - bn * ad = s at *
  by_cases h0 : s = 0
  · rw [if_pos h0, if_pos (by rw [h1, h0]; rfl)]
  · have hN : N ≠ 0 := by omega
    rw [if_neg h0, if_neg hN, h2 hN]
    by_cases hs : s < 0
    · rw [if_pos hs, if_pos (by simpa using hs)]
    · rw [if_neg hs, if_neg (by simpa using hs)]
theorem sumN_PW {s1 s2 : Bool} {x y : Nat} (hx : x < PW 10) (hy : y < PW 10) : sumN s1 x s2 y < PW 50 := by
  have h : PW 11 < PW 50 := PW_lt.2 (by omega)
  rw [PW_succ] at h
  unfold sumN; split
  · omega
  · split <;> omega

set_option maxRecDepth 100000 in
set_option maxHeartbeats 8000000 in
theorem refAdd05 (an ad bn bd : Int) (w : World) (h1 : I64 an) (h2 : I64 ad) (h3 : I64 bn) (h4 : I64 bd) :
    Calls Try.prog 21 #[.agg #[.int .i64 an, .int .i64 ad], .agg #[.int .i64 bn, .int .i64 bd]] w fun e w' => e = ret3r (addR an ad bn bd) ∧ Below w.heap.size w w' := by
  have CV1 := Lib.hid (fun w => refValid05 an ad w h1 h2)
  have CV2 := Lib.hid (fun w => refValid05 bn bd w h3 h4)
  by_cases hv : ratV an ad = true ∧ ratV bn bd = true
  · skip
    have C1 := Lib.hid (fun w => refCross an ad bn bd w h1 h4)
    have C2 := Lib.hid (fun w => refCross bn bd an ad w h3 h2)
    have l1 := i64_PW h1
    have l2 := i64_PW h2
    have l3 := i64_PW h3
    have l4 := i64_PW h4
    have m1 := mul_PW l1 l4
    have m2 := mul_PW l3 l2
    have h15 : PW 10 < PW 50 := PW_lt.2 (by omega)
    have S2 := Lib.hid (fun w => bigSize w ad h2.1 h2.2)
    have S4 := Lib.hid (fun w => bigSize w bd h4.1 h4.2)
    have m3 := mul_PW l2 l4
    have h56 : PW 5 < PW 60 := PW_lt.2 (by omega)
    have g1 := (ratV_iff.1 hv.1).1
    have g2 := (ratV_iff.1 hv.2).1
    have hE := add_quo hv
    obtain ⟨nA, hnA⟩ : ∃ k, k = an.natAbs * bd.natAbs := ⟨_, rfl⟩
    obtain ⟨nB, hnB⟩ : ∃ k, k = bn.natAbs * ad.natAbs := ⟨_, rfl⟩
    obtain ⟨sa, hsa⟩ : ∃ s : Bool, s = decide (an < 0) := ⟨_, rfl⟩
    obtain ⟨sb, hsb⟩ : ∃ s : Bool, s = decide (bn < 0) := ⟨_, rfl⟩
    rw [← hnA, ← hsa] at C1
    rw [← hnB, ← hsb] at C2
    rw [← hnA] at m1
    rw [← hnB] at m2
    rw [← hnA, ← hnB, ← hsa, ← hsb] at hE
    have CS : Hid (∀ w v1 v2, BN w v1 nA → BN w v2 nB → Calls Try.prog 35 #[.agg #[.bool sa, v1], .agg #[.bool sb, v2]] w (SGN w (sumS sa nA sb nB) (sumN sa nA sb nB))) := Lib.hid fun w v1 v2 h1 h2 => refSum w sa sb v1 v2 nA nB h1 h2 (by omega) (by omega)
    have hNl : sumN sa nA sb nB < PW 50 := sumN_PW m1 m2
    generalize sumS sa nA sb nB = S at *
    generalize sumN sa nA sb nB = N at *
    obtain ⟨p, hp⟩ : ∃ x, x = ad.natAbs := ⟨_, rfl⟩
    obtain ⟨q, hq⟩ : ∃ x, x = bd.natAbs := ⟨_, rfl⟩
    rw [← hp] at S2 l2 m3 hE
    rw [← hq] at S4 l4 m3 hE
    have T2 : Hid (∀ w v1 v2, BN w v1 p → BN w v2 q → Calls Try.prog 38 #[v1, v2] w (BL w (p * q))) := Lib.hid fun w v1 v2 h1 h2 => bigTimes w v1 v2 _ _ h1 h2 (by omega) (by omega)
    have CQ : Hid (∀ w v1 v2, BN w v1 N → BN w v2 (p * q) → Calls Try.prog 37 #[.bool S, v1, v2] w fun e w' => e = ret3r (quoR S N (p * q)) ∧ Below w.heap.size w w') := Lib.hid fun w v1 v2 h1 h2 =>
      bigQuotient w S v1 v2 _ _ h1 h2 hNl (by omega) (Nat.mul_pos (by omega) (by omega))
    rw [← hE] at CQ
    rw [hv.1] at CV1
    rw [hv.2] at CV2
    clear hE l1 l2 l3 l4 g1 g2 hp hq m1 m2 m3 h56 h15 hsa hsb hv h1 h2 h3 h4 hnA hnB hNl
    generalize addR an ad bn bd = res at *
    obtain ⟨ra, rb, re⟩ := res
    simp only [ret3r] at CQ ⊢
    go_enter Try.func21, Try.ntmps21
    go_wp2_with fail
    have XA := Lib.hid (((Box.new w 33 #[.int .i64 an, .int .i64 ad]).below (below_alloc _ (.cells #[.int .i64 bn, .int .i64 bd] 33))).below (below_alloc _ (.cells #[.int .i64 0, .int .i64 0] 33)))
    have XB := Lib.hid ((box1 w (.cells #[.int .i64 an, .int .i64 ad] 33) 33 #[.int .i64 bn, .int .i64 bd]).below (below_alloc _ (.cells #[.int .i64 0, .int .i64 0] 33)))
    have XR := Lib.hid (box2 w (.cells #[.int .i64 an, .int .i64 ad] 33) (.cells #[.int .i64 bn, .int .i64 bd] 33) 33 #[.int .i64 0, .int .i64 0])
    have HB := Lib.hid (below_step (below_step (below_alloc w (.cells #[.int .i64 an, .int .i64 ad] 33)) (below_alloc _ (.cells #[.int .i64 bn, .int .i64 bd] 33))) (below_alloc _ (.cells #[.int .i64 0, .int .i64 0] 33)))
    refine (CV1.out _).mono ?_; rintro e w2 ⟨rfl, hb⟩
    replace XA := Lib.hid (XA.out.below hb); replace XB := Lib.hid (XB.out.below hb); replace XR := Lib.hid (XR.out.below hb); replace HB := Lib.hid (below_step HB.out hb)
    clear hb
    have b0 := XB.out.at_ 0 _ rfl
    have b1 := XB.out.at_ 1 _ rfl
    go_wp2_with fail
    refine (CV2.out _).mono ?_; rintro e w3 ⟨rfl, hb⟩
    clear b0 b1
    replace XA := Lib.hid (XA.out.below hb); replace XB := Lib.hid (XB.out.below hb); replace XR := Lib.hid (XR.out.below hb); replace HB := Lib.hid (below_step HB.out hb)
    clear hb
    go_wp2_with fail
    refine wp_region_gen 8 (Kit.of [fSG 2 [] sa nA, fSG 5 [] sb nB, fSG 6 [2, 5] S N, fBox 7 w3.heap.size #[.bool false, .slice none 0 0] 56]) (by kernel_rfl) (by kernel_rfl) (fun γ => by kernel_rfl) (by kernel_rfl) (Kit.of_stable ?_) (Kit.of_known ?_) ?_
    · intro z hz; simp only [List.mem_cons, List.not_mem_nil, or_false] at hz; rcases hz with rfl | rfl | rfl | rfl
      · apply fSG_st
      · apply fSG_st
      · apply fSG_st
      · apply fBox_st
    · intro z hz; simp only [List.mem_cons, List.not_mem_nil, or_false] at hz; rcases hz with rfl | rfl | rfl | rfl
      · apply fSG_kn
      · apply fSG_kn
      · apply fSG_kn
      · apply fBox_kn
    intro γ hγ C hC hne
    obtain ⟨A2, c2, e2⟩ : ∃ A c, γ 2 = .agg #[.bool sa, .slice A (dg nA).length c] := hγ 2 rfl
    obtain ⟨A5, c5, e5⟩ : ∃ A c, γ 5 = .agg #[.bool sb, .slice A (dg nB).length c] := hγ 5 rfl
    obtain ⟨A6, c6, e6⟩ : ∃ A c, γ 6 = .agg #[.bool S, .slice A (dg N).length c] := hγ 6 rfl
    obtain ⟨g7, e7⟩ : ∃ g, γ 7 = .pointer (some ⟨g, 0, none⟩) := hγ 7 rfl
    have l0 := XA.out.latC (C := C) 0 _ rfl
    have l1 := XA.out.latC (C := C) 1 _ rfl
    have l2 := XB.out.latC (C := C) 0 _ rfl
    have l3 := XB.out.latC (C := C) 1 _ rfl
    simp only [List.take_succ_cons, List.take_zero, List.drop_succ_cons, List.drop_zero]
    iterate 2 (refine wpF_quiet rfl ?_; go_big_quiet_step (fail); refine wpQuiet_nil ?_)
    refine wpF_fresh rfl (freshAt_call (args := #[.agg #[.int .i64 an, .int .i64 ad], .agg #[.int .i64 bn, .int .i64 bd]]) rfl _ _ _ (run_go Try.func36 (by kernel_rfl) (by kernel_rfl)) rfl (by simp [Act.eval]) (fun w' hb hf => (C1.out w').mono fun e w2 ⟨v, he, h1, h2⟩ => ⟨_, he, ⟨v, rfl, h1⟩, h2⟩)) ?_
    simp only [Nat.zero_add, Nat.reduceAdd, e2]
    go_simp
    iterate 2 (refine wpF_quiet rfl ?_; go_big_quiet_step (fail); refine wpQuiet_nil ?_)
    refine wpF_fresh rfl (freshAt_call (args := #[.agg #[.int .i64 bn, .int .i64 bd], .agg #[.int .i64 an, .int .i64 ad]]) rfl _ _ _ (run_go Try.func36 (by kernel_rfl) (by kernel_rfl)) rfl (by simp [Act.eval]) (fun w' hb hf => (C2.out w').mono fun e w2 ⟨v, he, h1, h2⟩ => ⟨_, he, ⟨v, rfl, h1⟩, h2⟩)) ?_
    simp only [Nat.zero_add, Nat.reduceAdd, e5]
    go_simp
    refine wpF_fresh rfl (freshAt_call (args := #[.agg #[.bool sa, .slice A2 (dg nA).length c2], .agg #[.bool sb, .slice A5 (dg nB).length c5]]) rfl _ _ _ (run_go Try.func35 (by kernel_rfl) (by kernel_rfl)) rfl (by simp [Act.eval]) (fun w' hb hf => (CS.out w' _ _ (sg_bn e2 (hf 2 (show 2 ∈ [2, 5] by decide))) (sg_bn e5 (hf 5 (show 5 ∈ [2, 5] by decide)))).mono fun e w2 ⟨v, he, h1, h2⟩ => ⟨_, he, ⟨v, rfl, h1⟩, h2⟩)) ?_
    simp only [Nat.zero_add, Nat.reduceAdd, e6]
    go_simp
    refine wpF_fresh rfl (freshAt_alloc rfl rfl allocSigned (fun w' g hg hx => ⟨g, rfl, hx, hg⟩)) ?_
    simp only [Nat.zero_add, Nat.reduceAdd, e7]
    go_simp
    clear l0 l1 l2 l3 e2 e5
    intro w5 hb hF
    have F6 : BN w5 (.slice A6 (dg N).length c6) N := sg_bn e6 (hF 6 (by decide) rfl)
    obtain ⟨Y, hgy⟩ := box_at e7 (hF 7 (by decide) rfl)
    have y0 := Y.at_ 0 _ rfl
    have y1 := Y.at_ 1 _ rfl
    have z0 := Y.frozen 0
    have z1 := Y.frozen 1
    have HF := Lib.hid ((F6.set_box Y (noInt2 _ _ _ _) 0 (.bool S)).set_box (Y.set_ 0 (.bool S)) (noInt2 _ _ _ _) 1 (.slice A6 (dg N).length c6))
    have HY := Lib.hid ((Y.set_ 0 (.bool S)).set_ 1 (.slice A6 (dg N).length c6))
    replace hb := (hb.setCell (p := ⟨g7, 0, none⟩) hgy (.bool S)).setCell (p := ⟨g7, 1, none⟩) hgy (.slice A6 (dg N).length c6)
    replace XA := Lib.hid (XA.out.below hb); replace XB := Lib.hid (XB.out.below hb); replace XR := Lib.hid (XR.out.below hb); replace HB := Lib.hid (below_step HB.out hb)
    clear hb hgy Y F6 hF hγ hC hne e6 e7
    go_upto_region 4 with fail
    generalize (w5.setCell ⟨g7, 0, none⟩ (.bool S)).setCell ⟨g7, 1, none⟩ (.slice A6 (dg N).length c6) = w6 at *
    have XS : Hid (Box w6 g7 #[.bool S, .slice A6 (dg N).length c6] 56) := HY
    clear HY y0 y1 z0 z1
    refine wp_region_gen 14 (Kit.of [fBN 6 [] p, fBN 9 [] q, fBN 10 [6, 9] (p * q), fVal 11 [10] (.tuple #[.agg #[.int .i64 ra, .int .i64 rb], .int .i64 re])]) (by kernel_rfl) (by kernel_rfl) (fun γ => by kernel_rfl) (by kernel_rfl) (Kit.of_stable ?_) (Kit.of_known ?_) ?_
    · intro z hz; simp only [List.mem_cons, List.not_mem_nil, or_false] at hz; rcases hz with rfl | rfl | rfl | rfl
      · apply fBN_st
      · apply fBN_st
      · apply fBN_st
      · apply fVal_st
    · intro z hz; simp only [List.mem_cons, List.not_mem_nil, or_false] at hz; rcases hz with rfl | rfl | rfl | rfl
      · apply fBN_kn
      · apply fBN_kn
      · apply fBN_kn
      · apply fVal_kn
    intro γ hγ C hC hne
    obtain ⟨B6, d6, k6⟩ : SL p (γ 6) := hγ 6 rfl
    obtain ⟨B9, d9, k9⟩ : SL q (γ 9) := hγ 9 rfl
    obtain ⟨B10, d10, k10⟩ : SL (p * q) (γ 10) := hγ 10 rfl
    have k11 : γ 11 = .tuple #[.agg #[.int .i64 ra, .int .i64 rb], .int .i64 re] := hγ 11 rfl
    have l1 := XA.out.latC (C := C) 1 _ rfl
    have l3 := XB.out.latC (C := C) 1 _ rfl
    have l4 := XS.out.latC (C := C) 0 _ rfl
    have l5 := XS.out.latC (C := C) 1 _ rfl
    simp only [List.take_succ_cons, List.take_zero, List.drop_succ_cons, List.drop_zero]
    iterate 6 (refine wpF_quiet rfl ?_; go_big_quiet_step (fail); refine wpQuiet_nil ?_)
    refine wpF_fresh rfl (freshAt_call (args := #[.int .i64 ad]) rfl _ _ _ (run_go Try.func39 (by kernel_rfl) (by kernel_rfl)) rfl (by simp [Act.eval]) (fun w' hb hf => (S2.out w').mono fun e w2 ⟨v, he, h1, h2⟩ => ⟨v, he, h1, h2⟩)) ?_
    simp only [Nat.zero_add, Nat.reduceAdd, k6]
    go_simp
    iterate 2 (refine wpF_quiet rfl ?_; go_big_quiet_step (fail); refine wpQuiet_nil ?_)
    refine wpF_fresh rfl (freshAt_call (args := #[.int .i64 bd]) rfl _ _ _ (run_go Try.func39 (by kernel_rfl) (by kernel_rfl)) rfl (by simp [Act.eval]) (fun w' hb hf => (S4.out w').mono fun e w2 ⟨v, he, h1, h2⟩ => ⟨v, he, h1, h2⟩)) ?_
    simp only [Nat.zero_add, Nat.reduceAdd, k9]
    go_simp
    refine wpF_fresh rfl (freshAt_call (args := #[.slice B6 (dg p).length d6, .slice B9 (dg q).length d9]) rfl _ _ _ (run_go Try.func38 (by kernel_rfl) (by kernel_rfl)) rfl (by simp [Act.eval]) (fun w' hb hf => (T2.out w' _ _ (by have h5 : BN w' (γ 6) p := hf 6 (show 6 ∈ [6, 9] by decide); rwa [k6] at h5) (by have h8 : BN w' (γ 9) q := hf 9 (show 9 ∈ [6, 9] by decide); rwa [k9] at h8)).mono fun e w2 ⟨v, he, h1, h2⟩ => ⟨v, he, h1, h2⟩)) ?_
    simp only [Nat.zero_add, Nat.reduceAdd, k10]
    go_simp
    refine wpF_fresh rfl (freshAt_call (args := #[.bool S, .slice A6 (dg N).length c6, .slice B10 (dg (p * q)).length d10]) rfl _ _ _ (run_go Try.func37 (by kernel_rfl) (by kernel_rfl)) rfl (by simp [Act.eval]) (fun w' hb hf => (CQ.out w' _ _ (HF.out.below hb) (by have h8 : BN w' (γ 10) (p * q) := hf 10 (show 10 ∈ [10] by decide); rwa [k10] at h8)).mono fun e w2 ⟨he, hb2⟩ => ⟨_, he, rfl, hb2⟩)) ?_
    simp only [Nat.zero_add, Nat.reduceAdd, k11]
    go_simp
    iterate 2 (refine wpF_quiet rfl ?_; go_big_quiet_step (fail); refine wpQuiet_nil ?_)
    intro w7 hb hF
    clear l1 l3 l4 l5 hF k6 k9 k10 k11 hγ hC hne
    replace XA := Lib.hid (XA.out.below hb); replace XB := Lib.hid (XB.out.below hb); replace XR := Lib.hid (XR.out.below hb); replace HB := Lib.hid (below_step HB.out hb)
    clear hb
    have r0 := XR.out.at_ 0 _ rfl
    have r1 := XR.out.at_ 1 _ rfl
    have z0 := XR.out.frozen 0
    have z1 := XR.out.frozen 1
    go_wp2_with fail
    refine bodyPost_ret (v := .tuple #[.agg #[.int .i64 ra, .int .i64 rb], .int .i64 re]) (by simp [results, Try.results21, go_sem, r0, r1]) rfl ⟨rfl, ?_⟩
    exact (HB.out.setCell (by simp; omega) _).setCell (by simp; omega) _
  · have HE : Hid (addR an ad bn bd = (0, 0, 1)) := Lib.hid (by unfold addR; rw [if_neg hv])
    by_cases hva : ratV an ad = true
    · have hvb : ratV bn bd = false := by
        cases h : ratV bn bd
        · rfl
        · exact absurd ⟨hva, h⟩ hv
      rw [hva] at CV1
      rw [hvb] at CV2
      clear hv hva hvb h1 h2 h3 h4
      go_enter Try.func21, Try.ntmps21
      go_wp2_with fail
      have XA := Lib.hid (((Box.new w 33 #[.int .i64 an, .int .i64 ad]).below (below_alloc _ (.cells #[.int .i64 bn, .int .i64 bd] 33))).below (below_alloc _ (.cells #[.int .i64 0, .int .i64 0] 33)))
      have XB := Lib.hid ((box1 w (.cells #[.int .i64 an, .int .i64 ad] 33) 33 #[.int .i64 bn, .int .i64 bd]).below (below_alloc _ (.cells #[.int .i64 0, .int .i64 0] 33)))
      have XR := Lib.hid (box2 w (.cells #[.int .i64 an, .int .i64 ad] 33) (.cells #[.int .i64 bn, .int .i64 bd] 33) 33 #[.int .i64 0, .int .i64 0])
      have HB := Lib.hid (below_step (below_step (below_alloc w (.cells #[.int .i64 an, .int .i64 ad] 33)) (below_alloc _ (.cells #[.int .i64 bn, .int .i64 bd] 33))) (below_alloc _ (.cells #[.int .i64 0, .int .i64 0] 33)))
      refine (CV1.out _).mono ?_; rintro e w2 ⟨rfl, hb⟩
      replace XA := Lib.hid (XA.out.below hb); replace XB := Lib.hid (XB.out.below hb); replace XR := Lib.hid (XR.out.below hb); replace HB := Lib.hid (below_step HB.out hb)
      clear hb
      have b0 := XB.out.at_ 0 _ rfl
      have b1 := XB.out.at_ 1 _ rfl
      go_wp2_with fail
      refine (CV2.out _).mono ?_; rintro e w3 ⟨rfl, hb⟩
      clear b0 b1
      replace XA := Lib.hid (XA.out.below hb); replace XB := Lib.hid (XB.out.below hb); replace XR := Lib.hid (XR.out.below hb); replace HB := Lib.hid (below_step HB.out hb)
      clear hb
      have r0 := XR.out.at_ 0 _ rfl
      have r1 := XR.out.at_ 1 _ rfl
      have z0 := XR.out.frozen 0
      have z1 := XR.out.frozen 1
      go_wp2_with fail
      refine bodyPost_ret (v := .tuple #[.agg #[.int .i64 0, .int .i64 0], .int .i64 1]) (by simp [results, Try.results21, go_sem, r0, r1]) rfl ⟨by rw [HE.out]; rfl, ?_⟩
      exact (HB.out.setCell (by simp; omega) _).setCell (by simp; omega) _
    · have hvf : ratV an ad = false := by simpa using hva
      rw [hvf] at CV1
      clear hv hva hvf h1 h2 h3 h4
      go_enter Try.func21, Try.ntmps21
      go_wp2_with fail
      have XA := Lib.hid (((Box.new w 33 #[.int .i64 an, .int .i64 ad]).below (below_alloc _ (.cells #[.int .i64 bn, .int .i64 bd] 33))).below (below_alloc _ (.cells #[.int .i64 0, .int .i64 0] 33)))
      have XB := Lib.hid ((box1 w (.cells #[.int .i64 an, .int .i64 ad] 33) 33 #[.int .i64 bn, .int .i64 bd]).below (below_alloc _ (.cells #[.int .i64 0, .int .i64 0] 33)))
      have XR := Lib.hid (box2 w (.cells #[.int .i64 an, .int .i64 ad] 33) (.cells #[.int .i64 bn, .int .i64 bd] 33) 33 #[.int .i64 0, .int .i64 0])
      have HB := Lib.hid (below_step (below_step (below_alloc w (.cells #[.int .i64 an, .int .i64 ad] 33)) (below_alloc _ (.cells #[.int .i64 bn, .int .i64 bd] 33))) (below_alloc _ (.cells #[.int .i64 0, .int .i64 0] 33)))
      refine (CV1.out _).mono ?_; rintro e w2 ⟨rfl, hb⟩
      replace XA := Lib.hid (XA.out.below hb); replace XB := Lib.hid (XB.out.below hb); replace XR := Lib.hid (XR.out.below hb); replace HB := Lib.hid (below_step HB.out hb)
      clear hb
      have r0 := XR.out.at_ 0 _ rfl
      have r1 := XR.out.at_ 1 _ rfl
      have z0 := XR.out.frozen 0
      have z1 := XR.out.frozen 1
      go_wp2_with fail
      refine bodyPost_ret (v := .tuple #[.agg #[.int .i64 0, .int .i64 0], .int .i64 1]) (by simp [results, Try.results21, go_sem, r0, r1]) rfl ⟨by rw [HE.out]; rfl, ?_⟩
      exact (HB.out.setCell (by simp; omega) _).setCell (by simp; omega) _

end Go.Proofs.Ytiiacapilffhnaa
