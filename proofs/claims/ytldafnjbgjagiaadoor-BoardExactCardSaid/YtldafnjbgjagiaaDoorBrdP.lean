/-
  Walk of BoardObserves.
-/
import Derived.Test.YtldafnjbgjagiaaDoorBrdO
namespace Go.Proofs.YtldafnjbgjagiaaDoor
open Go.RowKit
set_option linter.unusedVariables false
set_option linter.unusedSimpArgs false

/-- A fresh board. -/
def gBv (j : Nat) (D : List Nat) (C : Nat) (b : Bd) : FOp := ⟨j, D, fun v => ∃ A c A2 c2, v = .agg #[.bool b.ord, .string b.key, .slice A b.want.length c, .int .i64 b.mat, .slice A2 b.wrg.length c2], fun v w => BDF w C v b⟩
theorem gBv_st (j : Nat) (D : List Nat) (C : Nat) (b : Bd) : ∀ u w w', (gBv j D C b).Φ u w → Below w.heap.size w w' → (gBv j D C b).Φ u w' := fun u w w' h hb => BDF.below h hb
theorem gBv_kn (j : Nat) (D : List Nat) (C : Nat) (b : Bd) : (∀ u w, (gBv j D C b).Φ u w → (gBv j D C b).S u) ∧ ∃ u, (gBv j D C b).S u := ⟨fun u w h => by
  obtain ⟨A, c, A2, c2, rfl, _⟩ := BDF.rd h
  exact ⟨A, c, A2, c2, rfl⟩, _, none, 0, none, 0, rfl⟩
set_option maxRecDepth 100000 in
set_option maxHeartbeats 16000000 in
theorem walkBoardObserves {H : Type} {enc : TypeId × Value → H} {base : Nat} {w : World} (v0 : Value) (d0 : DataW H) (p0 : List MemPlace) (g0 : DataW.Trod enc Tryd.prog w 0 (fun _ => true) true 25 v0 d0 p0) (hv0 : Value.okWide Tryd.prog w .any base 25 v0)
    (v1 : Value) (d1 : DataW H) (p1 : List MemPlace) (g1 : DataW.Trod enc Tryd.prog w 0 (fun _ => true) true 28 v1 d1 p1) (hv1 : Value.okWide Tryd.prog w .any base 28 v1) (ht : Tab w) (hm : MLen w) (hk : KW w) (hr : ∀ n ∈ d0.weights Tryd.prog 25, n ≤ reachBytes) (_ : ∀ n ∈ d1.weights Tryd.prog 28, n ≤ reachBytes) :
    Calls Tryd.prog 4 #[v0, v1] w fun e w' => e = .returned (.bool true) ∧ Below w.heap.size w w' := by
  obtain ⟨b, A1, A2, c1, c2, rfl, h1, h2, -, -, n1, n2, hz, hwt⟩ := arg_board g0 hv0
  obtain ⟨u1, u2, t, rfl, s1, s2, tz⟩ := arg_tx g1 hv1
  obtain ⟨x1, x2, hf⟩ := hwt hr
  clear g0 hv0 g1 hv1 hwt hr
  have HK := Lib.hid hk
  have HM := Lib.hid hm
  have HT := Lib.hid ht
  have CE : Hid (∀ W, Below w.heap.size w W → Calls Tryd.prog 17 #[.agg #[.bool b.ord, .string b.key, .slice A1 b.want.length c1, .int .i64 b.mat, .slice A2 b.wrg.length c2], .agg #[u1, u2]] W (RETB W 0 (obsT b t))) := Lib.hid fun W hW =>
    brdObserve W b t _ _ u1 u2 (h1.below hW) (h2.below hW) (s1.below hW) (s2.below hW) n1 n2 hz tz (hk.below hW) (hm.below hW) (ht.below hW)
  have CR : Hid (∀ W, Below w.heap.size w W → Calls Tryd.prog 18 #[.agg #[.bool b.ord, .string b.key, .slice A1 b.want.length c1, .int .i64 b.mat, .slice A2 b.wrg.length c2], .agg #[u1, u2]] W (RETB W w.heap.size (obsT b t))) := Lib.hid fun W hW =>
    brrObserve W b t _ A1 A2 c1 c2 u1 u2 (rs_lowB h1 hW) (h2.below hW) (s1.below hW) (s2.below hW) hW.size n1 n2 hz tz
  have CF : Hid (∀ W, Below w.heap.size w W → Calls Tryd.prog 19 #[.agg #[.bool b.ord, .string b.key, .slice A1 b.want.length c1, .int .i64 b.mat, .slice A2 b.wrg.length c2]] W fun e w' => ∃ v, e = .returned v ∧ BDF w' 0 v (finT b) ∧ Below W.heap.size W w') := Lib.hid fun W hW =>
    brdFinish W b _ _ (h1.below hW) (h2.below hW) (by omega) (by omega) (fun t ht => ⟨hf t ht, hz t ht⟩) (hk.below hW) (hm.below hW) (ht.below hW)
  have CG : Hid (∀ W, Below w.heap.size w W → Calls Tryd.prog 20 #[.agg #[.bool b.ord, .string b.key, .slice A1 b.want.length c1, .int .i64 b.mat, .slice A2 b.wrg.length c2]] W fun e w' => ∃ v, e = .returned v ∧ BDF w' w.heap.size v (finT b) ∧ Below W.heap.size W w') := Lib.hid fun W hW =>
    brrFinish W b _ A1 A2 c1 c2 (rs_lowB h1 hW) (h2.below hW) hW.size (by omega) (by omega) hz
  have BZE := Lib.hid (bz_obs b t)
  have BZF : Hid (BZ (finT b)) := Lib.hid (bz_fin ⟨n1, n2, fun t ht => ⟨(hz t ht).1, (hz t ht).2.1⟩⟩)
  obtain ⟨B1, e1, rfl, -⟩ := id s1
  obtain ⟨B2, e2, rfl, -⟩ := id s2
  generalize obsT b t = r at *
  generalize finT b = fb at *
  obtain ⟨ord, key, want, mat, wrg⟩ := b
  simp only at *
  generalize want.length = N at *
  generalize wrg.length = G at *
  generalize t.1.length = L1 at *
  generalize t.2.length = L2 at *
  clear h1 h2 s1 s2 hz tz hk hm ht n1 n2 x1 x2 hf
  have CW := Lib.hid (fun W (hW : Below w.heap.size w W) => lawAwake W (HK.out.below hW) (HM.out.below hW) (HT.out.below hW))
  go_enter Tryd.func4, Tryd.ntmps4
  go_upto_region 1 with fail
  have XA := Lib.hid ((box_new (W := w) (g := w.heap.size) 25 #[.bool ord, .string key, .slice A1 N c1, .int .i64 mat, .slice A2 G c2] (by simp)).below (below_alloc _ (.cells #[.slice B1 L1 e1, .slice B2 L2 e2] 28)))
  have XT := Lib.hid (box_new (W := (w.alloc (.cells #[.bool ord, .string key, .slice A1 N c1, .int .i64 mat, .slice A2 G c2] 25))) (g := w.heap.size + 1) 28 #[.slice B1 L1 e1, .slice B2 L2 e2] (by simp))
  have HB := Lib.hid (below_step (below_alloc w (.cells #[.bool ord, .string key, .slice A1 N c1, .int .i64 mat, .slice A2 G c2] 25)) (below_alloc (w.alloc (.cells #[.bool ord, .string key, .slice A1 N c1, .int .i64 mat, .slice A2 G c2] 25)) (.cells #[.slice B1 L1 e1, .slice B2 L2 e2] 28)))
  generalize (w.alloc (.cells #[.bool ord, .string key, .slice A1 N c1, .int .i64 mat, .slice A2 G c2] 25)).alloc (.cells #[.slice B1 L1 e1, .slice B2 L2 e2] 28) = w1 at *
  have XA_0 := XA.out.at_ 0 _ rfl
  have XA_1 := XA.out.at_ 1 _ rfl
  have XA_2 := XA.out.at_ 2 _ rfl
  have XA_3 := XA.out.at_ 3 _ rfl
  have XA_4 := XA.out.at_ 4 _ rfl
  have XT_0 := XT.out.at_ 0 _ rfl
  have XT_1 := XT.out.at_ 1 _ rfl
  go_wp2_with fail
  clear XA_0 XA_1 XA_2 XA_3 XA_4 XT_0 XT_1
  refine (CE.out w1 HB.out).mono ?_; rintro e w2 ⟨v', rfl, hbd', hb⟩
  replace XA := Lib.hid (XA.out.below hb)
  replace XT := Lib.hid (XT.out.below hb)
  replace HB := Lib.hid (below_step HB.out hb)
  clear hb
  obtain ⟨FA, fc, FA2, fc2, fn, fg, rfl, -, -⟩ := hbd'.cells
  have HBE := Lib.hid hbd'
  clear hbd' CE
  go_upto_region 2 with fail
  have XE := Lib.hid (box_new (W := w2) (g := w2.heap.size) 25 #[.bool r.1.ord, .string r.1.key, .slice FA fn fc, .int .i64 r.1.mat, .slice FA2 fg fc2] (by simp))
  have hba := (below_alloc w2 (.cells #[.bool r.1.ord, .string r.1.key, .slice FA fn fc, .int .i64 r.1.mat, .slice FA2 fg fc2] 25))
  replace XA := Lib.hid (XA.out.below hba)
  replace XT := Lib.hid (XT.out.below hba)
  replace HBE := Lib.hid (HBE.out.below hba)
  replace HB := Lib.hid (below_step HB.out hba)
  clear hba
  generalize w2.alloc (.cells #[.bool r.1.ord, .string r.1.key, .slice FA fn fc, .int .i64 r.1.mat, .slice FA2 fg fc2] 25) = w3 at *
  have XA_0 := XA.out.at_ 0 _ rfl
  have XA_1 := XA.out.at_ 1 _ rfl
  have XA_2 := XA.out.at_ 2 _ rfl
  have XA_3 := XA.out.at_ 3 _ rfl
  have XA_4 := XA.out.at_ 4 _ rfl
  have XT_0 := XT.out.at_ 0 _ rfl
  have XT_1 := XT.out.at_ 1 _ rfl
  go_wp2_with fail
  clear XA_0 XA_1 XA_2 XA_3 XA_4 XT_0 XT_1
  refine (CR.out w3 HB.out).mono ?_; rintro e w4 ⟨v', rfl, hbd', hb⟩
  replace XA := Lib.hid (XA.out.below hb)
  replace XT := Lib.hid (XT.out.below hb)
  replace HBE := Lib.hid (HBE.out.below hb)
  replace XE := Lib.hid (XE.out.below hb)
  replace HB := Lib.hid (below_step HB.out hb)
  clear hb
  obtain ⟨GA, gc, GA2, gc2, gn, gg, rfl, -, -⟩ := hbd'.cells
  have HBR := Lib.hid hbd'
  clear hbd' CR
  go_upto_region 3 with fail
  have XR := Lib.hid (box_new (W := w4) (g := w4.heap.size) 25 #[.bool r.1.ord, .string r.1.key, .slice GA gn gc, .int .i64 r.1.mat, .slice GA2 gg gc2] (by simp))
  have hba := (below_alloc w4 (.cells #[.bool r.1.ord, .string r.1.key, .slice GA gn gc, .int .i64 r.1.mat, .slice GA2 gg gc2] 25))
  replace XA := Lib.hid (XA.out.below hba)
  replace XT := Lib.hid (XT.out.below hba)
  replace HBE := Lib.hid (HBE.out.below hba)
  replace XE := Lib.hid (XE.out.below hba)
  replace HBR := Lib.hid (HBR.out.below hba)
  replace HB := Lib.hid (below_step HB.out hba)
  clear hba
  generalize w4.alloc (.cells #[.bool r.1.ord, .string r.1.key, .slice GA gn gc, .int .i64 r.1.mat, .slice GA2 gg gc2] 25) = w5 at *
  have CS : Hid (∀ W, Below w5.heap.size w5 W → Calls Tryd.prog 11 #[.agg #[.bool r.1.ord, .string r.1.key, .slice FA fn fc, .int .i64 r.1.mat, .slice FA2 fg fc2], .agg #[.bool r.1.ord, .string r.1.key, .slice GA gn gc, .int .i64 r.1.mat, .slice GA2 gg gc2]] W fun e w' => e = .returned (.bool true) ∧ Below W.heap.size W w') := Lib.hid fun W hW => same_one W _ _ r.1 _ _ (HBE.out.below hW) (HBR.out.below hW) BZE.out
  have HBL := HB
  have q1 : (r.2 == r.2) = true := by simp
  clear HBE HBR
  refine wp_region_gen 18 (Kit.of [gVal 2 [] (.bool true), gBv 10 [] 0 fb, gBv 12 [] w.heap.size fb, gVal 13 [10, 12] (.bool true), gVal 16 [] (.bool true)]) (by kernel_rfl) (by kernel_rfl) (fun γ => by kernel_rfl) (by kernel_rfl) (Kit.of_stable ?_) (Kit.of_known ?_) ?_
  · intro z hz; simp only [List.mem_cons, List.not_mem_nil, or_false] at hz; rcases hz with rfl | rfl | rfl | rfl | rfl
    · apply gVal_st
    · apply gBv_st
    · apply gBv_st
    · apply gVal_st
    · apply gVal_st
  · intro z hz; simp only [List.mem_cons, List.not_mem_nil, or_false] at hz; rcases hz with rfl | rfl | rfl | rfl | rfl
    · apply gVal_kn
    · apply gBv_kn
    · apply gBv_kn
    · apply gVal_kn
    · apply gVal_kn
  intro γ hγ C hC hne
  have k2 : γ 2 = .bool true := hγ 2 rfl
  obtain ⟨P10, c10, Q10, d10, k10⟩ : ∃ A c A2 c2, γ 10 = .agg #[.bool fb.ord, .string fb.key, .slice A fb.want.length c, .int .i64 fb.mat, .slice A2 fb.wrg.length c2] := hγ 10 rfl
  obtain ⟨P12, c12, Q12, d12, k12⟩ : ∃ A c A2 c2, γ 12 = .agg #[.bool fb.ord, .string fb.key, .slice A fb.want.length c, .int .i64 fb.mat, .slice A2 fb.wrg.length c2] := hγ 12 rfl
  have k13 : γ 13 = .bool true := hγ 13 rfl
  have k16 : γ 16 = .bool true := hγ 16 rfl
  have a0 := XA.out.latC (C := C) 0 _ rfl
  have a1 := XA.out.latC (C := C) 1 _ rfl
  have a2 := XA.out.latC (C := C) 2 _ rfl
  have a3 := XA.out.latC (C := C) 3 _ rfl
  have a4 := XA.out.latC (C := C) 4 _ rfl
  have b0 := XE.out.latC (C := C) 0 _ rfl
  have b1 := XE.out.latC (C := C) 1 _ rfl
  have b2 := XE.out.latC (C := C) 2 _ rfl
  have b3 := XE.out.latC (C := C) 3 _ rfl
  have b4 := XE.out.latC (C := C) 4 _ rfl
  have r0 := XR.out.latC (C := C) 0 _ rfl
  have r1 := XR.out.latC (C := C) 1 _ rfl
  have r2 := XR.out.latC (C := C) 2 _ rfl
  have r3 := XR.out.latC (C := C) 3 _ rfl
  have r4 := XR.out.latC (C := C) 4 _ rfl
  simp only [List.take_succ_cons, List.take_zero, List.drop_succ_cons, List.drop_zero]
  iterate 2 (refine wpF_quiet rfl ?_; go_big_quiet_step (fail); refine wpQuiet_nil ?_)
  refine wpF_fresh rfl (freshAt_call (args := #[.agg #[.bool r.1.ord, .string r.1.key, .slice FA fn fc, .int .i64 r.1.mat, .slice FA2 fg fc2], .agg #[.bool r.1.ord, .string r.1.key, .slice GA gn gc, .int .i64 r.1.mat, .slice GA2 gg gc2]]) rfl _ _ _ (run_go Tryd.func11 (by kernel_rfl) (by kernel_rfl)) rfl (by simp [Act.eval]) (fun w' hb hf => (CS.out w' hb).mono fun e w2 ⟨he, h1⟩ => ⟨_, he, rfl, h1⟩)) ?_
  simp only [Nat.zero_add, Nat.reduceAdd, k2]
  go_simp
  iterate 7 (refine wpF_quiet rfl ?_; go_big_quiet_step (fail); refine wpQuiet_nil ?_)
  refine wpF_freshG rfl (freshA_call (args := #[.agg #[.bool ord, .string key, .slice A1 N c1, .int .i64 mat, .slice A2 G c2]]) (by kernel_rfl) _ _ _ (run_go Tryd.func19 (by kernel_rfl) (by kernel_rfl)) rfl (by simp [Act.eval]) (fun w' hb hf => (CF.out w' (below_step HBL.out hb)).mono fun e w2 ⟨v, he, h1, h2⟩ => ⟨v, he, h1, h2⟩)) ?_
  simp only [Nat.zero_add, Nat.reduceAdd, k10]
  go_simp
  iterate 1 (refine wpF_quiet rfl ?_; go_big_quiet_step (fail); refine wpQuiet_nil ?_)
  refine wpF_freshG rfl (freshA_call (args := #[.agg #[.bool ord, .string key, .slice A1 N c1, .int .i64 mat, .slice A2 G c2]]) (by kernel_rfl) _ _ _ (run_go Tryd.func20 (by kernel_rfl) (by kernel_rfl)) rfl (by simp [Act.eval]) (fun w' hb hf => (CG.out w' (below_step HBL.out hb)).mono fun e w2 ⟨v, he, h1, h2⟩ => ⟨v, he, h1, h2⟩)) ?_
  simp only [Nat.zero_add, Nat.reduceAdd, k12]
  go_simp
  refine wpF_freshG rfl (freshA_call (args := #[.agg #[.bool fb.ord, .string fb.key, .slice P10 fb.want.length c10, .int .i64 fb.mat, .slice Q10 fb.wrg.length d10], .agg #[.bool fb.ord, .string fb.key, .slice P12 fb.want.length c12, .int .i64 fb.mat, .slice Q12 fb.wrg.length d12]]) (by kernel_rfl) _ _ _ (run_go Tryd.func11 (by kernel_rfl) (by kernel_rfl)) rfl (by simp [Act.eval]) (fun w' hb hf => (same_one w' _ _ fb 0 w.heap.size (by have h5 : BDF w' 0 (γ 10) fb := hf 10 (show 10 ∈ [10, 12] by decide); rwa [k10] at h5) (by have h5 : BDF w' w.heap.size (γ 12) fb := hf 12 (show 12 ∈ [10, 12] by decide); rwa [k12] at h5) BZF.out).mono fun e w2 ⟨he, h1⟩ => ⟨_, he, rfl, h1⟩)) ?_
  simp only [Nat.zero_add, Nat.reduceAdd, k13]
  go_simp
  iterate 2 (refine wpF_quiet rfl ?_; go_big_quiet_step (fail); refine wpQuiet_nil ?_)
  refine wpF_freshG rfl (freshA_call (args := #[]) (by kernel_rfl) _ _ _ (run_go Tryd.func16 (by kernel_rfl) (by kernel_rfl)) rfl (by simp [Act.eval]) (fun w' hb hf => (CW.out w' (below_step HBL.out hb)).mono fun e w2 ⟨he, h1⟩ => ⟨_, he, rfl, h1⟩)) ?_
  simp only [Nat.zero_add, Nat.reduceAdd, k16]
  go_simp
  iterate 1 (refine wpF_quiet rfl ?_; go_big_quiet_step (fail); refine wpQuiet_nil ?_)
  intro w9 hb hF
  clear a0 a1 a2 a3 a4 b0 b1 b2 b3 b4 r0 r1 r2 r3 r4 hF hγ hC hne
  replace HB := Lib.hid (below_step HB.out hb)
  clear hb
  go_wp2_with fail
  go_ret
  exact ⟨rfl, HB.out⟩

end Go.Proofs.YtldafnjbgjagiaaDoor
