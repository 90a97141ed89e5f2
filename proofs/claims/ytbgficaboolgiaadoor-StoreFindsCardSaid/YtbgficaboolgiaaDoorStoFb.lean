/-
  Walk of StoreFinds.
-/
import Derived.Test.YtbgficaboolgiaaDoorStoFa
namespace Go.Proofs.YtbgficaboolgiaaDoor
open Go.RowKit Go.WideShapes Go.ChangeShapes Go.Deep
set_option linter.unusedVariables false
set_option linter.unusedSimpArgs false

theorem φx5 {v u : Value} {l : List Int} {w : World} (e : v = u) (h : Rs intR w v l anyB) : Rs intR w u l anyB := e ▸ h

set_option maxRecDepth 100000 in
set_option maxHeartbeats 32000000 in
theorem walkStoreFinds {H : Type} {enc : TypeId × Value → H} {base base' : Nat} {w : World} (v0 : Value) (d0 : DataW H) (p0 : List MemPlace) (g0 : DataW.Trod enc Tryd.prog w 0 (fun _ => true) true 37 v0 d0 p0) (hv0 : Value.okWide Tryd.prog w .any base 37 v0)
    (v1 : Value) (d1 : DataW H) (p1 : List MemPlace) (g1 : DataW.Trod enc Tryd.prog w 0 (fun _ => true) true 39 v1 d1 p1) (hv1 : Value.okWide Tryd.prog w .any base' 39 v1) (ht : Tab w) :
    Calls Tryd.prog 8 #[v0, v1] w fun e w' => e = .returned (.bool true) ∧ Below w.heap.size w w' := by
  obtain ⟨l0, hr, hn, hz, hw⟩ := arg_ress g0 hv0
  obtain ⟨qa, qb, qc, qs, rfl, hqs⟩ := arg_q g1 hv1
  obtain ⟨A, c, rfl, hc⟩ := hr.slice
  obtain ⟨N, hN⟩ : ∃ N, N = l0.length := ⟨_, rfl⟩
  rw [← hN] at hr hn hc ⊢
  obtain ⟨m, hm⟩ : ∃ m, m = min N 60 := ⟨_, rfl⟩
  have hr2 := hr.takeA m (by omega)
  have hll : (l0.take m).length ≤ 60 := by rw [List.length_take]; omega
  have CL1 := Lib.hid (fun W (hW : Below w.heap.size w W) => stoLatest W _ (l0.take m) (hr2.below hW) (by omega) qa qb qs)
  have CL2 := Lib.hid (fun W (hW : Below w.heap.size w W) => refLatest W _ (l0.take m) (hr2.below hW) (by omega) qa qb qs)
  have CF1 := Lib.hid (fun W (hW : Below w.heap.size w W) => stoFind W _ (l0.take m) (hr2.below hW) (by omega) qa qb)
  have CF2 := Lib.hid (fun W (hW : Below w.heap.size w W) => refFind W _ (l0.take m) (hr2.below hW) (by omega) qa qb)
  have CW := Lib.hid (fun W (hW : Below w.heap.size w W) => lawAwake W (ht.below hW))
  have hfl : (fndT (l0.take m) qa qb).length ≤ 9223372036854775807 := by
    have := fnd_len (l0.take m) qa qb (l0.take m).length
    unfold fndT; omega
  generalize l0.take m = l at *
  have e1 : min (N : Int) 60 = (m : Int) := by omega
  have g1 : (0 : Int) ≤ (m : Int) := by omega
  have g3 : (m : Int) ≤ (c : Int) := by omega
  have g5 : m ≤ c := by omega
  clear g0 hv0 g1 hv1 hr hr2 hm hw hz ht hN
  generalize latT l qa qb qs = lt at *
  obtain ⟨ia, oka⟩ := lt
  simp only [ret2ib] at CL1 CL2
  have e2 : ((ia : Int) == (ia : Int)) = true := by simp
  have e3 : (oka == oka) = true := by simp
  generalize fndT l qa qb = fl at *
  obtain ⟨F, hF⟩ : ∃ F, F = fl.length := ⟨_, rfl⟩
  have HFL := Lib.hid hF
  have HFB := Lib.hid hfl
  clear hF hfl hll
  have CS := Lib.hid (fun W v1 v2 (h1 : IL W v1 fl) (h2 : IL W v2 fl) => lawSame W v1 v2 fl h1 h2 HFB.out)
  go_enter Tryd.func8, Tryd.ntmps8
  go_upto_region 1 with fail
  have XQ := Lib.hid (box_new (W := w) (g := w.heap.size) 39 #[.string qa, .string qb, .string qc, .int .u64 (qs : Nat)] (by simp))
  have HB := Lib.hid (below_alloc w (.cells #[.string qa, .string qb, .string qc, .int .u64 (qs : Nat)] 39))
  generalize w.alloc (.cells #[.string qa, .string qb, .string qc, .int .u64 (qs : Nat)] 39) = w1 at *
  go_upto_region 2 with fail
  have XQ_0 := XQ.out.at_ 0 _ rfl
  have XQ_1 := XQ.out.at_ 1 _ rfl
  have XQ_3 := XQ.out.at_ 3 _ rfl
  go_wp2_with fail
  refine (CL1.out _ HB.out).mono ?_; rintro e w2 ⟨rfl, hb⟩
  clear XQ_0 XQ_1 XQ_3
  replace XQ := Lib.hid (XQ.out.below hb)
  replace HB := Lib.hid (below_step HB.out hb)
  clear hb
  have XQ_0 := XQ.out.at_ 0 _ rfl
  have XQ_1 := XQ.out.at_ 1 _ rfl
  have XQ_3 := XQ.out.at_ 3 _ rfl
  go_wp2_with fail
  refine (CL2.out _ HB.out).mono ?_; rintro e w3 ⟨rfl, hb⟩
  clear XQ_0 XQ_1 XQ_3
  replace XQ := Lib.hid (XQ.out.below hb)
  replace HB := Lib.hid (below_step HB.out hb)
  clear hb
  clear CL1 CL2
  go_upto_region 4 with fail
  have HBL := HB
  refine wp_region_gen 26 (Kit.of [gRsA 5 [] intR fl, gRsA 11 [] intR fl, gVal 12 [5, 11] (.bool true), gVal 24 [] (.bool true)]) (by kernel_rfl) (by kernel_rfl) (fun γ => by kernel_rfl) (by kernel_rfl) (Kit.of_stable ?_) (Kit.of_known ?_) ?_
  · intro z hz; simp only [List.mem_cons, List.not_mem_nil, or_false] at hz; rcases hz with rfl | rfl | rfl | rfl
    · apply gRsA_st
    · apply gRsA_st
    · apply gVal_st
    · apply gVal_st
  · intro z hz; simp only [List.mem_cons, List.not_mem_nil, or_false] at hz; rcases hz with rfl | rfl | rfl | rfl
    · apply gRsA_kn
    · apply gRsA_kn
    · apply gVal_kn
    · apply gVal_kn
  intro γ hγ C hC hne
  obtain ⟨A5, c5, k5⟩ : ∃ A c, γ 5 = .slice A fl.length c := hγ 5 rfl
  obtain ⟨A11, c11, k11⟩ : ∃ A c, γ 11 = .slice A fl.length c := hγ 11 rfl
  have k12 : γ 12 = .bool true := hγ 12 rfl
  have k24 : γ 24 = .bool true := hγ 24 rfl
  rw [← HFL.out] at k5 k11
  have a0 := XQ.out.latC (C := C) 0 _ rfl
  have a1 := XQ.out.latC (C := C) 1 _ rfl
  simp only [List.take_succ_cons, List.take_zero, List.drop_succ_cons, List.drop_zero]
  iterate 5 (refine wpF_quiet rfl ?_; go_big_quiet_step (fail); refine wpQuiet_nil ?_)
  refine wpF_fresh rfl (freshAt_call (args := #[.slice A m c, .string qa, .string qb]) rfl _ _ _ (run_go Tryd.func23 (by kernel_rfl) (by kernel_rfl)) rfl (by simp [Act.eval]) (fun w' hb hf => (CF1.out w' (below_step HB.out hb)).mono fun e w2 ⟨u, he, hr, h1⟩ => ⟨u, he, hr, h1⟩)) ?_
  simp only [Nat.zero_add, Nat.reduceAdd, k5]
  go_simp
  iterate 5 (refine wpF_quiet rfl ?_; go_big_quiet_step (fail); refine wpQuiet_nil ?_)
  refine wpF_fresh rfl (freshAt_call (args := #[.slice A m c, .string qa, .string qb]) rfl _ _ _ (run_go Tryd.func24 (by kernel_rfl) (by kernel_rfl)) rfl (by simp [Act.eval]) (fun w' hb hf => (CF2.out w' (below_step HB.out hb)).mono fun e w2 ⟨u, he, hr, h1⟩ => ⟨u, he, hr, h1⟩)) ?_
  simp only [Nat.zero_add, Nat.reduceAdd, k11]
  go_simp
  refine wpF_fresh rfl (freshAt_call (args := #[.slice A5 F c5, .slice A11 F c11]) rfl _ _ _ (run_go Tryd.func22 (by kernel_rfl) (by kernel_rfl)) rfl (by simp [Act.eval]) (fun w' hb hf => (CS.out w' _ _ (Rs.il (φx5 k5 (hf 5 (show 5 ∈ [5, 11] by decide)))) (Rs.il (φx5 k11 (hf 11 (show 11 ∈ [5, 11] by decide))))).mono fun e w2 ⟨he, n, h1⟩ => ⟨_, he, rfl, by rw [h1]; exact below_drewN (Below.refl _ _) n⟩)) ?_
  simp only [Nat.zero_add, Nat.reduceAdd, k12]
  go_simp
  iterate 11 (refine wpF_quiet rfl ?_; go_big_quiet_step (fail); refine wpQuiet_nil ?_)
  refine wpF_freshG rfl (freshA_call (args := #[]) (by kernel_rfl) _ _ _ (run_go Tryd.func12 (by kernel_rfl) (by kernel_rfl)) rfl (by simp [Act.eval]) (fun w' hb hf => (CW.out w' (below_step HB.out hb)).mono fun e w2 ⟨he, h1⟩ => ⟨_, he, rfl, h1⟩)) ?_
  simp only [Nat.zero_add, Nat.reduceAdd, k24]
  go_simp
  iterate 1 (refine wpF_quiet rfl ?_; go_big_quiet_step (fail); refine wpQuiet_nil ?_)
  intro w14 hb hF
  clear hF hγ hC hne k5 k11 k12 k24 HBL a0 a1
  replace HB := Lib.hid (below_step HB.out hb)
  clear hb
  go_wp2_with fail
  go_ret
  exact ⟨rfl, HB.out⟩

end Go.Proofs.YtbgficaboolgiaaDoor
