/-
  Streams: the argument, the cut, and the walk of BoardRuns.
-/
import Derived.Test.YtldafnjbgjagiaaDoorBrdQ
import Derived.Test.YtldafnjbgjagiaaDoorBrrG
namespace Go.Proofs.YtldafnjbgjagiaaDoor
open Go.RowKit Go.WideShapes Go.ChangeShapes Go.Deep
set_option linter.unusedVariables false
set_option linter.unusedSimpArgs false

section
variable {H : Type} {enc : TypeId × Value → H} {W : World} {v : Value} {d : DataW H} {p : List MemPlace} {base : Nat}
set_option maxRecDepth 100000 in
/-- An argument that is two streams. -/
theorem arg_streams (h : DataW.Trod enc Tryd.prog W 0 (fun _ => true) true 39 v d p) (hv : Value.okWide Tryd.prog W .any base 39 v) :
    ∃ (o : Bool) (s : ByteArray) (ws gs : List Tx) (A1 A2 : Option Addr) (c1 c2 : Nat), v = .agg #[.bool o, .string s, .slice A1 ws.length c1, .slice A2 gs.length c2] ∧ Rs txR W (.slice A1 ws.length c1) ws anyB ∧ Rs txR W (.slice A2 gs.length c2) gs anyB ∧
      s.size ≤ maxLen ∧ ws.length ≤ 9223372036854775807 ∧ gs.length ≤ 9223372036854775807 ∧ (∀ t ∈ ws, TZ t) ∧ (∀ t ∈ gs, TZ t) := by
  obtain ⟨cs, ys, n, rfl, rfl, hcl, hyl, hf⟩ := open_structL Tryd.underlying39 (by kernel_rfl) (by kernel_rfl) hv h
  obtain ⟨a0, y0, e0, f0, h0⟩ := hf 0 _ rfl
  obtain ⟨a1, y1, e1, f1, h1⟩ := hf 1 _ rfl
  obtain ⟨a2, y2, e2, f2, h2⟩ := hf 2 _ rfl
  obtain ⟨a3, y3, e3, f3, h3⟩ := hf 3 _ rfl
  obtain rfl : cs = [a0, a1, a2, a3] := by
    match cs, hcl with
    | [_, _, _, _], _ => simp at e0 e1 e2 e3; rw [e0, e1, e2, e3]
  obtain ⟨o, ho, _⟩ := DataW.trod_bool Tryd.underlying4 h0
  obtain ⟨s, hs, _, hsz⟩ := DataW.trod_string Tryd.underlying9 h1
  obtain ⟨ts, hr, hl, hz, _⟩ := arg_txns h2
  obtain ⟨us, hq, hm, hy, _⟩ := arg_txns h3
  obtain rfl : a0 = .bool o := by simpa using ho
  obtain rfl : a1 = .string s := by simpa using hs
  obtain ⟨A1, c1, rfl, -⟩ := hr.slice
  obtain ⟨A2, c2, rfl, -⟩ := hq.slice
  exact ⟨o, s, ts, us, A1, A2, c1, c2, rfl, hr, hq, hsz, hl, hm, hz, hy⟩
end
theorem Rs.takeA {α : Type} {φ : Rd α} {w : World} {A : Option Addr} {N c : Nat} {xs : List α} {F : Nat → Prop} (h : Rs φ w (.slice A N c) xs F) (k : Nat) (hk : k ≤ N) : Rs φ w (.slice A k c) (xs.take k) F := by
  obtain ⟨A', c', e, hc, h⟩ := h
  simp only [Value.slice.injEq] at e
  obtain ⟨rfl, rfl, rfl⟩ := e
  have hl : (xs.take k).length = k := by rw [List.length_take]; omega
  refine ⟨A, c, by rw [hl], by omega, fun hn => ?_⟩
  obtain ⟨b, o, e, hb, hx⟩ := h (by omega)
  refine ⟨b, o, e, hb, fun j x hj => hx j x ?_⟩
  have hjk : j < k := by
    have := (List.getElem?_eq_some_iff.1 hj).1
    omega
  rwa [List.getElem?_take_of_lt hjk] at hj

set_option maxRecDepth 100000 in
set_option maxHeartbeats 4000000 in
theorem lawCut (w : World) (o : Bool) (s : ByteArray) (A1 A2 : Option Addr) (N M c1 c2 : Nat) (h1 : N ≤ c1) (h2 : M ≤ c2) (n1 : N ≤ 9223372036854775807) (n2 : M ≤ 9223372036854775807) :
    Calls Tryd.prog 21 #[.agg #[.bool o, .string s, .slice A1 N c1, .slice A2 M c2]] w fun e w' => e = .returned (.agg #[.bool o, .string s, .slice A1 (min N 40) c1, .slice A2 (min M 40) c2]) ∧ Below w.heap.size w w' := by
  obtain ⟨k1, hk1⟩ : ∃ k, k = min N 40 := ⟨_, rfl⟩
  obtain ⟨k2, hk2⟩ : ∃ k, k = min M 40 := ⟨_, rfl⟩
  rw [← hk1, ← hk2]
  have HE : ∃ B1 B2, Hid (B1 = A1) ∧ Hid (B2 = A2) := ⟨A1, A2, Lib.hid rfl, Lib.hid rfl⟩
  obtain ⟨B1, B2, E1, E2⟩ := HE
  suffices hs : Calls Tryd.prog 21 #[.agg #[.bool o, .string s, .slice A1 N c1, .slice A2 M c2]] w fun e w' => e = .returned (.agg #[.bool o, .string s, .slice B1 k1 c1, .slice B2 k2 c2]) ∧ Below w.heap.size w w' by
    rwa [E1.out, E2.out] at hs
  have e1 : min (N : Int) 40 = (k1 : Int) := by omega
  have e2 : min (M : Int) 40 = (k2 : Int) := by omega
  have g1 : (0 : Int) ≤ (k1 : Int) := by omega
  have g2 : (0 : Int) ≤ (k2 : Int) := by omega
  have g3 : (k1 : Int) ≤ (c1 : Int) := by omega
  have g4 : (k2 : Int) ≤ (c2 : Int) := by omega
  have g5 : k1 ≤ c1 := by omega
  have g6 : k2 ≤ c2 := by omega
  clear hk1 hk2 h1 h2
  go_enter Tryd.func21, Tryd.ntmps21
  go_upto_region 1 with fail
  have XA := Lib.hid ((box_new (W := w) (g := w.heap.size) 39 #[.bool o, .string s, .slice A1 N c1, .slice A2 M c2] (by simp)).below (below_alloc _ (.cells #[.bool false, .string ⟨#[]⟩, .slice none 0 0, .slice none 0 0] 39)))
  have XR := Lib.hid (box_new (W := (w.alloc (.cells #[.bool o, .string s, .slice A1 N c1, .slice A2 M c2] 39))) (g := w.heap.size + 1) 39 #[.bool false, .string ⟨#[]⟩, .slice none 0 0, .slice none 0 0] (by simp))
  have HB := Lib.hid (below_step (below_alloc w (.cells #[.bool o, .string s, .slice A1 N c1, .slice A2 M c2] 39)) (below_alloc (w.alloc (.cells #[.bool o, .string s, .slice A1 N c1, .slice A2 M c2] 39)) (.cells #[.bool false, .string ⟨#[]⟩, .slice none 0 0, .slice none 0 0] 39)))
  generalize (w.alloc (.cells #[.bool o, .string s, .slice A1 N c1, .slice A2 M c2] 39)).alloc (.cells #[.bool false, .string ⟨#[]⟩, .slice none 0 0, .slice none 0 0] 39) = w1 at *
  have XA_0 := XA.out.at_ 0 _ rfl
  have XA_1 := XA.out.at_ 1 _ rfl
  have XA_2 := XA.out.at_ 2 _ rfl
  have XA_3 := XA.out.at_ 3 _ rfl
  have XA_l := XA.out.lt
  have XA_z0 := XA.out.frozen 0
  have XA_z1 := XA.out.frozen 1
  have XA_z2 := XA.out.frozen 2
  have XA_z3 := XA.out.frozen 3
  have XR_0 := XR.out.at_ 0 _ rfl
  have XR_1 := XR.out.at_ 1 _ rfl
  have XR_2 := XR.out.at_ 2 _ rfl
  have XR_3 := XR.out.at_ 3 _ rfl
  have XR_l := XR.out.lt
  have XR_z0 := XR.out.frozen 0
  have XR_z1 := XR.out.frozen 1
  have XR_z2 := XR.out.frozen 2
  have XR_z3 := XR.out.frozen 3
  cases A1 <;> cases A2
  all_goals
    go_wp2_with fail
    refine bodyPost_ret (v := .agg #[.bool o, .string s, .slice B1 k1 c1, .slice B2 k2 c2]) (by simp [results, Tryd.results21, go_sem, XR_0, XR_1, XR_2, XR_3, XR_l, E1.out, E2.out]) rfl ?_
    exact ⟨rfl, (((((HB.out.setCell (p := ⟨w.heap.size, 2, none⟩) (Nat.le_refl _) _).setCell (p := ⟨w.heap.size, 3, none⟩) (Nat.le_refl _) _).setCell (p := ⟨w.heap.size + 1, 0, none⟩) (Nat.le_succ _) _).setCell (p := ⟨w.heap.size + 1, 1, none⟩) (Nat.le_succ _) _).setCell (p := ⟨w.heap.size + 1, 2, none⟩) (Nat.le_succ _) _).setCell (p := ⟨w.heap.size + 1, 3, none⟩) (Nat.le_succ _) _⟩

theorem foldl_ok_run (o : Bool) (s : ByteArray) (ws gs : List Tx) : OkB (gs.foldl obsS (ws.foldl expS ⟨o, s, [], 0, []⟩)) := fold_obs_ok (fold_exp_ok (new_ok o s))
theorem bz_run (o : Bool) (s : ByteArray) (ws gs : List Tx) : BZ (runT o s ws gs) := bz_fin (bz_ok (foldl_ok_run o s ws gs))
set_option maxRecDepth 100000 in
set_option maxHeartbeats 16000000 in
theorem walkBoardRuns {H : Type} {enc : TypeId × Value → H} {base : Nat} {w : World} (v0 : Value) (d0 : DataW H) (p0 : List MemPlace) (g0 : DataW.Trod enc Tryd.prog w 0 (fun _ => true) true 39 v0 d0 p0) (hv0 : Value.okWide Tryd.prog w .any base 39 v0)
    (ht : Tab w) (hm : MLen w) (hk : KW w) :
    Calls Tryd.prog 5 #[v0] w fun e w' => e = .returned (.bool true) ∧ Below w.heap.size w w' := by
  obtain ⟨o, s, ws, gs, A1, A2, c1, c2, rfl, h1, h2, -, n1, n2, hz1, hz2⟩ := arg_streams g0 hv0
  clear g0 hv0
  have HK := Lib.hid hk
  have HM := Lib.hid hm
  have HT := Lib.hid ht
  have hc1 : ws.length ≤ c1 := by
    obtain ⟨_, _, e, h⟩ := h1.slice
    simp only [Value.slice.injEq] at e
    omega
  have hc2 : gs.length ≤ c2 := by
    obtain ⟨_, _, e, h⟩ := h2.slice
    simp only [Value.slice.injEq] at e
    omega
  have CC := Lib.hid (fun W => lawCut W o s A1 A2 ws.length gs.length c1 c2 hc1 hc2 n1 n2)
  have q1 := h1.takeA (min ws.length 40) (by omega)
  have q2 := h2.takeA (min gs.length 40) (by omega)
  have z1 : ∀ t ∈ ws.take (min ws.length 40), TZ t := fun t ht => hz1 t (List.mem_of_mem_take ht)
  have z2 : ∀ t ∈ gs.take (min gs.length 40), TZ t := fun t ht => hz2 t (List.mem_of_mem_take ht)
  have l1 : (ws.take (min ws.length 40)).length ≤ 40 := by rw [List.length_take]; omega
  have l2 : (gs.take (min gs.length 40)).length ≤ 40 := by rw [List.length_take]; omega
  generalize ws.take (min ws.length 40) = us at *
  generalize gs.take (min gs.length 40) = vs at *
  generalize min ws.length 40 = k1 at *
  generalize min gs.length 40 = k2 at *
  generalize ws.length = N at *
  generalize gs.length = M at *
  have CR : Hid (∀ W, Below w.heap.size w W → Calls Tryd.prog 22 #[.bool o, .string s, .slice A1 k1 c1, .slice A2 k2 c2] W fun e w' => ∃ v, e = .returned v ∧ BDF w' 0 v (runT o s us vs) ∧ Below W.heap.size W w') := Lib.hid fun W hW =>
    brdRun W o s _ _ us vs (q1.below hW) (q2.below hW) (by omega) (by omega) z1 z2 (hk.below hW) (hm.below hW) (ht.below hW)
  have CQ : Hid (∀ W, Below w.heap.size w W → Calls Tryd.prog 23 #[.bool o, .string s, .slice A1 k1 c1, .slice A2 k2 c2] W fun e w' => ∃ v, e = .returned v ∧ BDF w' w.heap.size v (runT o s us vs) ∧ Below W.heap.size W w') := Lib.hid fun W hW =>
    brrRun W o s _ _ us vs w.heap.size (rs_lowB q1 hW) (rs_lowB q2 hW) hW.size (by omega) (by omega) z1 z2
  have BZR := Lib.hid (bz_run o s us vs)
  generalize runT o s us vs = fb at *
  clear h1 h2 hz1 hz2 q1 q2 z1 z2 l1 l2 hk hm ht n1 n2 hc1 hc2
  have CW := Lib.hid (fun W (hW : Below w.heap.size w W) => lawAwake W (HK.out.below hW) (HM.out.below hW) (HT.out.below hW))
  go_enter Tryd.func5, Tryd.ntmps5
  go_upto_region 1 with fail
  have XA := Lib.hid (box_new (W := w) (g := w.heap.size) 39 #[.bool o, .string s, .slice A1 N c1, .slice A2 M c2] (by simp))
  have HB := Lib.hid (below_alloc w (.cells #[.bool o, .string s, .slice A1 N c1, .slice A2 M c2] 39))
  generalize w.alloc (.cells #[.bool o, .string s, .slice A1 N c1, .slice A2 M c2] 39) = w1 at *
  have XA_0 := XA.out.at_ 0 _ rfl
  have XA_1 := XA.out.at_ 1 _ rfl
  have XA_2 := XA.out.at_ 2 _ rfl
  have XA_3 := XA.out.at_ 3 _ rfl
  go_wp2_with fail
  refine (CC.out _).mono ?_; rintro e w2 ⟨rfl, hb⟩
  clear XA_0 XA_1 XA_2 XA_3
  replace XA := Lib.hid (XA.out.below hb)
  replace HB := Lib.hid (below_step HB.out hb)
  clear hb
  have XA' := Lib.hid ((((XA.out.set_ 0 (.bool o)).set_ 1 (.string s)).set_ 2 (.slice A1 k1 c1)).set_ 3 (.slice A2 k2 c2))
  have HB' := Lib.hid ((((HB.out.setCell (p := ⟨w.heap.size, 0, none⟩) (by show w.heap.size ≤ w.heap.size; omega) (.bool o)).setCell (p := ⟨w.heap.size, 1, none⟩) (by show w.heap.size ≤ w.heap.size; omega) (.string s)).setCell (p := ⟨w.heap.size, 2, none⟩) (by show w.heap.size ≤ w.heap.size; omega) (.slice A1 k1 c1)).setCell (p := ⟨w.heap.size, 3, none⟩) (by show w.heap.size ≤ w.heap.size; omega) (.slice A2 k2 c2))
  have XA_0 := XA.out.at_ 0 _ rfl
  have XA_1 := XA.out.at_ 1 _ rfl
  have XA_2 := XA.out.at_ 2 _ rfl
  have XA_3 := XA.out.at_ 3 _ rfl
  have XA_l := XA.out.lt
  have XA_z0 := XA.out.frozen 0
  have XA_z1 := XA.out.frozen 1
  have XA_z2 := XA.out.frozen 2
  have XA_z3 := XA.out.frozen 3
  go_upto_region 2 with fail
  clear XA_0 XA_1 XA_2 XA_3 XA_l XA_z0 XA_z1 XA_z2 XA_z3
  clear HB XA
  generalize (((w2.setCell ⟨w.heap.size, 0, none⟩ (.bool o)).setCell ⟨w.heap.size, 1, none⟩ (.string s)).setCell ⟨w.heap.size, 2, none⟩ (.slice A1 k1 c1)).setCell ⟨w.heap.size, 3, none⟩ (.slice A2 k2 c2) = w3 at *
  have XA : Hid (Box w3 w.heap.size #[.bool o, .string s, .slice A1 k1 c1, .slice A2 k2 c2] 39) := XA'
  have HB := HB'
  clear HB' XA'
  have HBL := HB
  clear CC
  refine wp_region_gen 22 (Kit.of [gBv 8 [] 0 fb, gBv 17 [] w.heap.size fb, gVal 18 [8, 17] (.bool true), gVal 20 [] (.bool true)]) (by kernel_rfl) (by kernel_rfl) (fun γ => by kernel_rfl) (by kernel_rfl) (Kit.of_stable ?_) (Kit.of_known ?_) ?_
  · intro z hz; simp only [List.mem_cons, List.not_mem_nil, or_false] at hz; rcases hz with rfl | rfl | rfl | rfl
    · apply gBv_st
    · apply gBv_st
    · apply gVal_st
    · apply gVal_st
  · intro z hz; simp only [List.mem_cons, List.not_mem_nil, or_false] at hz; rcases hz with rfl | rfl | rfl | rfl
    · apply gBv_kn
    · apply gBv_kn
    · apply gVal_kn
    · apply gVal_kn
  intro γ hγ C hC hne
  obtain ⟨P10, c10, Q10, d10, k10⟩ : ∃ A c A2 c2, γ 8 = .agg #[.bool fb.ord, .string fb.key, .slice A fb.want.length c, .int .i64 fb.mat, .slice A2 fb.wrg.length c2] := hγ 8 rfl
  obtain ⟨P12, c12, Q12, d12, k12⟩ : ∃ A c A2 c2, γ 17 = .agg #[.bool fb.ord, .string fb.key, .slice A fb.want.length c, .int .i64 fb.mat, .slice A2 fb.wrg.length c2] := hγ 17 rfl
  have k13 : γ 18 = .bool true := hγ 18 rfl
  have k16 : γ 20 = .bool true := hγ 20 rfl
  have a0 := XA.out.latC (C := C) 0 _ rfl
  have a1 := XA.out.latC (C := C) 1 _ rfl
  have a2 := XA.out.latC (C := C) 2 _ rfl
  have a3 := XA.out.latC (C := C) 3 _ rfl
  simp only [List.take_succ_cons, List.take_zero, List.drop_succ_cons, List.drop_zero]
  iterate 8 (refine wpF_quiet rfl ?_; go_big_quiet_step (fail); refine wpQuiet_nil ?_)
  refine wpF_fresh rfl (freshAt_call (args := #[.bool o, .string s, .slice A1 k1 c1, .slice A2 k2 c2]) rfl _ _ _ (run_go Tryd.func22 (by kernel_rfl) (by kernel_rfl)) rfl (by simp [Act.eval]) (fun w' hb hf => (CR.out w' (below_step HBL.out hb)).mono fun e w2 ⟨v, he, h1, h2⟩ => ⟨v, he, h1, h2⟩)) ?_
  simp only [Nat.zero_add, Nat.reduceAdd, k10]
  go_simp
  iterate 8 (refine wpF_quiet rfl ?_; go_big_quiet_step (fail); refine wpQuiet_nil ?_)
  refine wpF_fresh rfl (freshAt_call (args := #[.bool o, .string s, .slice A1 k1 c1, .slice A2 k2 c2]) rfl _ _ _ (run_go Tryd.func23 (by kernel_rfl) (by kernel_rfl)) rfl (by simp [Act.eval]) (fun w' hb hf => (CQ.out w' (below_step HBL.out hb)).mono fun e w2 ⟨v, he, h1, h2⟩ => ⟨v, he, h1, h2⟩)) ?_
  simp only [Nat.zero_add, Nat.reduceAdd, k12]
  go_simp
  refine wpF_fresh rfl (freshAt_call (args := #[.agg #[.bool fb.ord, .string fb.key, .slice P10 fb.want.length c10, .int .i64 fb.mat, .slice Q10 fb.wrg.length d10], .agg #[.bool fb.ord, .string fb.key, .slice P12 fb.want.length c12, .int .i64 fb.mat, .slice Q12 fb.wrg.length d12]]) rfl _ _ _ (run_go Tryd.func11 (by kernel_rfl) (by kernel_rfl)) rfl (by simp [Act.eval]) (fun w' hb hf => (same_one w' _ _ fb 0 w.heap.size (by have h5 : BDF w' 0 (γ 8) fb := hf 8 (show 8 ∈ [8, 17] by decide); rwa [k10] at h5) (by have h5 : BDF w' w.heap.size (γ 17) fb := hf 17 (show 17 ∈ [8, 17] by decide); rwa [k12] at h5) BZR.out).mono fun e w2 ⟨he, h1⟩ => ⟨_, he, rfl, h1⟩)) ?_
  simp only [Nat.zero_add, Nat.reduceAdd, k13]
  go_simp
  iterate 1 (refine wpF_quiet rfl ?_; go_big_quiet_step (fail); refine wpQuiet_nil ?_)
  refine wpF_freshG rfl (freshA_call (args := #[]) (by kernel_rfl) _ _ _ (run_go Tryd.func16 (by kernel_rfl) (by kernel_rfl)) rfl (by simp [Act.eval]) (fun w' hb hf => (CW.out w' (below_step HBL.out hb)).mono fun e w2 ⟨he, h1⟩ => ⟨_, he, rfl, h1⟩)) ?_
  simp only [Nat.zero_add, Nat.reduceAdd, k16]
  go_simp
  iterate 1 (refine wpF_quiet rfl ?_; go_big_quiet_step (fail); refine wpQuiet_nil ?_)
  intro w9 hb hF
  clear a0 a1 a2 a3 hF hγ hC hne
  replace HB := Lib.hid (below_step HB.out hb)
  clear hb
  go_wp2_with fail
  go_ret
  exact ⟨rfl, HB.out⟩

end Go.Proofs.YtldafnjbgjagiaaDoor
