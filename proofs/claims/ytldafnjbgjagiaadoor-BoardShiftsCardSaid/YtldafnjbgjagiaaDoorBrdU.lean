/-
  Walk of BoardShifts.
-/
import Derived.Test.YtldafnjbgjagiaaDoorBrdT
namespace Go.Proofs.YtldafnjbgjagiaaDoor
open Go.RowKit
set_option linter.unusedVariables false
set_option linter.unusedSimpArgs false

set_option maxRecDepth 100000 in
set_option maxHeartbeats 16000000 in
theorem walkBoardShifts {H : Type} {enc : TypeId × Value → H} {base : Nat} {w : World} (v0 : Value) (d0 : DataW H) (p0 : List MemPlace) (g0 : DataW.Trod enc Tryd.prog w 0 (fun _ => true) true 39 v0 d0 p0) (hv0 : Value.okWide Tryd.prog w .any base 39 v0)
    (v1 : Value) (d1 : DataW H) (p1 : List MemPlace) (g1 : DataW.Trod enc Tryd.prog w 0 (fun _ => true) true 28 v1 d1 p1) (hv1 : Value.okWide Tryd.prog w .any base 28 v1) (ht : Tab w) (hm : MLen w) (hk : KW w) :
    Calls Tryd.prog 8 #[v0, v1] w fun e w' => e = .returned (.bool true) ∧ Below w.heap.size w w' := by
  obtain ⟨o, s, ws, gs, A1, A2, c1, c2, rfl, h1, h2, -, n1, n2, hz1, hz2⟩ := arg_streams g0 hv0
  obtain ⟨u1, u2, t, rfl, s1, s2, tz⟩ := arg_tx g1 hv1
  clear g0 hv0 g1 hv1
  have HK := Lib.hid hk
  have HM := Lib.hid hm
  have HT := Lib.hid ht
  have hc1 : ws.length ≤ c1 := by
    obtain ⟨_, _, e, h⟩ := h1.slice
    simp only [Value.slice.injEq] at e
    omega
  have hc2 : gs.length ≤ c2 := by
    obtain ⟨_, _, e, h⟩ := h2.slice
    simp only [Value.slice.injEq] at e
    omega
  have CC := Lib.hid (fun W => lawCut W o s A1 A2 ws.length gs.length c1 c2 hc1 hc2 n1 n2)
  have q1 := h1.takeA (min ws.length 40) (by omega)
  have q2 := h2.takeA (min gs.length 40) (by omega)
  have z1 : ∀ t ∈ ws.take (min ws.length 40), TZ t := fun t ht => hz1 t (List.mem_of_mem_take ht)
  have z2 : ∀ t ∈ gs.take (min gs.length 40), TZ t := fun t ht => hz2 t (List.mem_of_mem_take ht)
  have l1 : (ws.take (min ws.length 40)).length ≤ 40 := by rw [List.length_take]; omega
  have l2 : (gs.take (min gs.length 40)).length ≤ 40 := by rw [List.length_take]; omega
  generalize ws.take (min ws.length 40) = us at *
  generalize gs.take (min gs.length 40) = vs at *
  generalize min ws.length 40 = k1 at *
  generalize min gs.length 40 = k2 at *
  generalize ws.length = N at *
  generalize gs.length = M at *
  have Q1 := Lib.hid (fun W (hW : Below w.heap.size w W) => q1.below hW)
  have Q2 := Lib.hid (fun W (hW : Below w.heap.size w W) => q2.below hW)
  have ST := Lib.hid (fun W (hW : Below w.heap.size w W) => (⟨u1, u2, rfl, s1.below hW, s2.below hW, in_any _ _, in_any _ _⟩ : txR.R W [u1, u2] t anyB))
  have CR : Hid (∀ W, Below w.heap.size w W → Calls Tryd.prog 22 #[.bool true, .string s, .slice A1 k1 c1, .slice A2 k2 c2] W fun e w' => ∃ v, e = .returned v ∧ BDF w' 0 v (runT true s us vs) ∧ Below W.heap.size W w') := Lib.hid fun W hW =>
    brdRun W true s _ _ us vs (q1.below hW) (q2.below hW) (by omega) (by omega) z1 z2 (hk.below hW) (hm.below hW) (ht.below hW)
  have CQ : Hid (∀ W v6 v11, Below w.heap.size w W → Rs txR W v6 (t :: us) anyB → Rs txR W v11 (t :: vs) anyB → Calls Tryd.prog 22 #[.bool true, .string s, v6, v11] W fun e w' => ∃ v, e = .returned v ∧ BDF w' 0 v (runT true s (t :: us) (t :: vs)) ∧ Below W.heap.size W w') := Lib.hid fun W v6 v11 hW r1 r2 =>
    brdRun W true s _ _ (t :: us) (t :: vs) r1 r2 (by simp; omega) (by simp; omega) (fun x hx => (List.mem_cons.1 hx).elim (fun e => e ▸ tz) (z1 x)) (fun x hx => (List.mem_cons.1 hx).elim (fun e => e ▸ tz) (z2 x)) (hk.below hW) (hm.below hW) (ht.below hW)
  have CV : Hid (∀ W, Below w.heap.size w W → Calls Tryd.prog 25 #[.agg #[u1, u2]] W fun e w' => e = .returned (.bool (tv t)) ∧ Below W.heap.size W w') := Lib.hid fun W hW =>
    refValidT W u1 u2 t.1 t.2 (s1.below hW) (s2.below hW) tz.2.2 tz.1 tz.2.1
  have LAW : Hid (tv t = true → _) := Lib.hid fun h => shift_runs s t us vs h l1 l2
  have CW := Lib.hid (fun W (hW : Below w.heap.size w W) => lawAwake W (HK.out.below hW) (HM.out.below hW) (HT.out.below hW))
  have L1 := Lib.hid l1
  have L2 := Lib.hid l2
  obtain ⟨B1, e1, rfl, -⟩ := id s1
  obtain ⟨B2, e2, rfl, -⟩ := id s2
  clear h1 h2 hz1 hz2 q1 q2 z1 z2 l1 l2 hk hm ht n1 n2 hc1 hc2 s1 s2 tz
  generalize runT true s us vs = fa at *
  generalize runT true s (t :: us) (t :: vs) = fb at *
  generalize t.1.length = N1 at *
  generalize t.2.length = N2 at *
  have ST2 : Hid (∀ W, Below w.heap.size w W → txR.R W [.slice B1 N1 e1, .slice B2 N2 e2] t anyB) := Lib.hid fun W hW => by
    obtain ⟨a, b, e, s1, s2, _, _⟩ := ST.out W hW
    exact ⟨a, b, e, s1, s2, in_any _ _, in_any _ _⟩
  clear ST
  cases hv : tv t
  case false =>
    rw [hv] at CV
    clear CQ CR LAW
    go_enter Tryd.func8, Tryd.ntmps8
    go_upto_region 1 with fail
    have XA := Lib.hid ((box_new (W := w) (g := w.heap.size) 39 #[.bool o, .string s, .slice A1 N c1, .slice A2 M c2] (by simp)).below (below_alloc _ (.cells #[.slice B1 N1 e1, .slice B2 N2 e2] 28)))
    have XT := Lib.hid (box_new (W := (w.alloc (.cells #[.bool o, .string s, .slice A1 N c1, .slice A2 M c2] 39))) (g := w.heap.size + 1) 28 #[.slice B1 N1 e1, .slice B2 N2 e2] (by simp))
    have HB := Lib.hid (below_step (below_alloc w (.cells #[.bool o, .string s, .slice A1 N c1, .slice A2 M c2] 39)) (below_alloc (w.alloc (.cells #[.bool o, .string s, .slice A1 N c1, .slice A2 M c2] 39)) (.cells #[.slice B1 N1 e1, .slice B2 N2 e2] 28)))
    generalize (w.alloc (.cells #[.bool o, .string s, .slice A1 N c1, .slice A2 M c2] 39)).alloc (.cells #[.slice B1 N1 e1, .slice B2 N2 e2] 28) = w1 at *
    have XA_0 := XA.out.at_ 0 _ rfl
    have XA_1 := XA.out.at_ 1 _ rfl
    have XA_2 := XA.out.at_ 2 _ rfl
    have XA_3 := XA.out.at_ 3 _ rfl
    go_wp2_with fail
    refine (CC.out _).mono ?_; rintro e w2 ⟨rfl, hb⟩
    clear XA_0 XA_1 XA_2 XA_3
    replace XA := Lib.hid (XA.out.below hb)
    replace XT := Lib.hid (XT.out.below hb)
    replace HB := Lib.hid (below_step HB.out hb)
    clear hb
    have XA' := Lib.hid ((((XA.out.set_ 0 (.bool o)).set_ 1 (.string s)).set_ 2 (.slice A1 k1 c1)).set_ 3 (.slice A2 k2 c2))
    have XT' := Lib.hid ((((XT.out.setNe (p := ⟨w.heap.size, 0, none⟩) (by show w.heap.size ≠ _; first | omega | (exact boxes_apart XA.out XT.out (by decide))) (.bool o)).setNe (p := ⟨w.heap.size, 1, none⟩) (by show w.heap.size ≠ _; first | omega | (exact boxes_apart XA.out XT.out (by decide))) (.string s)).setNe (p := ⟨w.heap.size, 2, none⟩) (by show w.heap.size ≠ _; first | omega | (exact boxes_apart XA.out XT.out (by decide))) (.slice A1 k1 c1)).setNe (p := ⟨w.heap.size, 3, none⟩) (by show w.heap.size ≠ _; first | omega | (exact boxes_apart XA.out XT.out (by decide))) (.slice A2 k2 c2))
    have HB' := Lib.hid ((((HB.out.setCell (p := ⟨w.heap.size, 0, none⟩) (by show w.heap.size ≤ w.heap.size; omega) (.bool o)).setCell (p := ⟨w.heap.size, 1, none⟩) (by show w.heap.size ≤ w.heap.size; omega) (.string s)).setCell (p := ⟨w.heap.size, 2, none⟩) (by show w.heap.size ≤ w.heap.size; omega) (.slice A1 k1 c1)).setCell (p := ⟨w.heap.size, 3, none⟩) (by show w.heap.size ≤ w.heap.size; omega) (.slice A2 k2 c2))
    have XA_0 := XA.out.at_ 0 _ rfl
    have XA_1 := XA.out.at_ 1 _ rfl
    have XA_2 := XA.out.at_ 2 _ rfl
    have XA_3 := XA.out.at_ 3 _ rfl
    have XA_l := XA.out.lt
    have XA_z0 := XA.out.frozen 0
    have XA_z1 := XA.out.frozen 1
    have XA_z2 := XA.out.frozen 2
    have XA_z3 := XA.out.frozen 3
    go_upto_region 2 with fail
    clear XA_0 XA_1 XA_2 XA_3 XA_l XA_z0 XA_z1 XA_z2 XA_z3
    clear HB XA XT
    generalize (((w2.setCell ⟨w.heap.size, 0, none⟩ (.bool o)).setCell ⟨w.heap.size, 1, none⟩ (.string s)).setCell ⟨w.heap.size, 2, none⟩ (.slice A1 k1 c1)).setCell ⟨w.heap.size, 3, none⟩ (.slice A2 k2 c2) = w3 at *
    have XA : Hid (Box w3 w.heap.size #[.bool o, .string s, .slice A1 k1 c1, .slice A2 k2 c2] 39) := XA'
    have XT := XT'
    have HB := HB'
    clear HB' XA' XT'
    have XT_0 := XT.out.at_ 0 _ rfl
    have XT_1 := XT.out.at_ 1 _ rfl
    go_wp2_with fail
    refine (CV.out _ HB.out).mono ?_; rintro e w4 ⟨rfl, hb⟩
    clear XT_0 XT_1
    replace XA := Lib.hid (XA.out.below hb)
    replace XT := Lib.hid (XT.out.below hb)
    replace HB := Lib.hid (below_step HB.out hb)
    clear hb
    go_wp2_with fail
    refine (CW.out _ HB.out).mono ?_; rintro e w5 ⟨rfl, hb⟩
    replace XA := Lib.hid (XA.out.below hb)
    replace XT := Lib.hid (XT.out.below hb)
    replace HB := Lib.hid (below_step HB.out hb)
    clear hb
    go_wp2_with fail
    go_ret
    exact ⟨rfl, HB.out⟩
  case true =>
    rw [hv] at CV
    have LW := Lib.hid (LAW.out hv)
    clear LAW
    go_enter Tryd.func8, Tryd.ntmps8
    go_upto_region 1 with fail
    have XA := Lib.hid ((box_new (W := w) (g := w.heap.size) 39 #[.bool o, .string s, .slice A1 N c1, .slice A2 M c2] (by simp)).below (below_alloc _ (.cells #[.slice B1 N1 e1, .slice B2 N2 e2] 28)))
    have XT := Lib.hid (box_new (W := (w.alloc (.cells #[.bool o, .string s, .slice A1 N c1, .slice A2 M c2] 39))) (g := w.heap.size + 1) 28 #[.slice B1 N1 e1, .slice B2 N2 e2] (by simp))
    have HB := Lib.hid (below_step (below_alloc w (.cells #[.bool o, .string s, .slice A1 N c1, .slice A2 M c2] 39)) (below_alloc (w.alloc (.cells #[.bool o, .string s, .slice A1 N c1, .slice A2 M c2] 39)) (.cells #[.slice B1 N1 e1, .slice B2 N2 e2] 28)))
    generalize (w.alloc (.cells #[.bool o, .string s, .slice A1 N c1, .slice A2 M c2] 39)).alloc (.cells #[.slice B1 N1 e1, .slice B2 N2 e2] 28) = w1 at *
    have XA_0 := XA.out.at_ 0 _ rfl
    have XA_1 := XA.out.at_ 1 _ rfl
    have XA_2 := XA.out.at_ 2 _ rfl
    have XA_3 := XA.out.at_ 3 _ rfl
    go_wp2_with fail
    refine (CC.out _).mono ?_; rintro e w2 ⟨rfl, hb⟩
    clear XA_0 XA_1 XA_2 XA_3
    replace XA := Lib.hid (XA.out.below hb)
    replace XT := Lib.hid (XT.out.below hb)
    replace HB := Lib.hid (below_step HB.out hb)
    clear hb
    have XA' := Lib.hid ((((XA.out.set_ 0 (.bool o)).set_ 1 (.string s)).set_ 2 (.slice A1 k1 c1)).set_ 3 (.slice A2 k2 c2))
    have XT' := Lib.hid ((((XT.out.setNe (p := ⟨w.heap.size, 0, none⟩) (by show w.heap.size ≠ _; first | omega | (exact boxes_apart XA.out XT.out (by decide))) (.bool o)).setNe (p := ⟨w.heap.size, 1, none⟩) (by show w.heap.size ≠ _; first | omega | (exact boxes_apart XA.out XT.out (by decide))) (.string s)).setNe (p := ⟨w.heap.size, 2, none⟩) (by show w.heap.size ≠ _; first | omega | (exact boxes_apart XA.out XT.out (by decide))) (.slice A1 k1 c1)).setNe (p := ⟨w.heap.size, 3, none⟩) (by show w.heap.size ≠ _; first | omega | (exact boxes_apart XA.out XT.out (by decide))) (.slice A2 k2 c2))
    have HB' := Lib.hid ((((HB.out.setCell (p := ⟨w.heap.size, 0, none⟩) (by show w.heap.size ≤ w.heap.size; omega) (.bool o)).setCell (p := ⟨w.heap.size, 1, none⟩) (by show w.heap.size ≤ w.heap.size; omega) (.string s)).setCell (p := ⟨w.heap.size, 2, none⟩) (by show w.heap.size ≤ w.heap.size; omega) (.slice A1 k1 c1)).setCell (p := ⟨w.heap.size, 3, none⟩) (by show w.heap.size ≤ w.heap.size; omega) (.slice A2 k2 c2))
    have XA_0 := XA.out.at_ 0 _ rfl
    have XA_1 := XA.out.at_ 1 _ rfl
    have XA_2 := XA.out.at_ 2 _ rfl
    have XA_3 := XA.out.at_ 3 _ rfl
    have XA_l := XA.out.lt
    have XA_z0 := XA.out.frozen 0
    have XA_z1 := XA.out.frozen 1
    have XA_z2 := XA.out.frozen 2
    have XA_z3 := XA.out.frozen 3
    go_upto_region 2 with fail
    clear XA_0 XA_1 XA_2 XA_3 XA_l XA_z0 XA_z1 XA_z2 XA_z3
    clear HB XA XT
    generalize (((w2.setCell ⟨w.heap.size, 0, none⟩ (.bool o)).setCell ⟨w.heap.size, 1, none⟩ (.string s)).setCell ⟨w.heap.size, 2, none⟩ (.slice A1 k1 c1)).setCell ⟨w.heap.size, 3, none⟩ (.slice A2 k2 c2) = w3 at *
    have XA : Hid (Box w3 w.heap.size #[.bool o, .string s, .slice A1 k1 c1, .slice A2 k2 c2] 39) := XA'
    have XT := XT'
    have HB := HB'
    clear HB' XA' XT'
    have XT_0 := XT.out.at_ 0 _ rfl
    have XT_1 := XT.out.at_ 1 _ rfl
    go_wp2_with fail
    refine (CV.out _ HB.out).mono ?_; rintro e w4 ⟨rfl, hb⟩
    clear XT_0 XT_1
    replace XA := Lib.hid (XA.out.below hb)
    replace XT := Lib.hid (XT.out.below hb)
    replace HB := Lib.hid (below_step HB.out hb)
    clear hb
    have XA_0 := XA.out.at_ 0 _ rfl
    have XA_1 := XA.out.at_ 1 _ rfl
    have XA_2 := XA.out.at_ 2 _ rfl
    have XA_3 := XA.out.at_ 3 _ rfl
    go_wp2_with fail
    clear XA_0 XA_1 XA_2 XA_3
    refine (CR.out w4 HB.out).mono ?_; rintro e w5 ⟨v', rfl, hbd', hb⟩
    replace XA := Lib.hid (XA.out.below hb)
    replace XT := Lib.hid (XT.out.below hb)
    replace HB := Lib.hid (below_step HB.out hb)
    clear hb
    obtain ⟨FA, fc, FA2, fc2, fn, fg, rfl, hfn, hfg⟩ := hbd'.cells
    have HBE := Lib.hid hbd'
    have HFG := Lib.hid hfg
    clear hbd' CR hfn hfg
    go_upto_region 5 with fail
    have XE := Lib.hid (box_new (W := w5) (g := w5.heap.size) 25 #[.bool fa.ord, .string fa.key, .slice FA fn fc, .int .i64 fa.mat, .slice FA2 fg fc2] (by simp))
    have hba := (below_alloc w5 (.cells #[.bool fa.ord, .string fa.key, .slice FA fn fc, .int .i64 fa.mat, .slice FA2 fg fc2] 25))
    replace XA := Lib.hid (XA.out.below hba)
    replace XT := Lib.hid (XT.out.below hba)
    replace HBE := Lib.hid (HBE.out.below hba)
    replace HB := Lib.hid (below_step HB.out hba)
    clear hba
    generalize w5.alloc (.cells #[.bool fa.ord, .string fa.key, .slice FA fn fc, .int .i64 fa.mat, .slice FA2 fg fc2] 25) = w6 at *
    have HBL := HB
    refine wp_region_gen 14 (Kit.of [fSlice 3 [] w6.heap.size #[.slice B1 N1 e1, .slice B2 N2 e2] 28, gRsA 6 [3] txR (t :: us), fSlice 8 [] w6.heap.size #[.slice B1 N1 e1, .slice B2 N2 e2] 28, gRsA 11 [8] txR (t :: vs), gBv 12 [6, 11] 0 fb, gBox 13 [] w6.heap.size #[.bool false, .string ⟨#[]⟩, .slice none 0 0, .int .i64 0, .slice none 0 0] 25]) (by kernel_rfl) (by kernel_rfl) (fun γ => by kernel_rfl) (by kernel_rfl) (Kit.of_stable ?_) (Kit.of_known ?_) ?_
    · intro z hz; simp only [List.mem_cons, List.not_mem_nil, or_false] at hz; rcases hz with rfl | rfl | rfl | rfl | rfl | rfl
      · apply fSlice_st
      · apply gRsA_st
      · apply fSlice_st
      · apply gRsA_st
      · apply gBv_st
      · apply gBox_st
    · intro z hz; simp only [List.mem_cons, List.not_mem_nil, or_false] at hz; rcases hz with rfl | rfl | rfl | rfl | rfl | rfl
      · apply fSlice_kn
      · apply gRsA_kn
      · apply fSlice_kn
      · apply gRsA_kn
      · apply gBv_kn
      · apply gBox_kn
    intro γ hγ C hC hne
    obtain ⟨G3, k3⟩ : ∃ g, γ 3 = .slice (some ⟨g, 0, none⟩) 1 1 := hγ 3 rfl
    obtain ⟨P6, d6, k6⟩ : ∃ A c, γ 6 = .slice A (t :: us).length c := hγ 6 rfl
    obtain ⟨G8, k8⟩ : ∃ g, γ 8 = .slice (some ⟨g, 0, none⟩) 1 1 := hγ 8 rfl
    obtain ⟨P11, d11, k11⟩ : ∃ A c, γ 11 = .slice A (t :: vs).length c := hγ 11 rfl
    obtain ⟨P12, c12, Q12, d12, k12⟩ : ∃ A c A2 c2, γ 12 = .agg #[.bool fb.ord, .string fb.key, .slice A fb.want.length c, .int .i64 fb.mat, .slice A2 fb.wrg.length c2] := hγ 12 rfl
    obtain ⟨G13, k13⟩ : ∃ g, γ 13 = .pointer (some ⟨g, 0, none⟩) := hγ 13 rfl
    have a1 := XA.out.latC (C := C) 1 _ rfl
    have a2 := XA.out.latC (C := C) 2 _ rfl
    have a3 := XA.out.latC (C := C) 3 _ rfl
    have t0 := XT.out.latC (C := C) 0 _ rfl
    have t1 := XT.out.latC (C := C) 1 _ rfl
    simp only [List.take_succ_cons, List.take_zero, List.drop_succ_cons, List.drop_zero]
    iterate 3 (refine wpF_quiet rfl ?_; go_big_quiet_step (fail); refine wpQuiet_nil ?_)
    refine wpF_fresh rfl (freshAt_slice rfl (fun w => by kernel_rfl) (fun w' g hg hx => ⟨g, rfl, hx, hg⟩)) ?_
    simp only [Nat.zero_add, Nat.reduceAdd, k3]
    go_simp
    iterate 2 (refine wpF_quiet rfl ?_; go_big_quiet_step (fail); refine wpQuiet_nil ?_)
    refine wpF_fresh rfl (freshAt_app (g := G3) (sv := .slice A1 k1 c1) (t := t) (ys := us) rfl rfl (by simp [Act.eval]) (by simp [Act.eval]) (by have := L1.out; omega) (fun w' hb hf => ⟨by obtain ⟨g', e', hx, _⟩ : ∃ g', γ 3 = .slice (some ⟨g', 0, none⟩) 1 1 ∧ Box w' g' #[.slice B1 N1 e1, .slice B2 N2 e2] 28 ∧ w6.heap.size ≤ g' := hf 3 (show 3 ∈ [3] by decide); rw [k3] at e'; simp at e'; rw [e']; exact hx, ST2.out _ (below_step HBL.out hb), Q1.out _ (below_step HBL.out hb)⟩) (fun v w' h => h)) ?_
    simp only [Nat.zero_add, Nat.reduceAdd, k6]
    go_simp
    iterate 1 (refine wpF_quiet rfl ?_; go_big_quiet_step (fail); refine wpQuiet_nil ?_)
    refine wpF_fresh rfl (freshAt_slice rfl (fun w => by kernel_rfl) (fun w' g hg hx => ⟨g, rfl, hx, hg⟩)) ?_
    simp only [Nat.zero_add, Nat.reduceAdd, k8]
    go_simp
    iterate 2 (refine wpF_quiet rfl ?_; go_big_quiet_step (fail); refine wpQuiet_nil ?_)
    refine wpF_fresh rfl (freshAt_app (g := G8) (sv := .slice A2 k2 c2) (t := t) (ys := vs) rfl rfl (by simp [Act.eval]) (by simp [Act.eval]) (by have := L2.out; omega) (fun w' hb hf => ⟨by obtain ⟨g', e', hx, _⟩ : ∃ g', γ 8 = .slice (some ⟨g', 0, none⟩) 1 1 ∧ Box w' g' #[.slice B1 N1 e1, .slice B2 N2 e2] 28 ∧ w6.heap.size ≤ g' := hf 8 (show 8 ∈ [8] by decide); rw [k8] at e'; simp at e'; rw [e']; exact hx, ST2.out _ (below_step HBL.out hb), Q2.out _ (below_step HBL.out hb)⟩) (fun v w' h => h)) ?_
    simp only [Nat.zero_add, Nat.reduceAdd, k11]
    go_simp
    refine wpF_fresh rfl (freshAt_call (args := #[.bool true, .string s, .slice P6 (t :: us).length d6, .slice P11 (t :: vs).length d11]) rfl _ _ _ (run_go Tryd.func22 (by kernel_rfl) (by kernel_rfl)) rfl (by simp [Act.eval]) (fun w' hb hf => (CQ.out w' _ _ (below_step HBL.out hb) (by have h5 : Rs txR w' (γ 6) (t :: us) anyB := hf 6 (show 6 ∈ [6, 11] by decide); rwa [k6] at h5) (by have h5 : Rs txR w' (γ 11) (t :: vs) anyB := hf 11 (show 11 ∈ [6, 11] by decide); rwa [k11] at h5)).mono fun e w2 ⟨v, he, h1, h2⟩ => ⟨v, he, h1, h2⟩)) ?_
    simp only [Nat.zero_add, Nat.reduceAdd, k12]
    go_simp
    refine wpF_fresh rfl (freshAt_alloc rfl rfl allocBoard (fun w' g hg hx => ⟨g, rfl, hx, hg⟩)) ?_
    simp only [Nat.zero_add, Nat.reduceAdd, k13]
    go_simp
    intro w7 hb hF
    have HNX : Hid (BDF w7 0 (.agg #[.bool fb.ord, .string fb.key, .slice P12 fb.want.length c12, .int .i64 fb.mat, .slice Q12 fb.wrg.length d12]) fb) := Lib.hid (by
      have h5 : BDF w7 0 (γ 12) fb := hF 12 (by decide) rfl
      rwa [k12] at h5)
    obtain ⟨Y9, hg9⟩ := gbox_at k13 (hF 13 (by decide) rfl)
    have XN := Lib.hid Y9
    have hlE := XE.out.lt
    have hbs := HBL.out.size
    clear a1 a2 a3 t0 t1 hF hγ hC hne k3 k6 k8 k11 k12 k13 Y9 HBL CQ ST2 Q1 Q2
    replace XE := Lib.hid (XE.out.below hb)
    replace HBE := Lib.hid (HBE.out.below hb)
    replace HB := Lib.hid (below_step HB.out hb)
    clear hb
    have XN' := Lib.hid (((((XN.out.set_ 0 (.bool fb.ord)).set_ 1 (.string fb.key)).set_ 2 (.slice P12 fb.want.length c12)).set_ 3 (.int .i64 fb.mat)).set_ 4 (.slice Q12 fb.wrg.length d12))
    have XE' := Lib.hid (((((XE.out.setNe (p := ⟨G13, 0, none⟩) (by show G13 ≠ _; first | omega | (exact boxes_apart XN.out XE.out (by decide))) (.bool fb.ord)).setNe (p := ⟨G13, 1, none⟩) (by show G13 ≠ _; first | omega | (exact boxes_apart XN.out XE.out (by decide))) (.string fb.key)).setNe (p := ⟨G13, 2, none⟩) (by show G13 ≠ _; first | omega | (exact boxes_apart XN.out XE.out (by decide))) (.slice P12 fb.want.length c12)).setNe (p := ⟨G13, 3, none⟩) (by show G13 ≠ _; first | omega | (exact boxes_apart XN.out XE.out (by decide))) (.int .i64 fb.mat)).setNe (p := ⟨G13, 4, none⟩) (by show G13 ≠ _; first | omega | (exact boxes_apart XN.out XE.out (by decide))) (.slice Q12 fb.wrg.length d12))
    have HBE' := Lib.hid (((((HBE.out.setBox XN.out (by decide) (by omega) (by decide) 0 (.bool fb.ord)).setBox (XN.out.set_ 0 (.bool fb.ord)) (by decide) (by omega) (by decide) 1 (.string fb.key)).setBox ((XN.out.set_ 0 (.bool fb.ord)).set_ 1 (.string fb.key)) (by decide) (by omega) (by decide) 2 (.slice P12 fb.want.length c12)).setBox (((XN.out.set_ 0 (.bool fb.ord)).set_ 1 (.string fb.key)).set_ 2 (.slice P12 fb.want.length c12)) (by decide) (by omega) (by decide) 3 (.int .i64 fb.mat)).setBox ((((XN.out.set_ 0 (.bool fb.ord)).set_ 1 (.string fb.key)).set_ 2 (.slice P12 fb.want.length c12)).set_ 3 (.int .i64 fb.mat)) (by decide) (by omega) (by decide) 4 (.slice Q12 fb.wrg.length d12))
    have HNX' := Lib.hid (((((HNX.out.setBox XN.out (by decide) (by omega) (by decide) 0 (.bool fb.ord)).setBox (XN.out.set_ 0 (.bool fb.ord)) (by decide) (by omega) (by decide) 1 (.string fb.key)).setBox ((XN.out.set_ 0 (.bool fb.ord)).set_ 1 (.string fb.key)) (by decide) (by omega) (by decide) 2 (.slice P12 fb.want.length c12)).setBox (((XN.out.set_ 0 (.bool fb.ord)).set_ 1 (.string fb.key)).set_ 2 (.slice P12 fb.want.length c12)) (by decide) (by omega) (by decide) 3 (.int .i64 fb.mat)).setBox ((((XN.out.set_ 0 (.bool fb.ord)).set_ 1 (.string fb.key)).set_ 2 (.slice P12 fb.want.length c12)).set_ 3 (.int .i64 fb.mat)) (by decide) (by omega) (by decide) 4 (.slice Q12 fb.wrg.length d12))
    have HB' := Lib.hid (((((HB.out.setCell (p := ⟨G13, 0, none⟩) (by show w.heap.size ≤ G13; omega) (.bool fb.ord)).setCell (p := ⟨G13, 1, none⟩) (by show w.heap.size ≤ G13; omega) (.string fb.key)).setCell (p := ⟨G13, 2, none⟩) (by show w.heap.size ≤ G13; omega) (.slice P12 fb.want.length c12)).setCell (p := ⟨G13, 3, none⟩) (by show w.heap.size ≤ G13; omega) (.int .i64 fb.mat)).setCell (p := ⟨G13, 4, none⟩) (by show w.heap.size ≤ G13; omega) (.slice Q12 fb.wrg.length d12))
    have XN_0 := XN.out.at_ 0 _ rfl
    have XN_1 := XN.out.at_ 1 _ rfl
    have XN_2 := XN.out.at_ 2 _ rfl
    have XN_3 := XN.out.at_ 3 _ rfl
    have XN_4 := XN.out.at_ 4 _ rfl
    have XN_l := XN.out.lt
    have XN_z0 := XN.out.frozen 0
    have XN_z1 := XN.out.frozen 1
    have XN_z2 := XN.out.frozen 2
    have XN_z3 := XN.out.frozen 3
    have XN_z4 := XN.out.frozen 4
    go_upto_region 6 with fail
    clear XN_0 XN_1 XN_2 XN_3 XN_4 XN_l XN_z0 XN_z1 XN_z2 XN_z3 XN_z4
    clear HB XN XE HBE HNX
    generalize ((((w7.setCell ⟨G13, 0, none⟩ (.bool fb.ord)).setCell ⟨G13, 1, none⟩ (.string fb.key)).setCell ⟨G13, 2, none⟩ (.slice P12 fb.want.length c12)).setCell ⟨G13, 3, none⟩ (.int .i64 fb.mat)).setCell ⟨G13, 4, none⟩ (.slice Q12 fb.wrg.length d12) = w8 at *
    have XN : Hid (Box w8 G13 #[.bool fb.ord, .string fb.key, .slice P12 fb.want.length c12, .int .i64 fb.mat, .slice Q12 fb.wrg.length d12] 25) := XN'
    have XE := XE'
    have HBE := HBE'
    have HNX := HNX'
    have HB := HB'
    clear HB' XN' XE' HBE' HNX'
    obtain ⟨m1, m2, m3, m4, m5, m6⟩ := LW.out
    have LX := Lib.hid m6
    clear LW m6
    have j1 : (fb.mat != fa.mat + 1) = false := by rw [m1]; simp
    have j2 : ((fg : Int) != (fb.wrg.length : Int)) = false := by rw [m2, HFG.out]; simp
    clear m1
    have XE_3 := XE.out.at_ 3 _ rfl
    have XE_4 := XE.out.at_ 4 _ rfl
    have XN_3 := XN.out.at_ 3 _ rfl
    have XN_4 := XN.out.at_ 4 _ rfl
    go_wp2_with fail
    clear XE_3 XE_4 XN_3 XN_4
    have HC := Lib.hid (Below.refl w8.heap.size w8)
    obtain ⟨-, -, -, -, sa⟩ := HBE.out.args
    obtain ⟨-, -, -, -, sb⟩ := HNX.out.args
    have SA := Lib.hid sa
    have SB := Lib.hid sb
    clear sa sb j1 j2
    go_loopw [53] (fun i wr => ∃ k : Nat, k ≤ fg ∧ i = .int .i64 k ∧ Below w8.heap.size w8 wr ∧ Below w.heap.size w wr) (fun i _ => fg - (intOf i).toNat)
    case atStart => exact ⟨0, Nat.zero_le _, rfl, HC.out, HB.out⟩
    case round =>
      clear HC HB
      obtain ⟨k, hk, rfl, hc, hb⟩ := hrel
      have HC := Lib.hid hc
      have HB := Lib.hid hb
      clear hc hb
      by_cases hlt : k < fg
      · have hlt2 : (k : Int) < fg := by omega
        have hk0 : (0 : Int) ≤ (k : Int) := by omega
        have hk1 : k < fa.wrg.length := by rw [← HFG.out]; exact hlt
        have hk3 : k < fb.wrg.length := by omega
        have hlt3 : (k : Int) < (fb.wrg.length : Int) := by omega
        obtain ⟨A', c', e', -, hA⟩ := SA.out
        simp only [Value.slice.injEq] at e'
        obtain ⟨rfl, -, rfl⟩ := e'
        obtain ⟨A', c', e', -, hB⟩ := SB.out
        simp only [Value.slice.injEq, true_and] at e'
        obtain ⟨rfl, rfl⟩ := e'
        obtain ⟨b2, rfl, hr2⟩ := hA (by omega)
        obtain ⟨b4, rfl, hr4⟩ := hB (by omega)
        have i1 := (hr2.below HC.out).cells k hk1
        have i2 : ∀ x : Lat wr, x.w.cell? (b2.add k) = some (.string (fa.wrg.getD k ⟨#[]⟩)) := fun x => (hr2.below (below_step HC.out x.h)).cells k hk1
        have i4 : ∀ x : Lat wr, x.w.cell? (b4.add k) = some (.string (fb.wrg.getD k ⟨#[]⟩)) := fun x => (hr4.below (below_step HC.out x.h)).cells k hk3
        have LK := Lib.hid (LX.out k hk1)
        have XE2 := Lib.hid (XE.out.below HC.out)
        have XN2 := Lib.hid (XN.out.below HC.out)
        generalize fa.wrg.getD k ⟨#[]⟩ = x at *
        generalize fb.wrg.getD k ⟨#[]⟩ = y at *
        clear hA hB hr2 hr4 hk1 hk3 SA SB LX
        have XE2_4 := XE2.out.at_ 4 _ rfl
        have hway : (4 < x.size ∧ ((x.extract 0 4).toList == [108, 111, 115, 116]) = true ∧ x = y) ∨ (4 < x.size ∧ ((x.extract 0 4).toList == [108, 111, 115, 116]) = false ∧ x ≠ y) ∨ (¬ 4 < x.size ∧ x ≠ y) := by
          have hL := LK.out
          unfold lostB at hL
          by_cases h4 : 4 < x.size
          · rw [decide_eq_true h4, Bool.true_and] at hL
            by_cases hxy : x = y
            · exact .inl ⟨h4, by rw [hL]; exact decide_eq_true hxy, hxy⟩
            · exact .inr (.inl ⟨h4, by rw [hL]; exact decide_eq_false hxy, hxy⟩)
          · rw [decide_eq_false h4, Bool.false_and] at hL
            exact .inr (.inr ⟨h4, fun h => by rw [decide_eq_true h] at hL; cases hL⟩)
        clear LK
        rcases hway with ⟨h4, f8, hxy⟩ | ⟨h4, f8, hxy⟩ | ⟨h4, hxy⟩
        · have h5 : (4 : Int) < (x.size : Int) := by omega
          subst hxy
          have g1 : (x.toList == x.toList) = true := by simp
          go_upto_region 12 with fail
          clear XE2_4
          have a4 := XE2.out.lat 4 _ rfl
          have b4 := XN2.out.lat 4 _ rfl
          refine wp_region_lat (by kernel_rfl) (by kernel_rfl) ?_
          repeat (go_big_quiet_step (fail))
          refine wpQuiet_nil ?_; intro w9 hb
          clear a4 b4 i1 i2 i4
          replace HC := Lib.hid (below_step HC.out hb)
          replace HB := Lib.hid (below_step HB.out hb)
          clear hb
          go_wp2_with fail
          go_roundw
          case rel => exact ⟨k + 1, by omega, by go_num, HC.out, HB.out⟩
          case measure => simp [intOf]; omega
        · have h5 : (4 : Int) < (x.size : Int) := by omega
          obtain ⟨g1, g2⟩ := strNe hxy
          clear hxy
          go_upto_region 12 with fail
          clear XE2_4
          have a4 := XE2.out.lat 4 _ rfl
          have b4 := XN2.out.lat 4 _ rfl
          refine wp_region_lat (by kernel_rfl) (by kernel_rfl) ?_
          repeat (go_big_quiet_step (fail))
          refine wpQuiet_nil ?_; intro w9 hb
          clear a4 b4 i1 i2 i4
          replace HC := Lib.hid (below_step HC.out hb)
          replace HB := Lib.hid (below_step HB.out hb)
          clear hb
          go_wp2_with fail
          go_roundw
          case rel => exact ⟨k + 1, by omega, by go_num, HC.out, HB.out⟩
          case measure => simp [intOf]; omega
        · have h5 : ¬ (4 : Int) < (x.size : Int) := by omega
          obtain ⟨g1, g2⟩ := strNe hxy
          clear hxy
          go_upto_region 12 with fail
          clear XE2_4
          have a4 := XE2.out.lat 4 _ rfl
          have b4 := XN2.out.lat 4 _ rfl
          refine wp_region_lat (by kernel_rfl) (by kernel_rfl) ?_
          repeat (go_big_quiet_step (fail))
          refine wpQuiet_nil ?_; intro w9 hb
          clear a4 b4 i1 i2 i4
          replace HC := Lib.hid (below_step HC.out hb)
          replace HB := Lib.hid (below_step HB.out hb)
          clear hb
          go_wp2_with fail
          go_roundw
          case rel => exact ⟨k + 1, by omega, by go_num, HC.out, HB.out⟩
          case measure => simp [intOf]; omega
      · have hlt2 : ¬ (k : Int) < fg := by omega
        go_wp2_with fail
        refine (CW.out _ HB.out).mono ?_; rintro e w9 ⟨rfl, hb⟩
        replace HB := Lib.hid (below_step HB.out hb)
        clear hb
        go_wp2_with fail
        go_ret
        exact ⟨rfl, HB.out⟩

end Go.Proofs.YtldafnjbgjagiaaDoor
