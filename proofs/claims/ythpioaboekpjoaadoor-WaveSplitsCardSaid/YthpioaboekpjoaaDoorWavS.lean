/-
  Contracts of Join, the program's and the reference's; walk of WaveJoins.
-/
import Derived.Test.YthpioaboekpjoaaDoorWavR
namespace Go.Proofs.YthpioaboekpjoaaDoor
open Go.RowKit
set_option linter.unusedVariables false
set_option linter.unusedSimpArgs false

set_option maxRecDepth 100000 in
set_option maxHeartbeats 8000000 in
theorem wavJoin (w : World) (v1 v2 v3 v4 : Value) (ns ms : List ByteArray) (rs ts : List (List Int)) (h1 : SL w v1 ns) (h2 : Rs ilR w v2 rs anyB) (h3 : SL w v3 ms) (h4 : Rs ilR w v4 ts anyB) (z1 : WZ ns rs) (z2 : WZ ms ts) (hk : KW w) (hm : MLen w) :
    Calls Tryd.prog 31 #[.agg #[v1, v2], .agg #[v3, v4]] w (PARW w (wjT ns rs ms ts)) := by
  have CV := Lib.hid (fun W (hW : Below w.heap.size w W) => wavValid W v1 v2 ns rs (h1.below hW) (h2.below hW) z1 (hk.below hW) (hm.below hW))
  have CX := Lib.hid (fun W (hW : Below w.heap.size w W) => wavValid W v3 v4 ms ts (h3.below hW) (h4.below hW) z2 (hk.below hW) (hm.below hW))
  have CE := Lib.hid (fun W (hW : Below w.heap.size w W) => slEqualS W v1 v3 ns ms (h1.below hW) (h3.below hW) z1.1 z2.1)
  have CL : Hid (wvV ns rs = true → ∀ W, Below w.heap.size w W → Calls Tryd.prog 56 #[v1] W fun e w' => ∃ v', e = .returned v' ∧ (w'.ownsRow W.heap.size 9 1 v' ns.length (scells ns) ∧ Below W.heap.size W w')) := Lib.hid fun hv W hW =>
    slCloneS W v1 ns (h1.below hW) (by have := (of_decide_eq_true hv : WvV ns rs).1; omega)
  have hcp : ∀ (ns : List ByteArray) (rs : List (List Int)) (v : Value), wvV ns rs = true → Rs ilR w v rs anyB → ∀ W, Below w.heap.size w W → Calls Tryd.prog 57 #[v] W fun e w' => ∃ g, e = .returned (.slice (some ⟨g, 0, none⟩) rs.length rs.length) ∧ NR W.heap.size w' (.slice (some ⟨g, 0, none⟩) rs.length rs.length) rs ∧ Below W.heap.size W w' := fun ns rs v hv h W hW => by
    have hV : WvV ns rs := of_decide_eq_true hv
    exact wavCopied W v rs (h.below hW) (by have := hV.2.1; omega) (fun r hr => by have := (hV.2.2.2 r hr).1; have := hV.1; omega)
  have CA := Lib.hid (fun hv => hcp ns rs v2 hv h2)
  have CB := Lib.hid (fun hv => hcp ms ts v4 hv h4)
  have HG : Hid (wjT ns rs ms ts = if wvV ns rs = false ∨ wvV ms ts = false then ([], [], 1) else if ns ≠ ms then ([], [], 15) else if 4096 < rs.length + ts.length then ([], [], 2) else (ns, rs ++ ts, 0)) := Lib.hid rfl
  have HV4 : Hid (wvV ns rs = true → rs.length ≤ 4096) := Lib.hid fun hv => (of_decide_eq_true hv : WvV ns rs).2.1
  have HV5 : Hid (wvV ms ts = true → ts.length ≤ 4096) := Lib.hid fun hv => (of_decide_eq_true hv : WvV ms ts).2.1
  have S1 := Lib.hid h1
  obtain ⟨A2, c2, rfl, hc2⟩ := h2.slice
  obtain ⟨A4, c4, rfl, hc4⟩ := h4.slice
  obtain ⟨A1, c1, rfl, hc1, -⟩ := h1
  obtain ⟨A3, c3, rfl, hc3, -⟩ := h3
  have n2 := z1.2.1
  have n4 := z2.2.1
  obtain ⟨N, hN⟩ : ∃ N, N = ns.length := ⟨_, rfl⟩
  obtain ⟨N3, hN3⟩ : ∃ N, N = ms.length := ⟨_, rfl⟩
  obtain ⟨M, hM⟩ : ∃ M, M = rs.length := ⟨_, rfl⟩
  obtain ⟨M4, hM4⟩ : ∃ M, M = ts.length := ⟨_, rfl⟩
  have HNN := Lib.hid hN
  rw [← hN] at CV CE CL S1 ⊢
  rw [← hN3] at CX CE ⊢
  rw [← hM] at CV CA HG HV4 n2 ⊢
  rw [← hM4] at CX CB HG HV5 n4 ⊢
  generalize wjT ns rs ms ts = r at *
  generalize wvV ns rs = va at *
  generalize wvV ms ts = vb at *
  clear h2 h4 z1 z2 hc1 hc2 hc3 hc4 hN hN3 hM hM4 hcp hk hm
  go_enter Tryd.func31, Tryd.ntmps31
  go_upto_region 1 with fail
  have XA := Lib.hid (((box_new (W := w) (g := w.heap.size) 26 #[.slice A1 N c1, .slice A2 M c2] (by simp)).below (below_alloc _ (.cells #[.slice A3 N3 c3, .slice A4 M4 c4] 26))).below (below_alloc _ (.cells #[.slice none 0 0, .slice none 0 0] 26)))
  have XB := Lib.hid ((box_new (W := (w.alloc (.cells #[.slice A1 N c1, .slice A2 M c2] 26))) (g := w.heap.size + 1) 26 #[.slice A3 N3 c3, .slice A4 M4 c4] (by simp)).below (below_alloc _ (.cells #[.slice none 0 0, .slice none 0 0] 26)))
  have XR := Lib.hid (box_new (W := ((w.alloc (.cells #[.slice A1 N c1, .slice A2 M c2] 26)).alloc (.cells #[.slice A3 N3 c3, .slice A4 M4 c4] 26))) (g := w.heap.size + 1 + 1) 26 #[.slice none 0 0, .slice none 0 0] (by simp))
  have HB := Lib.hid (below_step (below_step (below_alloc w (.cells #[.slice A1 N c1, .slice A2 M c2] 26)) (below_alloc (w.alloc (.cells #[.slice A1 N c1, .slice A2 M c2] 26)) (.cells #[.slice A3 N3 c3, .slice A4 M4 c4] 26))) (below_alloc ((w.alloc (.cells #[.slice A1 N c1, .slice A2 M c2] 26)).alloc (.cells #[.slice A3 N3 c3, .slice A4 M4 c4] 26)) (.cells #[.slice none 0 0, .slice none 0 0] 26)))
  generalize ((w.alloc (.cells #[.slice A1 N c1, .slice A2 M c2] 26)).alloc (.cells #[.slice A3 N3 c3, .slice A4 M4 c4] 26)).alloc (.cells #[.slice none 0 0, .slice none 0 0] 26) = w1 at *
  have XA_0 := XA.out.at_ 0 _ rfl
  have XA_1 := XA.out.at_ 1 _ rfl
  go_wp2_with fail
  refine (CV.out _ HB.out).mono ?_; rintro e w2 ⟨rfl, hb⟩
  clear XA_0 XA_1
  replace XA := Lib.hid (XA.out.below hb)
  replace XB := Lib.hid (XB.out.below hb)
  replace XR := Lib.hid (XR.out.below hb)
  replace HB := Lib.hid (below_step HB.out hb)
  clear hb
  cases va
  case false =>
    have HR : Hid (r = ([], [], 1)) := Lib.hid (by rw [HG.out, if_pos (.inl rfl)])
    clear HG CL CA CB HV4 HV5
    have XR_0 := XR.out.at_ 0 _ rfl
    have XR_1 := XR.out.at_ 1 _ rfl
    have XR_l := XR.out.lt
    have XR_z0 := XR.out.frozen 0
    have XR_z1 := XR.out.frozen 1
    go_wp2_with fail
    refine bodyPost_ret (v := .tuple #[.agg #[.slice none 0 0, .slice none 0 0], .int .i64 1]) (by simp [results, Tryd.results31, go_sem, XR_0, XR_1, XR_l]) rfl ?_
    exact parw_no HR.out (below_zrs (g := w.heap.size + 1 + 1) HB.out (by omega))
  case true =>
    have CA2 := Lib.hid (CA.out rfl)
    have CL2 := Lib.hid (CL.out rfl)
    have hV4 := HV4.out rfl
    clear CV CA CL HV4
    have XB_0 := XB.out.at_ 0 _ rfl
    have XB_1 := XB.out.at_ 1 _ rfl
    go_wp2_with fail
    refine (CX.out _ HB.out).mono ?_; rintro e w3 ⟨rfl, hb⟩
    clear XB_0 XB_1
    replace XA := Lib.hid (XA.out.below hb)
    replace XB := Lib.hid (XB.out.below hb)
    replace XR := Lib.hid (XR.out.below hb)
    replace HB := Lib.hid (below_step HB.out hb)
    clear hb
    clear CX
    cases vb
    case false =>
      have HR : Hid (r = ([], [], 1)) := Lib.hid (by rw [HG.out, if_pos (.inr rfl)])
      clear HG CB HV5
      have XR_0 := XR.out.at_ 0 _ rfl
      have XR_1 := XR.out.at_ 1 _ rfl
      have XR_l := XR.out.lt
      have XR_z0 := XR.out.frozen 0
      have XR_z1 := XR.out.frozen 1
      go_wp2_with fail
      refine bodyPost_ret (v := .tuple #[.agg #[.slice none 0 0, .slice none 0 0], .int .i64 1]) (by simp [results, Tryd.results31, go_sem, XR_0, XR_1, XR_l]) rfl ?_
      exact parw_no HR.out (below_zrs (g := w.heap.size + 1 + 1) HB.out (by omega))
    case true =>
      have CB2 := Lib.hid (CB.out rfl)
      have hV5 := HV5.out rfl
      rw [if_neg (by simp)] at HG
      clear CB HV5
      have XA_0 := XA.out.at_ 0 _ rfl
      have XB_0 := XB.out.at_ 0 _ rfl
      go_wp2_with fail
      refine (CE.out _ HB.out).mono ?_; rintro e wq ⟨rfl, hb⟩
      clear XA_0 XB_0
      replace XA := Lib.hid (XA.out.below hb)
      replace XB := Lib.hid (XB.out.below hb)
      replace XR := Lib.hid (XR.out.below hb)
      replace HB := Lib.hid (below_step HB.out hb)
      clear hb
      clear CE
      by_cases hne : ns = ms
      case neg =>
        have HR : Hid (r = ([], [], 15)) := Lib.hid (by rw [HG.out, if_pos hne])
        rw [decide_eq_false hne]
        clear HG hne
        have XR_0 := XR.out.at_ 0 _ rfl
        have XR_1 := XR.out.at_ 1 _ rfl
        have XR_l := XR.out.lt
        have XR_z0 := XR.out.frozen 0
        have XR_z1 := XR.out.frozen 1
        go_wp2_with fail
        refine bodyPost_ret (v := .tuple #[.agg #[.slice none 0 0, .slice none 0 0], .int .i64 15]) (by simp [results, Tryd.results31, go_sem, XR_0, XR_1, XR_l]) rfl ?_
        exact parw_no HR.out (below_zrs (g := w.heap.size + 1 + 1) HB.out (by omega))
      case pos =>
        rw [decide_eq_true hne]
        rw [if_neg (fun h => h hne)] at HG
        clear hne
        have XA_1 := XA.out.at_ 1 _ rfl
        have XB_1 := XB.out.at_ 1 _ rfl
        by_cases hbig : 4096 < M + M4
        · have HR : Hid (r = ([], [], 2)) := Lib.hid (by rw [HG.out, if_pos hbig])
          have f1 : (4096 : Int) < (M : Int) + (M4 : Int) := by omega
          clear HG
          have XR_0 := XR.out.at_ 0 _ rfl
          have XR_1 := XR.out.at_ 1 _ rfl
          have XR_l := XR.out.lt
          have XR_z0 := XR.out.frozen 0
          have XR_z1 := XR.out.frozen 1
          go_wp2_with fail
          refine bodyPost_ret (v := .tuple #[.agg #[.slice none 0 0, .slice none 0 0], .int .i64 2]) (by simp [results, Tryd.results31, go_sem, XR_0, XR_1, XR_l]) rfl ?_
          exact parw_no HR.out (below_zrs (g := w.heap.size + 1 + 1) HB.out (by omega))
        · have HR : Hid (r = (ns, rs ++ ts, 0)) := Lib.hid (by rw [HG.out, if_neg hbig])
          have f1 : ¬ (4096 : Int) < (M : Int) + (M4 : Int) := by omega
          clear HG
          go_upto_region 7 with fail
          clear XA_1 XB_1
          have HBL := HB
          refine wp_region_gen 11 (Kit.of [gNS 2 [] wq.heap.size ns N, gNR 5 [] wq.heap.size rs M, gNR 8 [] wq.heap.size ts M4, gNA 9 [5, 8] wq.heap.size (rs ++ ts) (M + M4)]) (by kernel_rfl) (by kernel_rfl) (fun γ => by kernel_rfl) (by kernel_rfl) (Kit.of_stable ?_) (Kit.of_known ?_) ?_
          · intro z hz; simp only [List.mem_cons, List.not_mem_nil, or_false] at hz; rcases hz with rfl | rfl | rfl | rfl
            · apply gNS_st
            · apply gNR_st
            · apply gNR_st
            · apply gNA_st
          · intro z hz; simp only [List.mem_cons, List.not_mem_nil, or_false] at hz; rcases hz with rfl | rfl | rfl | rfl
            · apply gNS_kn
            · apply gNR_kn
            · apply gNR_kn
            · apply gNA_kn
          intro γ hγ C hC hne
          obtain ⟨P2, d2, k2⟩ : ∃ A c, γ 2 = .slice A N c := hγ 2 rfl
          obtain ⟨g5, k5⟩ : ∃ g, γ 5 = .slice (some ⟨g, 0, none⟩) M M := hγ 5 rfl
          obtain ⟨g8, k8⟩ : ∃ g, γ 8 = .slice (some ⟨g, 0, none⟩) M4 M4 := hγ 8 rfl
          obtain ⟨P9, d9, k9⟩ : ∃ A c, γ 9 = .slice A (M + M4) c := hγ 9 rfl
          have l0 := XA.out.latC (C := C) 0 _ rfl
          have l1 := XA.out.latC (C := C) 1 _ rfl
          have l2 := XB.out.latC (C := C) 1 _ rfl
          simp only [List.take_succ_cons, List.take_zero, List.drop_succ_cons, List.drop_zero]
          iterate 2 (refine wpF_quiet rfl ?_; go_big_quiet_step (fail); refine wpQuiet_nil ?_)
          refine wpF_fresh rfl (freshAt_call (args := #[.slice A1 N c1]) rfl _ _ _ (run_go Tryd.func56 (by kernel_rfl) (by kernel_rfl)) rfl (by simp [Act.eval]) (fun w' hb hf => (CL2.out w' (below_step HBL.out hb)).mono fun e w2 ⟨v, he, h1, h2⟩ => ⟨v, he, ⟨sl_form (ns_own h1 rfl hb.size).1 HNN.out, ns_own h1 rfl hb.size⟩, h2⟩)) ?_
          simp only [Nat.zero_add, Nat.reduceAdd, k2]
          go_simp
          iterate 2 (refine wpF_quiet rfl ?_; go_big_quiet_step (fail); refine wpQuiet_nil ?_)
          refine wpF_fresh rfl (freshAt_call (args := #[.slice A2 M c2]) rfl _ _ _ (run_go Tryd.func57 (by kernel_rfl) (by kernel_rfl)) rfl (by simp [Act.eval]) (fun w' hb hf => (CA2.out w' (below_step HBL.out hb)).mono fun e w2 ⟨g, he, h1, h2⟩ => ⟨_, he, ⟨⟨g, rfl⟩, h1.low hb.size⟩, h2⟩)) ?_
          simp only [Nat.zero_add, Nat.reduceAdd, k5]
          go_simp
          iterate 2 (refine wpF_quiet rfl ?_; go_big_quiet_step (fail); refine wpQuiet_nil ?_)
          refine wpF_fresh rfl (freshAt_call (args := #[.slice A4 M4 c4]) rfl _ _ _ (run_go Tryd.func57 (by kernel_rfl) (by kernel_rfl)) rfl (by simp [Act.eval]) (fun w' hb hf => (CB2.out w' (below_step HBL.out hb)).mono fun e w2 ⟨g, he, h1, h2⟩ => ⟨_, he, ⟨⟨g, rfl⟩, h1.low hb.size⟩, h2⟩)) ?_
          simp only [Nat.zero_add, Nat.reduceAdd, k8]
          go_simp
          refine wpF_fresh rfl (freshAt_join (B := wq.heap.size) (g1 := g5) (g2 := g8) (M1 := M) (M2 := M4) (rs := rs) (ts := ts) rfl rfl (by simp [Act.eval]) (by simp [Act.eval]) (by omega) (Nat.le_refl _) (fun w' hb hf => ⟨by have h5 : (∃ g, γ 5 = .slice (some ⟨g, 0, none⟩) M M) ∧ NR wq.heap.size w' (γ 5) rs := hf 5 (show 5 ∈ [5, 8] by decide); rw [k5] at h5; exact h5.2, by have h5 : (∃ g, γ 8 = .slice (some ⟨g, 0, none⟩) M4 M4) ∧ NR wq.heap.size w' (γ 8) ts := hf 8 (show 8 ∈ [5, 8] by decide); rw [k8] at h5; exact h5.2⟩) (fun A c w' h => ⟨⟨A, c, rfl⟩, h⟩)) ?_
          simp only [Nat.zero_add, Nat.reduceAdd, k9]
          go_simp
          iterate 1 (refine wpF_quiet rfl ?_; go_big_quiet_step (fail); refine wpQuiet_nil ?_)
          intro w4 hb hF
          have N2 : SL w4 (γ 2) ns ∧ ∀ b, (γ 2).ownBlock = some b → wq.heap.size ≤ b := (hF 2 (by decide) rfl).2
          have N8 : NR wq.heap.size w4 (γ 9) (rs ++ ts) := (hF 9 (by decide) rfl).2
          rw [k2] at N2
          rw [k9] at N8
          have HN2 := Lib.hid N2
          have HN8 := Lib.hid N8
          have hxl := XR.out.lt
          clear l0 l1 l2 hF hγ hC hne k2 k5 k8 k9 N2 N8 CA2 CB2 CL2
          replace XR := Lib.hid (XR.out.below hb)
          replace HB := Lib.hid (below_step HB.out hb)
          clear hb
          have XR_0 := XR.out.at_ 0 _ rfl
          have XR_1 := XR.out.at_ 1 _ rfl
          have XR_l := XR.out.lt
          have XR_z0 := XR.out.frozen 0
          have XR_z1 := XR.out.frozen 1
          go_wp2_with fail
          refine bodyPost_ret (v := .tuple #[.agg #[.slice P2 N d2, .slice P9 (M + M4) d9], .int .i64 0]) (by simp [results, Tryd.results31, go_sem, XR_0, XR_1, XR_l]) rfl ?_
          rw [HR.out]
          exact ⟨_, _, rfl, (HN2.out.1.setBoxW XR.out (by simp)).setBoxW (XR.out.set_ 0 (.slice P2 N d2)) (by simp), ((HN8.out.set (p := ⟨w.heap.size + 1 + 1, 0, none⟩) hxl _).set (p := ⟨w.heap.size + 1 + 1, 1, none⟩) hxl _).any, (HB.out.setCell (p := ⟨w.heap.size + 1 + 1, 0, none⟩) (by show w.heap.size ≤ w.heap.size + 1 + 1; omega) _).setCell (p := ⟨w.heap.size + 1 + 1, 1, none⟩) (by show w.heap.size ≤ w.heap.size + 1 + 1; omega) _⟩

end Go.Proofs.YthpioaboekpjoaaDoor
