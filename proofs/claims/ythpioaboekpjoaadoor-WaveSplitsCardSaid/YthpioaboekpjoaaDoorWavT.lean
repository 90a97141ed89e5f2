/-
  Contract of the reference's Join; walk of WaveJoins.
-/
import Derived.Test.YthpioaboekpjoaaDoorWavS
namespace Go.Proofs.YthpioaboekpjoaaDoor
open Go.RowKit
set_option linter.unusedVariables false
set_option linter.unusedSimpArgs false

set_option maxRecDepth 100000 in
set_option maxHeartbeats 8000000 in
theorem refJoinW (w : World) (v1 v2 v3 v4 : Value) (ns ms : List ByteArray) (rs ts : List (List Int)) (h1 : SL w v1 ns) (h2 : Rs ilR w v2 rs anyB) (h3 : SL w v3 ms) (h4 : Rs ilR w v4 ts anyB) (z1 : WZ ns rs) (z2 : WZ ms ts) :
    Calls Tryd.prog 32 #[.agg #[v1, v2], .agg #[v3, v4]] w (PARW w (wjT ns rs ms ts)) := by
  have CV := Lib.hid (fun W (hW : Below w.heap.size w W) => refValidW W v1 v2 ns rs (h1.below hW) (h2.below hW) z1)
  have CX := Lib.hid (fun W (hW : Below w.heap.size w W) => refValidW W v3 v4 ms ts (h3.below hW) (h4.below hW) z2)
  have CE := Lib.hid (fun W (hW : Below w.heap.size w W) => refTexts W v1 v3 ns ms (h1.below hW) (h3.below hW) z1.1 z2.1)
  have HG : Hid (wjT ns rs ms ts = if wvV ns rs = false ∨ wvV ms ts = false then ([], [], 1) else if ns ≠ ms then ([], [], 15) else if 4096 < rs.length + ts.length then ([], [], 2) else (ns, rs ++ ts, 0)) := Lib.hid rfl
  have HV4 : Hid (wvV ns rs = true → rs.length ≤ 4096) := Lib.hid fun hv => (of_decide_eq_true hv : WvV ns rs).2.1
  have HV5 : Hid (wvV ms ts = true → ts.length ≤ 4096) := Lib.hid fun hv => (of_decide_eq_true hv : WvV ms ts).2.1
  have S1 := Lib.hid h1
  have R2 := Lib.hid (fun W (hW : Below w.heap.size w W) => rs_lowIB h2 hW)
  have R4 := Lib.hid (fun W (hW : Below w.heap.size w W) => rs_lowIB h4 hW)
  obtain ⟨A2, c2, rfl, hc2⟩ := h2.slice
  obtain ⟨A4, c4, rfl, hc4⟩ := h4.slice
  obtain ⟨A1, c1, rfl, hc1, -⟩ := h1
  obtain ⟨A3, c3, rfl, hc3, -⟩ := h3
  have n2 := z1.2.1
  have n4 := z2.2.1
  obtain ⟨N, hN⟩ : ∃ N, N = ns.length := ⟨_, rfl⟩
  obtain ⟨N3, hN3⟩ : ∃ N, N = ms.length := ⟨_, rfl⟩
  obtain ⟨M, hM⟩ : ∃ M, M = rs.length := ⟨_, rfl⟩
  obtain ⟨M4, hM4⟩ : ∃ M, M = ts.length := ⟨_, rfl⟩
  have HNN := Lib.hid hN
  have HMM := Lib.hid hM
  have HMM4 := Lib.hid hM4
  rw [← hN] at CV CE S1 ⊢
  rw [← hN3] at CX CE ⊢
  rw [← hM] at CV HG HV4 n2 R2 ⊢
  rw [← hM4] at CX HG HV5 n4 R4 ⊢
  generalize wjT ns rs ms ts = r at *
  generalize wvV ns rs = va at *
  generalize wvV ms ts = vb at *
  clear h2 h4 z1 z2 hc1 hc2 hc3 hc4 hN hN3 hM hM4
  go_enter Tryd.func32, Tryd.ntmps32
  go_upto_region 1 with fail
  have XA := Lib.hid (((box_new (W := w) (g := w.heap.size) 26 #[.slice A1 N c1, .slice A2 M c2] (by simp)).below (below_alloc _ (.cells #[.slice A3 N3 c3, .slice A4 M4 c4] 26))).below (below_alloc _ (.cells #[.slice none 0 0, .slice none 0 0] 26)))
  have XB := Lib.hid ((box_new (W := (w.alloc (.cells #[.slice A1 N c1, .slice A2 M c2] 26))) (g := w.heap.size + 1) 26 #[.slice A3 N3 c3, .slice A4 M4 c4] (by simp)).below (below_alloc _ (.cells #[.slice none 0 0, .slice none 0 0] 26)))
  have XR := Lib.hid (box_new (W := ((w.alloc (.cells #[.slice A1 N c1, .slice A2 M c2] 26)).alloc (.cells #[.slice A3 N3 c3, .slice A4 M4 c4] 26))) (g := w.heap.size + 1 + 1) 26 #[.slice none 0 0, .slice none 0 0] (by simp))
  have HB := Lib.hid (below_step (below_step (below_alloc w (.cells #[.slice A1 N c1, .slice A2 M c2] 26)) (below_alloc (w.alloc (.cells #[.slice A1 N c1, .slice A2 M c2] 26)) (.cells #[.slice A3 N3 c3, .slice A4 M4 c4] 26))) (below_alloc ((w.alloc (.cells #[.slice A1 N c1, .slice A2 M c2] 26)).alloc (.cells #[.slice A3 N3 c3, .slice A4 M4 c4] 26)) (.cells #[.slice none 0 0, .slice none 0 0] 26)))
  generalize ((w.alloc (.cells #[.slice A1 N c1, .slice A2 M c2] 26)).alloc (.cells #[.slice A3 N3 c3, .slice A4 M4 c4] 26)).alloc (.cells #[.slice none 0 0, .slice none 0 0] 26) = w1 at *
  have XA_0 := XA.out.at_ 0 _ rfl
  have XA_1 := XA.out.at_ 1 _ rfl
  go_wp2_with fail
  refine (CV.out _ HB.out).mono ?_; rintro e w2 ⟨rfl, hb⟩
  clear XA_0 XA_1
  replace XA := Lib.hid (XA.out.below hb)
  replace XB := Lib.hid (XB.out.below hb)
  replace XR := Lib.hid (XR.out.below hb)
  replace HB := Lib.hid (below_step HB.out hb)
  clear hb
  cases va
  case false =>
    have HR : Hid (r = ([], [], 1)) := Lib.hid (by rw [HG.out, if_pos (.inl rfl)])
    clear HG HV4 HV5
    have XR_0 := XR.out.at_ 0 _ rfl
    have XR_1 := XR.out.at_ 1 _ rfl
    have XR_l := XR.out.lt
    have XR_z0 := XR.out.frozen 0
    have XR_z1 := XR.out.frozen 1
    go_wp2_with fail
    refine bodyPost_ret (v := .tuple #[.agg #[.slice none 0 0, .slice none 0 0], .int .i64 1]) (by simp [results, Tryd.results32, go_sem, XR_0, XR_1, XR_l]) rfl ?_
    exact parw_no HR.out (below_zrs (g := w.heap.size + 1 + 1) HB.out (by omega))
  case true =>
    have hV4 := HV4.out rfl
    clear CV HV4
    have XB_0 := XB.out.at_ 0 _ rfl
    have XB_1 := XB.out.at_ 1 _ rfl
    go_wp2_with fail
    refine (CX.out _ HB.out).mono ?_; rintro e w3 ⟨rfl, hb⟩
    clear XB_0 XB_1
    replace XA := Lib.hid (XA.out.below hb)
    replace XB := Lib.hid (XB.out.below hb)
    replace XR := Lib.hid (XR.out.below hb)
    replace HB := Lib.hid (below_step HB.out hb)
    clear hb
    clear CX
    cases vb
    case false =>
      have HR : Hid (r = ([], [], 1)) := Lib.hid (by rw [HG.out, if_pos (.inr rfl)])
      clear HG HV5
      have XR_0 := XR.out.at_ 0 _ rfl
      have XR_1 := XR.out.at_ 1 _ rfl
      have XR_l := XR.out.lt
      have XR_z0 := XR.out.frozen 0
      have XR_z1 := XR.out.frozen 1
      go_wp2_with fail
      refine bodyPost_ret (v := .tuple #[.agg #[.slice none 0 0, .slice none 0 0], .int .i64 1]) (by simp [results, Tryd.results32, go_sem, XR_0, XR_1, XR_l]) rfl ?_
      exact parw_no HR.out (below_zrs (g := w.heap.size + 1 + 1) HB.out (by omega))
    case true =>
      have hV5 := HV5.out rfl
      rw [if_neg (by simp)] at HG
      clear HV5
      have XA_0 := XA.out.at_ 0 _ rfl
      have XB_0 := XB.out.at_ 0 _ rfl
      go_wp2_with fail
      refine (CE.out _ HB.out).mono ?_; rintro e wq ⟨rfl, hb⟩
      clear XA_0 XB_0
      replace XA := Lib.hid (XA.out.below hb)
      replace XB := Lib.hid (XB.out.below hb)
      replace XR := Lib.hid (XR.out.below hb)
      replace HB := Lib.hid (below_step HB.out hb)
      clear hb
      clear CE
      by_cases hne : ns = ms
      case neg =>
        have HR : Hid (r = ([], [], 15)) := Lib.hid (by rw [HG.out, if_pos hne])
        rw [decide_eq_false hne]
        clear HG hne
        have XR_0 := XR.out.at_ 0 _ rfl
        have XR_1 := XR.out.at_ 1 _ rfl
        have XR_l := XR.out.lt
        have XR_z0 := XR.out.frozen 0
        have XR_z1 := XR.out.frozen 1
        go_wp2_with fail
        refine bodyPost_ret (v := .tuple #[.agg #[.slice none 0 0, .slice none 0 0], .int .i64 15]) (by simp [results, Tryd.results32, go_sem, XR_0, XR_1, XR_l]) rfl ?_
        exact parw_no HR.out (below_zrs (g := w.heap.size + 1 + 1) HB.out (by omega))
      case pos =>
        rw [decide_eq_true hne]
        rw [if_neg (fun h => h hne)] at HG
        clear hne
        have XA_1 := XA.out.at_ 1 _ rfl
        have XB_1 := XB.out.at_ 1 _ rfl
        by_cases hbig : 4096 < M + M4
        · have HR : Hid (r = ([], [], 2)) := Lib.hid (by rw [HG.out, if_pos hbig])
          have f1 : (4096 : Int) < (M : Int) + (M4 : Int) := by omega
          clear HG
          have XR_0 := XR.out.at_ 0 _ rfl
          have XR_1 := XR.out.at_ 1 _ rfl
          have XR_l := XR.out.lt
          have XR_z0 := XR.out.frozen 0
          have XR_z1 := XR.out.frozen 1
          go_wp2_with fail
          refine bodyPost_ret (v := .tuple #[.agg #[.slice none 0 0, .slice none 0 0], .int .i64 2]) (by simp [results, Tryd.results32, go_sem, XR_0, XR_1, XR_l]) rfl ?_
          exact parw_no HR.out (below_zrs (g := w.heap.size + 1 + 1) HB.out (by omega))
        · have HR : Hid (r = (ns, rs ++ ts, 0)) := Lib.hid (by rw [HG.out, if_neg hbig])
          have f1 : ¬ (4096 : Int) < (M : Int) + (M4 : Int) := by omega
          clear HG
          obtain ⟨i0, hi, hz0, hz1, hz2⟩ := info_parts ilist
          have JI := Lib.hid hi
          have JZ0 := Lib.hid hz0
          have JZ1 := Lib.hid hz1
          have JZ2 := Lib.hid hz2
          clear hi hz0 hz1 hz2
          have hwq := HB.out.size
          have hq2 := XR.out.lt
          have XA_0 := XA.out.at_ 0 _ rfl
          go_upto_region 8 with fail
          clear XA_1 XB_1
          have HCQ := Lib.hid (below_alloc wq (.cells #[.slice A1 N c1, .slice none 0 0] 26))
          have XO := Lib.hid (box_new (W := wq) (g := wq.heap.size) 26 #[.slice A1 N c1, .slice none 0 0] (by simp))
          have hba := (below_alloc wq (.cells #[.slice A1 N c1, .slice none 0 0] 26))
          replace XA := Lib.hid (XA.out.below hba)
          replace XB := Lib.hid (XB.out.below hba)
          replace XR := Lib.hid (XR.out.below hba)
          replace HB := Lib.hid (below_step HB.out hba)
          clear hba
          generalize wq.alloc (.cells #[.slice A1 N c1, .slice none 0 0] 26) = w5 at *
          have HO0 : Hid (OG ilR w5 wq.heap.size w.heap.size 44 (.slice none 0 0) []) := Lib.hid (OG.nil ilR w5 _ _ _ (by decide) hwq)
          have XA_1 := XA.out.at_ 1 _ rfl
          have XO_1 := XO.out.at_ 1 _ rfl
          go_wp2_with (at_builtin; refine wpList_append_og (φ := ilR) (T := 44) (B := wq.heap.size) (C := w.heap.size) (xs := []) (ys := rs) rfl _ _ 24 rfl i0 (.slice none 0 0) 24 Tryd.underlying24 JI.out JZ0.out JZ1.out JZ2.out rfl rfl HO0.out (.slice A2 M c2) rfl (R2.out _ HB.out) ?c1 ?c2 ?c3 ?_)
          case c1 => (try simp only [List.length_nil]); rw [← HMM.out]; omega
          case c2 => (try simp only [List.length_nil]); rw [← HMM.out]; unfold maxLen; omega
          case c3 => exact HCQ.out.size
          intro v' w6 hog hg
          try rw [List.nil_append] at hog
          obtain ⟨OA, oc, hv'⟩ := hog.out.slice
          rw [← HMM.out] at hv'
          subst hv'
          have XO' := Lib.hid (HO0.out.boxKept hg.out XO.out (.inl (by decide)))
          have XB' := Lib.hid (HO0.out.boxKept hg.out XB.out (.inl (by decide)))
          have XR' := Lib.hid (HO0.out.boxKept hg.out XR.out (.inl (by decide)))
          have HB' := Lib.hid (HO0.out.belowG hg.out HB.out HB.out.size hwq)
          have HCQ' := Lib.hid (HO0.out.belowG hg.out HCQ.out HCQ.out.size (Nat.le_refl _))
          clear XA_1 XO_1
          clear XO XB XR HB HO0 hg XA HCQ
          have XO := XO'
          have XB := XB'
          have XR := XR'
          have HB := HB'
          have HOG := hog
          clear XO' XB' XR' HB' hog
          have hxb := XB.out.lt
          have HCQ2 := Lib.hid (HCQ'.out.setCell (p := ⟨wq.heap.size, 1, none⟩) (Nat.le_refl _) (.slice OA M oc))
          clear HCQ'
          have XO' := Lib.hid (XO.out.set_ 1 (.slice OA M oc))
          have XB' := Lib.hid (XB.out.setNe (p := ⟨wq.heap.size, 1, none⟩) (by show wq.heap.size ≠ _; first | omega | (exact boxes_apart XO.out XB.out (by decide))) (.slice OA M oc))
          have XR' := Lib.hid (XR.out.setNe (p := ⟨wq.heap.size, 1, none⟩) (by show wq.heap.size ≠ _; first | omega | (exact boxes_apart XO.out XR.out (by decide))) (.slice OA M oc))
          have HOG' := Lib.hid (HOG.out.setBox XO.out (by decide) (by omega) (by decide) 1 (.slice OA M oc))
          have HB' := Lib.hid (HB.out.setCell (p := ⟨wq.heap.size, 1, none⟩) (by show w.heap.size ≤ wq.heap.size; omega) (.slice OA M oc))
          have XO_1 := XO.out.at_ 1 _ rfl
          have XO_l := XO.out.lt
          have XO_z1 := XO.out.frozen 1
          go_upto_region 9 with fail
          clear XO_1 XO_l XO_z1
          clear HB XO XB XR HOG
          generalize w6.setCell ⟨wq.heap.size, 1, none⟩ (.slice OA M oc) = w7 at *
          have XO : Hid (Box w7 wq.heap.size #[.slice A1 N c1, .slice OA M oc] 26) := XO'
          have XB := XB'
          have XR := XR'
          have HOG := HOG'
          have HB := HB'
          clear HB' XO' XB' XR' HOG'
          have XB_1 := XB.out.at_ 1 _ rfl
          have XO_1 := XO.out.at_ 1 _ rfl
          go_wp2_with (at_builtin; refine wpList_append_og (φ := ilR) (T := 44) (B := wq.heap.size) (C := w.heap.size) (xs := rs) (ys := ts) rfl _ _ 24 rfl i0 (.slice none 0 0) 24 Tryd.underlying24 JI.out JZ0.out JZ1.out JZ2.out rfl rfl HOG.out (.slice A4 M4 c4) rfl (R4.out _ HB.out) ?d1 ?d2 ?d3 ?_)
          case d1 => rw [← HMM.out, ← HMM4.out]; omega
          case d2 => rw [← HMM.out, ← HMM4.out]; unfold maxLen; omega
          case d3 => exact HCQ2.out.size
          intro v' w8 hog hg
          obtain ⟨OB, od, hv'⟩ := hog.out.slice
          rw [List.length_append, ← HMM.out, ← HMM4.out] at hv'
          subst hv'
          have XO' := Lib.hid (HOG.out.boxKept hg.out XO.out (.inl (by decide)))
          have XR' := Lib.hid (HOG.out.boxKept hg.out XR.out (.inl (by decide)))
          have HB' := Lib.hid (HOG.out.belowG hg.out HB.out HB.out.size hwq)
          clear XB_1 XO_1
          clear XO XR HB HOG hg XB HCQ2
          have XO := XO'
          have XR := XR'
          have HB := HB'
          have HOG := hog
          clear XO' XR' HB' hog
          have XO' := Lib.hid (XO.out.set_ 1 (.slice OB (M + M4) od))
          have XR' := Lib.hid (XR.out.setNe (p := ⟨wq.heap.size, 1, none⟩) (by show wq.heap.size ≠ _; first | omega | (exact boxes_apart XO.out XR.out (by decide))) (.slice OB (M + M4) od))
          have HOG' := Lib.hid (HOG.out.setBox XO.out (by decide) (by omega) (by decide) 1 (.slice OB (M + M4) od))
          have HB' := Lib.hid (HB.out.setCell (p := ⟨wq.heap.size, 1, none⟩) (by show w.heap.size ≤ wq.heap.size; omega) (.slice OB (M + M4) od))
          have XO_1 := XO.out.at_ 1 _ rfl
          have XO_l := XO.out.lt
          have XO_z1 := XO.out.frozen 1
          go_upto_region 10 with fail
          clear XO_1 XO_l XO_z1
          clear HB XO XR HOG
          generalize w8.setCell ⟨wq.heap.size, 1, none⟩ (.slice OB (M + M4) od) = w9 at *
          have XO : Hid (Box w9 wq.heap.size #[.slice A1 N c1, .slice OB (M + M4) od] 26) := XO'
          have XR := XR'
          have HOG := HOG'
          have HB := HB'
          clear HB' XO' XR' HOG'
          have XO_0 := XO.out.at_ 0 _ rfl
          have XO_1 := XO.out.at_ 1 _ rfl
          have XR_0 := XR.out.at_ 0 _ rfl
          have XR_1 := XR.out.at_ 1 _ rfl
          have XR_l := XR.out.lt
          have XR_z0 := XR.out.frozen 0
          have XR_z1 := XR.out.frozen 1
          go_wp2_with fail
          refine bodyPost_ret (v := .tuple #[.agg #[.slice A1 N c1, .slice OB (M + M4) od], .int .i64 0]) (by simp [results, Tryd.results32, go_sem, XR_0, XR_1, XR_l]) rfl ?_
          rw [HR.out]
          exact ⟨_, _, rfl, ((S1.out.below HB.out).setBoxW XR.out (by simp)).setBoxW (XR.out.set_ 0 (.slice A1 N c1)) (by simp), ((HOG.out.setBox XR.out (by decide) (by omega) (by decide) 0 (.slice A1 N c1)).setBox (XR.out.set_ 0 (.slice A1 N c1)) (by decide) (by omega) (by decide) 1 (.slice OB (M + M4) od)).any, (HB.out.setCell (p := ⟨w.heap.size + 1 + 1, 0, none⟩) (by show w.heap.size ≤ w.heap.size + 1 + 1; omega) _).setCell (p := ⟨w.heap.size + 1 + 1, 1, none⟩) (by show w.heap.size ≤ w.heap.size + 1 + 1; omega) _⟩

end Go.Proofs.YthpioaboekpjoaaDoor
