/-
  Contract of board.Finish.
-/
import Derived.Test.YtldafnjbgjagiaaDoorBrdE
namespace Go.Proofs.YtldafnjbgjagiaaDoor
open Go.RowKit
set_option linter.unusedVariables false
set_option linter.unusedSimpArgs false

theorem kept_set5 {X : Nat → Prop} {w w' : World} {g : Nat} {a0 a1 a2 a3 a4 : Value} (h : Kept X w w') (hg : X g ∨ w.heap.size ≤ g) : Kept X w (set5 w' g a0 a1 a2 a3 a4) := set5_kept a0 a1 a2 a3 a4 h hg
theorem BDF.set5 {w : World} {C g : Nat} {v : Value} {b : Bd} {cs : Array Value} {T : TypeId} (h : BDF w C v b) (hx : Box w g cs T) (hT : T ∉ tsB) (hC : C ≤ g) (a0 a1 a2 a3 a4 : Value) : BDF (set5 w g a0 a1 a2 a3 a4) C v b := by
  have hk := set5_kept a0 a1 a2 a3 a4 (Kept.refl (fun b => b = g) w) (g := g) (.inl rfl)
  exact h.move hk.1 fun q hl hq => hk.2 q hl (hq.box hx hT hC)
set_option maxRecDepth 100000 in
set_option maxHeartbeats 16000000 in
theorem brdFinish (w : World) (b : Bd) (wv gv : Value) (h1 : Rs txR w wv b.want anyB) (h2 : SL w gv b.wrg) (n1 : b.want.length * 48 ≤ 140737488355328) (n2 : (b.wrg.length + 1) * 16 ≤ 281474976710656) (hz : ∀ t ∈ b.want, TF t ∧ TZ t) (hk : KW w) (hm : MLen w) (ht : Tab w) :
    Calls Tryd.prog 19 #[.agg #[.bool b.ord, .string b.key, wv, .int .i64 b.mat, gv]] w fun e w' => ∃ v, e = .returned v ∧ BDF w' 0 v (finT b) ∧ Below w.heap.size w w' := by
  obtain ⟨i0, hi0, hz0, hz1, hz2⟩ := info_parts istr
  have HI := Lib.hid hi0
  have HZ0 := Lib.hid hz0
  have HZ1 := Lib.hid hz1
  have HZ2 := Lib.hid hz2
  have HK := Lib.hid hk
  have HM := Lib.hid hm
  have HT := Lib.hid ht
  have H1 := Lib.hid h1
  have H2 := Lib.hid h2
  have CV := Lib.hid (fun W a1 a2 a3 a4 => brdValid W b wv gv a1 a2 (by omega) (by omega) (fun t ht => (hz t ht).2) a3 a4)
  have CC : Hid (∀ W, Rs txR W wv b.want anyB → SL W gv b.wrg → Calls Tryd.prog 31 #[.agg #[.bool b.ord, .string b.key, wv, .int .i64 b.mat, gv], .int .i64 (-1)] W fun e w' => ∃ OA oc QA qc, e = .returned (.agg #[.bool b.ord, .string b.key, .slice OA b.want.length oc, .int .i64 b.mat, .slice QA b.wrg.length qc]) ∧
    OG txR w' W.heap.size 0 28 (.slice OA b.want.length oc) b.want ∧ w'.ownsRow W.heap.size 9 1 (.slice QA b.wrg.length qc) b.wrg.length (scells b.wrg) ∧ Below W.heap.size W w') := Lib.hid fun W a1 a2 =>
    (brdCopied W b wv gv (-1) a1 a2 n1 n2 (fun t ht => (hz t ht).1) ⟨by decide, by decide⟩).mono fun _ _ h => cpy_none h
  obtain ⟨A1, c1, rfl, -⟩ := h1.slice
  obtain ⟨A2, c2, rfl, -⟩ := id h2
  have CL : Hid (OkB b → ∀ k, k < b.want.length → ∀ W, Rs txR W (.slice A1 b.want.length c1) b.want anyB → Tab W → Calls Tryd.prog 42 #[.agg #[.bool b.ord, .string b.key, .slice A1 b.want.length c1, .int .i64 b.mat, .slice A2 b.wrg.length c2], .int .i64 k] W fun e w' => e = .returned (.string (lossT b k)) ∧ Below W.heap.size W w') := Lib.hid fun hok k hk W a1 a2 =>
    brdLoss W b k A1 A2 c1 c2 a1 hk hok.1 (fun t ht => ⟨(hz t ht).2, (hok.2.2.2.2 t ht).1⟩) a2
  have hfin : Hid (finT b = if okB b = false then b else { b with want := [], wrg := lossK b b.want.length }) := Lib.hid rfl
  generalize finT b = r at *
  cases hv : okB b
  case false =>
    rw [hv] at CV
    have HR : Hid (r = b) := Lib.hid (by rw [hfin.out, if_pos hv])
    obtain ⟨ord, key, want, mat, wrg⟩ := b
    simp only at *
    obtain ⟨N, hN⟩ : ∃ N, N = want.length := ⟨_, rfl⟩
    obtain ⟨G, hG⟩ : ∃ G, G = wrg.length := ⟨_, rfl⟩
    have HN := Lib.hid hN
    have HGL := Lib.hid hG
    rw [← hN] at CV CC H1 ⊢
    rw [← hG] at CV CC H2 ⊢
    clear CL hfin hv h1 h2 n1 n2 hz hk hm ht hN hG hi0 hz0 hz1 hz2
    go_enter Tryd.func19, Tryd.ntmps19
    go_wp2_with fail
    have XA := Lib.hid ((box_new (W := w) (g := w.heap.size) 25 #[.bool ord, .string key, .slice A1 N c1, .int .i64 mat, .slice A2 G c2] (by simp)).below (below_alloc _ (.cells #[.bool false, .string ⟨#[]⟩, .slice none 0 0, .int .i64 0, .slice none 0 0] 25)))
    have XR := Lib.hid (box_new (W := (w.alloc (.cells #[.bool ord, .string key, .slice A1 N c1, .int .i64 mat, .slice A2 G c2] 25))) (g := w.heap.size + 1) 25 #[.bool false, .string ⟨#[]⟩, .slice none 0 0, .int .i64 0, .slice none 0 0] (by simp))
    have HB := Lib.hid (below_step (below_alloc w (.cells #[.bool ord, .string key, .slice A1 N c1, .int .i64 mat, .slice A2 G c2] 25)) (below_alloc (w.alloc (.cells #[.bool ord, .string key, .slice A1 N c1, .int .i64 mat, .slice A2 G c2] 25)) (.cells #[.bool false, .string ⟨#[]⟩, .slice none 0 0, .int .i64 0, .slice none 0 0] 25)))
    generalize (w.alloc (.cells #[.bool ord, .string key, .slice A1 N c1, .int .i64 mat, .slice A2 G c2] 25)).alloc (.cells #[.bool false, .string ⟨#[]⟩, .slice none 0 0, .int .i64 0, .slice none 0 0] 25) = w1 at *
    refine (CC.out _ (H1.out.below HB.out) (H2.out.below HB.out)).mono ?_; rintro e w3 ⟨OA, oc, QA, qc, rfl, hog, hqg, hb⟩
    have HOG := Lib.hid hog
    have HQG := Lib.hid (OG.of_scells (l := wrg) (by rw [← HGL.out]; exact hqg))
    clear hog hqg
    replace XA := Lib.hid (XA.out.below hb)
    replace XR := Lib.hid (XR.out.below hb)
    replace HB := Lib.hid (below_step HB.out hb)
    clear hb
    go_upto_region 2 with fail
    have hba0 := below_alloc w3 (.cells #[.bool ord, .string key, .slice OA N oc, .int .i64 mat, .slice QA G qc] 25)
    replace HOG := Lib.hid (HOG.out.below hba0)
    replace HQG := Lib.hid (HQG.out.below hba0)
    clear hba0
    have XO := Lib.hid (box_new (W := w3) (g := w3.heap.size) 25 #[.bool ord, .string key, .slice OA N oc, .int .i64 mat, .slice QA G qc] (by simp))
    have hba := (below_alloc w3 (.cells #[.bool ord, .string key, .slice OA N oc, .int .i64 mat, .slice QA G qc] 25))
    replace XA := Lib.hid (XA.out.below hba)
    replace XR := Lib.hid (XR.out.below hba)
    replace HB := Lib.hid (below_step HB.out hba)
    clear hba
    generalize w3.alloc (.cells #[.bool ord, .string key, .slice OA N oc, .int .i64 mat, .slice QA G qc] 25) = w4 at *
    have XA_0 := XA.out.at_ 0 _ rfl
    have XA_1 := XA.out.at_ 1 _ rfl
    have XA_2 := XA.out.at_ 2 _ rfl
    have XA_3 := XA.out.at_ 3 _ rfl
    have XA_4 := XA.out.at_ 4 _ rfl
    go_wp2_with fail
    clear XA_0 XA_1 XA_2 XA_3 XA_4
    refine (CV.out _ (H1.out.below HB.out) (H2.out.below HB.out) (HK.out.below HB.out) (HM.out.below HB.out)).mono ?_; rintro e w5 ⟨rfl, hb⟩
    replace HOG := Lib.hid (HOG.out.below hb)
    replace HQG := Lib.hid (HQG.out.below hb)
    replace XA := Lib.hid (XA.out.below hb)
    replace XR := Lib.hid (XR.out.below hb)
    replace XO := Lib.hid (XO.out.below hb)
    replace HB := Lib.hid (below_step HB.out hb)
    clear hb
    have XO_0 := XO.out.at_ 0 _ rfl
    have XO_1 := XO.out.at_ 1 _ rfl
    have XO_2 := XO.out.at_ 2 _ rfl
    have XO_3 := XO.out.at_ 3 _ rfl
    have XO_4 := XO.out.at_ 4 _ rfl
    have XR_0 := XR.out.at_ 0 _ rfl
    have XR_1 := XR.out.at_ 1 _ rfl
    have XR_2 := XR.out.at_ 2 _ rfl
    have XR_3 := XR.out.at_ 3 _ rfl
    have XR_4 := XR.out.at_ 4 _ rfl
    have XR_l := XR.out.lt
    have XR_z0 := XR.out.frozen 0
    have XR_z1 := XR.out.frozen 1
    have XR_z2 := XR.out.frozen 2
    have XR_z3 := XR.out.frozen 3
    have XR_z4 := XR.out.frozen 4
    go_wp2_with fail
    refine bodyPost_ret (v := .agg #[.bool ord, .string key, .slice OA N oc, .int .i64 mat, .slice QA G qc]) (by simp [results, Tryd.results19, go_sem, XR_0, XR_1, XR_2, XR_3, XR_4, XR_l]) rfl ?_
    rw [HR.out]
    exact ⟨_, rfl, BDF.mk (b := ⟨ord, key, want, mat, wrg⟩) (HOG.out.set5 XR.out (by decide) (Nat.zero_le _) (by decide) (.bool ord) (.string key) (.slice OA N oc) (.int .i64 mat) (.slice QA G qc)) (HQG.out.set5 XR.out (by decide) (Nat.zero_le _) (by decide) (.bool ord) (.string key) (.slice OA N oc) (.int .i64 mat) (.slice QA G qc)), set5_below (.bool ord) (.string key) (.slice OA N oc) (.int .i64 mat) (.slice QA G qc) HB.out (by omega)⟩
  case true =>
    rw [hv] at CV
    have hok := okb_iff.1 hv
    have HR : Hid (r = { b with want := [], wrg := lossK b b.want.length }) := Lib.hid (by rw [hfin.out, if_neg (by simp [hv])])
    have CL2 := Lib.hid (CL.out hok)
    have hN1024 := hok.1
    have hG1024 := hok.2.1
    have LZ := Lib.hid (loss_zero b)
    have LS := Lib.hid (fun k h => loss_step b k h)
    have LF := Lib.hid (fun k h => loss_full b k h hG1024)
    have LL := Lib.hid (fun k => loss_len b k)
    generalize hlk : lossK b = LK at *
    generalize hlt : lossT b = LT at *
    obtain ⟨ord, key, want, mat, wrg⟩ := b
    simp only at *
    obtain ⟨N, hN⟩ : ∃ N, N = want.length := ⟨_, rfl⟩
    obtain ⟨G, hG⟩ : ∃ G, G = wrg.length := ⟨_, rfl⟩
    have HN := Lib.hid hN
    have HGL := Lib.hid hG
    rw [← hN] at CV CC H1 CL2 HR hN1024 ⊢
    rw [← hG] at CV CC H2 CL2 hG1024 LL ⊢
    clear CL hfin hv h1 h2 n1 n2 hz hk hm ht hN hG hi0 hz0 hz1 hz2 hok hlk hlt
    go_enter Tryd.func19, Tryd.ntmps19
    go_wp2_with fail
    have XA := Lib.hid ((box_new (W := w) (g := w.heap.size) 25 #[.bool ord, .string key, .slice A1 N c1, .int .i64 mat, .slice A2 G c2] (by simp)).below (below_alloc _ (.cells #[.bool false, .string ⟨#[]⟩, .slice none 0 0, .int .i64 0, .slice none 0 0] 25)))
    have XR := Lib.hid (box_new (W := (w.alloc (.cells #[.bool ord, .string key, .slice A1 N c1, .int .i64 mat, .slice A2 G c2] 25))) (g := w.heap.size + 1) 25 #[.bool false, .string ⟨#[]⟩, .slice none 0 0, .int .i64 0, .slice none 0 0] (by simp))
    have HB := Lib.hid (below_step (below_alloc w (.cells #[.bool ord, .string key, .slice A1 N c1, .int .i64 mat, .slice A2 G c2] 25)) (below_alloc (w.alloc (.cells #[.bool ord, .string key, .slice A1 N c1, .int .i64 mat, .slice A2 G c2] 25)) (.cells #[.bool false, .string ⟨#[]⟩, .slice none 0 0, .int .i64 0, .slice none 0 0] 25)))
    generalize (w.alloc (.cells #[.bool ord, .string key, .slice A1 N c1, .int .i64 mat, .slice A2 G c2] 25)).alloc (.cells #[.bool false, .string ⟨#[]⟩, .slice none 0 0, .int .i64 0, .slice none 0 0] 25) = w1 at *
    refine (CC.out _ (H1.out.below HB.out) (H2.out.below HB.out)).mono ?_; rintro e w3 ⟨OA, oc, QA, qc, rfl, hog, hqg, hb⟩
    have HLE := Lib.hid HB.out.size
    have HQG := Lib.hid (OG.of_scells (l := wrg) (by rw [← HGL.out]; exact hqg))
    have HLR := Lib.hid XR.out.lt
    have HL13 := Lib.hid hb.size
    clear hog hqg
    replace XA := Lib.hid (XA.out.below hb)
    replace XR := Lib.hid (XR.out.below hb)
    replace HB := Lib.hid (below_step HB.out hb)
    clear hb
    go_upto_region 2 with fail
    have hba0 := below_alloc w3 (.cells #[.bool ord, .string key, .slice OA N oc, .int .i64 mat, .slice QA G qc] 25)
    replace HQG := Lib.hid (HQG.out.below hba0)
    have HL34 := Lib.hid hba0.size
    clear hba0
    have XO := Lib.hid (box_new (W := w3) (g := w3.heap.size) 25 #[.bool ord, .string key, .slice OA N oc, .int .i64 mat, .slice QA G qc] (by simp))
    have hba := (below_alloc w3 (.cells #[.bool ord, .string key, .slice OA N oc, .int .i64 mat, .slice QA G qc] 25))
    replace XA := Lib.hid (XA.out.below hba)
    replace XR := Lib.hid (XR.out.below hba)
    replace HB := Lib.hid (below_step HB.out hba)
    clear hba
    generalize w3.alloc (.cells #[.bool ord, .string key, .slice OA N oc, .int .i64 mat, .slice QA G qc] 25) = w4 at *
    have XA_0 := XA.out.at_ 0 _ rfl
    have XA_1 := XA.out.at_ 1 _ rfl
    have XA_2 := XA.out.at_ 2 _ rfl
    have XA_3 := XA.out.at_ 3 _ rfl
    have XA_4 := XA.out.at_ 4 _ rfl
    go_wp2_with fail
    clear XA_0 XA_1 XA_2 XA_3 XA_4
    refine (CV.out _ (H1.out.below HB.out) (H2.out.below HB.out) (HK.out.below HB.out) (HM.out.below HB.out)).mono ?_; rintro e w5 ⟨rfl, hb⟩
    replace HQG := Lib.hid (HQG.out.below hb)
    replace XA := Lib.hid (XA.out.below hb)
    replace XR := Lib.hid (XR.out.below hb)
    replace XO := Lib.hid (XO.out.below hb)
    replace HB := Lib.hid (below_step HB.out hb)
    clear hb
    go_upto_region 4 with fail
    have hle := HLE.out
    have hlr := HLR.out
    have hl13 := HL13.out
    have XO' := Lib.hid (XO.out.set_ 2 (.slice none 0 0))
    have XA' := Lib.hid (XA.out.setNe (p := ⟨w3.heap.size, 2, none⟩) (by show w3.heap.size ≠ _; first | omega | (exact boxes_apart XO.out XA.out (by decide))) (.slice none 0 0))
    have XR' := Lib.hid (XR.out.setNe (p := ⟨w3.heap.size, 2, none⟩) (by show w3.heap.size ≠ _; first | omega | (exact boxes_apart XO.out XR.out (by decide))) (.slice none 0 0))
    have HQG' := Lib.hid (HQG.out.setBox XO.out (by decide) (by omega) (by decide) 2 (.slice none 0 0))
    have HB' := Lib.hid (HB.out.setCell (p := ⟨w3.heap.size, 2, none⟩) (by show w.heap.size ≤ w3.heap.size; omega) (.slice none 0 0))
    have XO_2 := XO.out.at_ 2 _ rfl
    have XO_l := XO.out.lt
    have XO_z2 := XO.out.frozen 2
    go_upto_region 5 with fail
    clear XO_2 XO_l XO_z2
    clear HB XO XA XR HQG
    generalize w5.setCell ⟨w3.heap.size, 2, none⟩ (.slice none 0 0) = w6 at *
    have XO : Hid (Box w6 w3.heap.size #[.bool ord, .string key, .slice none 0 0, .int .i64 mat, .slice QA G qc] 25) := XO'
    have XA := XA'
    have XR := XR'
    have HQG := HQG'
    have HB := HB'
    clear HB' XO' XA' XR' HQG'
    have XA_2 := XA.out.at_ 2 _ rfl
    go_wp2_with fail
    clear XA_2
    go_loopw [4, 15] (fun _ j wr => ∃ (k : Nat) (gv : Value), k ≤ N ∧ j = .int .i64 k ∧ OG strR wr w1.heap.size 0 9 gv (LK k) ∧ Box wr w.heap.size #[.bool ord, .string key, .slice A1 N c1, .int .i64 mat, .slice A2 G c2] 25 ∧ Box wr (w.heap.size + 1) #[.bool false, .string ⟨#[]⟩, .slice none 0 0, .int .i64 0, .slice none 0 0] 25 ∧ Box wr w3.heap.size #[.bool ord, .string key, .slice none 0 0, .int .i64 mat, gv] 25 ∧ Below w.heap.size w wr ∧ w1.heap.size ≤ wr.heap.size) (fun _ j _ => N - (intOf j).toNat)
    case atStart =>
      refine ⟨0, _, Nat.zero_le _, rfl, ?_, XA.out, XR.out, XO.out, HB.out, ?_⟩
      · rw [LZ.out]; exact HQG.out
      · have := XO.out.lt; omega
    case round =>
      clear XA XR XO HB HQG
      obtain ⟨k, gv, hk, rfl, hog, hxa, hxr, hxo, hb, hsw⟩ := hrel
      have HQG := Lib.hid hog
      have XA := Lib.hid hxa
      have XR := Lib.hid hxr
      have XO := Lib.hid hxo
      have HB := Lib.hid hb
      have HSW := Lib.hid hsw
      clear hog hxa hxr hxo hb hsw
      obtain ⟨QB, qd, rfl⟩ := HQG.out.slice
      have ll := LL.out k
      have hls := LS.out k
      have hlf := LF.out k
      obtain ⟨L, hL⟩ : ∃ L, L = (LK k).length := ⟨_, rfl⟩
      rw [← hL] at HQG XO ll hls hlf
      have HL := Lib.hid hL
      have HLS := Lib.hid hls
      have HLF := Lib.hid hlf
      have hL1 : L ≤ 1024 := by omega
      clear hL hls hlf ll
      by_cases hlt : k < N
      · have hlt2 : (k : Int) < N := by omega
        have hk0 : (0 : Int) ≤ (k : Int) := by omega
        have CK := Lib.hid (CL2.out k hlt)
        by_cases hroom : L < 1024
        · have f1 : (L : Int) < 1024 := by omega
          have HST := Lib.hid (HLS.out hroom)
          clear HLS HLF
          generalize LT k = ln at *
          have HT5 := Lib.hid (HT.out.below HB.out)
          have H15 := Lib.hid (H1.out.below HB.out)
          have XO_4 := XO.out.at_ 4 _ rfl
          go_wp2_with fail
          clear XO_4
          refine wp_region_gen 6 (Kit.of [gVal 4 [] (.string ln), gRs 5 [] strR [ln] 0]) (by kernel_rfl) (by kernel_rfl) (fun γ => by kernel_rfl) (by kernel_rfl) (Kit.of_stable ?_) (Kit.of_known ?_) ?_
          · intro z hz; simp only [List.mem_cons, List.not_mem_nil, or_false] at hz; rcases hz with rfl | rfl
            · apply gVal_st
            · apply gRs_st
          · intro z hz; simp only [List.mem_cons, List.not_mem_nil, or_false] at hz; rcases hz with rfl | rfl
            · apply gVal_kn
            · apply gRs_kn
          intro γ hγ C hC hne
          have e3 : γ 4 = .string ln := hγ 4 rfl
          obtain ⟨A4, c4, e4⟩ : ∃ A c, γ 5 = .slice A 1 c := hγ 5 rfl
          have l0 := XO.out.latC (C := C) 4 _ rfl
          have l1 := XA.out.latC (C := C) 0 _ rfl
          have l2 := XA.out.latC (C := C) 1 _ rfl
          have l3 := XA.out.latC (C := C) 2 _ rfl
          have l4 := XA.out.latC (C := C) 3 _ rfl
          have l5 := XA.out.latC (C := C) 4 _ rfl
          simp only [List.take_succ_cons, List.take_zero, List.drop_succ_cons, List.drop_zero]
          iterate 4 (refine wpF_quiet rfl ?_; go_big_quiet_step (fail); refine wpQuiet_nil ?_)
          refine wpF_fresh rfl (freshAt_call (args := #[.agg #[.bool ord, .string key, .slice A1 N c1, .int .i64 mat, .slice A2 G c2], .int .i64 k]) rfl _ _ _ (run_go Tryd.func42 (by kernel_rfl) (by kernel_rfl)) rfl (by simp [Act.eval]) (fun w' hb hf => (CK.out w' (H15.out.below hb) (HT5.out.below hb)).mono fun e w2 ⟨he, h1⟩ => ⟨_, he, rfl, h1⟩)) ?_
          simp only [Nat.zero_add, Nat.reduceAdd, e3]
          go_simp
          refine wpF_fresh rfl (freshAt_one (φ := strR) (x := ln) (B := 0) (T := 9) (us := #[.string ln]) rfl (fun w => by kernel_rfl) (fun w' hb hf => rfl) (fun v w h => h)) ?_
          simp only [Nat.zero_add, Nat.reduceAdd, e4]
          go_simp
          intro w7 hb hF
          have R4 : Rs strR w7 (γ 5) [ln] (Ty w7 0 strR.ts) := hF 5 (by decide) rfl
          rw [e4] at R4
          have HR4 := Lib.hid R4
          replace HQG := Lib.hid (HQG.out.below hb)
          replace HSW := Lib.hid (Nat.le_trans HSW.out hb.size)
          clear l0 l1 l2 l3 l4 l5 hF hγ hC hne e3 e4 R4 CK HT5 H15
          replace XA := Lib.hid (XA.out.below hb)
          replace XR := Lib.hid (XR.out.below hb)
          replace XO := Lib.hid (XO.out.below hb)
          replace HB := Lib.hid (below_step HB.out hb)
          clear hb
          go_wp2_with (at_builtin; refine wpList_append_og (φ := strR) (T := 9) (B := w1.heap.size) (C := 0) (xs := LK k) (ys := [ln]) rfl _ _ 23 rfl i0 (.string ⟨#[]⟩) 16 Tryd.underlying23 HI.out HZ0.out HZ1.out HZ2.out rfl rfl HQG.out (.slice A4 1 c4) rfl HR4.out ?c1 ?c2 ?c3 ?_)
          case c1 => simp only [List.length_cons, List.length_nil]; rw [← HL.out]; omega
          case c2 => simp only [List.length_cons, List.length_nil]; rw [← HL.out]; unfold maxLen; omega
          case c3 => exact HSW.out
          intro v' w8 hqg7 hg7
          replace XA := Lib.hid (HQG.out.boxKept hg7.out XA.out (.inl (by decide)))
          replace XR := Lib.hid (HQG.out.boxKept hg7.out XR.out (.inl (by decide)))
          replace XO := Lib.hid (HQG.out.boxKept hg7.out XO.out (.inl (by decide)))
          replace HB := Lib.hid (HQG.out.belowG hg7.out HB.out HB.out.size HLE.out)
          replace HSW := Lib.hid (Nat.le_trans HSW.out hg7.out.size)
          obtain ⟨A7, c7, hv'⟩ := hqg7.out.slice
          rw [show (LK k ++ [ln]).length = L + 1 by rw [List.length_append, HL.out]; rfl] at hv'
          subst hv'
          clear HQG hg7 HR4
          have HQG := hqg7
          clear hqg7
          have HSW2 := HSW
          have XO' := Lib.hid (XO.out.set_ 4 (.slice A7 (L + 1) c7))
          have XA' := Lib.hid (XA.out.setNe (p := ⟨w3.heap.size, 4, none⟩) (by show w3.heap.size ≠ _; first | omega | (exact boxes_apart XO.out XA.out (by decide))) (.slice A7 (L + 1) c7))
          have XR' := Lib.hid (XR.out.setNe (p := ⟨w3.heap.size, 4, none⟩) (by show w3.heap.size ≠ _; first | omega | (exact boxes_apart XO.out XR.out (by decide))) (.slice A7 (L + 1) c7))
          have HQG' := Lib.hid (HQG.out.setBox XO.out (by decide) (by omega) (by decide) 4 (.slice A7 (L + 1) c7))
          have HB' := Lib.hid (HB.out.setCell (p := ⟨w3.heap.size, 4, none⟩) (by show w.heap.size ≤ w3.heap.size; omega) (.slice A7 (L + 1) c7))
          have XO_4 := XO.out.at_ 4 _ rfl
          have XO_l := XO.out.lt
          have XO_z4 := XO.out.frozen 4
          go_upto_region 10 with fail
          clear XO_4 XO_l XO_z4
          clear HB XO XA XR HQG
          generalize w8.setCell ⟨w3.heap.size, 4, none⟩ (.slice A7 (L + 1) c7) = w9 at *
          have XO : Hid (Box w9 w3.heap.size #[.bool ord, .string key, .slice none 0 0, .int .i64 mat, .slice A7 (L + 1) c7] 25) := XO'
          have XA := XA'
          have XR := XR'
          have HQG := HQG'
          have HB := HB'
          clear HB' XO' XA' XR' HQG'
          go_wp2_with fail
          go_roundw
          case rel =>
            refine ⟨k + 1, _, by omega, by go_num, ?_, XA.out, XR.out, XO.out, HB.out, ?_⟩
            · rw [HST.out]; exact HQG.out
            · have := XO.out.lt; omega
          case measure => simp [intOf]; omega
        · have f1 : ¬ (L : Int) < 1024 := by omega
          have HST := Lib.hid (HLF.out hroom)
          clear HLS HLF CK
          have XO_4 := XO.out.at_ 4 _ rfl
          go_wp2_with fail
          clear XO_4
          go_roundw
          case rel =>
            refine ⟨k + 1, _, by omega, by go_num, ?_, XA.out, XR.out, XO.out, HB.out, HSW.out⟩
            rw [HST.out]; exact HQG.out
          case measure => simp [intOf]; omega
      · have hlt2 : ¬ (k : Int) < N := by omega
        have hkN : k = N := by omega
        clear HLS HLF
        have XO_0 := XO.out.at_ 0 _ rfl
        have XO_1 := XO.out.at_ 1 _ rfl
        have XO_2 := XO.out.at_ 2 _ rfl
        have XO_3 := XO.out.at_ 3 _ rfl
        have XO_4 := XO.out.at_ 4 _ rfl
        have XR_0 := XR.out.at_ 0 _ rfl
        have XR_1 := XR.out.at_ 1 _ rfl
        have XR_2 := XR.out.at_ 2 _ rfl
        have XR_3 := XR.out.at_ 3 _ rfl
        have XR_4 := XR.out.at_ 4 _ rfl
        have XR_l := XR.out.lt
        have XR_z0 := XR.out.frozen 0
        have XR_z1 := XR.out.frozen 1
        have XR_z2 := XR.out.frozen 2
        have XR_z3 := XR.out.frozen 3
        have XR_z4 := XR.out.frozen 4
        go_wp2_with fail
        refine bodyPost_ret (v := .agg #[.bool ord, .string key, .slice none 0 0, .int .i64 mat, .slice QB L qd]) (by simp [results, Tryd.results19, go_sem, XR_0, XR_1, XR_2, XR_3, XR_4, XR_l]) rfl ?_
        rw [HR.out, ← hkN]
        exact ⟨_, rfl, BDF.mk (b := ⟨ord, key, [], mat, LK k⟩) (OG.nil txR _ 0 0 _ (by decide) (Nat.zero_le _)) (HQG.out.set5 XR.out (by decide) (Nat.zero_le _) (by decide) (.bool ord) (.string key) (.slice none 0 0) (.int .i64 mat) (.slice QB L qd)), set5_below (.bool ord) (.string key) (.slice none 0 0) (.int .i64 mat) (.slice QB L qd) HB.out (by omega)⟩

end Go.Proofs.YtldafnjbgjagiaaDoor
