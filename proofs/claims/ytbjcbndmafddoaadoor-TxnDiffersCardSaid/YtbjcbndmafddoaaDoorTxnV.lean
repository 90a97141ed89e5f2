/-
  Walk of the law TxnDiffers.
-/
import Derived.Test.YtbjcbndmafddoaaDoorTxnS
namespace Go.Proofs.YtbjcbndmafddoaaDoor
open Go.RowKit
set_option linter.unusedVariables false
set_option linter.unusedSimpArgs false

theorem difT_len (ns : List ByteArray) (zs : List Int) (ms : List ByteArray) (ys : List Int) : (difT ns zs ms ys).length ≤ ns.length + ms.length := by
  have h1 := fold_len (dif1_len ns zs ms ys) ns []
  have h2 := fold_len (dif2_len ns) ms (ns.foldl (dif1 ns zs ms ys) [])
  unfold difT
  simp only [List.length_nil, Nat.zero_add] at h1
  omega
theorem sameT_self (ns : List ByteArray) (zs : List Int) : sameT ns zs ns zs = true := by simp [sameT]
theorem beq_b (x : Bool) : (x == x) = true := by simp
def fSL (j : Nat) (D : List Nat) (l : List ByteArray) : FOp := ⟨j, D, fun v => ∃ A c, v = .slice A l.length c, fun v w => SL w v l⟩
theorem fSL_st (j : Nat) (D : List Nat) (l : List ByteArray) : ∀ v w w', (fSL j D l).Φ v w → Below w.heap.size w w' → (fSL j D l).Φ v w' := fun v w w' h hb => SL.below h hb
theorem fSL_kn (j : Nat) (D : List Nat) (l : List ByteArray) : (∀ u w, (fSL j D l).Φ u w → (fSL j D l).S u) ∧ ∃ u, (fSL j D l).S u := ⟨fun u w ⟨A, c, h, _⟩ => ⟨A, c, h⟩, .slice none _ 0, none, 0, rfl⟩
set_option maxRecDepth 100000 in
set_option maxHeartbeats 8000000 in
theorem walkTxnDiffers {H : Type} {enc : TypeId × Value → H} {base : Nat} (v : Value) (d : DataW H) (p : List MemPlace)
    (w : World) (h : DataW.Trod enc Tryd.prog w 0 (fun _ => true) true 25 v d p) (hv : Value.okWide Tryd.prog w .any base 25 v)
    (u : Value) (d' : DataW H) (p' : List MemPlace) (h' : DataW.Trod enc Tryd.prog w 0 (fun _ => true) true 25 u d' p') (hv' : Value.okWide Tryd.prog w .any base 25 u)
    (ht : Tab w) (hm : MLen w) (hk : KW w) :
    Calls Tryd.prog 6 #[v, u] w fun e w' => e = .returned (.bool true) ∧ Below w.heap.size w w' := by
  obtain ⟨v1, v2, ns, zs, rfl, h1, h2, n1, n2, hsz⟩ := arg_txn h hv
  obtain ⟨v3, v4, ms, ys, rfl, h3, h4, n3, n4, hsy⟩ := arg_txn h' hv'
  have HK := Lib.hid hk
  have HM := Lib.hid hm
  have HT := Lib.hid ht
  have HQ1 := Lib.hid h1
  have HQ2 := Lib.hid h2
  have HQ3 := Lib.hid h3
  have HQ4 := Lib.hid h4
  have CW := Lib.hid (fun W h h' h'' => lawAwake W h h' h'')
  have CF := Lib.hid (fun W h1 h2 => lawFew W v1 v2 ns zs h1 h2 n1 n2 hsz)
  have CF2 := Lib.hid (fun W h1 h2 => lawFew W v3 v4 ms ys h1 h2 n3 n4 hsy)
  clear h hv h' hv' h1 h2 h3 h4 ht hm hk
  cases hf : decide (Few ns zs)
  · rw [hf] at CF
    clear hf CF2
    go_enter Tryd.func6, Tryd.ntmps6
    go_wp2_with fail
    have XA := Lib.hid ((box_new (W := w) (g := w.heap.size) 25 #[v1, v2] (by simp)).below (below_alloc _ (.cells #[v3, v4] 25)))
    have XB := Lib.hid (box_new (W := (w.alloc (.cells #[v1, v2] 25))) (g := w.heap.size + 1) 25 #[v3, v4] (by simp))
    have HB := Lib.hid (below_step (below_alloc w (.cells #[v1, v2] 25)) (below_alloc (w.alloc (.cells #[v1, v2] 25)) (.cells #[v3, v4] 25)))
    generalize (w.alloc (.cells #[v1, v2] 25)).alloc (.cells #[v3, v4] 25) = w1 at *
    refine (CF.out _ (HQ1.out.below HB.out) (HQ2.out.below HB.out)).mono ?_; rintro e w2 ⟨rfl, hb⟩
    replace XA := Lib.hid (XA.out.below hb)
    replace XB := Lib.hid (XB.out.below hb)
    replace HB := Lib.hid (below_step HB.out hb)
    clear hb
    go_wp2_with fail
    refine (CW.out _ (HK.out.below HB.out) (HM.out.below HB.out) (HT.out.below HB.out)).mono ?_; rintro e w3 ⟨rfl, hb⟩
    replace XA := Lib.hid (XA.out.below hb)
    replace XB := Lib.hid (XB.out.below hb)
    replace HB := Lib.hid (below_step HB.out hb)
    clear hb
    go_wp2_with fail
    go_ret
    exact ⟨rfl, HB.out⟩
  cases hf2 : decide (Few ms ys)
  · rw [hf] at CF
    rw [hf2] at CF2
    clear hf hf2
    go_enter Tryd.func6, Tryd.ntmps6
    go_wp2_with fail
    have XA := Lib.hid ((box_new (W := w) (g := w.heap.size) 25 #[v1, v2] (by simp)).below (below_alloc _ (.cells #[v3, v4] 25)))
    have XB := Lib.hid (box_new (W := (w.alloc (.cells #[v1, v2] 25))) (g := w.heap.size + 1) 25 #[v3, v4] (by simp))
    have HB := Lib.hid (below_step (below_alloc w (.cells #[v1, v2] 25)) (below_alloc (w.alloc (.cells #[v1, v2] 25)) (.cells #[v3, v4] 25)))
    generalize (w.alloc (.cells #[v1, v2] 25)).alloc (.cells #[v3, v4] 25) = w1 at *
    refine (CF.out _ (HQ1.out.below HB.out) (HQ2.out.below HB.out)).mono ?_; rintro e w2 ⟨rfl, hb⟩
    replace XA := Lib.hid (XA.out.below hb)
    replace XB := Lib.hid (XB.out.below hb)
    replace HB := Lib.hid (below_step HB.out hb)
    clear hb
    have XB_0 := XB.out.at_ 0 _ rfl
    have XB_1 := XB.out.at_ 1 _ rfl
    go_wp2_with fail
    clear XB_0 XB_1
    refine (CF2.out _ (HQ3.out.below HB.out) (HQ4.out.below HB.out)).mono ?_; rintro e w3 ⟨rfl, hb⟩
    replace XA := Lib.hid (XA.out.below hb)
    replace XB := Lib.hid (XB.out.below hb)
    replace HB := Lib.hid (below_step HB.out hb)
    clear hb
    go_wp2_with fail
    refine (CW.out _ (HK.out.below HB.out) (HM.out.below HB.out) (HT.out.below HB.out)).mono ?_; rintro e w4 ⟨rfl, hb⟩
    replace XA := Lib.hid (XA.out.below hb)
    replace XB := Lib.hid (XB.out.below hb)
    replace HB := Lib.hid (below_step HB.out hb)
    clear hb
    go_wp2_with fail
    go_ret
    exact ⟨rfl, HB.out⟩
  have hfew : Few ns zs := of_decide_eq_true hf
  have hfew2 : Few ms ys := of_decide_eq_true hf2
  rw [hf] at CF
  rw [hf2] at CF2
  have a1 := hfew.1
  have a2 := hfew.2.1
  have a3 := hfew2.1
  have a4 := hfew2.2.1
  have S1 := Lib.hid (fun W h1 h2 h3 h4 => txnSame W v1 v2 v3 v4 ns zs ms ys h1 h2 h3 h4 (by omega) (by omega) (by omega) (by omega))
  have S2 := Lib.hid (fun W h1 h2 h3 h4 => refSame W v1 v2 v3 v4 ns zs ms ys h1 h2 h3 h4 n1 n2 n3 n4)
  have S3 := Lib.hid (fun W h1 h2 => txnSame W v1 v2 v1 v2 ns zs ns zs h1 h2 h1 h2 (by omega) (by omega) (by omega) (by omega))
  have D1 := Lib.hid (fun W h1 h2 h3 h4 => txnDiff W v1 v2 v3 v4 ns zs ms ys h1 h2 h3 h4 (by omega) n2 (by omega) n4)
  have D2 := Lib.hid (fun W h1 h2 h3 h4 => refDiff W v1 v2 v3 v4 ns zs ms ys h1 h2 h3 h4 (by omega) n2 (by omega) n4)
  have D3 := Lib.hid (fun W h1 h2 h3 h4 => txnDiff W v3 v4 v1 v2 ms ys ns zs h1 h2 h3 h4 (by omega) n4 (by omega) n2)
  have D4 := Lib.hid (fun W h1 h2 h3 h4 => refDiff W v3 v4 v1 v2 ms ys ns zs h1 h2 h3 h4 (by omega) n4 (by omega) n2)
  rw [sameT_self] at S3
  have L1 : (difT ns zs ms ys).length ≤ 9223372036854775807 := Nat.le_trans (difT_len ns zs ms ys) (by omega)
  have L2 : (difT ms ys ns zs).length ≤ 9223372036854775807 := Nat.le_trans (difT_len ms ys ns zs) (by omega)
  have CS := Lib.hid (fun (W : World) (l : List ByteArray) (hl : l.length ≤ 9223372036854775807) (x y : Value) (h1 : SL W x l) (h2 : SL W y l) => show Calls Tryd.prog 23 #[x, y] W (fun e w' => e = .returned (.bool true) ∧ Below W.heap.size W w') from by have := lawStrings W x y l l h1 h2 hl hl; rwa [decide_eq_true rfl] at this)
  generalize difT ns zs ms ys = e1 at *
  generalize difT ms ys ns zs = e2 at *
  generalize sameT ns zs ms ys = sm at *
  have B1 := beq_b sm
  clear hf hf2 hfew hfew2 hsz hsy n1 n2 n3 n4 a1 a2 a3 a4
  go_enter Tryd.func6, Tryd.ntmps6
  go_wp2_with fail
  have XA := Lib.hid ((box_new (W := w) (g := w.heap.size) 25 #[v1, v2] (by simp)).below (below_alloc _ (.cells #[v3, v4] 25)))
  have XB := Lib.hid (box_new (W := (w.alloc (.cells #[v1, v2] 25))) (g := w.heap.size + 1) 25 #[v3, v4] (by simp))
  have HB := Lib.hid (below_step (below_alloc w (.cells #[v1, v2] 25)) (below_alloc (w.alloc (.cells #[v1, v2] 25)) (.cells #[v3, v4] 25)))
  generalize (w.alloc (.cells #[v1, v2] 25)).alloc (.cells #[v3, v4] 25) = w1 at *
  refine (CF.out _ (HQ1.out.below HB.out) (HQ2.out.below HB.out)).mono ?_; rintro e w2 ⟨rfl, hb⟩
  replace XA := Lib.hid (XA.out.below hb)
  replace XB := Lib.hid (XB.out.below hb)
  replace HB := Lib.hid (below_step HB.out hb)
  clear hb
  have XB_0 := XB.out.at_ 0 _ rfl
  have XB_1 := XB.out.at_ 1 _ rfl
  go_wp2_with fail
  clear XB_0 XB_1
  refine (CF2.out _ (HQ3.out.below HB.out) (HQ4.out.below HB.out)).mono ?_; rintro e w3 ⟨rfl, hb⟩
  replace XA := Lib.hid (XA.out.below hb)
  replace XB := Lib.hid (XB.out.below hb)
  replace HB := Lib.hid (below_step HB.out hb)
  clear hb
  go_wp2_with fail
  have R1 := Lib.hid (HQ1.out.below HB.out)
  have R2 := Lib.hid (HQ2.out.below HB.out)
  have R3 := Lib.hid (HQ3.out.below HB.out)
  have R4 := Lib.hid (HQ4.out.below HB.out)
  have R5 := Lib.hid (HK.out.below HB.out)
  have R6 := Lib.hid (HM.out.below HB.out)
  have R7 := Lib.hid (HT.out.below HB.out)
  refine wp_region_gen 33 (Kit.of [fVal 2 [] (.bool sm), fVal 5 [] (.bool sm), fSL 10 [] e1, fSL 13 [] e1, fVal 14 [10, 13] (.bool true), fSL 19 [] e2, fSL 22 [] e2, fVal 23 [19, 22] (.bool true), fVal 28 [] (.bool true), fVal 31 [] (.bool true)]) (by kernel_rfl) (by kernel_rfl) (fun γ => by kernel_rfl) (by kernel_rfl) (Kit.of_stable ?_) (Kit.of_known ?_) ?_
  · intro z hz; simp only [List.mem_cons, List.not_mem_nil, or_false] at hz; rcases hz with rfl | rfl | rfl | rfl | rfl | rfl | rfl | rfl | rfl | rfl
    · apply fVal_st
    · apply fVal_st
    · apply fSL_st
    · apply fSL_st
    · apply fVal_st
    · apply fSL_st
    · apply fSL_st
    · apply fVal_st
    · apply fVal_st
    · apply fVal_st
  · intro z hz; simp only [List.mem_cons, List.not_mem_nil, or_false] at hz; rcases hz with rfl | rfl | rfl | rfl | rfl | rfl | rfl | rfl | rfl | rfl
    · apply fVal_kn
    · apply fVal_kn
    · apply fSL_kn
    · apply fSL_kn
    · apply fVal_kn
    · apply fSL_kn
    · apply fSL_kn
    · apply fVal_kn
    · apply fVal_kn
    · apply fVal_kn
  intro γ hγ C hC hne
  have k2 : γ 2 = .bool sm := hγ 2 rfl
  have k5 : γ 5 = .bool sm := hγ 5 rfl
  obtain ⟨P10, c10, k10⟩ : ∃ A c, γ 10 = .slice A e1.length c := hγ 10 rfl
  obtain ⟨P13, c13, k13⟩ : ∃ A c, γ 13 = .slice A e1.length c := hγ 13 rfl
  have k14 : γ 14 = .bool true := hγ 14 rfl
  obtain ⟨P19, c19, k19⟩ : ∃ A c, γ 19 = .slice A e2.length c := hγ 19 rfl
  obtain ⟨P22, c22, k22⟩ : ∃ A c, γ 22 = .slice A e2.length c := hγ 22 rfl
  have k23 : γ 23 = .bool true := hγ 23 rfl
  have k28 : γ 28 = .bool true := hγ 28 rfl
  have k31 : γ 31 = .bool true := hγ 31 rfl
  have l0 := XA.out.latC (C := C) 0 _ rfl
  have l1 := XA.out.latC (C := C) 1 _ rfl
  have l2 := XB.out.latC (C := C) 0 _ rfl
  have l3 := XB.out.latC (C := C) 1 _ rfl
  simp only [List.take_succ_cons, List.take_zero, List.drop_succ_cons, List.drop_zero]
  iterate 2 (refine wpF_quiet rfl ?_; go_big_quiet_step (fail); refine wpQuiet_nil ?_)
  refine wpF_fresh rfl (freshAt_call (args := #[.agg #[v1, v2], .agg #[v3, v4]]) rfl _ _ _ (run_go Tryd.func22 (by kernel_rfl) (by kernel_rfl)) rfl (by simp [Act.eval]) (fun w' hb hf => (S1.out w' (R1.out.below hb) (R2.out.below hb) (R3.out.below hb) (R4.out.below hb)).mono fun e w2 ⟨he, h1⟩ => ⟨_, he, rfl, h1⟩)) ?_
  simp only [Nat.zero_add, Nat.reduceAdd, k2]
  go_simp
  iterate 2 (refine wpF_quiet rfl ?_; go_big_quiet_step (fail); refine wpQuiet_nil ?_)
  refine wpF_fresh rfl (freshAt_call (args := #[.agg #[v1, v2], .agg #[v3, v4]]) rfl _ _ _ (run_go Tryd.func16 (by kernel_rfl) (by kernel_rfl)) rfl (by simp [Act.eval]) (fun w' hb hf => (S2.out w' (R1.out.below hb) (R2.out.below hb) (R3.out.below hb) (R4.out.below hb)).mono fun e w2 ⟨he, h1⟩ => ⟨_, he, rfl, h1⟩)) ?_
  simp only [Nat.zero_add, Nat.reduceAdd, k5]
  go_simp
  iterate 4 (refine wpF_quiet rfl ?_; go_big_quiet_step (fail); refine wpQuiet_nil ?_)
  refine wpF_freshG rfl (freshA_call (args := #[.agg #[v1, v2], .agg #[v3, v4]]) (by kernel_rfl) _ _ _ (run_go Tryd.func13 (by kernel_rfl) (by kernel_rfl)) rfl (by simp [Act.eval]) (fun w' hb hf => (D1.out w' (R1.out.below hb) (R2.out.below hb) (R3.out.below hb) (R4.out.below hb)).mono fun e w2 ⟨v, he, h1, h2⟩ => ⟨v, he, h1, h2⟩)) ?_
  simp only [Nat.zero_add, Nat.reduceAdd, k10]
  go_simp
  iterate 2 (refine wpF_quiet rfl ?_; go_big_quiet_step (fail); refine wpQuiet_nil ?_)
  refine wpF_freshG rfl (freshA_call (args := #[.agg #[v1, v2], .agg #[v3, v4]]) (by kernel_rfl) _ _ _ (run_go Tryd.func24 (by kernel_rfl) (by kernel_rfl)) rfl (by simp [Act.eval]) (fun w' hb hf => (D2.out w' (R1.out.below hb) (R2.out.below hb) (R3.out.below hb) (R4.out.below hb)).mono fun e w2 ⟨v, he, h1, h2⟩ => ⟨v, he, h1, h2⟩)) ?_
  simp only [Nat.zero_add, Nat.reduceAdd, k13]
  go_simp
  refine wpF_freshG rfl (freshA_call (args := #[.slice P10 e1.length c10, .slice P13 e1.length c13]) (by kernel_rfl) _ _ _ (run_go Tryd.func23 (by kernel_rfl) (by kernel_rfl)) rfl (by simp [Act.eval]) (fun w' hb hf => (CS.out w' e1 L1 _ _ (by have h5 : SL w' (γ 10) e1 := hf 10 (show 10 ∈ [10, 13] by decide); rwa [k10] at h5) (by have h5 : SL w' (γ 13) e1 := hf 13 (show 13 ∈ [10, 13] by decide); rwa [k13] at h5)).mono fun e w2 ⟨he, h1⟩ => ⟨_, he, rfl, h1⟩)) ?_
  simp only [Nat.zero_add, Nat.reduceAdd, k14]
  go_simp
  iterate 4 (refine wpF_quiet rfl ?_; go_big_quiet_step (fail); refine wpQuiet_nil ?_)
  refine wpF_freshG rfl (freshA_call (args := #[.agg #[v3, v4], .agg #[v1, v2]]) (by kernel_rfl) _ _ _ (run_go Tryd.func13 (by kernel_rfl) (by kernel_rfl)) rfl (by simp [Act.eval]) (fun w' hb hf => (D3.out w' (R3.out.below hb) (R4.out.below hb) (R1.out.below hb) (R2.out.below hb)).mono fun e w2 ⟨v, he, h1, h2⟩ => ⟨v, he, h1, h2⟩)) ?_
  simp only [Nat.zero_add, Nat.reduceAdd, k19]
  go_simp
  iterate 2 (refine wpF_quiet rfl ?_; go_big_quiet_step (fail); refine wpQuiet_nil ?_)
  refine wpF_freshG rfl (freshA_call (args := #[.agg #[v3, v4], .agg #[v1, v2]]) (by kernel_rfl) _ _ _ (run_go Tryd.func24 (by kernel_rfl) (by kernel_rfl)) rfl (by simp [Act.eval]) (fun w' hb hf => (D4.out w' (R3.out.below hb) (R4.out.below hb) (R1.out.below hb) (R2.out.below hb)).mono fun e w2 ⟨v, he, h1, h2⟩ => ⟨v, he, h1, h2⟩)) ?_
  simp only [Nat.zero_add, Nat.reduceAdd, k22]
  go_simp
  refine wpF_freshG rfl (freshA_call (args := #[.slice P19 e2.length c19, .slice P22 e2.length c22]) (by kernel_rfl) _ _ _ (run_go Tryd.func23 (by kernel_rfl) (by kernel_rfl)) rfl (by simp [Act.eval]) (fun w' hb hf => (CS.out w' e2 L2 _ _ (by have h5 : SL w' (γ 19) e2 := hf 19 (show 19 ∈ [19, 22] by decide); rwa [k19] at h5) (by have h5 : SL w' (γ 22) e2 := hf 22 (show 22 ∈ [19, 22] by decide); rwa [k22] at h5)).mono fun e w2 ⟨he, h1⟩ => ⟨_, he, rfl, h1⟩)) ?_
  simp only [Nat.zero_add, Nat.reduceAdd, k23]
  go_simp
  iterate 4 (refine wpF_quiet rfl ?_; go_big_quiet_step (fail); refine wpQuiet_nil ?_)
  refine wpF_freshG rfl (freshA_call (args := #[.agg #[v1, v2], .agg #[v1, v2]]) (by kernel_rfl) _ _ _ (run_go Tryd.func22 (by kernel_rfl) (by kernel_rfl)) rfl (by simp [Act.eval]) (fun w' hb hf => (S3.out w' (R1.out.below hb) (R2.out.below hb)).mono fun e w2 ⟨he, h1⟩ => ⟨_, he, rfl, h1⟩)) ?_
  simp only [Nat.zero_add, Nat.reduceAdd, k28]
  go_simp
  iterate 2 (refine wpF_quiet rfl ?_; go_big_quiet_step (fail); refine wpQuiet_nil ?_)
  refine wpF_freshG rfl (freshA_call (args := #[]) (by kernel_rfl) _ _ _ (run_go Tryd.func11 (by kernel_rfl) (by kernel_rfl)) rfl (by simp [Act.eval]) (fun w' hb hf => (CW.out w' (R5.out.below hb) (R6.out.below hb) (R7.out.below hb)).mono fun e w2 ⟨he, h1⟩ => ⟨_, he, rfl, h1⟩)) ?_
  simp only [Nat.zero_add, Nat.reduceAdd, k31]
  go_simp
  iterate 1 (refine wpF_quiet rfl ?_; go_big_quiet_step (fail); refine wpQuiet_nil ?_)
  intro w9 hb hF
  clear l0 l1 l2 l3 hF hγ hC hne
  replace HB := Lib.hid (below_step HB.out hb)
  clear hb
  go_wp2_with fail
  go_ret
  exact ⟨rfl, HB.out⟩

end Go.Proofs.YtbjcbndmafddoaaDoor
