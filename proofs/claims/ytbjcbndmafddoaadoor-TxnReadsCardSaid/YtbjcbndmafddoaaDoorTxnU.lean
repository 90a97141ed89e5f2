/-
  Walk of the law TxnReads.
-/
import Derived.Test.YtbjcbndmafddoaaDoorTxnS
namespace Go.Proofs.YtbjcbndmafddoaaDoor
open Go.RowKit
set_option linter.unusedVariables false
set_option linter.unusedSimpArgs false

theorem bne_i (x : Int) : (x != x) = false := by simp
theorem bne_b (x : Bool) : (x != x) = false := by simp
set_option maxRecDepth 100000 in
set_option maxHeartbeats 8000000 in
theorem walkTxnReads {H : Type} {enc : TypeId × Value → H} {base : Nat} (v : Value) (d : DataW H) (p : List MemPlace)
    (w : World) (h : DataW.Trod enc Tryd.prog w 0 (fun _ => true) true 25 v d p) (hv : Value.okWide Tryd.prog w .any base 25 v) (a : ByteArray) (ha : a.size ≤ maxLen) (ht : Tab w) (hm : MLen w) (hk : KW w) :
    Calls Tryd.prog 5 #[v, .string a] w fun e w' => e = .returned (.bool true) ∧ Below w.heap.size w w' := by
  obtain ⟨v1, v2, ns, zs, rfl, h1, h2, n1, n2, hsz⟩ := arg_txn h hv
  have HK := Lib.hid hk
  have HM := Lib.hid hm
  have HT := Lib.hid ht
  have HQ1 := Lib.hid h1
  have HQ2 := Lib.hid h2
  have CW := Lib.hid (fun W h h' h'' => lawAwake W h h' h'')
  have CF := Lib.hid (fun W h1 h2 => lawFew W v1 v2 ns zs h1 h2 n1 n2 hsz)
  clear h hv h1 h2 ht hm hk
  cases hf : decide (Few ns zs)
  · rw [hf] at CF
    clear hf
    go_enter Tryd.func5, Tryd.ntmps5
    go_wp2_with fail
    have XA := Lib.hid (box_new (W := w) (g := w.heap.size) 25 #[v1, v2] (by simp))
    have HB := Lib.hid (below_alloc w (.cells #[v1, v2] 25))
    generalize w.alloc (.cells #[v1, v2] 25) = w1 at *
    refine (CF.out _ (HQ1.out.below HB.out) (HQ2.out.below HB.out)).mono ?_; rintro e w2 ⟨rfl, hb⟩
    replace XA := Lib.hid (XA.out.below hb)
    replace HB := Lib.hid (below_step HB.out hb)
    clear hb
    go_wp2_with fail
    refine (CW.out _ (HK.out.below HB.out) (HM.out.below HB.out) (HT.out.below HB.out)).mono ?_; rintro e w3 ⟨rfl, hb⟩
    replace XA := Lib.hid (XA.out.below hb)
    replace HB := Lib.hid (below_step HB.out hb)
    clear hb
    go_wp2_with fail
    go_ret
    exact ⟨rfl, HB.out⟩
  · have hfew : Few ns zs := of_decide_eq_true hf
    have hsz2 : ∀ s ∈ ns, s.size ≤ 2000000 := fun s hs => Nat.le_trans (hfew.2.2 s hs) (by decide)
    rw [hf] at CF
    have CG := Lib.hid (fun W h1 h2 => txnGet W v1 v2 ns zs a h1 h2 n1 n2)
    have CH := Lib.hid (fun W h1 h2 => refGet W v1 v2 ns zs a h1 h2 n1 n2)
    have CE := Lib.hid (fun W h1 h2 h3 h4 => txnEnv W v1 v2 ns zs h1 h2 hsz2 n1 n2 h3 h4)
    have CR := Lib.hid (fun W h1 h2 => refEnv W v1 v2 ns zs h1 h2 hsz2 n1 n2)
    have CV := Lib.hid (fun W h1 h2 h3 h4 => txnValid W v1 v2 ns zs h1 h2 hsz2 n1 n2 h3 h4)
    have CX := Lib.hid (fun W h1 h2 => refValidT W v1 v2 ns zs h1 h2 hsz2 n1 n2)
    have hev : (envT ns zs).length ≤ 140 := by
      unfold envT
      split
      · rw [prs_len]; have := hfew.1; omega
      · simp
    generalize getT ns zs a = g at *
    generalize envT ns zs = ev at *
    generalize txV ns zs = xv at *
    obtain ⟨gv, gb⟩ := g
    simp only [ret2b] at CG CH
    have B1 := bne_i gv
    have B2 := bne_b gb
    have B3 := bne_b xv
    clear hf hfew hsz2 hsz n1 n2
    go_enter Tryd.func5, Tryd.ntmps5
    go_wp2_with fail
    have XA := Lib.hid (box_new (W := w) (g := w.heap.size) 25 #[v1, v2] (by simp))
    have HB := Lib.hid (below_alloc w (.cells #[v1, v2] 25))
    generalize w.alloc (.cells #[v1, v2] 25) = w1 at *
    refine (CF.out _ (HQ1.out.below HB.out) (HQ2.out.below HB.out)).mono ?_; rintro e w2 ⟨rfl, hb⟩
    replace XA := Lib.hid (XA.out.below hb)
    replace HB := Lib.hid (below_step HB.out hb)
    clear hb
    have XA_0 := XA.out.at_ 0 _ rfl
    have XA_1 := XA.out.at_ 1 _ rfl
    go_wp2_with fail
    clear XA_0 XA_1
    refine (CG.out _ (HQ1.out.below HB.out) (HQ2.out.below HB.out)).mono ?_; rintro e w3 ⟨rfl, hb⟩
    replace XA := Lib.hid (XA.out.below hb)
    replace HB := Lib.hid (below_step HB.out hb)
    clear hb
    have XA_0 := XA.out.at_ 0 _ rfl
    have XA_1 := XA.out.at_ 1 _ rfl
    go_wp2_with fail
    clear XA_0 XA_1
    refine (CH.out _ (HQ1.out.below HB.out) (HQ2.out.below HB.out)).mono ?_; rintro e w4 ⟨rfl, hb⟩
    replace XA := Lib.hid (XA.out.below hb)
    replace HB := Lib.hid (below_step HB.out hb)
    clear hb
    go_wp2_with fail
    have R1 := Lib.hid (HQ1.out.below HB.out)
    have R2 := Lib.hid (HQ2.out.below HB.out)
    have R3 := Lib.hid (HK.out.below HB.out)
    have R4 := Lib.hid (HM.out.below HB.out)
    refine wp_region_gen 4 (Kit.of [fPL 1 [] ev, fPL 3 [] ev]) (by kernel_rfl) (by kernel_rfl) (fun γ => by kernel_rfl) (by kernel_rfl) (Kit.of_stable ?_) (Kit.of_known ?_) ?_
    · intro z hz; simp only [List.mem_cons, List.not_mem_nil, or_false] at hz; rcases hz with rfl | rfl
      · apply fPL_st
      · apply fPL_st
    · intro z hz; simp only [List.mem_cons, List.not_mem_nil, or_false] at hz; rcases hz with rfl | rfl
      · apply fPL_kn
      · apply fPL_kn
    intro γ hγ C hC hne
    obtain ⟨P1, d5, k1⟩ : ∃ A c, γ 1 = .slice A ev.length c := hγ 1 rfl
    obtain ⟨P3, d6, k3⟩ : ∃ A c, γ 3 = .slice A ev.length c := hγ 3 rfl
    have l0 := XA.out.latC (C := C) 0 _ rfl
    have l1 := XA.out.latC (C := C) 1 _ rfl
    simp only [List.take_succ_cons, List.take_zero, List.drop_succ_cons, List.drop_zero]
    iterate 1 (refine wpF_quiet rfl ?_; go_big_quiet_step (fail); refine wpQuiet_nil ?_)
    refine wpF_fresh rfl (freshAt_call (args := #[.agg #[v1, v2]]) rfl _ _ _ (run_go Tryd.func19 (by kernel_rfl) (by kernel_rfl)) rfl (by simp [Act.eval]) (fun w' hb hf => (CE.out w' (R1.out.below hb) (R2.out.below hb) (R3.out.below hb) (R4.out.below hb)).mono fun e w2 ⟨v, he, h1, h2⟩ => ⟨v, he, h1, h2⟩)) ?_
    simp only [Nat.zero_add, Nat.reduceAdd, k1]
    go_simp
    iterate 1 (refine wpF_quiet rfl ?_; go_big_quiet_step (fail); refine wpQuiet_nil ?_)
    refine wpF_fresh rfl (freshAt_call (args := #[.agg #[v1, v2]]) rfl _ _ _ (run_go Tryd.func20 (by kernel_rfl) (by kernel_rfl)) rfl (by simp [Act.eval]) (fun w' hb hf => (CR.out w' (R1.out.below hb) (R2.out.below hb)).mono fun e w2 ⟨v, he, h1, h2⟩ => ⟨v, he, h1, h2⟩)) ?_
    simp only [Nat.zero_add, Nat.reduceAdd, k3]
    go_simp
    intro w5 hb hF
    have G1 : PL w5 (γ 1) ev := hF 1 (by decide) rfl
    have G3 : PL w5 (γ 3) ev := hF 3 (by decide) rfl
    rw [k1] at G1
    rw [k3] at G3
    have HG1 := Lib.hid G1
    have HG3 := Lib.hid G3
    clear l0 l1 k1 k3 hF hγ hC hne G1 G3 R1 R2 R3 R4
    replace XA := Lib.hid (XA.out.below hb)
    replace HB := Lib.hid (below_step HB.out hb)
    clear hb
    obtain ⟨L, hL⟩ : ∃ L, L = ev.length := ⟨_, rfl⟩
    have HL := Lib.hid hL
    rw [← hL] at HG1 HG3 hev ⊢
    clear hL
    go_wp2_with fail
    have B4 := bne_i (L : Int)
    have VQ1 := Lib.hid (fun p : Lat w5 => CV.out p.w (HQ1.out.below (below_step HB.out p.h)) (HQ2.out.below (below_step HB.out p.h)) (HK.out.below (below_step HB.out p.h)) (HM.out.below (below_step HB.out p.h)))
    have VQ2 := Lib.hid (fun p : Lat w5 => CX.out p.w (HQ1.out.below (below_step HB.out p.h)) (HQ2.out.below (below_step HB.out p.h)))
    have l0 := XA.out.lat 0 _ rfl
    have l1 := XA.out.lat 1 _ rfl
    refine wp_region_lat (by kernel_rfl) (by kernel_rfl) ?_
    repeat (go_big_quiet_step (first | (with_reducible exact lat_call (VQ1.out _)) | (with_reducible exact lat_call (VQ2.out _))))
    refine wpQuiet_nil ?_; intro w6 hb
    have HC := Lib.hid hb
    replace HB := Lib.hid (below_step HB.out hb)
    clear hb
    clear l0 l1 VQ1 VQ2
    go_wp2_with fail
    go_loopw [11] (fun i wr => ∃ k : Nat, k ≤ L ∧ i = .int .i64 k ∧ Below w5.heap.size w5 wr ∧ Below w.heap.size w wr) (fun i _ => L - (intOf i).toNat)
    case atStart => exact ⟨0, Nat.zero_le _, rfl, HC.out, HB.out⟩
    case round =>
      clear HC HB
      obtain ⟨k, hk, rfl, hc, hb⟩ := hrel
      have HC := Lib.hid hc
      have HB := Lib.hid hb
      clear hc hb
      by_cases hlt : k < L
      · have hlt2 : (k : Int) < L := by omega
        have hk0 : (0 : Int) ≤ (k : Int) := by omega
        obtain ⟨B1', e1, he1, _, hg1⟩ := HG1.out
        obtain ⟨B3', e3, he3, _, hg3⟩ := HG3.out
        simp only [Value.slice.injEq] at he1 he3
        obtain ⟨rfl, _, rfl⟩ := he1
        obtain ⟨rfl, _, rfl⟩ := he3
        obtain ⟨b1, o1, rfl, hb1, hc1⟩ := hg1 (by rw [← HL.out]; omega)
        obtain ⟨b3, o3, rfl, hb3, hc3⟩ := hg3 (by rw [← HL.out]; omega)
        have q1 := hc1 k (by rw [← HL.out]; exact hlt)
        have q3 := hc3 k (by rw [← HL.out]; exact hlt)
        have hcell : ∀ p : Lat wr, p.w.cell? ⟨b1, o1 + k * 2, none⟩ = some (.string (ev.getD k pr0).1) ∧ p.w.cell? ⟨b1, o1 + k * 2 + 1, none⟩ = some (.int .i64 (ev.getD k pr0).2) ∧ p.w.cell? ⟨b3, o3 + k * 2, none⟩ = some (.string (ev.getD k pr0).1) ∧ p.w.cell? ⟨b3, o3 + k * 2 + 1, none⟩ = some (.int .i64 (ev.getD k pr0).2) := fun p => by
          have hB := below_step HC.out p.h
          rw [hB.cell (p := ⟨b1, o1 + k * 2, none⟩) hb1, hB.cell (p := ⟨b1, o1 + k * 2 + 1, none⟩) hb1, hB.cell (p := ⟨b3, o3 + k * 2, none⟩) hb3, hB.cell (p := ⟨b3, o3 + k * 2 + 1, none⟩) hb3]
          exact ⟨q1.1, q1.2, q3.1, q3.2⟩
        have m1 := fun p : Lat wr => (hcell p).1
        have m2 := fun p : Lat wr => (hcell p).2.1
        have m3 := fun p : Lat wr => (hcell p).2.2.1
        have m4 := fun p : Lat wr => (hcell p).2.2.2
        generalize ev.getD k pr0 = x at *
        obtain ⟨s, z⟩ := x
        simp only at m1 m2 m3 m4
        have b2 : (z == z) = true := by simp
        clear hcell q1 q3 hc1 hc3 hg1 hg3
        go_wp2_with fail
        refine wp_region_lat (by kernel_rfl) (by kernel_rfl) ?_
        repeat (go_big_quiet_step (fail))
        refine wpQuiet_nil ?_; intro w7 hb
        clear m1 m2 m3 m4
        replace HC := Lib.hid (below_step HC.out hb)
        replace HB := Lib.hid (below_step HB.out hb)
        clear hb
        go_wp2_with fail
        go_roundw
        case rel => exact ⟨k + 1, by omega, by go_num, HC.out, HB.out⟩
        case measure => simp [intOf]; omega
      · have hlt2 : ¬ (k : Int) < L := by omega
        go_wp2_with fail
        refine (CW.out _ (HK.out.below HB.out) (HM.out.below HB.out) (HT.out.below HB.out)).mono ?_; rintro e w8 ⟨rfl, hb⟩
        replace HB := Lib.hid (below_step HB.out hb)
        clear hb
        go_wp2_with fail
        go_ret
        exact ⟨rfl, HB.out⟩

end Go.Proofs.YtbjcbndmafddoaaDoor
