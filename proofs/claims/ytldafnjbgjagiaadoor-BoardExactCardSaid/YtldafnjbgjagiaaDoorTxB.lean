/-
  Contracts of Env, of txn and of its reference.
  Contracts of Same, of txn and of its reference.
  Contracts of the reference's Same, of the law's own functions strings and Few.
-/
import Derived.Test.YtldafnjbgjagiaaDoorTxA
import Derived.Test.YtldafnjbgjagiaaDoorGens
namespace Go.Proofs.YtldafnjbgjagiaaDoor
section
open Go.RowKit
set_option linter.unusedVariables false
set_option linter.unusedSimpArgs false

/-- The signals of a transaction. -/
def envT (ns : List ByteArray) (zs : List Int) : List Pr := if txV ns zs = true then prs ns zs else []
theorem txv_lens {ns : List ByteArray} {zs : List Int} (h : txV ns zs = true) : ns.length = zs.length ∧ ns.length ≤ 128 := by
  have := of_decide_eq_true h; exact ⟨this.1, this.2.1⟩
end

section
open Go.RowKit
set_option linter.unusedVariables false
set_option linter.unusedSimpArgs false

def fPL (j : Nat) (D : List Nat) (l : List Pr) : FOp := ⟨j, D, fun v => ∃ A c, v = .slice A l.length c, fun v w => PL w v l⟩
theorem fPL_st (j : Nat) (D : List Nat) (l : List Pr) : ∀ v w w', (fPL j D l).Φ v w → Below w.heap.size w w' → (fPL j D l).Φ v w' := fun v w w' h hb => PL.below h hb
theorem fPL_kn (j : Nat) (D : List Nat) (l : List Pr) : (∀ u w, (fPL j D l).Φ u w → (fPL j D l).S u) ∧ ∃ u, (fPL j D l).S u := ⟨fun u w ⟨A, c, h, _⟩ => ⟨A, c, h⟩, .slice none _ 0, none, 0, rfl⟩
def sameT (ns : List ByteArray) (zs : List Int) (ms : List ByteArray) (ys : List Int) : Bool := decide (ns = ms) && decide (zs = ys)
theorem pr_ne {a b : Pr} (h : a ≠ b) : (a.1.toList == b.1.toList) = false ∨ (a.1 = b.1 ∧ (a.2 == b.2) = false) := by
  obtain ⟨s, z⟩ := a; obtain ⟨t, y⟩ := b
  by_cases e : s = t
  · right; exact ⟨e, by simpa using fun h2 => h (by rw [e, h2])⟩
  · left; exact (str_ne e).1

set_option maxRecDepth 100000 in
set_option maxHeartbeats 8000000 in
theorem txnSame (w : World) (v1 v2 v3 v4 : Value) (ns : List ByteArray) (zs : List Int) (ms : List ByteArray) (ys : List Int) (h1 : SL w v1 ns) (h2 : IL w v2 zs) (h3 : SL w v3 ms) (h4 : IL w v4 ys)
    (n1 : ns.length ≤ 1000000) (n2 : zs.length ≤ 1000000) (n3 : ms.length ≤ 1000000) (n4 : ys.length ≤ 1000000) :
    Calls Tryd.prog 38 #[.agg #[v1, v2], .agg #[v3, v4]] w fun e w' => e = .returned (.bool (sameT ns zs ms ys)) ∧ Below w.heap.size w w' := by
  have HQ1 := Lib.hid h1
  have HQ2 := Lib.hid h2
  have HQ3 := Lib.hid h3
  have HQ4 := Lib.hid h4
  obtain ⟨A1, c1, rfl, _, _⟩ := h1
  obtain ⟨A2, c2, rfl, _, _⟩ := h2
  obtain ⟨A3, c3, rfl, _, _⟩ := h3
  obtain ⟨A4, c4, rfl, _, _⟩ := h4
  have CP1 := Lib.hid (fun W h h' => txnPairs W (.slice A1 ns.length c1) (.slice A2 zs.length c2) ns zs h h' (by omega) (by omega))
  have CP2 := Lib.hid (fun W h h' => txnPairs W (.slice A3 ms.length c3) (.slice A4 ys.length c4) ms ys h h' (by omega) (by omega))
  have CE1 := Lib.hid (fun W h h' => slEqualS W (.slice A1 ns.length c1) (.slice A3 ms.length c3) ns ms h h' (by omega) (by omega))
  have CE2 := Lib.hid (fun W h h' => slEqualI W (.slice A2 zs.length c2) (.slice A4 ys.length c4) zs ys h h' (by omega) (by omega))
  have HRS : Hid (sameT ns zs ms ys = (decide (ns = ms) && decide (zs = ys))) := Lib.hid rfl
  have HNo : Hid (¬ (ns = ms ∧ zs = ys) → sameT ns zs ms ys = false) := Lib.hid fun h => by
    unfold sameT
    by_cases e : ns = ms
    · rw [decide_eq_true e, decide_eq_false (fun e2 => h ⟨e, e2⟩)]; rfl
    · rw [decide_eq_false e]; rfl
  have hp1 := prs_len ns zs
  have hp2 := prs_len ms ys
  have HPE : Hid (ns = ms ∧ zs = ys → prs ns zs = prs ms ys) := Lib.hid fun ⟨h, h'⟩ => by rw [h, h']
  have HL1 : Hid (ns = ms → ns.length = ms.length) := Lib.hid fun h => by rw [h]
  have HL2 : Hid (zs = ys → zs.length = ys.length) := Lib.hid fun h => by rw [h]
  generalize sameT ns zs ms ys = r at *
  generalize decide (ns = ms) = d1 at *
  generalize decide (zs = ys) = d2 at *
  generalize prs ns zs = ps at *
  generalize prs ms ys = qs at *
  obtain ⟨N, hN⟩ : ∃ N, N = ns.length := ⟨_, rfl⟩
  obtain ⟨M, hM⟩ : ∃ M, M = zs.length := ⟨_, rfl⟩
  obtain ⟨N2, hN2⟩ : ∃ N2, N2 = ms.length := ⟨_, rfl⟩
  obtain ⟨M2, hM2⟩ : ∃ M2, M2 = ys.length := ⟨_, rfl⟩
  rw [← hN] at n1 HQ1 CP1 CE1 HL1 hp1 ⊢
  rw [← hM] at n2 HQ2 CP1 CE2 HL2 hp1 ⊢
  rw [← hN2] at n3 HQ3 CP2 CE1 HL1 hp2 ⊢
  rw [← hM2] at n4 HQ4 CP2 CE2 HL2 hp2 ⊢
  clear hN hM hN2 hM2
  by_cases e1 : N = N2
  case neg =>
    have HR := Lib.hid (HNo.out fun h => e1 (HL1.out h.1))
    have f1 : ((N : Int) != (N2 : Int)) = true := by
      have : ¬ (N : Int) = N2 := by omega
      simpa using this
    have f2 : (N == N2) = false := by simpa using e1
    have f3 : (N != N2) = true := by simpa using e1
    clear e1 hp1 hp2
    go_enter Tryd.func38, Tryd.ntmps38
    go_wp2_with fail
    go_ret
    exact ⟨retb HR.out.symm, below_step (below_alloc _ _) (below_alloc _ _)⟩
  subst e1
  have f1 : ((N : Int) != (N : Int)) = false := by simp
  have f1' : (N != N) = false := by simp
  by_cases e2 : M = M2
  case neg =>
    have HR := Lib.hid (HNo.out fun h => e2 (HL2.out h.2))
    have f2 : ((M : Int) != (M2 : Int)) = true := by
      have : ¬ (M : Int) = M2 := by omega
      simpa using this
    have f3 : (M == M2) = false := by simpa using e2
    have f4 : (M != M2) = true := by simpa using e2
    clear e2 hp1 hp2
    go_enter Tryd.func38, Tryd.ntmps38
    go_wp2_with fail
    go_ret
    exact ⟨retb HR.out.symm, below_step (below_alloc _ _) (below_alloc _ _)⟩
  subst e2
  have f2 : ((M : Int) != (M : Int)) = false := by simp
  have f2' : (M != M) = false := by simp
  have hpq : qs.length = ps.length := by omega
  have HPQ := Lib.hid hpq
  have hps : ps.length ≤ 1000000 := by omega
  have HPS := Lib.hid hps
  clear hp1 hp2 hpq hps
  go_enter Tryd.func38, Tryd.ntmps38
  go_wp2_with fail
  have XA := Lib.hid ((box_new (W := w) (g := w.heap.size) 28 #[.slice A1 N c1, .slice A2 M c2] (by simp)).below (below_alloc _ (.cells #[.slice A3 N c3, .slice A4 M c4] 28)))
  have XB := Lib.hid (box_new (W := (w.alloc (.cells #[.slice A1 N c1, .slice A2 M c2] 28))) (g := w.heap.size + 1) 28 #[.slice A3 N c3, .slice A4 M c4] (by simp))
  have HB := Lib.hid (below_step (below_alloc w (.cells #[.slice A1 N c1, .slice A2 M c2] 28)) (below_alloc (w.alloc (.cells #[.slice A1 N c1, .slice A2 M c2] 28)) (.cells #[.slice A3 N c3, .slice A4 M c4] 28)))
  generalize (w.alloc (.cells #[.slice A1 N c1, .slice A2 M c2] 28)).alloc (.cells #[.slice A3 N c3, .slice A4 M c4] 28) = w1 at *
  have HR1 := Lib.hid (HQ1.out.below HB.out)
  have HR2 := Lib.hid (HQ2.out.below HB.out)
  have HR3 := Lib.hid (HQ3.out.below HB.out)
  have HR4 := Lib.hid (HQ4.out.below HB.out)
  refine wp_region_gen 4 (Kit.of [fPL 1 [] ps, fPL 3 [] qs]) (by kernel_rfl) (by kernel_rfl) (fun γ => by kernel_rfl) (by kernel_rfl) (Kit.of_stable ?_) (Kit.of_known ?_) ?_
  · intro z hz; simp only [List.mem_cons, List.not_mem_nil, or_false] at hz; rcases hz with rfl | rfl
    · apply fPL_st
    · apply fPL_st
  · intro z hz; simp only [List.mem_cons, List.not_mem_nil, or_false] at hz; rcases hz with rfl | rfl
    · apply fPL_kn
    · apply fPL_kn
  intro γ hγ C hC hne
  obtain ⟨P1, d5, k1⟩ : ∃ A c, γ 1 = .slice A ps.length c := hγ 1 rfl
  obtain ⟨P3, d6, k3⟩ : ∃ A c, γ 3 = .slice A qs.length c := hγ 3 rfl
  have l0 := XA.out.latC (C := C) 0 _ rfl
  have l1 := XA.out.latC (C := C) 1 _ rfl
  have l2 := XB.out.latC (C := C) 0 _ rfl
  have l3 := XB.out.latC (C := C) 1 _ rfl
  simp only [List.take_succ_cons, List.take_zero, List.drop_succ_cons, List.drop_zero]
  iterate 1 (refine wpF_quiet rfl ?_; go_big_quiet_step (fail); refine wpQuiet_nil ?_)
  refine wpF_fresh rfl (freshAt_call (args := #[.agg #[.slice A1 N c1, .slice A2 M c2]]) rfl _ _ _ (run_go Tryd.func53 (by kernel_rfl) (by kernel_rfl)) rfl (by simp [Act.eval]) (fun w' hb hf => (CP1.out w' (HR1.out.below hb) (HR2.out.below hb)).mono fun e w2 ⟨v, he, h1, h2⟩ => ⟨v, he, h1, h2⟩)) ?_
  simp only [Nat.zero_add, Nat.reduceAdd, k1]
  go_simp
  iterate 1 (refine wpF_quiet rfl ?_; go_big_quiet_step (fail); refine wpQuiet_nil ?_)
  refine wpF_fresh rfl (freshAt_call (args := #[.agg #[.slice A3 N c3, .slice A4 M c4]]) rfl _ _ _ (run_go Tryd.func53 (by kernel_rfl) (by kernel_rfl)) rfl (by simp [Act.eval]) (fun w' hb hf => (CP2.out w' (HR3.out.below hb) (HR4.out.below hb)).mono fun e w2 ⟨v, he, h1, h2⟩ => ⟨v, he, h1, h2⟩)) ?_
  simp only [Nat.zero_add, Nat.reduceAdd, k3]
  go_simp
  intro w2 hb hF
  have G1 : PL w2 (γ 1) ps := hF 1 (by decide) rfl
  have G3 : PL w2 (γ 3) qs := hF 3 (by decide) rfl
  rw [k1] at G1
  rw [k3] at G3
  have HG1 := Lib.hid G1
  have HG3 := Lib.hid G3
  clear l0 l1 l2 l3 k1 k3 hF hγ hC hne G1 G3
  replace XA := Lib.hid (XA.out.below hb)
  replace XB := Lib.hid (XB.out.below hb)
  replace HB := Lib.hid (below_step HB.out hb)
  clear hb
  rw [HPQ.out] at HG3 ⊢
  obtain ⟨L, hL⟩ : ∃ L, L = ps.length := ⟨_, rfl⟩
  have HL := Lib.hid hL
  rw [← hL] at HG1 HG3 HPQ HPS ⊢
  have hL2 := HPS.out
  clear hL
  go_wp2_with fail
  go_loopw [30] (fun i wr => ∃ k : Nat, k ≤ L ∧ i = .int .i64 k ∧ Below w2.heap.size w2 wr) (fun i _ => L - (intOf i).toNat)
  case atStart => exact ⟨0, Nat.zero_le _, rfl, Below.refl _ _⟩
  case round =>
    obtain ⟨k, hk, rfl, hb⟩ := hrel
    have HC := Lib.hid hb
    clear hb
    by_cases hlt : k < L
    · have hlt2 : (k : Int) < L := by omega
      have hk0 : (0 : Int) ≤ (k : Int) := by omega
      obtain ⟨B1, e1, he1, _, hg1⟩ := HG1.out
      obtain ⟨B3, e3, he3, _, hg3⟩ := HG3.out
      simp only [Value.slice.injEq] at he1 he3
      obtain ⟨rfl, _, rfl⟩ := he1
      obtain ⟨rfl, _, rfl⟩ := he3
      obtain ⟨b1, o1, rfl, hb1, hc1⟩ := hg1 (by rw [← HL.out]; omega)
      obtain ⟨b3, o3, rfl, hb3, hc3⟩ := hg3 (by rw [HPQ.out]; omega)
      have q1 := hc1 k (by rw [← HL.out]; exact hlt)
      have q3 := hc3 k (by rw [HPQ.out]; exact hlt)
      have hcell : ∀ p : Lat wr, p.w.cell? ⟨b1, o1 + k * 2, none⟩ = some (.string (ps.getD k pr0).1) ∧ p.w.cell? ⟨b1, o1 + k * 2 + 1, none⟩ = some (.int .i64 (ps.getD k pr0).2) ∧ p.w.cell? ⟨b3, o3 + k * 2, none⟩ = some (.string (qs.getD k pr0).1) ∧ p.w.cell? ⟨b3, o3 + k * 2 + 1, none⟩ = some (.int .i64 (qs.getD k pr0).2) := fun p => by
        have hB := below_step HC.out p.h
        rw [hB.cell (p := ⟨b1, o1 + k * 2, none⟩) hb1, hB.cell (p := ⟨b1, o1 + k * 2 + 1, none⟩) hb1, hB.cell (p := ⟨b3, o3 + k * 2, none⟩) hb3, hB.cell (p := ⟨b3, o3 + k * 2 + 1, none⟩) hb3]
        exact ⟨q1.1, q1.2, q3.1, q3.2⟩
      have m1 := fun p : Lat wr => (hcell p).1
      have m2 := fun p : Lat wr => (hcell p).2.1
      have m3 := fun p : Lat wr => (hcell p).2.2.1
      have m4 := fun p : Lat wr => (hcell p).2.2.2
      have HNE : Hid (ps.getD k pr0 ≠ qs.getD k pr0 → r = false) := Lib.hid fun h => HNo.out fun h2 => h (by rw [HPE.out h2])
      have hway : ps.getD k pr0 = qs.getD k pr0 ∨ (((ps.getD k pr0).1.toList == (qs.getD k pr0).1.toList) = false ∨ ((ps.getD k pr0).1 = (qs.getD k pr0).1 ∧ ((ps.getD k pr0).2 == (qs.getD k pr0).2) = false)) ∧ ps.getD k pr0 ≠ qs.getD k pr0 := by
        by_cases e : ps.getD k pr0 = qs.getD k pr0
        · exact .inl e
        · exact .inr ⟨pr_ne e, e⟩
      generalize ps.getD k pr0 = x at *
      generalize qs.getD k pr0 = y at *
      obtain ⟨s, z⟩ := x
      obtain ⟨t, u⟩ := y
      simp only at m1 m2 m3 m4 hway
      clear hcell q1 q3 hc1 hc3 hg1 hg3
      rcases hway with he | ⟨he | ⟨rfl, he⟩, hne⟩
      · obtain ⟨rfl, rfl⟩ := Prod.mk.inj he
        have b2 : (z == z) = true := by simp
        clear he
        go_wp2_with fail
        refine wp_region_lat (by kernel_rfl) (by kernel_rfl) ?_
        repeat (go_big_quiet_step (fail))
        refine wpQuiet_nil ?_; intro w6 hb
        clear m1 m2 m3 m4
        replace HC := Lib.hid (below_step HC.out hb)
        clear hb
        go_wp2_with fail
        go_roundw
        case rel => exact ⟨k + 1, by omega, by go_num, HC.out⟩
        case measure => simp [intOf]; omega
      · have HR := Lib.hid (HNE.out hne)
        clear hne
        go_wp2_with fail
        refine wp_region_lat (by kernel_rfl) (by kernel_rfl) ?_
        repeat (go_big_quiet_step (fail))
        refine wpQuiet_nil ?_; intro w6 hb
        clear m1 m2 m3 m4
        replace HC := Lib.hid (below_step HC.out hb)
        clear hb
        go_wp2_with fail
        go_ret
        exact ⟨retb HR.out.symm, below_step HB.out HC.out⟩
      · have HR := Lib.hid (HNE.out hne)
        clear hne
        go_wp2_with fail
        refine wp_region_lat (by kernel_rfl) (by kernel_rfl) ?_
        repeat (go_big_quiet_step (fail))
        refine wpQuiet_nil ?_; intro w6 hb
        clear m1 m2 m3 m4
        replace HC := Lib.hid (below_step HC.out hb)
        clear hb
        go_wp2_with fail
        go_ret
        exact ⟨retb HR.out.symm, below_step HB.out HC.out⟩
    · have hlt2 : ¬ (k : Int) < L := by omega
      have XC := Lib.hid (XA.out.below HC.out)
      have XD := Lib.hid (XB.out.below HC.out)
      replace HB := Lib.hid (below_step HB.out HC.out)
      cases d1
      · have HR : Hid (r = false) := Lib.hid (by rw [HRS.out]; rfl)
        have XC_0 := XC.out.at_ 0 _ rfl
        have XC_1 := XC.out.at_ 1 _ rfl
        have XD_0 := XD.out.at_ 0 _ rfl
        have XD_1 := XD.out.at_ 1 _ rfl
        go_wp2_with fail
        refine (CE1.out _ (HQ1.out.below HB.out) (HQ3.out.below HB.out)).mono ?_; rintro e w7 ⟨rfl, hb⟩
        clear XC_0 XC_1 XD_0 XD_1
        replace XC := Lib.hid (XC.out.below hb)
        replace XD := Lib.hid (XD.out.below hb)
        replace HB := Lib.hid (below_step HB.out hb)
        clear hb
        go_wp2_with fail
        go_ret
        exact ⟨retb HR.out.symm, HB.out⟩
      · have HR : Hid (r = d2) := Lib.hid (by rw [HRS.out]; rfl)
        have XC_0 := XC.out.at_ 0 _ rfl
        have XC_1 := XC.out.at_ 1 _ rfl
        have XD_0 := XD.out.at_ 0 _ rfl
        have XD_1 := XD.out.at_ 1 _ rfl
        go_wp2_with fail
        refine (CE1.out _ (HQ1.out.below HB.out) (HQ3.out.below HB.out)).mono ?_; rintro e w7 ⟨rfl, hb⟩
        clear XC_0 XC_1 XD_0 XD_1
        replace XC := Lib.hid (XC.out.below hb)
        replace XD := Lib.hid (XD.out.below hb)
        replace HB := Lib.hid (below_step HB.out hb)
        clear hb
        have XC_0 := XC.out.at_ 0 _ rfl
        have XC_1 := XC.out.at_ 1 _ rfl
        have XD_0 := XD.out.at_ 0 _ rfl
        have XD_1 := XD.out.at_ 1 _ rfl
        go_wp2_with fail
        refine (CE2.out _ (HQ2.out.below HB.out) (HQ4.out.below HB.out)).mono ?_; rintro e w8 ⟨rfl, hb⟩
        clear XC_0 XC_1 XD_0 XD_1
        replace XC := Lib.hid (XC.out.below hb)
        replace XD := Lib.hid (XD.out.below hb)
        replace HB := Lib.hid (below_step HB.out hb)
        clear hb
        go_wp2_with fail
        go_ret
        exact ⟨retb HR.out.symm, HB.out⟩
end

section
open Go.RowKit
set_option linter.unusedVariables false
set_option linter.unusedSimpArgs false

theorem list_eq_of {α : Type} {l m : List α} (d : α) (hl : l.length = m.length) (h : ∀ j, j < l.length → l.getD j d = m.getD j d) : l = m := by
  refine List.ext_getElem hl fun j h1 h2 => ?_
  have := h j h1
  rwa [List.getD_eq_getElem?_getD, List.getD_eq_getElem?_getD, List.getElem?_eq_getElem h1, List.getElem?_eq_getElem h2] at this

set_option maxRecDepth 100000 in
set_option maxHeartbeats 8000000 in
theorem refSame (w : World) (v1 v2 v3 v4 : Value) (ns : List ByteArray) (zs : List Int) (ms : List ByteArray) (ys : List Int) (h1 : SL w v1 ns) (h2 : IL w v2 zs) (h3 : SL w v3 ms) (h4 : IL w v4 ys)
    (n1 : ns.length ≤ 9223372036854775807) (n2 : zs.length ≤ 9223372036854775807) (n3 : ms.length ≤ 9223372036854775807) (n4 : ys.length ≤ 9223372036854775807) :
    Calls Tryd.prog 29 #[.agg #[v1, v2], .agg #[v3, v4]] w fun e w' => e = .returned (.bool (sameT ns zs ms ys)) ∧ Below w.heap.size w w' := by
  obtain ⟨A1, c1, rfl, _, hs1⟩ := h1
  obtain ⟨A2, c2, rfl, _, hs2⟩ := h2
  obtain ⟨A3, c3, rfl, _, hs3⟩ := h3
  obtain ⟨A4, c4, rfl, _, hs4⟩ := h4
  have HS1 := Lib.hid hs1
  have HS2 := Lib.hid hs2
  have HS3 := Lib.hid hs3
  have HS4 := Lib.hid hs4
  have HNo : Hid (¬ (ns = ms ∧ zs = ys) → sameT ns zs ms ys = false) := Lib.hid fun h => by
    unfold sameT
    by_cases e : ns = ms
    · rw [decide_eq_true e, decide_eq_false (fun e2 => h ⟨e, e2⟩)]; rfl
    · rw [decide_eq_false e]; rfl
  have HYes : Hid (ns = ms ∧ zs = ys → sameT ns zs ms ys = true) := Lib.hid fun h => by
    unfold sameT; rw [decide_eq_true h.1, decide_eq_true h.2]; rfl
  have HL1 : Hid (ns = ms → ns.length = ms.length) := Lib.hid fun h => by rw [h]
  have HL2 : Hid (zs = ys → zs.length = ys.length) := Lib.hid fun h => by rw [h]
  generalize sameT ns zs ms ys = r at *
  obtain ⟨N, hN⟩ : ∃ N, N = ns.length := ⟨_, rfl⟩
  obtain ⟨M, hM⟩ : ∃ M, M = zs.length := ⟨_, rfl⟩
  obtain ⟨N2, hN2⟩ : ∃ N2, N2 = ms.length := ⟨_, rfl⟩
  obtain ⟨M2, hM2⟩ : ∃ M2, M2 = ys.length := ⟨_, rfl⟩
  have KN := Lib.hid hN
  have KM := Lib.hid hM
  have KN2 := Lib.hid hN2
  have KM2 := Lib.hid hM2
  rw [← hN] at n1 HS1 HL1 ⊢
  rw [← hM] at n2 HS2 HL2 ⊢
  rw [← hN2] at n3 HS3 HL1 ⊢
  rw [← hM2] at n4 HS4 HL2 ⊢
  clear hN hM hN2 hM2 hs1 hs2 hs3 hs4
  by_cases e1 : N = N2
  case neg =>
    have HR := Lib.hid (HNo.out fun h => e1 (HL1.out h.1))
    have f1 : ((N : Int) != (N2 : Int)) = true := by
      have : ¬ (N : Int) = N2 := by omega
      simpa using this
    have f2 : (N == N2) = false := by simpa using e1
    have f3 : (N != N2) = true := by simpa using e1
    clear e1
    go_enter Tryd.func29, Tryd.ntmps29
    go_wp2_with fail
    go_ret
    exact ⟨retb HR.out.symm, below_step (below_alloc _ _) (below_alloc _ _)⟩
  subst e1
  have f1 : ((N : Int) != (N : Int)) = false := by simp
  have f1' : (N != N) = false := by simp
  by_cases e2 : M = M2
  case neg =>
    have HR := Lib.hid (HNo.out fun h => e2 (HL2.out h.2))
    have f2 : ((M : Int) != (M2 : Int)) = true := by
      have : ¬ (M : Int) = M2 := by omega
      simpa using this
    have f3 : (M == M2) = false := by simpa using e2
    have f4 : (M != M2) = true := by simpa using e2
    clear e2
    go_enter Tryd.func29, Tryd.ntmps29
    go_wp2_with fail
    go_ret
    exact ⟨retb HR.out.symm, below_step (below_alloc _ _) (below_alloc _ _)⟩
  subst e2
  have f2 : ((M : Int) != (M : Int)) = false := by simp
  have f2' : (M != M) = false := by simp
  go_enter Tryd.func29, Tryd.ntmps29
  go_wp2_with fail
  have XA := Lib.hid ((box_new (W := w) (g := w.heap.size) 28 #[.slice A1 N c1, .slice A2 M c2] (by simp)).below (below_alloc _ (.cells #[.slice A3 N c3, .slice A4 M c4] 28)))
  have XB := Lib.hid (box_new (W := (w.alloc (.cells #[.slice A1 N c1, .slice A2 M c2] 28))) (g := w.heap.size + 1) 28 #[.slice A3 N c3, .slice A4 M c4] (by simp))
  have HB := Lib.hid (below_step (below_alloc w (.cells #[.slice A1 N c1, .slice A2 M c2] 28)) (below_alloc (w.alloc (.cells #[.slice A1 N c1, .slice A2 M c2] 28)) (.cells #[.slice A3 N c3, .slice A4 M c4] 28)))
  generalize (w.alloc (.cells #[.slice A1 N c1, .slice A2 M c2] 28)).alloc (.cells #[.slice A3 N c3, .slice A4 M c4] 28) = w1 at *
  go_loopw [5] (fun i wr => ∃ k : Nat, k ≤ N ∧ i = .int .i64 k ∧ Hid (∀ j, j < k → ns.getD j ⟨#[]⟩ = ms.getD j ⟨#[]⟩) ∧ Box wr w.heap.size #[.slice A1 N c1, .slice A2 M c2] 28 ∧ Box wr (w.heap.size + 1) #[.slice A3 N c3, .slice A4 M c4] 28 ∧ Below w.heap.size w wr) (fun i _ => N - (intOf i).toNat)
  case atStart => exact ⟨0, Nat.zero_le _, rfl, Lib.hid (fun j h => by omega), XA.out, XB.out, HB.out⟩
  case round =>
    obtain ⟨k, hk, rfl, hd, hxa, hxb, hb⟩ := hrel
    clear XA XB HB
    have XA := Lib.hid hxa
    have XB := Lib.hid hxb
    have HB := Lib.hid hb
    clear hxa hxb hb
    by_cases hlt : k < N
    · have hlt2 : (k : Int) < N := by omega
      have hk0 : (0 : Int) ≤ (k : Int) := by omega
      obtain ⟨a1, rfl, hr1⟩ := HS1.out (by omega)
      obtain ⟨a3, rfl, hr3⟩ := HS3.out (by omega)
      have m1 : ∀ p : Lat wr, p.w.cell? (a1.add k) = some (.string (ns.getD k ⟨#[]⟩)) := fun p => (hr1.below (below_step HB.out p.h)).cells k (by rw [← KN.out]; exact hlt)
      have m3 : ∀ p : Lat wr, p.w.cell? (a3.add k) = some (.string (ms.getD k ⟨#[]⟩)) := fun p => (hr3.below (below_step HB.out p.h)).cells k (by rw [← KN2.out]; exact hlt)
      have HNE : Hid (ns.getD k ⟨#[]⟩ ≠ ms.getD k ⟨#[]⟩ → r = false) := Lib.hid fun h => HNo.out fun h2 => h (by rw [h2.1])
      have HST : Hid (ns.getD k ⟨#[]⟩ = ms.getD k ⟨#[]⟩ → ∀ j, j < k + 1 → ns.getD j ⟨#[]⟩ = ms.getD j ⟨#[]⟩) := Lib.hid fun h j hj => by
        by_cases e : j = k
        · rw [e]; exact h
        · exact hd.out j (by omega)
      have l0 := XA.out.lat 0 _ rfl
      have l1 := XB.out.lat 0 _ rfl
      generalize ns.getD k ⟨#[]⟩ = s at *
      generalize ms.getD k ⟨#[]⟩ = t at *
      clear hr1 hr3 hd
      by_cases he : s = t
      · have HD := Lib.hid (HST.out he)
        subst he
        clear HST
        have XA_0 := XA.out.at_ 0 _ rfl
        go_wp2_with fail
        clear XA_0
        refine wp_region_lat (by kernel_rfl) (by kernel_rfl) ?_
        repeat (go_big_quiet_step (fail))
        refine wpQuiet_nil ?_; intro w6 hb
        clear m1 m3 l0 l1
        replace XA := Lib.hid (XA.out.below hb)
        replace XB := Lib.hid (XB.out.below hb)
        replace HB := Lib.hid (below_step HB.out hb)
        clear hb
        go_wp2_with fail
        go_roundw
        case rel => exact ⟨k + 1, by omega, by go_num, HD, XA.out, XB.out, HB.out⟩
        case measure => simp [intOf]; omega
      · have HR := Lib.hid (HNE.out he)
        obtain ⟨e1, e2⟩ := str_ne he
        clear HST he
        have XA_0 := XA.out.at_ 0 _ rfl
        go_wp2_with fail
        clear XA_0
        refine wp_region_lat (by kernel_rfl) (by kernel_rfl) ?_
        repeat (go_big_quiet_step (fail))
        refine wpQuiet_nil ?_; intro w6 hb
        clear m1 m3 l0 l1
        replace XA := Lib.hid (XA.out.below hb)
        replace XB := Lib.hid (XB.out.below hb)
        replace HB := Lib.hid (below_step HB.out hb)
        clear hb
        go_wp2_with fail
        go_ret
        exact ⟨retb HR.out.symm, HB.out⟩
    · have hlt2 : ¬ (k : Int) < N := by omega
      have HNS : Hid (ns = ms) := Lib.hid (list_eq_of ⟨#[]⟩ (by rw [← KN.out, ← KN2.out]) fun j hj => hd.out j (by rw [← KN.out] at hj; omega))
      clear hd
      have XA_0 := XA.out.at_ 0 _ rfl
      go_wp2_with fail
      clear XA_0
      obtain ⟨wo, hwo⟩ : ∃ wo : World, wo = wr := ⟨_, rfl⟩
      subst hwo
      go_loopw [6] (fun i wr => ∃ q : Nat, q ≤ M ∧ i = .int .i64 q ∧ Hid (∀ j, j < q → zs.getD j 0 = ys.getD j 0) ∧ Box wr w.heap.size #[.slice A1 N c1, .slice A2 M c2] 28 ∧ Box wr (w.heap.size + 1) #[.slice A3 N c3, .slice A4 M c4] 28 ∧ Below w.heap.size w wr) (fun i _ => M - (intOf i).toNat)
      case atStart => exact ⟨0, Nat.zero_le _, rfl, Lib.hid (fun j h => by omega), XA.out, XB.out, HB.out⟩
      case round =>
        obtain ⟨q, hq, rfl, hd, hxa, hxb, hb⟩ := hrel
        clear XA XB HB
        have XA := Lib.hid hxa
        have XB := Lib.hid hxb
        have HB := Lib.hid hb
        clear hxa hxb hb
        by_cases hlq : q < M
        · have hlq2 : (q : Int) < M := by omega
          have hq0 : (0 : Int) ≤ (q : Int) := by omega
          obtain ⟨a2, rfl, hl2, hr2⟩ := HS2.out (by omega)
          obtain ⟨a4, rfl, hl4, hr4⟩ := HS4.out (by omega)
          have m2 : ∀ p : Lat wr, p.w.cell? (a2.add q) = some (.int .i64 (zs.getD q 0)) := fun p => by rw [(below_step HB.out p.h).cell (by rw [block_of_add]; exact hl2)]; exact hr2 q hlq
          have m4 : ∀ p : Lat wr, p.w.cell? (a4.add q) = some (.int .i64 (ys.getD q 0)) := fun p => by rw [(below_step HB.out p.h).cell (by rw [block_of_add]; exact hl4)]; exact hr4 q hlq
          have HNE : Hid (zs.getD q 0 ≠ ys.getD q 0 → r = false) := Lib.hid fun h => HNo.out fun h2 => h (by rw [h2.2])
          have HST : Hid (zs.getD q 0 = ys.getD q 0 → ∀ j, j < q + 1 → zs.getD j 0 = ys.getD j 0) := Lib.hid fun h j hj => by
            by_cases e : j = q
            · rw [e]; exact h
            · exact hd.out j (by omega)
          have l0 := XA.out.lat 1 _ rfl
          have l1 := XB.out.lat 1 _ rfl
          generalize zs.getD q 0 = s at *
          generalize ys.getD q 0 = t at *
          clear hr2 hr4 hl2 hl4 hd
          by_cases he : s = t
          · have HD := Lib.hid (HST.out he)
            subst he
            have f5 : (s != s) = false := by simp
            clear HST
            have XA_1 := XA.out.at_ 1 _ rfl
            go_wp2_with fail
            clear XA_1
            refine wp_region_lat (by kernel_rfl) (by kernel_rfl) ?_
            repeat (go_big_quiet_step (fail))
            refine wpQuiet_nil ?_; intro w6 hb
            clear m2 m4 l0 l1
            replace XA := Lib.hid (XA.out.below hb)
            replace XB := Lib.hid (XB.out.below hb)
            replace HB := Lib.hid (below_step HB.out hb)
            clear hb
            go_wp2_with fail
            go_roundw
            case rel => exact ⟨q + 1, by omega, by go_num, HD, XA.out, XB.out, HB.out⟩
            case measure => simp [intOf]; omega
          · have HR := Lib.hid (HNE.out he)
            have f5 : (s != t) = true := by simpa using he
            have f6 : (s == t) = false := by simpa using he
            clear HST he
            have XA_1 := XA.out.at_ 1 _ rfl
            go_wp2_with fail
            clear XA_1
            refine wp_region_lat (by kernel_rfl) (by kernel_rfl) ?_
            repeat (go_big_quiet_step (fail))
            refine wpQuiet_nil ?_; intro w6 hb
            clear m2 m4 l0 l1
            replace XA := Lib.hid (XA.out.below hb)
            replace XB := Lib.hid (XB.out.below hb)
            replace HB := Lib.hid (below_step HB.out hb)
            clear hb
            go_wp2_with fail
            go_ret
            exact ⟨retb HR.out.symm, HB.out⟩
        · have hlq2 : ¬ (q : Int) < M := by omega
          have HR := Lib.hid (HYes.out ⟨HNS.out, list_eq_of 0 (by rw [← KM.out, ← KM2.out]) fun j hj => hd.out j (by rw [← KM.out] at hj; omega)⟩)
          clear hd
          have XA_1 := XA.out.at_ 1 _ rfl
          go_wp2_with fail
          go_ret
          exact ⟨retb HR.out.symm, HB.out⟩

/-- At most 140 names of at most 40 bytes, and at most 140 values. -/
def Few (ns : List ByteArray) (zs : List Int) : Prop := ns.length ≤ 140 ∧ zs.length ≤ 140 ∧ ∀ s ∈ ns, s.size ≤ 40
instance (ns : List ByteArray) (zs : List Int) : Decidable (Few ns zs) := by unfold Few; infer_instance
end
end Go.Proofs.YtldafnjbgjagiaaDoor
