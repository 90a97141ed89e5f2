/-
  Contracts of board.duplicate and board.copied.
-/
import Derived.Test.YtldafnjbgjagiaaDoorBrdA
import Derived.Test.YtldafnjbgjagiaaDoorGenM
import Derived.Laws.MakeOwn
import Derived.Laws.CopyOwn
import Derived.Deep.CutBlock
namespace Go.Proofs.YtldafnjbgjagiaaDoor
open Go.RowKit
set_option linter.unusedVariables false
set_option linter.unusedSimpArgs false

theorem itxn : (Tryd.prog.info? 28).map (fun i => (i.zero, i.size, i.bytes)) = some (some (.agg #[.slice none 0 0, .slice none 0 0]), 2, 48) := by kernel_rfl
theorem iint2 : (Tryd.prog.info? 3).map (fun i => (i.zero, i.size, i.bytes)) = some (some (.int .i64 0), 1, 8) := by kernel_rfl
theorem allocTxn : AllocRun Tryd.prog 28 #[.slice none 0 0, .slice none 0 0] := fun o ho a w => by
  simp [execOp, ho, go_sem]
/-- The cells of a slice that is made. -/
theorem run_makeStrs (n c : Nat) (hnc : n ≤ c) (hc : c * 16 ≤ 281474976710656) (W : World) : (Instr.makeSlice 23 (.int .i64 (n : Int)) (.int .i64 (c : Int))).run Tryd.prog W = .ok (.slice (some ⟨W.heap.size, 0, none⟩) n c) (W.alloc (.cells (scells (List.replicate c ⟨#[]⟩)).toArray 9)) := by
  obtain ⟨i0, hi, hz0, hz1, hz2⟩ := info_parts istr
  have h := run_make (P := Tryd.prog) W 23 9 i0 (.string ⟨#[]⟩) Tryd.underlying23 hi hz0 .i64 .i64 n c (by omega) (by omega) (by rw [hz2]; omega) (by omega)
  have e : madeCells (Value.string ⟨#[]⟩).cells (c * 1) = (scells (List.replicate c ⟨#[]⟩)).toArray := by
    apply Array.ext
    · simp [madeCells, scells]
    · intro i h1 h2
      simp [madeCells, scells, Value.cells, Nat.mod_one]
  rw [hz1, Int.toNat_natCast, Int.toNat_natCast, e] at h
  exact h
theorem run_makeInts2 (n c : Nat) (hnc : n ≤ c) (hc : c * 8 ≤ 281474976710656) (W : World) : (Instr.makeSlice 26 (.int .i64 (n : Int)) (.int .i64 (c : Int))).run Tryd.prog W = .ok (.slice (some ⟨W.heap.size, 0, none⟩) n c) (W.alloc (.cells (icells (List.replicate c 0)).toArray 3)) := by
  obtain ⟨i0, hi, hz0, hz1, hz2⟩ := info_parts iint2
  have h := run_make (P := Tryd.prog) W 26 3 i0 (.int .i64 0) Tryd.underlying26 hi hz0 .i64 .i64 n c (by omega) (by omega) (by rw [hz2]; omega) (by omega)
  have e : madeCells (Value.int .i64 0).cells (c * 1) = (icells (List.replicate c 0)).toArray := by
    apply Array.ext
    · simp [madeCells, icells]
    · intro i h1 h2
      simp [madeCells, icells, Value.cells, Nat.mod_one]
  rw [hz1, Int.toNat_natCast, Int.toNat_natCast, e] at h
  exact h
theorem splice_all {α : Type} (l m : List α) (h : l.length = m.length) : splice l 0 m = m := by
  unfold splice
  rw [Nat.zero_add, List.drop_of_length_le (by omega)]; simp
/-- What is copied out of a slice of strings. -/
theorem SL.src {w : World} {v : Value} {l : List ByteArray} (h : SL w v l) : ∃ A c, v = .slice A l.length c ∧ (0 < (scells l).length → ∃ ad, A = some ad ∧ ∀ j u, (scells l)[j]? = some u → w.cell? (ad.add j) = some u) := by
  obtain ⟨A, c, rfl, _, h⟩ := h
  refine ⟨A, c, rfl, fun hl => ?_⟩
  obtain ⟨a, rfl, hr⟩ := h (by simpa [scells] using hl)
  refine ⟨a, rfl, fun j u hu => ?_⟩
  have hj : j < l.length := by have := (List.getElem?_eq_some_iff.1 hu).1; simpa [scells] using this
  rw [hr.cells j hj, ← hu, scells, List.getElem?_map, List.getD_eq_getElem?_getD, List.getElem?_eq_getElem hj]; rfl
theorem IL.src {w : World} {v : Value} {l : List Int} (h : IL w v l) : ∃ A c, v = .slice A l.length c ∧ (0 < (icells l).length → ∃ ad, A = some ad ∧ ∀ j u, (icells l)[j]? = some u → w.cell? (ad.add j) = some u) := by
  obtain ⟨A, c, rfl, _, h⟩ := h
  refine ⟨A, c, rfl, fun hl => ?_⟩
  obtain ⟨a, rfl, _, hr⟩ := h (by simpa [icells] using hl)
  refine ⟨a, rfl, fun j u hu => ?_⟩
  have hj : j < l.length := by have := (List.getElem?_eq_some_iff.1 hu).1; simpa [icells] using this
  rw [hr j hj, ← hu, icells, List.getElem?_map, List.getD_eq_getElem?_getD, List.getElem?_eq_getElem hj]; rfl
theorem scells_one (l : List ByteArray) : ∀ u ∈ scells l, u.oneCell' = true := fun u hu => by
  unfold scells at hu
  obtain ⟨s, _, rfl⟩ := List.mem_map.1 hu
  rfl
theorem icells_one (l : List Int) : ∀ u ∈ icells l, u.oneCell' = true := fun u hu => by
  unfold icells at hu
  obtain ⟨s, _, rfl⟩ := List.mem_map.1 hu
  rfl
theorem scells_len (l : List ByteArray) : (scells l).length = l.length := by simp [scells]
theorem icells_len (l : List Int) : (icells l).length = l.length := by simp [icells]
/-- A transaction in new memory. -/
def DUP (w : World) (t : Tx) (e : Ending) (w' : World) : Prop :=
  ∃ v1 v2, e = .returned (.agg #[v1, v2]) ∧ (w'.ownsRow w.heap.size 9 1 v1 t.1.length (scells t.1) ∧ w'.ownsRow w.heap.size 3 1 v2 t.2.length (icells t.2)) ∧ Below w.heap.size w w'

set_option maxRecDepth 100000 in
set_option maxHeartbeats 8000000 in
theorem brdDup (w : World) (v1 v2 : Value) (t : Tx) (h1 : SL w v1 t.1) (h2 : IL w v2 t.2) (n1 : t.1.length * 16 ≤ 281474976710656) (n2 : t.2.length * 8 ≤ 281474976710656) :
    Calls Tryd.prog 32 #[.agg #[v1, v2]] w (DUP w t) := by
  have HQ1 := Lib.hid h1
  have HQ2 := Lib.hid h2
  obtain ⟨ns, zs⟩ := t
  simp only at h1 h2 n1 n2 HQ1 HQ2
  obtain ⟨A1, c1, rfl, _⟩ := h1.src
  obtain ⟨A2, c2, rfl, _⟩ := h2.src
  have hs1 : ∀ W, Below w.heap.size w W → Hid (0 < (scells ns).length → ∃ ad, A1 = some ad ∧ ∀ j u, (scells ns)[j]? = some u → W.cell? (ad.add j) = some u) := fun W hW => Lib.hid (by
    obtain ⟨A, c, e, h⟩ := (HQ1.out.below hW).src
    simp only [Value.slice.injEq] at e
    rw [e.1]; exact h)
  have hs2 : ∀ W, Below w.heap.size w W → Hid (0 < (icells zs).length → ∃ ad, A2 = some ad ∧ ∀ j u, (icells zs)[j]? = some u → W.cell? (ad.add j) = some u) := fun W hW => Lib.hid (by
    obtain ⟨A, c, e, h⟩ := (HQ2.out.below hW).src
    simp only [Value.slice.injEq] at e
    rw [e.1]; exact h)
  have HS1 := Lib.hid hs1
  have HS2 := Lib.hid hs2
  obtain ⟨N, hN⟩ : ∃ N, N = ns.length := ⟨_, rfl⟩
  obtain ⟨M, hM⟩ : ∃ M, M = zs.length := ⟨_, rfl⟩
  have HN := Lib.hid hN
  have HMM := Lib.hid hM
  rw [← hN] at n1 ⊢
  rw [← hM] at n2 ⊢
  have MK1 := Lib.hid (run_makeStrs N N (Nat.le_refl _) n1)
  have MK2 := Lib.hid (run_makeInts2 M M (Nat.le_refl _) n2)
  clear hs1 hs2 hN hM h1 h2
  go_enter Tryd.func32, Tryd.ntmps32
  go_wp2_with fail
  have XA := Lib.hid ((box_new (W := w) (g := w.heap.size) 28 #[.slice A1 N c1, .slice A2 M c2] (by simp)).below (below_alloc _ (.cells #[.slice none 0 0, .slice none 0 0] 28)))
  have XR := Lib.hid (box_new (W := (w.alloc (.cells #[.slice A1 N c1, .slice A2 M c2] 28))) (g := w.heap.size + 1) 28 #[.slice none 0 0, .slice none 0 0] (by simp))
  have HB := Lib.hid (below_step (below_alloc w (.cells #[.slice A1 N c1, .slice A2 M c2] 28)) (below_alloc (w.alloc (.cells #[.slice A1 N c1, .slice A2 M c2] 28)) (.cells #[.slice none 0 0, .slice none 0 0] 28)))
  generalize (w.alloc (.cells #[.slice A1 N c1, .slice A2 M c2] 28)).alloc (.cells #[.slice none 0 0, .slice none 0 0] 28) = w1 at *
  obtain ⟨CS, hCS⟩ : ∃ CS, CS = scells (List.replicate N ⟨#[]⟩) := ⟨_, rfl⟩
  obtain ⟨CI, hCI⟩ : ∃ CI, CI = icells (List.replicate M 0) := ⟨_, rfl⟩
  have LS : Hid (CS.length = N) := Lib.hid (by rw [hCS, scells_len]; simp)
  have LI : Hid (CI.length = M) := Lib.hid (by rw [hCI, icells_len]; simp)
  rw [← hCS] at MK1
  rw [← hCI] at MK2
  clear hCS hCI
  refine wp_region_gen 10 (Kit.of [gMade 3 [] w1.heap.size N N CS.toArray 9, gMade 7 [] w1.heap.size M M CI.toArray 3, gBox 9 [] w1.heap.size #[.slice none 0 0, .slice none 0 0] 28]) (by kernel_rfl) (by kernel_rfl) (fun γ => by kernel_rfl) (by kernel_rfl) (Kit.of_stable ?_) (Kit.of_known ?_) ?_
  · intro z hz; simp only [List.mem_cons, List.not_mem_nil, or_false] at hz; rcases hz with rfl | rfl | rfl
    · apply gMade_st
    · apply gMade_st
    · apply gBox_st
  · intro z hz; simp only [List.mem_cons, List.not_mem_nil, or_false] at hz; rcases hz with rfl | rfl | rfl
    · apply gMade_kn
    · apply gMade_kn
    · apply gBox_kn
  intro γ hγ C hC hne
  obtain ⟨g3, e3⟩ : ∃ g, γ 3 = .slice (some ⟨g, 0, none⟩) N N := hγ 3 rfl
  obtain ⟨g7, e7⟩ : ∃ g, γ 7 = .slice (some ⟨g, 0, none⟩) M M := hγ 7 rfl
  obtain ⟨g9, e9⟩ : ∃ g, γ 9 = .pointer (some ⟨g, 0, none⟩) := hγ 9 rfl
  have l0 := XA.out.latC (C := C) 0 _ rfl
  have l1 := XA.out.latC (C := C) 1 _ rfl
  simp only [List.take_succ_cons, List.take_zero, List.drop_succ_cons, List.drop_zero]
  iterate 3 (refine wpF_quiet rfl ?_; go_big_quiet_step (fail); refine wpQuiet_nil ?_)
  refine wpF_fresh rfl (freshAt_made rfl (fun w => exec_make rfl rfl rfl (MK1.out w)) (fun w' g hg hx => ⟨g, rfl, hx, hg⟩)) ?_
  simp only [Nat.zero_add, Nat.reduceAdd, e3]
  go_simp
  iterate 3 (refine wpF_quiet rfl ?_; go_big_quiet_step (fail); refine wpQuiet_nil ?_)
  refine wpF_fresh rfl (freshAt_made rfl (fun w => exec_make rfl rfl rfl (MK2.out w)) (fun w' g hg hx => ⟨g, rfl, hx, hg⟩)) ?_
  simp only [Nat.zero_add, Nat.reduceAdd, e7]
  go_simp
  iterate 1 (refine wpF_quiet rfl ?_; go_big_quiet_step (fail); refine wpQuiet_nil ?_)
  refine wpF_fresh rfl (freshAt_alloc rfl rfl allocTxn (fun w' g hg hx => ⟨g, rfl, hx, hg⟩)) ?_
  simp only [Nat.zero_add, Nat.reduceAdd, e9]
  go_simp
  intro w2 hb hF
  obtain ⟨Y3, hg3⟩ := gmade_at e3 (hF 3 (by decide) rfl)
  obtain ⟨Y7, hg7⟩ := gmade_at e7 (hF 7 (by decide) rfl)
  obtain ⟨Y9, hg9⟩ := gbox_at e9 (hF 9 (by decide) rfl)
  have HX3 := Lib.hid Y3
  have HX7 := Lib.hid Y7
  have HX9 := Lib.hid Y9
  have HBIG := Lib.hid XR.out.lt
  have HAL := Lib.hid XA.out.lt
  clear l0 l1 hF hγ hC hne e3 e7 e9 Y3 Y7 Y9 MK1 MK2
  replace XA := Lib.hid (XA.out.below hb)
  replace XR := Lib.hid (XR.out.below hb)
  replace HB := Lib.hid (below_step HB.out hb)
  clear hb
  have hbig := HBIG.out
  have d37 := boxes_apart HX3.out HX7.out (by decide)
  have d39 := boxes_apart HX3.out HX9.out (by decide)
  have d79 := boxes_apart HX7.out HX9.out (by decide)
  have HX9' := Lib.hid ((HX9.out.set_ 0 (.slice (some ⟨g3, 0, none⟩) N N)).set_ 1 (.slice (some ⟨g7, 0, none⟩) M M))
  have XA' := Lib.hid ((XA.out.setNe (p := ⟨g9, 0, none⟩) (by show g9 ≠ _; first | omega | (exact boxes_apart HX9.out XA.out (by decide))) (.slice (some ⟨g3, 0, none⟩) N N)).setNe (p := ⟨g9, 1, none⟩) (by show g9 ≠ _; first | omega | (exact boxes_apart HX9.out XA.out (by decide))) (.slice (some ⟨g7, 0, none⟩) M M))
  have XR' := Lib.hid ((XR.out.setNe (p := ⟨g9, 0, none⟩) (by show g9 ≠ _; first | omega | (exact boxes_apart HX9.out XR.out (by decide))) (.slice (some ⟨g3, 0, none⟩) N N)).setNe (p := ⟨g9, 1, none⟩) (by show g9 ≠ _; first | omega | (exact boxes_apart HX9.out XR.out (by decide))) (.slice (some ⟨g7, 0, none⟩) M M))
  have HX3' := Lib.hid ((HX3.out.setNe (p := ⟨g9, 0, none⟩) (by show g9 ≠ _; first | omega | (exact boxes_apart HX9.out HX3.out (by decide))) (.slice (some ⟨g3, 0, none⟩) N N)).setNe (p := ⟨g9, 1, none⟩) (by show g9 ≠ _; first | omega | (exact boxes_apart HX9.out HX3.out (by decide))) (.slice (some ⟨g7, 0, none⟩) M M))
  have HX7' := Lib.hid ((HX7.out.setNe (p := ⟨g9, 0, none⟩) (by show g9 ≠ _; first | omega | (exact boxes_apart HX9.out HX7.out (by decide))) (.slice (some ⟨g3, 0, none⟩) N N)).setNe (p := ⟨g9, 1, none⟩) (by show g9 ≠ _; first | omega | (exact boxes_apart HX9.out HX7.out (by decide))) (.slice (some ⟨g7, 0, none⟩) M M))
  have HB' := Lib.hid ((HB.out.setCell (p := ⟨g9, 0, none⟩) (by show w.heap.size ≤ g9; omega) (.slice (some ⟨g3, 0, none⟩) N N)).setCell (p := ⟨g9, 1, none⟩) (by show w.heap.size ≤ g9; omega) (.slice (some ⟨g7, 0, none⟩) M M))
  have HX9_0 := HX9.out.at_ 0 _ rfl
  have HX9_1 := HX9.out.at_ 1 _ rfl
  have HX9_l := HX9.out.lt
  have HX9_z0 := HX9.out.frozen 0
  have HX9_z1 := HX9.out.frozen 1
  go_upto_region 2 with fail
  clear HX9_0 HX9_1 HX9_l HX9_z0 HX9_z1
  clear HB HX9 XA XR HX3 HX7
  generalize (w2.setCell ⟨g9, 0, none⟩ (.slice (some ⟨g3, 0, none⟩) N N)).setCell ⟨g9, 1, none⟩ (.slice (some ⟨g7, 0, none⟩) M M) = w3 at *
  have HX9 : Hid (Box w3 g9 #[.slice (some ⟨g3, 0, none⟩) N N, .slice (some ⟨g7, 0, none⟩) M M] 28) := HX9'
  have XA := XA'
  have XR := XR'
  have HX3 := HX3'
  have HX7 := HX7'
  have HB := HB'
  clear HB' HX9' XA' XR' HX3' HX7'
  have XA_0 := XA.out.at_ 0 _ rfl
  have HX9_0 := HX9.out.at_ 0 _ rfl
  have S1 := HS1.out w3 HB.out
  go_wp2_with (refine wpList_copy_box rfl _ _ 23 23 rfl 9 Tryd.underlying23 (by kernel_rfl) (some ⟨g3, 0, none⟩) A1 N N N c1 rfl rfl g3 0 CS 9 HX3.out (scells ns) ?c1 ?c2 ?c3 (scells_one ns) ?_)
  case c1 => rw [scells_len, HN.out]; exact (Nat.min_self _).symm
  case c2 => intro h; first | exact ⟨rfl, S1.out h⟩ | exact S1.out h
  case c3 => rw [scells_len, LS.out, HN.out]; omega
  intro w4 hY hg
  have HG := hg
  clear S1
  clear XA_0 HX9_0
  replace HX3 : Hid (Box w4 g3 (scells ns).toArray 9) := Lib.hid (by rw [splice_all _ _ (by rw [scells_len, LS.out, HN.out])] at hY; exact hY.out)
  replace XA := Lib.hid (box_grown XA.out HG.out (by omega))
  replace XR := Lib.hid (box_grown XR.out HG.out (by omega))
  replace HX7 := Lib.hid (box_grown HX7.out HG.out (Ne.symm d37))
  replace HX9 := Lib.hid (box_grown HX9.out HG.out (Ne.symm d39))
  replace HB := Lib.hid (below_grownG HB.out HB.out.size (by omega) HG.out)
  clear hY hg HG
  have XA_1 := XA.out.at_ 1 _ rfl
  have HX9_1 := HX9.out.at_ 1 _ rfl
  have S2 := HS2.out w4 HB.out
  go_wp2_with (refine wpList_copy_box rfl _ _ 26 26 rfl 3 Tryd.underlying26 (by kernel_rfl) (some ⟨g7, 0, none⟩) A2 M M M c2 rfl rfl g7 0 CI 3 HX7.out (icells zs) ?c1 ?c2 ?c3 (icells_one zs) ?_)
  case c1 => rw [icells_len, HMM.out]; exact (Nat.min_self _).symm
  case c2 => intro h; first | exact ⟨rfl, S2.out h⟩ | exact S2.out h
  case c3 => rw [icells_len, LI.out, HMM.out]; omega
  intro w5 hY hg
  have HG := hg
  clear S2
  clear XA_1 HX9_1
  replace HX7 : Hid (Box w5 g7 (icells zs).toArray 3) := Lib.hid (by rw [splice_all _ _ (by rw [icells_len, LI.out, HMM.out])] at hY; exact hY.out)
  replace XA := Lib.hid (box_grown XA.out HG.out (by omega))
  replace XR := Lib.hid (box_grown XR.out HG.out (by omega))
  replace HX3 := Lib.hid (box_grown HX3.out HG.out d37)
  replace HX9 := Lib.hid (box_grown HX9.out HG.out (Ne.symm d79))
  replace HB := Lib.hid (below_grownG HB.out HB.out.size (by omega) HG.out)
  clear hY hg HG
  have HX9_0 := HX9.out.at_ 0 _ rfl
  have HX9_1 := HX9.out.at_ 1 _ rfl
  have XR_0 := XR.out.at_ 0 _ rfl
  have XR_1 := XR.out.at_ 1 _ rfl
  have XR_l := XR.out.lt
  have XR_z0 := XR.out.frozen 0
  have XR_z1 := XR.out.frozen 1
  go_wp2_with fail
  refine bodyPost_ret (v := .agg #[.slice (some ⟨g3, 0, none⟩) N N, .slice (some ⟨g7, 0, none⟩) M M]) (by simp [results, Tryd.results32, go_sem, XR_0, XR_1, XR_l]) rfl ?_
  have h3 : g3 ≠ w.heap.size + 1 := by omega
  have h7 : g7 ≠ w.heap.size + 1 := by omega
  refine ⟨_, _, rfl, ⟨?_, ?_⟩, (HB.out.setCell (p := ⟨w.heap.size + 1, 0, none⟩) (Nat.le_succ _) _).setCell (p := ⟨w.heap.size + 1, 1, none⟩) (Nat.le_succ _) _⟩
  · have := own_of_box (B := w.heap.size) ((HX3.out.setNe (p := ⟨w.heap.size + 1, 0, none⟩) (Ne.symm h3) (.slice (some ⟨g3, 0, none⟩) N N)).setNe (p := ⟨w.heap.size + 1, 1, none⟩) (Ne.symm h3) (.slice (some ⟨g7, 0, none⟩) M M)) (by omega) (by rw [scells_len, ← HN.out]; unfold maxLen; omega)
    rw [scells_len] at this
    rw [HN.out] at this ⊢
    exact this
  · have := own_of_box (B := w.heap.size) ((HX7.out.setNe (p := ⟨w.heap.size + 1, 0, none⟩) (Ne.symm h7) (.slice (some ⟨g3, 0, none⟩) N N)).setNe (p := ⟨w.heap.size + 1, 1, none⟩) (Ne.symm h7) (.slice (some ⟨g7, 0, none⟩) M M)) (by omega) (by rw [icells_len, ← HMM.out]; unfold maxLen; omega)
    rw [icells_len] at this
    rw [HMM.out] at this ⊢
    exact this

/-! A board stored as a whole. -/
def set5 (w : World) (g : Nat) (a0 a1 a2 a3 a4 : Value) : World := ((((w.setCell ⟨g, 0, none⟩ a0).setCell ⟨g, 1, none⟩ a1).setCell ⟨g, 2, none⟩ a2).setCell ⟨g, 3, none⟩ a3).setCell ⟨g, 4, none⟩ a4
theorem set5_below {w w' : World} {b0 g : Nat} (a0 a1 a2 a3 a4 : Value) (h : Below b0 w w') (hg : b0 ≤ g) : Below b0 w (set5 w' g a0 a1 a2 a3 a4) :=
  ((((h.setCell (p := ⟨g, 0, none⟩) hg a0).setCell (p := ⟨g, 1, none⟩) hg a1).setCell (p := ⟨g, 2, none⟩) hg a2).setCell (p := ⟨g, 3, none⟩) hg a3).setCell (p := ⟨g, 4, none⟩) hg a4
theorem set5_kept {X : Nat → Prop} {w w' : World} {g : Nat} (a0 a1 a2 a3 a4 : Value) (h : Kept X w w') (hg : X g ∨ w.heap.size ≤ g) : Kept X w (set5 w' g a0 a1 a2 a3 a4) :=
  ((((h.set (p := ⟨g, 0, none⟩) hg a0).set (p := ⟨g, 1, none⟩) hg a1).set (p := ⟨g, 2, none⟩) hg a2).set (p := ⟨g, 3, none⟩) hg a3).set (p := ⟨g, 4, none⟩) hg a4
theorem set5_box {w : World} {g g' : Nat} {cs : Array Value} {T : TypeId} (a0 a1 a2 a3 a4 : Value) (h : Box w g' cs T) (hne : g ≠ g') : Box (set5 w g a0 a1 a2 a3 a4) g' cs T :=
  ((((h.setNe (p := ⟨g, 0, none⟩) hne a0).setNe (p := ⟨g, 1, none⟩) hne a1).setNe (p := ⟨g, 2, none⟩) hne a2).setNe (p := ⟨g, 3, none⟩) hne a3).setNe (p := ⟨g, 4, none⟩) hne a4

theorem OG.set5 {α : Type} {φ : Rd α} {w : World} {B C g : Nat} {T T' : TypeId} {v : Value} {xs : List α} {cs : Array Value} (h : OG φ w B C T v xs) (hx : Box w g cs T') (hT' : T' ∉ φ.ts) (hC : C ≤ g) (hne : T' ≠ T) (a0 a1 a2 a3 a4 : Value) : OG φ (set5 w g a0 a1 a2 a3 a4) B C T v xs := by
  have hk := set5_kept a0 a1 a2 a3 a4 (Kept.refl (fun b => b = g) w) (g := g) (.inl rfl)
  refine h.keepBut hk.1 _ ?_ hk.2
  rintro b rfl
  exact ⟨cs, T', hx, hT', hC, hne⟩

theorem OG.lit0 {α : Type} {φ : Rd α} (w : World) {B C : Nat} {T : TypeId} (hT : T ∉ φ.ts) (hC : C ≤ B) (hB : B ≤ w.heap.size) : OG φ (w.alloc (.cells #[] T)) B C T (.slice (some ⟨w.heap.size, 0, none⟩) 0 0) [] :=
  ⟨⟨hT, hC⟩, [], rfl, World.ownsRow_lit w #[] 0 hB (by unfold maxLen; omega) (by simp), fun j x h => by simp at h⟩

/-! board.copied -/
theorem own_of_box2 {w : World} {B g n c : Nat} {T : TypeId} {cur xs : List Value} (h : Box w g cur.toArray T) (hB : B ≤ g) (hl : cur.length = c) (hn : n ≤ c) (hm : c ≤ maxLen) (hx : cur.take n = xs) : w.ownsRow B T 1 (.slice (some ⟨g, 0, none⟩) n c) n xs := by
  subst hl
  subst hx
  exact ⟨by simp; omega, .inr ⟨g, _, cur.toArray, rfl, hB, h, hn, hm, by simp, by simp⟩⟩
/-- A fresh transaction. -/
def gTx (j : Nat) (D : List Nat) (B : Nat) (t : Tx) : FOp := ⟨j, D, fun v => ∃ A1 c1 A2 c2, v = .agg #[.slice A1 t.1.length c1, .slice A2 t.2.length c2], fun v w => ∃ v1 v2, v = .agg #[v1, v2] ∧ txR.R w [v1, v2] t (Ty w B txR.ts)⟩
theorem gTx_st (j : Nat) (D : List Nat) (B : Nat) (t : Tx) : ∀ u w w', (gTx j D B t).Φ u w → Below w.heap.size w w' → (gTx j D B t).Φ u w' := fun u w w' ⟨v1, v2, e, h⟩ hb => ⟨v1, v2, e, rd_move h hb.size fun b hl _ => hb.block b hl⟩
theorem gTx_kn (j : Nat) (D : List Nat) (B : Nat) (t : Tx) : (∀ u w, (gTx j D B t).Φ u w → (gTx j D B t).S u) ∧ ∃ u, (gTx j D B t).S u := ⟨fun u w ⟨v1, v2, e, h⟩ => by
  obtain ⟨u1, u2, h0, h1, h2, _⟩ := h
  obtain ⟨rfl, rfl⟩ : v1 = u1 ∧ v2 = u2 := by simpa using h0
  obtain ⟨A1, c1, e1, _⟩ := h1
  obtain ⟨A2, c2, e2, _⟩ := h2
  exact ⟨A1, c1, A2, c2, by rw [e, e1, e2]⟩, .agg #[.slice none _ 0, .slice none _ 0], none, 0, none, 0, rfl⟩
theorem dup_rd {w w' : World} {B : Nat} {t : Tx} {v1 v2 : Value} (h : w'.ownsRow w.heap.size 9 1 v1 t.1.length (scells t.1) ∧ w'.ownsRow w.heap.size 3 1 v2 t.2.length (icells t.2)) : txR.R w' [v1, v2] t (Ty w' B txR.ts) :=
  ⟨v1, v2, rfl, SL.of_own h.1, IL.of_own h.2, fun _ b hb => Ty.own h.1 (by simp [txR]) b hb, fun _ b hb => Ty.own h.2 (by simp [txR]) b hb⟩
theorem gtx_at {w : World} {v x y : Value} {t : Tx} {F : Nat → Prop} (e : v = .agg #[x, y]) (h : ∃ v1 v2, v = .agg #[v1, v2] ∧ txR.R w [v1, v2] t F) : txR.R w [x, y] t F := by
  obtain ⟨v1, v2, e', h⟩ := h
  rw [e] at e'
  simp at e'
  rw [e'.1, e'.2]; exact h
/-- What may be copied. -/
def TF (t : Tx) : Prop := t.1.length * 16 ≤ 281474976710656 ∧ t.2.length * 8 ≤ 281474976710656
/-- The boards' blocks of a world. -/
def BX (w : World) (C b : Nat) : Prop := C ≤ b ∧ ∃ cs, Box w b cs 25
theorem OG.bx {α : Type} {φ : Rd α} {w w' : World} {B C : Nat} {T : TypeId} {v : Value} {xs : List α} (h : OG φ w B C T v xs) (hk : Kept (BX w C) w w') (hT : 25 ∉ φ.ts) (hne : 25 ≠ T) : OG φ w' B C T v xs :=
  h.keepBut hk.1 _ (fun b ⟨hC, cs, hb⟩ => ⟨cs, _, hb, hT, hC, hne⟩) hk.2
/-- A board in new memory: the row of texts was made behind all that the transactions lean on. -/
def CPY (w : World) (b : Bd) (i : Int) (e : Ending) (w' : World) : Prop :=
  ∃ wv gv wm, e = .returned (.agg #[.bool b.ord, .string b.key, wv, .int .i64 b.mat, gv]) ∧ (OG txR wm w.heap.size 0 28 wv (cutI b.want i) ∧ Below w.heap.size w wm ∧ Kept (BX wm 0) wm w' ∧ w'.ownsRow wm.heap.size 9 1 gv b.wrg.length (scells b.wrg)) ∧ Below w.heap.size w w'

set_option maxRecDepth 100000 in
set_option maxHeartbeats 8000000 in
theorem brdCopied (w : World) (b : Bd) (wv gv : Value) (i : Int) (h1 : Rs txR w wv b.want anyB) (h2 : SL w gv b.wrg) (n1 : b.want.length * 48 ≤ 140737488355328) (n2 : (b.wrg.length + 1) * 16 ≤ 281474976710656) (hz : ∀ t ∈ b.want, TF t) (hi : I64 i) :
    Calls Tryd.prog 31 #[.agg #[.bool b.ord, .string b.key, wv, .int .i64 b.mat, gv], .int .i64 i] w (CPY w b i) := by
  obtain ⟨i0, hi0, hz0, hz1, hz2⟩ := info_parts itxn
  have HI := Lib.hid hi0
  have HZ0 := Lib.hid hz0
  have HZ1 := Lib.hid hz1
  have HZ2 := Lib.hid hz2
  have HQ2 := Lib.hid h2
  obtain ⟨A1, c1, rfl, hc1, htx⟩ := h1.txs
  obtain ⟨A2, c2, rfl, _⟩ := h2.src
  have HX := Lib.hid htx
  have HZ := Lib.hid hz
  have hs2 : ∀ W, Below w.heap.size w W → Hid (0 < (scells b.wrg).length → ∃ ad, A2 = some ad ∧ ∀ j u, (scells b.wrg)[j]? = some u → W.cell? (ad.add j) = some u) := fun W hW => Lib.hid (by
    obtain ⟨A, c, e, h⟩ := (HQ2.out.below hW).src
    simp only [Value.slice.injEq] at e
    rw [e.1]; exact h)
  have HS2 := Lib.hid hs2
  obtain ⟨ord, key, want, mat, wrg⟩ := b
  simp only at *
  obtain ⟨N, hN⟩ : ∃ N, N = want.length := ⟨_, rfl⟩
  obtain ⟨G, hG⟩ : ∃ G, G = wrg.length := ⟨_, rfl⟩
  have HN := Lib.hid hN
  have HGL := Lib.hid hG
  rw [← hN] at n1 hc1 ⊢
  rw [← hG] at n2 ⊢
  have MK := Lib.hid (run_makeStrs G (G + 1) (Nat.le_succ _) n2)
  have HCI := Lib.hid (fun k hk => cutI_step want i k tx0 hk)
  have HC0 := Lib.hid (cutI_zero want i)
  clear hs2 hN hG h1 h2 hi0 hz0 hz1 hz2 htx hz
  go_enter Tryd.func31, Tryd.ntmps31
  go_upto_region 2 with fail
  have XA := Lib.hid (((box_new (W := w) (g := w.heap.size) 25 #[.bool ord, .string key, .slice A1 N c1, .int .i64 mat, .slice A2 G c2] (by simp)).below (below_alloc _ (.cells #[.bool false, .string ⟨#[]⟩, .slice none 0 0, .int .i64 0, .slice none 0 0] 25))).below (below_alloc _ (.cells #[.bool ord, .string key, .slice A1 N c1, .int .i64 mat, .slice A2 G c2] 25)))
  have XR := Lib.hid ((box_new (W := (w.alloc (.cells #[.bool ord, .string key, .slice A1 N c1, .int .i64 mat, .slice A2 G c2] 25))) (g := w.heap.size + 1) 25 #[.bool false, .string ⟨#[]⟩, .slice none 0 0, .int .i64 0, .slice none 0 0] (by simp)).below (below_alloc _ (.cells #[.bool ord, .string key, .slice A1 N c1, .int .i64 mat, .slice A2 G c2] 25)))
  have XO := Lib.hid (box_new (W := ((w.alloc (.cells #[.bool ord, .string key, .slice A1 N c1, .int .i64 mat, .slice A2 G c2] 25)).alloc (.cells #[.bool false, .string ⟨#[]⟩, .slice none 0 0, .int .i64 0, .slice none 0 0] 25))) (g := w.heap.size + 1 + 1) 25 #[.bool ord, .string key, .slice A1 N c1, .int .i64 mat, .slice A2 G c2] (by simp))
  have HB := Lib.hid (below_step (below_step (below_alloc w (.cells #[.bool ord, .string key, .slice A1 N c1, .int .i64 mat, .slice A2 G c2] 25)) (below_alloc (w.alloc (.cells #[.bool ord, .string key, .slice A1 N c1, .int .i64 mat, .slice A2 G c2] 25)) (.cells #[.bool false, .string ⟨#[]⟩, .slice none 0 0, .int .i64 0, .slice none 0 0] 25))) (below_alloc ((w.alloc (.cells #[.bool ord, .string key, .slice A1 N c1, .int .i64 mat, .slice A2 G c2] 25)).alloc (.cells #[.bool false, .string ⟨#[]⟩, .slice none 0 0, .int .i64 0, .slice none 0 0] 25)) (.cells #[.bool ord, .string key, .slice A1 N c1, .int .i64 mat, .slice A2 G c2] 25)))
  generalize ((w.alloc (.cells #[.bool ord, .string key, .slice A1 N c1, .int .i64 mat, .slice A2 G c2] 25)).alloc (.cells #[.bool false, .string ⟨#[]⟩, .slice none 0 0, .int .i64 0, .slice none 0 0] 25)).alloc (.cells #[.bool ord, .string key, .slice A1 N c1, .int .i64 mat, .slice A2 G c2] 25) = w1 at *
  have XO' := Lib.hid (XO.out.set_ 2 (.slice none 0 0))
  have XA' := Lib.hid (XA.out.setNe (p := ⟨(w.heap.size + 1 + 1), 2, none⟩) (by show (w.heap.size + 1 + 1) ≠ _; first | omega | (exact boxes_apart XO.out XA.out (by decide))) (.slice none 0 0))
  have XR' := Lib.hid (XR.out.setNe (p := ⟨(w.heap.size + 1 + 1), 2, none⟩) (by show (w.heap.size + 1 + 1) ≠ _; first | omega | (exact boxes_apart XO.out XR.out (by decide))) (.slice none 0 0))
  have HB' := Lib.hid (HB.out.setCell (p := ⟨(w.heap.size + 1 + 1), 2, none⟩) (by show w.heap.size ≤ (w.heap.size + 1 + 1); omega) (.slice none 0 0))
  have XO_2 := XO.out.at_ 2 _ rfl
  have XO_l := XO.out.lt
  have XO_z2 := XO.out.frozen 2
  go_upto_region 3 with fail
  clear XO_2 XO_l XO_z2
  clear HB XO XA XR
  generalize w1.setCell ⟨(w.heap.size + 1 + 1), 2, none⟩ (.slice none 0 0) = w2 at *
  have XO : Hid (Box w2 (w.heap.size + 1 + 1) #[.bool ord, .string key, .slice none 0 0, .int .i64 mat, .slice A2 G c2] 25) := XO'
  have XA := XA'
  have XR := XR'
  have HB := HB'
  clear HB' XO' XA' XR'
  have XA_2 := XA.out.at_ 2 _ rfl
  go_wp2_with fail
  clear XA_2
  go_loopw [6, 13] (fun _ j wr => ∃ (k : Nat) (ov : Value), k ≤ N ∧ j = .int .i64 k ∧ OG txR wr w.heap.size 0 28 ov (cutI (want.take k) i) ∧ Box wr w.heap.size #[.bool ord, .string key, .slice A1 N c1, .int .i64 mat, .slice A2 G c2] 25 ∧ Box wr (w.heap.size + 1) #[.bool false, .string ⟨#[]⟩, .slice none 0 0, .int .i64 0, .slice none 0 0] 25 ∧ Box wr (w.heap.size + 1 + 1) #[.bool ord, .string key, ov, .int .i64 mat, .slice A2 G c2] 25 ∧ Below w.heap.size w wr) (fun _ j _ => N - (intOf j).toNat)
  case atStart =>
    refine ⟨0, _, Nat.zero_le _, rfl, ?_, XA.out, XR.out, XO.out, HB.out⟩
    rw [HC0.out]; exact OG.nil _ _ _ _ _ (by decide) (Nat.zero_le _)
  case round =>
    clear XA XR XO HB
    obtain ⟨k, ov, hk, rfl, hog, hxa, hxr, hxo, hb⟩ := hrel
    have HOG := Lib.hid hog
    have XA := Lib.hid hxa
    have XR := Lib.hid hxr
    have XO := Lib.hid hxo
    have HB := Lib.hid hb
    clear hog hxa hxr hxo hb
    by_cases hlt : k < N
    · have hlt2 : (k : Int) < N := by omega
      have hk0 : (0 : Int) ≤ (k : Int) := by omega
      have hkn : k < want.length := by rw [← HN.out]; exact hlt
      obtain ⟨b, o, u1, u2, rfl, hbl, q1, q2, s1, s2, _⟩ := HX.out k hkn
      rw [← HB.out.cell (p := ⟨b, o + k * 2, none⟩) hbl] at q1
      rw [← HB.out.cell (p := ⟨b, o + k * 2 + 1, none⟩) hbl] at q2
      have HS := HCI.out k hkn
      have hmem := getD_mem tx0 hkn
      have HZT := Lib.hid (HZ.out _ hmem)
      have CD := Lib.hid (fun W (hW : Below w.heap.size w W) => brdDup W u1 u2 (want.getD k tx0) (s1.below hW) (s2.below hW) HZT.out.1 HZT.out.2)
      generalize want.getD k tx0 = t at *
      obtain ⟨B1, d1, rfl, _⟩ := id s1
      obtain ⟨B2, d2, rfl, _⟩ := id s2
      obtain ⟨n1, hn1⟩ : ∃ n, n = t.1.length := ⟨_, rfl⟩
      obtain ⟨n2, hn2⟩ : ∃ n, n = t.2.length := ⟨_, rfl⟩
      rw [← hn1] at q1 CD
      rw [← hn2] at q2 CD
      have K1 := Lib.hid hn1
      have K2 := Lib.hid hn2
      clear hn1 hn2
      have hlen : (cutI (want.take k) i).length ≤ k := Nat.le_trans (cutI_len _ _) (List.length_take_le _ _)
      have HL := Lib.hid hlen
      by_cases hki : (k : Int) = i
      · have HST := Lib.hid HS
        rw [if_pos hki] at HST
        have f1 : ((k : Int) != i) = false := by simpa using hki
        clear HS hmem CD s1 s2 hbl hkn hki hlen
        go_wp2_with fail
        go_roundw
        case rel =>
          have hb := below_alloc wr (.cells #[.slice B1 n1 d1, .slice B2 n2 d2] 28)
          refine ⟨k + 1, ov, by omega, by go_num, ?_, XA.out.below hb, XR.out.below hb, XO.out.below hb, below_step HB.out hb⟩
          rw [HST.out]; exact HOG.out.below hb
        case measure => simp [intOf]; omega
      · have HST := Lib.hid HS
        rw [if_neg hki] at HST
        have f1 : ((k : Int) != i) = true := by simpa using hki
        obtain ⟨OA, oc, rfl⟩ := HOG.out.slice
        have HKN := Lib.hid hlen
        clear HS hmem s1 s2 hbl hkn hki hlen
        generalize cutI (want.take k) i = ls at *
        obtain ⟨L, hL⟩ : ∃ L, L = ls.length := ⟨_, rfl⟩
        have HLL := Lib.hid hL
        rw [← hL] at HOG XO HKN
        clear hL HL
        go_wp2_with fail
        replace HOG := Lib.hid (HOG.out.below (below_alloc wr (.cells #[.slice B1 n1 d1, .slice B2 n2 d2] 28)))
        have XP := Lib.hid (box_new (W := wr) (g := wr.heap.size) 28 #[.slice B1 n1 d1, .slice B2 n2 d2] (by simp))
        have hba := (below_alloc wr (.cells #[.slice B1 n1 d1, .slice B2 n2 d2] 28))
        replace XA := Lib.hid (XA.out.below hba)
        replace XR := Lib.hid (XR.out.below hba)
        replace XO := Lib.hid (XO.out.below hba)
        replace HB := Lib.hid (below_step HB.out hba)
        clear hba
        generalize wr.alloc (.cells #[.slice B1 n1 d1, .slice B2 n2 d2] 28) = w3 at *
        have HB3 := HB
        refine wp_region_gen 5 (Kit.of [gTx 3 [] 0 t, gRs 4 [3] txR [t] 0]) (by kernel_rfl) (by kernel_rfl) (fun γ => by kernel_rfl) (by kernel_rfl) (Kit.of_stable ?_) (Kit.of_known ?_) ?_
        · intro z hz; simp only [List.mem_cons, List.not_mem_nil, or_false] at hz; rcases hz with rfl | rfl
          · apply gTx_st
          · apply gRs_st
        · intro z hz; simp only [List.mem_cons, List.not_mem_nil, or_false] at hz; rcases hz with rfl | rfl
          · apply gTx_kn
          · apply gRs_kn
        intro γ hγ C hC hne
        obtain ⟨P1, p1, P2, p2, e3⟩ : ∃ A1 c1 A2 c2, γ 3 = .agg #[.slice A1 t.1.length c1, .slice A2 t.2.length c2] := hγ 3 rfl
        obtain ⟨A4, c4, e4⟩ : ∃ A c, γ 4 = .slice A 1 c := hγ 4 rfl
        have l0 := XO.out.latC (C := C) 2 _ rfl
        have l1 := XP.out.latC (C := C) 0 _ rfl
        have l2 := XP.out.latC (C := C) 1 _ rfl
        simp only [List.take_succ_cons, List.take_zero, List.drop_succ_cons, List.drop_zero]
        iterate 3 (refine wpF_quiet rfl ?_; go_big_quiet_step (fail); refine wpQuiet_nil ?_)
        refine wpF_fresh rfl (freshAt_call (args := #[.agg #[.slice B1 n1 d1, .slice B2 n2 d2]]) rfl _ _ _ (run_go Tryd.func32 (by kernel_rfl) (by kernel_rfl)) rfl (by simp [Act.eval]) (fun w' hb hf => (CD.out w' (below_step HB3.out hb)).mono fun e w2 ⟨v1, v2, he, h, hb⟩ => ⟨_, he, ⟨v1, v2, rfl, dup_rd h⟩, hb⟩)) ?_
        simp only [Nat.zero_add, Nat.reduceAdd, e3]
        go_simp
        refine wpF_fresh rfl (freshAt_one (φ := txR) (x := t) (B := 0) (T := 28) (us := #[.slice P1 t.1.length p1, .slice P2 t.2.length p2]) rfl (fun w => by kernel_rfl) (fun w' hb hf => gtx_at e3 (hf 3 (show 3 ∈ [3] by decide))) (fun v w h => h)) ?_
        simp only [Nat.zero_add, Nat.reduceAdd, e4]
        go_simp
        intro w5 hb hF
        have R4 : Rs txR w5 (γ 4) [t] (Ty w5 0 txR.ts) := hF 4 (by decide) rfl
        rw [e4] at R4
        have HR4 := Lib.hid R4
        replace HOG := Lib.hid (HOG.out.below hb)
        clear l0 l1 l2 hF hγ hC hne e3 e4 R4 HB3 XP q1 q2 CD
        replace XA := Lib.hid (XA.out.below hb)
        replace XR := Lib.hid (XR.out.below hb)
        replace XO := Lib.hid (XO.out.below hb)
        replace HB := Lib.hid (below_step HB.out hb)
        clear hb
        go_wp2_with (at_builtin; refine wpList_append_og (φ := txR) (T := 28) (B := w.heap.size) (C := 0) (xs := ls) (ys := [t]) rfl _ _ 22 rfl i0 (.agg #[.slice none 0 0, .slice none 0 0]) 48 Tryd.underlying22 HI.out HZ0.out HZ1.out HZ2.out rfl rfl HOG.out (.slice A4 1 c4) rfl HR4.out ?c1 ?c2 ?c3 ?_)
        case c1 => simp only [List.length_cons, List.length_nil]; rw [← HLL.out]; have := HKN.out; omega
        case c2 => simp only [List.length_cons, List.length_nil]; rw [← HLL.out]; have := HKN.out; unfold maxLen; omega
        case c3 => exact HB.out.size
        intro v' w7 hog7 hg7
        replace XA := Lib.hid (HOG.out.boxKept hg7.out XA.out (.inl (by decide)))
        replace XR := Lib.hid (HOG.out.boxKept hg7.out XR.out (.inl (by decide)))
        replace XO := Lib.hid (HOG.out.boxKept hg7.out XO.out (.inl (by decide)))
        replace HB := Lib.hid (HOG.out.belowG hg7.out HB.out HB.out.size (Nat.le_refl _))
        obtain ⟨A7, c7, hv'⟩ := hog7.out.slice
        rw [show (ls ++ [t]).length = L + 1 by rw [List.length_append, HLL.out]; rfl] at hv'
        subst hv'
        clear HOG hg7 HR4
        have HOG := hog7
        clear hog7
        have XO' := Lib.hid (XO.out.set_ 2 (.slice A7 (L + 1) c7))
        have XA' := Lib.hid (XA.out.setNe (p := ⟨(w.heap.size + 1 + 1), 2, none⟩) (by show (w.heap.size + 1 + 1) ≠ _; first | omega | (exact boxes_apart XO.out XA.out (by decide))) (.slice A7 (L + 1) c7))
        have XR' := Lib.hid (XR.out.setNe (p := ⟨(w.heap.size + 1 + 1), 2, none⟩) (by show (w.heap.size + 1 + 1) ≠ _; first | omega | (exact boxes_apart XO.out XR.out (by decide))) (.slice A7 (L + 1) c7))
        have HOG' := Lib.hid (HOG.out.setBox XO.out (by decide) (by omega) (by decide) 2 (.slice A7 (L + 1) c7))
        have HB' := Lib.hid (HB.out.setCell (p := ⟨(w.heap.size + 1 + 1), 2, none⟩) (by show w.heap.size ≤ (w.heap.size + 1 + 1); omega) (.slice A7 (L + 1) c7))
        have XO_2 := XO.out.at_ 2 _ rfl
        have XO_l := XO.out.lt
        have XO_z2 := XO.out.frozen 2
        go_upto_region 8 with fail
        clear XO_2 XO_l XO_z2
        clear HB XO XA XR HOG
        generalize w7.setCell ⟨(w.heap.size + 1 + 1), 2, none⟩ (.slice A7 (L + 1) c7) = w8 at *
        have XO : Hid (Box w8 (w.heap.size + 1 + 1) #[.bool ord, .string key, .slice A7 (L + 1) c7, .int .i64 mat, .slice A2 G c2] 25) := XO'
        have XA := XA'
        have XR := XR'
        have HOG := HOG'
        have HB := HB'
        clear HB' XO' XA' XR' HOG'
        go_wp2_with fail
        go_roundw
        case rel =>
          refine ⟨k + 1, _, by omega, by go_num, ?_, XA.out, XR.out, XO.out, HB.out⟩
          rw [HST.out]; exact HOG.out
        case measure => simp [intOf]; omega
    · have hlt2 : ¬ (k : Int) < N := by omega
      have hkN : k = N := by omega
      have HOG2 : Hid (OG txR wr w.heap.size 0 28 ov (cutI want i)) := Lib.hid (by
        have := HOG.out
        rwa [hkN, HN.out, List.take_length] at this)
      obtain ⟨OA, oc, rfl⟩ := HOG.out.slice
      obtain ⟨L, hL⟩ : ∃ L, L = (cutI (want.take k) i).length := ⟨_, rfl⟩
      rw [← hL] at HOG2 XO
      clear hkN HOG HX HZ hL
      obtain ⟨CS, hCS⟩ : ∃ CS, CS = scells (List.replicate (G + 1) ⟨#[]⟩) := ⟨_, rfl⟩
      have LS : Hid (CS.length = G + 1) := Lib.hid (by rw [hCS, scells_len]; simp)
      rw [← hCS] at MK
      clear hCS
      obtain ⟨wm, hwm⟩ : ∃ wm, wm = wr.alloc (.cells CS.toArray 9) := ⟨_, rfl⟩
      have mk := MK.out wr
      push_cast at mk
      rw [← hwm] at mk
      have hbm : Below wr.heap.size wr wm := by rw [hwm]; exact below_alloc _ _
      have HXM : Hid (Box wm wr.heap.size CS.toArray 9) := Lib.hid (by rw [hwm]; exact Box.new _ _ _)
      have XA_4 := XA.out.at_ 4 _ rfl
      have XOw := XO
      have XRw := XR
      have HKP := Lib.hid ((Kept.refl (fun b => b = w.heap.size + 1 + 1 ∨ b = w.heap.size + 1) wr).below hbm)
      have hsz := HB.out.size
      have hxl := XO.out.lt
      replace XA := Lib.hid (XA.out.below hbm)
      replace XR := Lib.hid (XR.out.below hbm)
      replace XO := Lib.hid (XO.out.below hbm)
      have HBR := Lib.hid (below_step HB.out hbm)
      have HBW := HB
      clear HB MK hwm hbm
      have HB := HBR
      clear HBR
      have HKP' := Lib.hid (HKP.out.set (p := ⟨w.heap.size + 1 + 1, 4, none⟩) (.inl (.inl rfl)) (.slice (some ⟨wr.heap.size, 0, none⟩) G (G + 1)))
      have XO' := Lib.hid (XO.out.set_ 4 (.slice (some ⟨wr.heap.size, 0, none⟩) G (G + 1)))
      have XA' := Lib.hid (XA.out.setNe (p := ⟨(w.heap.size + 1 + 1), 4, none⟩) (by show (w.heap.size + 1 + 1) ≠ _; first | omega | (exact boxes_apart XO.out XA.out (by decide))) (.slice (some ⟨wr.heap.size, 0, none⟩) G (G + 1)))
      have XR' := Lib.hid (XR.out.setNe (p := ⟨(w.heap.size + 1 + 1), 4, none⟩) (by show (w.heap.size + 1 + 1) ≠ _; first | omega | (exact boxes_apart XO.out XR.out (by decide))) (.slice (some ⟨wr.heap.size, 0, none⟩) G (G + 1)))
      have HXM' := Lib.hid (HXM.out.setNe (p := ⟨(w.heap.size + 1 + 1), 4, none⟩) (by show (w.heap.size + 1 + 1) ≠ _; first | omega | (exact boxes_apart XO.out HXM.out (by decide))) (.slice (some ⟨wr.heap.size, 0, none⟩) G (G + 1)))
      have HB' := Lib.hid (HB.out.setCell (p := ⟨(w.heap.size + 1 + 1), 4, none⟩) (by show w.heap.size ≤ (w.heap.size + 1 + 1); omega) (.slice (some ⟨wr.heap.size, 0, none⟩) G (G + 1)))
      have XO_4 := XO.out.at_ 4 _ rfl
      have XO_l := XO.out.lt
      have XO_z4 := XO.out.frozen 4
      go_upto_region 10 with fail
      clear XA_4 XO_4 XO_l XO_z4
      clear HB XO XA XR HXM
      generalize wm.setCell ⟨(w.heap.size + 1 + 1), 4, none⟩ (.slice (some ⟨wr.heap.size, 0, none⟩) G (G + 1)) = w9 at *
      have XO : Hid (Box w9 (w.heap.size + 1 + 1) #[.bool ord, .string key, .slice OA L oc, .int .i64 mat, .slice (some ⟨wr.heap.size, 0, none⟩) G (G + 1)] 25) := XO'
      have XA := XA'
      have XR := XR'
      have HXM := HXM'
      have HB := HB'
      clear HB' XO' XA' XR' HXM'
      clear mk HKP
      have XA_4 := XA.out.at_ 4 _ rfl
      have XO_4 := XO.out.at_ 4 _ rfl
      have S2 := HS2.out w9 HB.out
      go_wp2_with (refine wpList_copy_box rfl _ _ 23 23 rfl 9 Tryd.underlying23 (by kernel_rfl) (some ⟨wr.heap.size, 0, none⟩) A2 G (G + 1) G c2 rfl rfl wr.heap.size 0 CS 9 HXM.out (scells wrg) ?c1 ?c2 ?c3 (scells_one wrg) ?_)
      case c1 => rw [scells_len, HGL.out]; first | done | exact (Nat.min_self _).symm
      case c2 => intro h; first | exact ⟨rfl, S2.out h⟩ | exact S2.out h
      case c3 => rw [scells_len, LS.out, HGL.out]; omega
      intro w10 hY hg
      have HG := hg
      clear S2
      clear XA_4 XO_4
      replace HXM := hY
      replace XR := Lib.hid (box_grown XR.out HG.out (by omega))
      replace XO := Lib.hid (box_grown XO.out HG.out (by omega))
      replace HB := Lib.hid (below_grownG HB.out HB.out.size (by omega) HG.out)
      have HKP := Lib.hid (HKP'.out.grown HG.out (fun q hq => .inr (by simp only [Option.some.injEq] at hq; omega)))
      clear hY hg HG XA HKP'
      have XO_0 := XO.out.at_ 0 _ rfl
      have XO_1 := XO.out.at_ 1 _ rfl
      have XO_2 := XO.out.at_ 2 _ rfl
      have XO_3 := XO.out.at_ 3 _ rfl
      have XO_4 := XO.out.at_ 4 _ rfl
      have XR_0 := XR.out.at_ 0 _ rfl
      have XR_1 := XR.out.at_ 1 _ rfl
      have XR_2 := XR.out.at_ 2 _ rfl
      have XR_3 := XR.out.at_ 3 _ rfl
      have XR_4 := XR.out.at_ 4 _ rfl
      have XR_l := XR.out.lt
      have XR_z0 := XR.out.frozen 0
      have XR_z1 := XR.out.frozen 1
      have XR_z2 := XR.out.frozen 2
      have XR_z3 := XR.out.frozen 3
      have XR_z4 := XR.out.frozen 4
      go_wp2_with fail
      refine bodyPost_ret (v := .agg #[.bool ord, .string key, .slice OA L oc, .int .i64 mat, .slice (some ⟨wr.heap.size, 0, none⟩) G (G + 1)]) (by simp [results, Tryd.results31, go_sem, XR_0, XR_1, XR_2, XR_3, XR_4, XR_l]) rfl ?_
      have hk2 := set5_kept (.bool ord) (.string key) (.slice OA L oc) (.int .i64 mat) (.slice (some ⟨wr.heap.size, 0, none⟩) G (G + 1)) HKP.out (g := w.heap.size + 1) (.inl (.inr rfl))
      refine ⟨_, _, wr, rfl, ⟨HOG2.out, HBW.out, hk2.mono ?_, ?_⟩, set5_below (.bool ord) (.string key) (.slice OA L oc) (.int .i64 mat) (.slice (some ⟨wr.heap.size, 0, none⟩) G (G + 1)) HB.out (g := w.heap.size + 1) (Nat.le_succ _)⟩
      · rintro b (rfl | rfl)
        · exact ⟨Nat.zero_le _, _, XOw.out⟩
        · exact ⟨Nat.zero_le _, _, XRw.out⟩
      · have := own_of_box2 (B := wr.heap.size) (n := G) (c := G + 1) (xs := scells wrg) (set5_box (.bool ord) (.string key) (.slice OA L oc) (.int .i64 mat) (.slice (some ⟨wr.heap.size, 0, none⟩) G (G + 1)) HXM.out (g := w.heap.size + 1) (by omega)) (Nat.le_refl _)
          (by rw [length_splice _ _ _ (by rw [scells_len, LS.out, HGL.out]; omega), LS.out]) (Nat.le_succ _) (by unfold maxLen; omega)
          (by unfold splice; simp only [List.take_zero, List.nil_append, Nat.zero_add]; exact List.take_left' (by rw [scells_len, HGL.out]))
        rw [HGL.out] at this ⊢
        exact this

end Go.Proofs.YtldafnjbgjagiaaDoor
