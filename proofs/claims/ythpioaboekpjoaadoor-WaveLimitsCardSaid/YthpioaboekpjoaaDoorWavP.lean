/-
  Walk of WaveCuts.
-/
import Derived.Test.YthpioaboekpjoaaDoorWavO
namespace Go.Proofs.YthpioaboekpjoaaDoor
open Go.RowKit
set_option linter.unusedVariables false
set_option linter.unusedSimpArgs false

theorem wz_nil : WZ [] [] := ⟨by simp, by simp, by simp, by simp⟩
theorem wcT_wz {ns : List ByteArray} {rs : List (List Int)} (h : WZ ns rs) (f t : Int) : WZ (wcT ns rs f t).1 (wcT ns rs f t).2.1 := by
  unfold wcT
  split
  · exact wz_nil
  · refine ⟨h.1, ?_, h.2.2.1, fun r hr => h.2.2.2 r (List.mem_of_mem_take (List.mem_of_mem_drop hr))⟩
    have := h.2.1
    show ((rs.take t.toNat).drop f.toNat).length ≤ _
    rw [List.length_drop, List.length_take]
    omega
/-- A trace that was handed back twice is the same. -/
theorem same_par {W : World} {r : List ByteArray × List (List Int) × Int} {u1 u2 u3 u4 : Value} (a : SL W u1 r.1) (b : Rs ilR W u2 r.2.1 anyB) (c : SL W u3 r.1) (d : Rs ilR W u4 r.2.1 anyB) (z : WZ r.1 r.2.1) :
    Calls Tryd.prog 14 #[.agg #[u1, u2], .agg #[u3, u4]] W fun e w' => e = .returned (.bool true) ∧ Below W.heap.size W w' := by
  have := refSameW W u1 u2 u3 u4 r.1 r.1 r.2.1 r.2.1 a b c d z z
  rwa [decide_eq_true ⟨rfl, rfl⟩] at this
set_option maxRecDepth 100000 in
set_option maxHeartbeats 16000000 in
theorem walkWaveCuts {H : Type} {enc : TypeId × Value → H} {base : Nat} {w : World} (v0 : Value) (d0 : DataW H) (p0 : List MemPlace) (g0 : DataW.Trod enc Tryd.prog w 0 (fun _ => true) true 26 v0 d0 p0) (hv0 : Value.okWide Tryd.prog w .any base 26 v0)
    (f : Int) (wf : I64 f) (t : Int) (wt : I64 t) (ht : Tab w) (hm : MLen w) (hk : KW w) :
    Calls Tryd.prog 7 #[v0, .int .i64 f, .int .i64 t] w fun e w' => e = .returned (.bool true) ∧ Below w.heap.size w w' := by
  obtain ⟨v1, v2, ns, rs, rfl, h1, h2, hz⟩ := arg_wave g0 hv0
  clear g0 hv0
  have CF := Lib.hid (fun W (hW : Below w.heap.size w W) => lawFewW W v1 v2 ns rs (h1.below hW) (h2.below hW) hz)
  have CW := Lib.hid (fun W (hW : Below w.heap.size w W) => lawAwakeW W (hk.below hW) (hm.below hW) (ht.below hW))
  have CE := Lib.hid (fun W (hW : Below w.heap.size w W) => wavCut W v1 v2 ns rs f t (h1.below hW) (h2.below hW) hz wf wt (hk.below hW) (hm.below hW))
  have CR := Lib.hid (fun W (hW : Below w.heap.size w W) => refCutW W v1 v2 ns rs f t (h1.below hW) (h2.below hW) hz wf wt)
  have hrz := wcT_wz hz f t
  generalize wcT ns rs f t = r at *
  have CS := Lib.hid (fun W u1 u2 u3 u4 a b c d => same_par (W := W) (r := r) (u1 := u1) (u2 := u2) (u3 := u3) (u4 := u4) a b c d hrz)
  have HR1 : Hid (r.1.length = r.1.length) := Lib.hid rfl
  obtain ⟨A2, c2, rfl, -⟩ := h2.slice
  obtain ⟨A1, c1, rfl, -⟩ := h1
  generalize fewW ns rs = fb at *
  generalize ns.length = N at *
  generalize rs.length = M at *
  clear h2 hz hk hm ht hrz
  cases fb
  · go_enter Tryd.func7, Tryd.ntmps7
    go_upto_region 1 with fail
    have XA := Lib.hid (box_new (W := w) (g := w.heap.size) 26 #[.slice A1 N c1, .slice A2 M c2] (by simp))
    have HB := Lib.hid (below_alloc w (.cells #[.slice A1 N c1, .slice A2 M c2] 26))
    generalize w.alloc (.cells #[.slice A1 N c1, .slice A2 M c2] 26) = w1 at *
    have XA_0 := XA.out.at_ 0 _ rfl
    have XA_1 := XA.out.at_ 1 _ rfl
    go_wp2_with fail
    refine (CF.out _ HB.out).mono ?_; rintro e w2 ⟨rfl, hb⟩
    clear XA_0 XA_1
    replace XA := Lib.hid (XA.out.below hb)
    replace HB := Lib.hid (below_step HB.out hb)
    clear hb
    go_wp2_with fail
    refine (CW.out _ HB.out).mono ?_; rintro e w3 ⟨rfl, hb⟩
    replace XA := Lib.hid (XA.out.below hb)
    replace HB := Lib.hid (below_step HB.out hb)
    clear hb
    go_wp2_with fail
    go_ret
    exact ⟨rfl, HB.out⟩
  · unfold PARW at CE CR
    have B1 : (r.2.2 == r.2.2) = true := by simp
    go_enter Tryd.func7, Tryd.ntmps7
    go_upto_region 1 with fail
    have XA := Lib.hid (box_new (W := w) (g := w.heap.size) 26 #[.slice A1 N c1, .slice A2 M c2] (by simp))
    have HB := Lib.hid (below_alloc w (.cells #[.slice A1 N c1, .slice A2 M c2] 26))
    generalize w.alloc (.cells #[.slice A1 N c1, .slice A2 M c2] 26) = w1 at *
    have XA_0 := XA.out.at_ 0 _ rfl
    have XA_1 := XA.out.at_ 1 _ rfl
    go_wp2_with fail
    refine (CF.out _ HB.out).mono ?_; rintro e w2 ⟨rfl, hb⟩
    clear XA_0 XA_1
    replace XA := Lib.hid (XA.out.below hb)
    replace HB := Lib.hid (below_step HB.out hb)
    clear hb
    clear CF
    have XA_0 := XA.out.at_ 0 _ rfl
    have XA_1 := XA.out.at_ 1 _ rfl
    go_wp2_with fail
    clear XA_0 XA_1
    refine (CE.out _ HB.out).mono ?_; rintro e w3 ⟨u1, u2, rfl, s1, s2, hb⟩
    have S1 := Lib.hid s1
    have S2 := Lib.hid s2
    obtain ⟨B1', d1, rfl, -⟩ := id s1
    obtain ⟨B2', d2, rfl, -⟩ := s2.slice
    clear s1 s2 CE
    replace XA := Lib.hid (XA.out.below hb)
    replace HB := Lib.hid (below_step HB.out hb)
    clear hb
    generalize r.1.length = L1 at *
    generalize r.2.1.length = L2 at *
    go_upto_region 4 with fail
    have X7 := Lib.hid (box_new (W := w3) (g := w3.heap.size) 26 #[.slice B1' L1 d1, .slice B2' L2 d2] (by simp))
    have hba := (below_alloc w3 (.cells #[.slice B1' L1 d1, .slice B2' L2 d2] 26))
    replace XA := Lib.hid (XA.out.below hba)
    replace S1 := Lib.hid (S1.out.below hba)
    replace S2 := Lib.hid (S2.out.below hba)
    replace HB := Lib.hid (below_step HB.out hba)
    clear hba
    generalize w3.alloc (.cells #[.slice B1' L1 d1, .slice B2' L2 d2] 26) = w4 at *
    have XA_0 := XA.out.at_ 0 _ rfl
    have XA_1 := XA.out.at_ 1 _ rfl
    go_wp2_with fail
    clear XA_0 XA_1
    refine (CR.out _ HB.out).mono ?_; rintro e w5 ⟨u3, u4, rfl, s3, s4, hb⟩
    have S3 := Lib.hid s3
    have S4 := Lib.hid s4
    obtain ⟨B3', d3, rfl, -⟩ := id s3
    obtain ⟨B4', d4, rfl, -⟩ := s4.slice
    clear s3 s4 CR
    replace XA := Lib.hid (XA.out.below hb)
    replace S1 := Lib.hid (S1.out.below hb)
    replace S2 := Lib.hid (S2.out.below hb)
    replace X7 := Lib.hid (X7.out.below hb)
    replace HB := Lib.hid (below_step HB.out hb)
    clear hb
    generalize r.1.length = L3 at *
    generalize r.2.1.length = L4 at *
    go_upto_region 5 with fail
    have X9 := Lib.hid (box_new (W := w5) (g := w5.heap.size) 26 #[.slice B3' L3 d3, .slice B4' L4 d4] (by simp))
    have hba := (below_alloc w5 (.cells #[.slice B3' L3 d3, .slice B4' L4 d4] 26))
    replace X7 := Lib.hid (X7.out.below hba)
    replace S1 := Lib.hid (S1.out.below hba)
    replace S2 := Lib.hid (S2.out.below hba)
    replace S3 := Lib.hid (S3.out.below hba)
    replace S4 := Lib.hid (S4.out.below hba)
    replace HB := Lib.hid (below_step HB.out hba)
    clear hba
    generalize w5.alloc (.cells #[.slice B3' L3 d3, .slice B4' L4 d4] 26) = w6 at *
    have X7_0 := X7.out.at_ 0 _ rfl
    have X7_1 := X7.out.at_ 1 _ rfl
    have X9_0 := X9.out.at_ 0 _ rfl
    have X9_1 := X9.out.at_ 1 _ rfl
    go_wp2_with fail
    clear X7_0 X7_1 X9_0 X9_1
    refine (CS.out _ _ _ _ _ S1.out S2.out S3.out S4.out).mono ?_; rintro e w7 ⟨rfl, hb⟩
    replace HB := Lib.hid (below_step HB.out hb)
    clear hb
    go_wp2_with fail
    refine (CW.out _ HB.out).mono ?_; rintro e w8 ⟨rfl, hb⟩
    replace HB := Lib.hid (below_step HB.out hb)
    clear hb
    go_wp2_with fail
    go_ret
    exact ⟨rfl, HB.out⟩

end Go.Proofs.YthpioaboekpjoaaDoor
