/-
  Walk of WaveOnly.
-/
import Derived.Test.YthpioaboekpjoaaDoorWavP
import Derived.Test.YthpioaboekpjoaaDoorWavW
namespace Go.Proofs.YthpioaboekpjoaaDoor
open Go.RowKit Go.WideShapes
set_option linter.unusedVariables false
set_option linter.unusedSimpArgs false

set_option maxRecDepth 100000 in
/-- An argument that is a list of strings. -/
theorem arg_names {H : Type} {enc : TypeId × Value → H} {W : World} {v : Value} {d : DataW H} {p : List MemPlace} {base : Nat} (h : DataW.Trod enc Tryd.prog W 0 (fun _ => true) true 23 v d p) (hv : Value.okWide Tryd.prog W .any base 23 v) :
    ∃ l, SL W v l ∧ l.length ≤ 9223372036854775807 ∧ (∀ s ∈ l, s.size ≤ 9223372036854775807) := by
  obtain ⟨a0, len, cap, rfl⟩ := okWide_slice Tryd.underlying23 hv
  obtain ⟨fuel, hf⟩ := h
  obtain ⟨l, h1, h2, h3, -⟩ := slw_of_trod (c := .slice a0 len cap) hf
  exact ⟨l, h1, h2, h3⟩
theorem woT_wz {ns l : List ByteArray} {rs : List (List Int)} (h : WZ ns rs) (h1 : l.length ≤ 9223372036854775807) (h2 : ∀ s ∈ l, s.size ≤ 9223372036854775807) : WZ (woT ns rs l).1 (woT ns rs l).2.1 := by
  unfold woT
  split
  · exact wz_nil
  · split
    · exact wz_nil
    · refine ⟨h1, ?_, h2, fun r hr => ?_⟩
      · show (rs.map _).length ≤ _
        rw [List.length_map]; exact h.2.1
      · obtain ⟨r', _, rfl⟩ := List.mem_map.1 hr
        unfold pick; rw [List.length_map]; exact h1
set_option maxRecDepth 100000 in
set_option maxHeartbeats 16000000 in
theorem walkWaveOnly {H : Type} {enc : TypeId × Value → H} {base base' : Nat} {w : World} (v0 : Value) (d0 : DataW H) (p0 : List MemPlace) (g0 : DataW.Trod enc Tryd.prog w 0 (fun _ => true) true 26 v0 d0 p0) (hv0 : Value.okWide Tryd.prog w .any base 26 v0)
    (v3 : Value) (d1 : DataW H) (p1 : List MemPlace) (g1 : DataW.Trod enc Tryd.prog w 0 (fun _ => true) true 23 v3 d1 p1) (hv1 : Value.okWide Tryd.prog w .any base' 23 v3) (ht : Tab w) (hm : MLen w) (hk : KW w) :
    Calls Tryd.prog 8 #[v0, v3] w fun e w' => e = .returned (.bool true) ∧ Below w.heap.size w w' := by
  obtain ⟨v1, v2, ns, rs, rfl, h1, h2, hz⟩ := arg_wave g0 hv0
  obtain ⟨l, h3, hl1, hl2⟩ := arg_names g1 hv1
  clear g0 hv0 g1 hv1
  have CF := Lib.hid (fun W (hW : Below w.heap.size w W) => lawFewW W v1 v2 ns rs (h1.below hW) (h2.below hW) hz)
  have CW := Lib.hid (fun W (hW : Below w.heap.size w W) => lawAwakeW W (hk.below hW) (hm.below hW) (ht.below hW))
  have CE := Lib.hid (fun (hl : l.length ≤ 52) W (hW : Below w.heap.size w W) => wavOnly W v1 v2 v3 ns l rs (h1.below hW) (h2.below hW) (h3.below hW) hz (by omega) (hk.below hW) (hm.below hW))
  have CR := Lib.hid (fun (hl : l.length ≤ 52) W (hW : Below w.heap.size w W) => refOnlyW W v1 v2 v3 ns l rs (h1.below hW) (h2.below hW) (h3.below hW) hz (by omega))
  have hrz := woT_wz (rs := rs) hz hl1 hl2
  generalize woT ns rs l = r at *
  have CS := Lib.hid (fun W u1 u2 u3 u4 a b c d => same_par (W := W) (r := r) (u1 := u1) (u2 := u2) (u3 := u3) (u4 := u4) a b c d hrz)
  obtain ⟨A2, c2, rfl, -⟩ := h2.slice
  obtain ⟨A1, c1, rfl, -⟩ := h1
  obtain ⟨A3, c3, rfl, -⟩ := h3
  generalize fewW ns rs = fb at *
  generalize ns.length = N at *
  generalize rs.length = M at *
  generalize l.length = K at *
  clear h2 hz hk hm ht hrz hl2
  cases fb
  · go_enter Tryd.func8, Tryd.ntmps8
    go_upto_region 1 with fail
    have XA := Lib.hid (box_new (W := w) (g := w.heap.size) 26 #[.slice A1 N c1, .slice A2 M c2] (by simp))
    have HB := Lib.hid (below_alloc w (.cells #[.slice A1 N c1, .slice A2 M c2] 26))
    generalize w.alloc (.cells #[.slice A1 N c1, .slice A2 M c2] 26) = w1 at *
    have XA_0 := XA.out.at_ 0 _ rfl
    have XA_1 := XA.out.at_ 1 _ rfl
    go_wp2_with fail
    refine (CF.out _ HB.out).mono ?_; rintro e w2 ⟨rfl, hb⟩
    clear XA_0 XA_1
    replace XA := Lib.hid (XA.out.below hb)
    replace HB := Lib.hid (below_step HB.out hb)
    clear hb
    go_wp2_with fail
    refine (CW.out _ HB.out).mono ?_; rintro e w3 ⟨rfl, hb⟩
    replace XA := Lib.hid (XA.out.below hb)
    replace HB := Lib.hid (below_step HB.out hb)
    clear hb
    go_wp2_with fail
    go_ret
    exact ⟨rfl, HB.out⟩
  · by_cases hl : K ≤ 52
    · have hn2 : ¬ (52 : Int) < (K : Int) := by omega
      have CE := Lib.hid (CE.out hl)
      have CR := Lib.hid (CR.out hl)
      unfold PARW at CE CR
      have B1 : (r.2.2 == r.2.2) = true := by simp
      go_enter Tryd.func8, Tryd.ntmps8
      go_upto_region 1 with fail
      have XA := Lib.hid (box_new (W := w) (g := w.heap.size) 26 #[.slice A1 N c1, .slice A2 M c2] (by simp))
      have HB := Lib.hid (below_alloc w (.cells #[.slice A1 N c1, .slice A2 M c2] 26))
      generalize w.alloc (.cells #[.slice A1 N c1, .slice A2 M c2] 26) = w1 at *
      have XA_0 := XA.out.at_ 0 _ rfl
      have XA_1 := XA.out.at_ 1 _ rfl
      go_wp2_with fail
      refine (CF.out _ HB.out).mono ?_; rintro e w2 ⟨rfl, hb⟩
      clear XA_0 XA_1
      replace XA := Lib.hid (XA.out.below hb)
      replace HB := Lib.hid (below_step HB.out hb)
      clear hb
      clear CF
      have XA_0 := XA.out.at_ 0 _ rfl
      have XA_1 := XA.out.at_ 1 _ rfl
      go_wp2_with fail
      clear XA_0 XA_1
      refine (CE.out _ HB.out).mono ?_; rintro e w3 ⟨u1, u2, rfl, s1, s2, hb⟩
      have S1 := Lib.hid s1
      have S2 := Lib.hid s2
      obtain ⟨B1', d1, rfl, -⟩ := id s1
      obtain ⟨B2', d2, rfl, -⟩ := s2.slice
      clear s1 s2 CE
      replace XA := Lib.hid (XA.out.below hb)
      replace HB := Lib.hid (below_step HB.out hb)
      clear hb
      generalize r.1.length = L1 at *
      generalize r.2.1.length = L2 at *
      go_upto_region 4 with fail
      have X7 := Lib.hid (box_new (W := w3) (g := w3.heap.size) 26 #[.slice B1' L1 d1, .slice B2' L2 d2] (by simp))
      have hba := (below_alloc w3 (.cells #[.slice B1' L1 d1, .slice B2' L2 d2] 26))
      replace XA := Lib.hid (XA.out.below hba)
      replace S1 := Lib.hid (S1.out.below hba)
      replace S2 := Lib.hid (S2.out.below hba)
      replace HB := Lib.hid (below_step HB.out hba)
      clear hba
      generalize w3.alloc (.cells #[.slice B1' L1 d1, .slice B2' L2 d2] 26) = w4 at *
      have XA_0 := XA.out.at_ 0 _ rfl
      have XA_1 := XA.out.at_ 1 _ rfl
      go_wp2_with fail
      clear XA_0 XA_1
      refine (CR.out _ HB.out).mono ?_; rintro e w5 ⟨u3, u4, rfl, s3, s4, hb⟩
      have S3 := Lib.hid s3
      have S4 := Lib.hid s4
      obtain ⟨B3', d3, rfl, -⟩ := id s3
      obtain ⟨B4', d4, rfl, -⟩ := s4.slice
      clear s3 s4 CR
      replace XA := Lib.hid (XA.out.below hb)
      replace S1 := Lib.hid (S1.out.below hb)
      replace S2 := Lib.hid (S2.out.below hb)
      replace X7 := Lib.hid (X7.out.below hb)
      replace HB := Lib.hid (below_step HB.out hb)
      clear hb
      generalize r.1.length = L3 at *
      generalize r.2.1.length = L4 at *
      go_upto_region 5 with fail
      have X9 := Lib.hid (box_new (W := w5) (g := w5.heap.size) 26 #[.slice B3' L3 d3, .slice B4' L4 d4] (by simp))
      have hba := (below_alloc w5 (.cells #[.slice B3' L3 d3, .slice B4' L4 d4] 26))
      replace X7 := Lib.hid (X7.out.below hba)
      replace S1 := Lib.hid (S1.out.below hba)
      replace S2 := Lib.hid (S2.out.below hba)
      replace S3 := Lib.hid (S3.out.below hba)
      replace S4 := Lib.hid (S4.out.below hba)
      replace HB := Lib.hid (below_step HB.out hba)
      clear hba
      generalize w5.alloc (.cells #[.slice B3' L3 d3, .slice B4' L4 d4] 26) = w6 at *
      have X7_0 := X7.out.at_ 0 _ rfl
      have X7_1 := X7.out.at_ 1 _ rfl
      have X9_0 := X9.out.at_ 0 _ rfl
      have X9_1 := X9.out.at_ 1 _ rfl
      go_wp2_with fail
      clear X7_0 X7_1 X9_0 X9_1
      refine (CS.out _ _ _ _ _ S1.out S2.out S3.out S4.out).mono ?_; rintro e w7 ⟨rfl, hb⟩
      replace HB := Lib.hid (below_step HB.out hb)
      clear hb
      go_wp2_with fail
      refine (CW.out _ HB.out).mono ?_; rintro e w8 ⟨rfl, hb⟩
      replace HB := Lib.hid (below_step HB.out hb)
      clear hb
      go_wp2_with fail
      go_ret
      exact ⟨rfl, HB.out⟩
    · have hn2 : (52 : Int) < (K : Int) := by omega
      go_enter Tryd.func8, Tryd.ntmps8
      go_upto_region 1 with fail
      have XA := Lib.hid (box_new (W := w) (g := w.heap.size) 26 #[.slice A1 N c1, .slice A2 M c2] (by simp))
      have HB := Lib.hid (below_alloc w (.cells #[.slice A1 N c1, .slice A2 M c2] 26))
      generalize w.alloc (.cells #[.slice A1 N c1, .slice A2 M c2] 26) = w1 at *
      have XA_0 := XA.out.at_ 0 _ rfl
      have XA_1 := XA.out.at_ 1 _ rfl
      go_wp2_with fail
      refine (CF.out _ HB.out).mono ?_; rintro e w2 ⟨rfl, hb⟩
      clear XA_0 XA_1
      replace XA := Lib.hid (XA.out.below hb)
      replace HB := Lib.hid (below_step HB.out hb)
      clear hb
      go_wp2_with fail
      refine (CW.out _ HB.out).mono ?_; rintro e w3 ⟨rfl, hb⟩
      replace XA := Lib.hid (XA.out.below hb)
      replace HB := Lib.hid (below_step HB.out hb)
      clear hb
      go_wp2_with fail
      go_ret
      exact ⟨rfl, HB.out⟩

end Go.Proofs.YthpioaboekpjoaaDoor
