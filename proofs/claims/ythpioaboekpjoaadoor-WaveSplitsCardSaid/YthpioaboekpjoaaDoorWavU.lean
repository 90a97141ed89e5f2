/-
  Walk of WaveJoins.
-/
import Derived.Test.YthpioaboekpjoaaDoorWavT
namespace Go.Proofs.YthpioaboekpjoaaDoor
open Go.RowKit
set_option linter.unusedVariables false
set_option linter.unusedSimpArgs false

theorem wj_valid {ns ms : List ByteArray} {rs ts : List (List Int)} (h : (wjT ns rs ms ts).2.2 = 0) : wvV (wjT ns rs ms ts).1 (wjT ns rs ms ts).2.1 = true := by
  unfold wjT at h ⊢
  split at h
  · cases h
  · rename_i h1
    rw [if_neg h1]
    split at h
    · cases h
    · rename_i h2
      rw [if_neg h2]
      split at h
      · cases h
      · rename_i h3
        rw [if_neg h3]
        have hv : ∀ b : Bool, ¬ b = false → b = true := fun b hb => by cases b <;> simp_all
        have a1 : WvV ns rs := of_decide_eq_true (hv _ (fun h => h1 (.inl h)))
        have a2 : WvV ms ts := of_decide_eq_true (hv _ (fun h => h1 (.inr h)))
        have e : ns = ms := Classical.byContradiction h2
        subst e
        refine decide_eq_true ⟨a1.1, by rw [List.length_append]; omega, a1.2.2.1, fun r hr => ?_⟩
        rcases List.mem_append.1 hr with hr | hr
        · exact a1.2.2.2 r hr
        · exact a2.2.2.2 r hr
theorem wj_wz {ns ms : List ByteArray} {rs ts : List (List Int)} (h : WZ ns rs) (h2 : WZ ms ts) : WZ (wjT ns rs ms ts).1 (wjT ns rs ms ts).2.1 := by
  unfold wjT
  split
  · exact wz_nil
  · split
    · exact wz_nil
    · split
      · exact wz_nil
      · rename_i h3
        refine ⟨h.1, ?_, h.2.2.1, fun r hr => ?_⟩
        · show (rs ++ ts).length ≤ _
          rw [List.length_append]; omega
        · rcases List.mem_append.1 hr with hr | hr
          · exact h.2.2.2 r hr
          · exact h2.2.2.2 r hr
set_option maxRecDepth 100000 in
set_option maxHeartbeats 16000000 in
theorem walkWaveJoins {H : Type} {enc : TypeId × Value → H} {base : Nat} {w : World} (v0 : Value) (d0 : DataW H) (p0 : List MemPlace) (g0 : DataW.Trod enc Tryd.prog w 0 (fun _ => true) true 26 v0 d0 p0) (hv0 : Value.okWide Tryd.prog w .any base 26 v0)
    (v5 : Value) (d5 : DataW H) (p5 : List MemPlace) (g5 : DataW.Trod enc Tryd.prog w 0 (fun _ => true) true 26 v5 d5 p5) (hv5 : Value.okWide Tryd.prog w .any base 26 v5) (ht : Tab w) (hm : MLen w) (hk : KW w) :
    Calls Tryd.prog 9 #[v0, v5] w fun e w' => e = .returned (.bool true) ∧ Below w.heap.size w w' := by
  obtain ⟨v1, v2, ns, rs, rfl, h1, h2, hz⟩ := arg_wave g0 hv0
  obtain ⟨v3, v4, ms, ts, rfl, h3, h4, hy⟩ := arg_wave g5 hv5
  clear g0 hv0 g5 hv5
  have CF := Lib.hid (fun W (hW : Below w.heap.size w W) => lawFewW W v1 v2 ns rs (h1.below hW) (h2.below hW) hz)
  have CF2 := Lib.hid (fun W (hW : Below w.heap.size w W) => lawFewW W v3 v4 ms ts (h3.below hW) (h4.below hW) hy)
  have CW := Lib.hid (fun W (hW : Below w.heap.size w W) => lawAwakeW W (hk.below hW) (hm.below hW) (ht.below hW))
  have CE := Lib.hid (fun W (hW : Below w.heap.size w W) => wavJoin W v1 v2 v3 v4 ns ms rs ts (h1.below hW) (h2.below hW) (h3.below hW) (h4.below hW) hz hy (hk.below hW) (hm.below hW))
  have CR := Lib.hid (fun W (hW : Below w.heap.size w W) => refJoinW W v1 v2 v3 v4 ns ms rs ts (h1.below hW) (h2.below hW) (h3.below hW) (h4.below hW) hz hy)
  have hrz := wj_wz hz hy
  have hrv := wj_valid (ns := ns) (ms := ms) (rs := rs) (ts := ts)
  generalize wjT ns rs ms ts = r at *
  have CS := Lib.hid (fun W u1 u2 u3 u4 a b c d => same_par (W := W) (r := r) (u1 := u1) (u2 := u2) (u3 := u3) (u4 := u4) a b c d hrz)
  have CV : Hid (r.2.2 = 0 → ∀ W u1 u2, Below w.heap.size w W → SL W u1 r.1 → Rs ilR W u2 r.2.1 anyB → Calls Tryd.prog 23 #[.agg #[u1, u2]] W fun e w' => e = .returned (.bool true) ∧ Below W.heap.size W w') := Lib.hid fun h W u1 u2 hW a b => by
    have := wavValid W u1 u2 r.1 r.2.1 a b hrz (hk.below hW) (hm.below hW)
    rwa [hrv h] at this
  obtain ⟨A2, c2, rfl, -⟩ := h2.slice
  obtain ⟨A1, c1, rfl, -⟩ := h1
  obtain ⟨A4, c4, rfl, -⟩ := h4.slice
  obtain ⟨A3, c3, rfl, -⟩ := h3
  generalize fewW ns rs = fa at *
  generalize fewW ms ts = fb at *
  generalize ns.length = N at *
  generalize rs.length = M at *
  generalize ms.length = N3 at *
  generalize ts.length = M4 at *
  clear h2 h4 hz hy hk hm ht hrz hrv
  cases fa
  · go_enter Tryd.func9, Tryd.ntmps9
    go_upto_region 1 with fail
    have XA := Lib.hid ((box_new (W := w) (g := w.heap.size) 26 #[.slice A1 N c1, .slice A2 M c2] (by simp)).below (below_alloc _ (.cells #[.slice A3 N3 c3, .slice A4 M4 c4] 26)))
    have XB := Lib.hid (box_new (W := (w.alloc (.cells #[.slice A1 N c1, .slice A2 M c2] 26))) (g := w.heap.size + 1) 26 #[.slice A3 N3 c3, .slice A4 M4 c4] (by simp))
    have HB := Lib.hid (below_step (below_alloc w (.cells #[.slice A1 N c1, .slice A2 M c2] 26)) (below_alloc (w.alloc (.cells #[.slice A1 N c1, .slice A2 M c2] 26)) (.cells #[.slice A3 N3 c3, .slice A4 M4 c4] 26)))
    generalize (w.alloc (.cells #[.slice A1 N c1, .slice A2 M c2] 26)).alloc (.cells #[.slice A3 N3 c3, .slice A4 M4 c4] 26) = w1 at *
    have XA_0 := XA.out.at_ 0 _ rfl
    have XA_1 := XA.out.at_ 1 _ rfl
    go_wp2_with fail
    refine (CF.out _ HB.out).mono ?_; rintro e w2 ⟨rfl, hb⟩
    clear XA_0 XA_1
    replace XA := Lib.hid (XA.out.below hb)
    replace XB := Lib.hid (XB.out.below hb)
    replace HB := Lib.hid (below_step HB.out hb)
    clear hb
    go_wp2_with fail
    refine (CW.out _ HB.out).mono ?_; rintro e w3 ⟨rfl, hb⟩
    replace XA := Lib.hid (XA.out.below hb)
    replace XB := Lib.hid (XB.out.below hb)
    replace HB := Lib.hid (below_step HB.out hb)
    clear hb
    go_wp2_with fail
    go_ret
    exact ⟨rfl, HB.out⟩
  · cases fb
    · go_enter Tryd.func9, Tryd.ntmps9
      go_upto_region 1 with fail
      have XA := Lib.hid ((box_new (W := w) (g := w.heap.size) 26 #[.slice A1 N c1, .slice A2 M c2] (by simp)).below (below_alloc _ (.cells #[.slice A3 N3 c3, .slice A4 M4 c4] 26)))
      have XB := Lib.hid (box_new (W := (w.alloc (.cells #[.slice A1 N c1, .slice A2 M c2] 26))) (g := w.heap.size + 1) 26 #[.slice A3 N3 c3, .slice A4 M4 c4] (by simp))
      have HB := Lib.hid (below_step (below_alloc w (.cells #[.slice A1 N c1, .slice A2 M c2] 26)) (below_alloc (w.alloc (.cells #[.slice A1 N c1, .slice A2 M c2] 26)) (.cells #[.slice A3 N3 c3, .slice A4 M4 c4] 26)))
      generalize (w.alloc (.cells #[.slice A1 N c1, .slice A2 M c2] 26)).alloc (.cells #[.slice A3 N3 c3, .slice A4 M4 c4] 26) = w1 at *
      have XA_0 := XA.out.at_ 0 _ rfl
      have XA_1 := XA.out.at_ 1 _ rfl
      go_wp2_with fail
      refine (CF.out _ HB.out).mono ?_; rintro e w2 ⟨rfl, hb⟩
      clear XA_0 XA_1
      replace XA := Lib.hid (XA.out.below hb)
      replace XB := Lib.hid (XB.out.below hb)
      replace HB := Lib.hid (below_step HB.out hb)
      clear hb
      have XB_0 := XB.out.at_ 0 _ rfl
      have XB_1 := XB.out.at_ 1 _ rfl
      go_wp2_with fail
      refine (CF2.out _ HB.out).mono ?_; rintro e w3 ⟨rfl, hb⟩
      clear XB_0 XB_1
      replace XA := Lib.hid (XA.out.below hb)
      replace XB := Lib.hid (XB.out.below hb)
      replace HB := Lib.hid (below_step HB.out hb)
      clear hb
      go_wp2_with fail
      refine (CW.out _ HB.out).mono ?_; rintro e w4 ⟨rfl, hb⟩
      replace XA := Lib.hid (XA.out.below hb)
      replace XB := Lib.hid (XB.out.below hb)
      replace HB := Lib.hid (below_step HB.out hb)
      clear hb
      go_wp2_with fail
      go_ret
      exact ⟨rfl, HB.out⟩
    · unfold PARW at CE CR
      obtain ⟨re, hre⟩ : ∃ x, x = r.2.2 := ⟨_, rfl⟩
      rw [← hre] at CE CR CV
      have B1 : (re == re) = true := by simp
      clear hre
      go_enter Tryd.func9, Tryd.ntmps9
      go_upto_region 1 with fail
      have XA := Lib.hid ((box_new (W := w) (g := w.heap.size) 26 #[.slice A1 N c1, .slice A2 M c2] (by simp)).below (below_alloc _ (.cells #[.slice A3 N3 c3, .slice A4 M4 c4] 26)))
      have XB := Lib.hid (box_new (W := (w.alloc (.cells #[.slice A1 N c1, .slice A2 M c2] 26))) (g := w.heap.size + 1) 26 #[.slice A3 N3 c3, .slice A4 M4 c4] (by simp))
      have HB := Lib.hid (below_step (below_alloc w (.cells #[.slice A1 N c1, .slice A2 M c2] 26)) (below_alloc (w.alloc (.cells #[.slice A1 N c1, .slice A2 M c2] 26)) (.cells #[.slice A3 N3 c3, .slice A4 M4 c4] 26)))
      generalize (w.alloc (.cells #[.slice A1 N c1, .slice A2 M c2] 26)).alloc (.cells #[.slice A3 N3 c3, .slice A4 M4 c4] 26) = w1 at *
      have XA_0 := XA.out.at_ 0 _ rfl
      have XA_1 := XA.out.at_ 1 _ rfl
      go_wp2_with fail
      refine (CF.out _ HB.out).mono ?_; rintro e w2 ⟨rfl, hb⟩
      clear XA_0 XA_1
      replace XA := Lib.hid (XA.out.below hb)
      replace XB := Lib.hid (XB.out.below hb)
      replace HB := Lib.hid (below_step HB.out hb)
      clear hb
      clear CF
      have XB_0 := XB.out.at_ 0 _ rfl
      have XB_1 := XB.out.at_ 1 _ rfl
      go_wp2_with fail
      refine (CF2.out _ HB.out).mono ?_; rintro e w3 ⟨rfl, hb⟩
      clear XB_0 XB_1
      replace XA := Lib.hid (XA.out.below hb)
      replace XB := Lib.hid (XB.out.below hb)
      replace HB := Lib.hid (below_step HB.out hb)
      clear hb
      clear CF2
      have XA_0 := XA.out.at_ 0 _ rfl
      have XA_1 := XA.out.at_ 1 _ rfl
      have XB_0 := XB.out.at_ 0 _ rfl
      have XB_1 := XB.out.at_ 1 _ rfl
      go_wp2_with fail
      clear XA_0 XA_1 XB_0 XB_1
      refine (CE.out _ HB.out).mono ?_; rintro e w3 ⟨u1, u2, rfl, s1, s2, hb⟩
      have S1 := Lib.hid s1
      have S2 := Lib.hid s2
      obtain ⟨B1', d1, rfl, -⟩ := id s1
      obtain ⟨B2', d2, rfl, -⟩ := s2.slice
      clear s1 s2 CE
      replace XA := Lib.hid (XA.out.below hb)
      replace XB := Lib.hid (XB.out.below hb)
      replace HB := Lib.hid (below_step HB.out hb)
      clear hb
      generalize r.1.length = L1 at *
      generalize r.2.1.length = L2 at *
      go_upto_region 4 with fail
      have X7 := Lib.hid (box_new (W := w3) (g := w3.heap.size) 26 #[.slice B1' L1 d1, .slice B2' L2 d2] (by simp))
      have hba := (below_alloc w3 (.cells #[.slice B1' L1 d1, .slice B2' L2 d2] 26))
      replace XA := Lib.hid (XA.out.below hba)
      replace XB := Lib.hid (XB.out.below hba)
      replace S1 := Lib.hid (S1.out.below hba)
      replace S2 := Lib.hid (S2.out.below hba)
      replace HB := Lib.hid (below_step HB.out hba)
      clear hba
      generalize w3.alloc (.cells #[.slice B1' L1 d1, .slice B2' L2 d2] 26) = w4 at *
      have XA_0 := XA.out.at_ 0 _ rfl
      have XA_1 := XA.out.at_ 1 _ rfl
      have XB_0 := XB.out.at_ 0 _ rfl
      have XB_1 := XB.out.at_ 1 _ rfl
      go_wp2_with fail
      clear XA_0 XA_1 XB_0 XB_1
      refine (CR.out _ HB.out).mono ?_; rintro e w5 ⟨u3, u4, rfl, s3, s4, hb⟩
      have S3 := Lib.hid s3
      have S4 := Lib.hid s4
      obtain ⟨B3', d3, rfl, -⟩ := id s3
      obtain ⟨B4', d4, rfl, -⟩ := s4.slice
      clear s3 s4 CR
      replace XA := Lib.hid (XA.out.below hb)
      replace XB := Lib.hid (XB.out.below hb)
      replace S1 := Lib.hid (S1.out.below hb)
      replace S2 := Lib.hid (S2.out.below hb)
      replace X7 := Lib.hid (X7.out.below hb)
      replace HB := Lib.hid (below_step HB.out hb)
      clear hb
      generalize r.1.length = L3 at *
      generalize r.2.1.length = L4 at *
      go_upto_region 5 with fail
      have X9 := Lib.hid (box_new (W := w5) (g := w5.heap.size) 26 #[.slice B3' L3 d3, .slice B4' L4 d4] (by simp))
      have hba := (below_alloc w5 (.cells #[.slice B3' L3 d3, .slice B4' L4 d4] 26))
      replace X7 := Lib.hid (X7.out.below hba)
      replace S1 := Lib.hid (S1.out.below hba)
      replace S2 := Lib.hid (S2.out.below hba)
      replace S3 := Lib.hid (S3.out.below hba)
      replace S4 := Lib.hid (S4.out.below hba)
      replace HB := Lib.hid (below_step HB.out hba)
      clear hba
      generalize w5.alloc (.cells #[.slice B3' L3 d3, .slice B4' L4 d4] 26) = w6 at *
      have X7_0 := X7.out.at_ 0 _ rfl
      have X7_1 := X7.out.at_ 1 _ rfl
      have X9_0 := X9.out.at_ 0 _ rfl
      have X9_1 := X9.out.at_ 1 _ rfl
      go_wp2_with fail
      clear X7_0 X7_1 X9_0 X9_1
      refine (CS.out _ _ _ _ _ S1.out S2.out S3.out S4.out).mono ?_; rintro e w7 ⟨rfl, hb⟩
      replace S1 := Lib.hid (S1.out.below hb)
      replace S2 := Lib.hid (S2.out.below hb)
      replace X7 := Lib.hid (X7.out.below hb)
      replace HB := Lib.hid (below_step HB.out hb)
      clear hb
      by_cases h0 : re = 0
      · subst h0
        have CV2 := Lib.hid (CV.out rfl)
        have f1 : ((0 : Int) != 0) = false := rfl
        clear CV
        have X7_0 := X7.out.at_ 0 _ rfl
        have X7_1 := X7.out.at_ 1 _ rfl
        go_wp2_with fail
        refine (CV2.out _ _ _ HB.out S1.out S2.out).mono ?_; rintro e w8 ⟨rfl, hb⟩
        clear X7_0 X7_1
        replace S1 := Lib.hid (S1.out.below hb)
        replace S2 := Lib.hid (S2.out.below hb)
        replace X7 := Lib.hid (X7.out.below hb)
        replace HB := Lib.hid (below_step HB.out hb)
        clear hb
        go_wp2_with fail
        refine (CW.out _ HB.out).mono ?_; rintro e w9 ⟨rfl, hb⟩
        replace S1 := Lib.hid (S1.out.below hb)
        replace S2 := Lib.hid (S2.out.below hb)
        replace X7 := Lib.hid (X7.out.below hb)
        replace HB := Lib.hid (below_step HB.out hb)
        clear hb
        go_wp2_with fail
        go_ret
        exact ⟨rfl, HB.out⟩
      · have f1 : (re != 0) = true := by simpa using h0
        clear CV h0
        go_wp2_with fail
        refine (CW.out _ HB.out).mono ?_; rintro e w9 ⟨rfl, hb⟩
        replace S1 := Lib.hid (S1.out.below hb)
        replace S2 := Lib.hid (S2.out.below hb)
        replace X7 := Lib.hid (X7.out.below hb)
        replace HB := Lib.hid (below_step HB.out hb)
        clear hb
        go_wp2_with fail
        go_ret
        exact ⟨rfl, HB.out⟩

end Go.Proofs.YthpioaboekpjoaaDoor
