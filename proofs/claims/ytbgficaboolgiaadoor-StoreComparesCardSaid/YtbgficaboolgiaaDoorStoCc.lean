/-
  Walk of StoreCompares.
-/
import Derived.Test.YtbgficaboolgiaaDoorStoCb
namespace Go.Proofs.YtbgficaboolgiaaDoor
open Go.RowKit Go.WideShapes Go.ChangeShapes Go.Deep
set_option linter.unusedVariables false
set_option linter.unusedSimpArgs false

set_option maxRecDepth 100000 in
set_option maxHeartbeats 32000000 in
theorem walkStoreCompares {H : Type} {enc : TypeId × Value → H} {base base' : Nat} {w : World} (v0 : Value) (d0 : DataW H) (p0 : List MemPlace) (g0 : DataW.Trod enc Tryd.prog w 0 (fun _ => true) true 37 v0 d0 p0) (hv0 : Value.okWide Tryd.prog w .any base 37 v0)
    (v1 : Value) (d1 : DataW H) (p1 : List MemPlace) (g1 : DataW.Trod enc Tryd.prog w 0 (fun _ => true) true 39 v1 d1 p1) (hv1 : Value.okWide Tryd.prog w .any base' 39 v1) (ht : Tab w)
    (z0 : ∀ n ∈ d0.weights Tryd.prog 37, n ≤ reachBytes) (z1 : ∀ n ∈ d1.weights Tryd.prog 39, n ≤ reachBytes) :
    Calls Tryd.prog 5 #[v0, v1] w fun e w' => e = .returned (.bool true) ∧ Below w.heap.size w w' := by
  obtain ⟨l0, hr, hn, hz, hw⟩ := arg_ress g0 hv0
  obtain ⟨qa, qb, qc, qs, rfl, hqs⟩ := arg_q g1 hv1
  have hlz : ∀ r ∈ l0, LabZ r := fun r h => ⟨hw z0 r h, (hz r h).2.2.2.1⟩
  obtain ⟨A, c, rfl, hc⟩ := hr.slice
  obtain ⟨N, hN⟩ : ∃ N, N = l0.length := ⟨_, rfl⟩
  rw [← hN] at hr hn hc ⊢
  obtain ⟨m, hm⟩ : ∃ m, m = min N 60 := ⟨_, rfl⟩
  have hr2 := hr.takeA m (by omega)
  have hll : (l0.take m).length ≤ 60 := by rw [List.length_take]; omega
  have C1 := Lib.hid (fun W (hW : Below w.heap.size w W) => stoCompare W _ (l0.take m) (hr2.below hW) (by omega) (fun r h => hlz r (List.mem_of_mem_take h)) qa qc (ht.below hW))
  have C2 := Lib.hid (fun W (hW : Below w.heap.size w W) => refCompare W _ (l0.take m) (hr2.below hW) (by omega) (fun r h => hlz r (List.mem_of_mem_take h)) qa qc)
  have CW := Lib.hid (fun W (hW : Below w.heap.size w W) => lawAwake W (ht.below hW))
  generalize l0.take m = l at *
  have e1 : min (N : Int) 60 = (m : Int) := by omega
  have g1 : (0 : Int) ≤ (m : Int) := by omega
  have g3 : (m : Int) ≤ (c : Int) := by omega
  have g5 : m ≤ c := by omega
  clear g0 hv0 g1 hv1 hr hr2 hm hlz hw hz z0 z1 ht hN
  have hL := cmp_len l qa qc l.length
  rw [show cmpN l qa qc l.length = cmpT l qa qc from rfl] at hL
  generalize cmpT l qa qc = x1 at *
  obtain ⟨sn1, la, lb, lc⟩ := x1
  unfold CMP at C1 C2
  simp only at C1 C2 hL
  replace hL := hL.2
  have CS1 := Lib.hid (fun W v1 v2 (h1 : SL W v1 la) (h2 : SL W v2 la) => refSameTexts W v1 v2 la h1 h2 (by omega))
  have CS2 := Lib.hid (fun W v1 v2 (h1 : SL W v1 lb) (h2 : SL W v2 lb) => refSameTexts W v1 v2 lb h1 h2 (by omega))
  have CS3 := Lib.hid (fun W v1 v2 (h1 : SL W v1 lc) (h2 : SL W v2 lc) => refSameTexts W v1 v2 lc h1 h2 (by omega))
  clear hqs sn1 hL hll
  go_enter Tryd.func5, Tryd.ntmps5
  go_upto_region 1 with fail
  have XQ := Lib.hid (box_new (W := w) (g := w.heap.size) 39 #[.string qa, .string qb, .string qc, .int .u64 (qs : Nat)] (by simp))
  have HB := Lib.hid (below_alloc w (.cells #[.string qa, .string qb, .string qc, .int .u64 (qs : Nat)] 39))
  generalize w.alloc (.cells #[.string qa, .string qb, .string qc, .int .u64 (qs : Nat)] 39) = w1 at *
  go_upto_region 2 with fail
  have XQ_0 := XQ.out.at_ 0 _ rfl
  have XQ_2 := XQ.out.at_ 2 _ rfl
  go_wp2_with fail
  refine (C1.out _ HB.out).mono ?_; rintro e w2 ⟨P1, Q1, R1, rfl, ha, hb', hc', hb⟩
  clear XQ_0 XQ_2
  replace XQ := Lib.hid (XQ.out.below hb)
  replace HB := Lib.hid (below_step HB.out hb)
  clear hb
  have SA := Lib.hid ha
  have SB := Lib.hid hb'
  have SC := Lib.hid hc'
  clear ha hb' hc' C1
  have XQ_0 := XQ.out.at_ 0 _ rfl
  have XQ_2 := XQ.out.at_ 2 _ rfl
  go_wp2_with fail
  refine (C2.out _ HB.out).mono ?_; rintro e w3 ⟨P2, Q2, R2, rfl, ha, hb', hc', hb⟩
  clear XQ_0 XQ_2
  replace XQ := Lib.hid (XQ.out.below hb)
  replace SA := Lib.hid (SA.out.below hb)
  replace SB := Lib.hid (SB.out.below hb)
  replace SC := Lib.hid (SC.out.below hb)
  replace HB := Lib.hid (below_step HB.out hb)
  clear hb
  have SD := Lib.hid ha
  have SE := Lib.hid hb'
  have SF := Lib.hid hc'
  clear ha hb' hc' C2
  clear XQ
  go_wp2_with fail
  refine (CS1.out _ _ _ SA.out SD.out).mono ?_; rintro e w4 ⟨rfl, n4, rfl⟩
  have hb := below_drewN (Below.refl w3.heap.size w3) n4
  generalize w3.drewN n4 = w4 at *
  replace SA := Lib.hid (SA.out.below hb)
  replace SB := Lib.hid (SB.out.below hb)
  replace SC := Lib.hid (SC.out.below hb)
  replace SD := Lib.hid (SD.out.below hb)
  replace SE := Lib.hid (SE.out.below hb)
  replace SF := Lib.hid (SF.out.below hb)
  replace HB := Lib.hid (below_step HB.out hb)
  clear hb
  go_wp2_with fail
  refine (CS2.out _ _ _ SB.out SE.out).mono ?_; rintro e w5 ⟨rfl, n5, rfl⟩
  have hb := below_drewN (Below.refl w4.heap.size w4) n5
  generalize w4.drewN n5 = w5 at *
  replace SA := Lib.hid (SA.out.below hb)
  replace SB := Lib.hid (SB.out.below hb)
  replace SC := Lib.hid (SC.out.below hb)
  replace SD := Lib.hid (SD.out.below hb)
  replace SE := Lib.hid (SE.out.below hb)
  replace SF := Lib.hid (SF.out.below hb)
  replace HB := Lib.hid (below_step HB.out hb)
  clear hb
  go_wp2_with fail
  refine (CS3.out _ _ _ SC.out SF.out).mono ?_; rintro e w6 ⟨rfl, n6, rfl⟩
  have hb := below_drewN (Below.refl w5.heap.size w5) n6
  generalize w5.drewN n6 = w6 at *
  replace SA := Lib.hid (SA.out.below hb)
  replace SB := Lib.hid (SB.out.below hb)
  replace SC := Lib.hid (SC.out.below hb)
  replace SD := Lib.hid (SD.out.below hb)
  replace SE := Lib.hid (SE.out.below hb)
  replace SF := Lib.hid (SF.out.below hb)
  replace HB := Lib.hid (below_step HB.out hb)
  clear hb
  go_wp2_with fail
  refine (CW.out _ HB.out).mono ?_; rintro e w10 ⟨rfl, hb⟩
  replace SA := Lib.hid (SA.out.below hb)
  replace SB := Lib.hid (SB.out.below hb)
  replace SC := Lib.hid (SC.out.below hb)
  replace SD := Lib.hid (SD.out.below hb)
  replace SE := Lib.hid (SE.out.below hb)
  replace SF := Lib.hid (SF.out.below hb)
  replace HB := Lib.hid (below_step HB.out hb)
  clear hb
  go_wp2_with fail
  go_ret
  exact ⟨rfl, HB.out⟩

end Go.Proofs.YtbgficaboolgiaaDoor
