/-
  Walk of WaveRoundTrips.
-/
import Derived.Test.YthpioaboekpjoaaDoorWawB
import Derived.Test.YthpioaboekpjoaaDoorWawC
namespace Go.Proofs.YthpioaboekpjoaaDoor
open Go.RowKit
set_option linter.unusedVariables false
set_option linter.unusedSimpArgs false

theorem printL_sz {ns : List ByteArray} {rs : List (List Int)} (h : WvV ns rs) : (printL ns rs).length ≤ 1100 * (rs.length + 1) := by
  rw [← prK_all]
  exact prK_size h rs.length (Nat.le_refl _)
set_option maxRecDepth 100000 in
set_option maxHeartbeats 16000000 in
theorem walkWaveRoundTrips {H : Type} {enc : TypeId × Value → H} {base : Nat} {w : World} (v0 : Value) (d0 : DataW H) (p0 : List MemPlace) (g0 : DataW.Trod enc Tryd.prog w 0 (fun _ => true) true 26 v0 d0 p0) (hv0 : Value.okWide Tryd.prog w .any base 26 v0)
    (ht : Tab w) (hm : MLen w) (hk : KW w) :
    Calls Tryd.prog 5 #[v0] w fun e w' => e = .returned (.bool true) ∧ Below w.heap.size w w' := by
  obtain ⟨v1, v2, ns, rs, rfl, h1, h2, hz⟩ := arg_wave g0 hv0
  clear g0 hv0
  have CF := Lib.hid (fun W (hW : Below w.heap.size w W) => lawFewW W v1 v2 ns rs (h1.below hW) (h2.below hW) hz)
  have CW := Lib.hid (fun W (hW : Below w.heap.size w W) => lawAwakeW W (hk.below hW) (hm.below hW) (ht.below hW))
  have CP := Lib.hid (fun W (hW : Below w.heap.size w W) => wavPrint W v1 v2 ns rs (h1.below hW) (h2.below hW) hz (fun hv => by have := printL_size (of_decide_eq_true hv : WvV ns rs); omega) (hk.below hW) (hm.below hW) (ht.below hW))
  have CR := Lib.hid (fun W (hW : Below w.heap.size w W) => refPrintW W v1 v2 ns rs (h1.below hW) (h2.below hW) hz)
  have CV := Lib.hid (fun W (hW : Below w.heap.size w W) => refValidW W v1 v2 ns rs (h1.below hW) (h2.below hW) hz)
  have CQ : Hid (fewW ns rs = true → wvV ns rs = true → ∀ W (hW : Below w.heap.size w W), Calls Tryd.prog 12 #[.string (printW ns rs)] W (PARW W (ns, rs, 0))) := Lib.hid fun hfw hv W hW => by
    have := wavParse (printW ns rs) W (by
      have h := printL_sz (of_decide_eq_true hv : WvV ns rs)
      have h2 := (of_decide_eq_true hfw : FewW ns rs).2.1
      unfold printW
      rw [if_pos hv, Lib.size_eq, List.toList_toArray]; omega) (hk.below hW) (hm.below hW)
    rwa [parse_printW hv] at this
  have HE : Hid (wvV ns rs = false → printW ns rs = ⟨#[]⟩) := Lib.hid fun hv => by unfold printW; rw [hv]; rfl
  have S1 := Lib.hid h1
  have S2 := Lib.hid h2
  have CS := Lib.hid (fun W u1 u2 u3 u4 a b c d => same_par (W := W) (r := (ns, rs, 0)) (u1 := u1) (u2 := u2) (u3 := u3) (u4 := u4) a b c d hz)
  obtain ⟨A2, c2, rfl, -⟩ := h2.slice
  obtain ⟨A1, c1, rfl, -⟩ := h1
  generalize fewW ns rs = fb at *
  generalize printW ns rs = s at *
  generalize wvV ns rs = vb at *
  obtain ⟨N, hN⟩ : ∃ N, N = ns.length := ⟨_, rfl⟩
  obtain ⟨M, hM⟩ : ∃ M, M = rs.length := ⟨_, rfl⟩
  rw [← hN, ← hM] at CF CP CR CV ⊢
  rw [← hN] at S1
  rw [← hM] at S2
  have HN := Lib.hid hN
  have HM := Lib.hid hM
  clear h2 hz hk hm ht hN hM
  have bs : (s.toList != s.toList) = false := by simp
  have bs2 : (s.toList == s.toList) = true := by simp
  cases fb
  · clear HN HM
    go_enter Tryd.func5, Tryd.ntmps5
    go_upto_region 1 with fail
    have XA := Lib.hid (box_new (W := w) (g := w.heap.size) 26 #[.slice A1 N c1, .slice A2 M c2] (by simp))
    have HB := Lib.hid (below_alloc w (.cells #[.slice A1 N c1, .slice A2 M c2] 26))
    generalize w.alloc (.cells #[.slice A1 N c1, .slice A2 M c2] 26) = w1 at *
    have XA_0 := XA.out.at_ 0 _ rfl
    have XA_1 := XA.out.at_ 1 _ rfl
    go_wp2_with fail
    refine (CF.out _ HB.out).mono ?_; rintro e w2 ⟨rfl, hb⟩
    clear XA_0 XA_1
    replace XA := Lib.hid (XA.out.below hb)
    replace HB := Lib.hid (below_step HB.out hb)
    clear hb
    go_wp2_with fail
    refine (CW.out _ HB.out).mono ?_; rintro e w3 ⟨rfl, hb⟩
    replace XA := Lib.hid (XA.out.below hb)
    replace HB := Lib.hid (below_step HB.out hb)
    clear hb
    go_wp2_with fail
    go_ret
    exact ⟨rfl, HB.out⟩
  · cases vb
    · have he : s.size = 0 := by rw [HE.out rfl]; rfl
      have e1 : s.toList = [] := (str_empty2 s).2.2.2 he
      have e2 : s.toList.isEmpty = true := by rw [(str_empty2 s).1]; exact decide_eq_true he
      clear HN HM HE CQ he
      go_enter Tryd.func5, Tryd.ntmps5
      go_upto_region 1 with fail
      have XA := Lib.hid (box_new (W := w) (g := w.heap.size) 26 #[.slice A1 N c1, .slice A2 M c2] (by simp))
      have HB := Lib.hid (below_alloc w (.cells #[.slice A1 N c1, .slice A2 M c2] 26))
      generalize w.alloc (.cells #[.slice A1 N c1, .slice A2 M c2] 26) = w1 at *
      have XA_0 := XA.out.at_ 0 _ rfl
      have XA_1 := XA.out.at_ 1 _ rfl
      go_wp2_with fail
      refine (CF.out _ HB.out).mono ?_; rintro e w2 ⟨rfl, hb⟩
      clear XA_0 XA_1
      replace XA := Lib.hid (XA.out.below hb)
      replace HB := Lib.hid (below_step HB.out hb)
      clear hb
      have XA_0 := XA.out.at_ 0 _ rfl
      have XA_1 := XA.out.at_ 1 _ rfl
      go_wp2_with fail
      clear XA_0 XA_1
      refine (CP.out _ HB.out).mono ?_; rintro e w3 ⟨rfl, hb⟩
      replace XA := Lib.hid (XA.out.below hb)
      replace HB := Lib.hid (below_step HB.out hb)
      clear hb
      have XA_0 := XA.out.at_ 0 _ rfl
      have XA_1 := XA.out.at_ 1 _ rfl
      go_wp2_with fail
      clear XA_0 XA_1
      refine (CR.out _ HB.out).mono ?_; rintro e w4 ⟨rfl, hb⟩
      replace XA := Lib.hid (XA.out.below hb)
      replace HB := Lib.hid (below_step HB.out hb)
      clear hb
      have XA_0 := XA.out.at_ 0 _ rfl
      have XA_1 := XA.out.at_ 1 _ rfl
      go_wp2_with fail
      clear XA_0 XA_1
      refine (CV.out _ HB.out).mono ?_; rintro e w5 ⟨rfl, hb⟩
      replace XA := Lib.hid (XA.out.below hb)
      replace HB := Lib.hid (below_step HB.out hb)
      clear hb
      go_wp2_with fail
      refine (CW.out _ HB.out).mono ?_; rintro e w6 ⟨rfl, hb⟩
      replace XA := Lib.hid (XA.out.below hb)
      replace HB := Lib.hid (below_step HB.out hb)
      clear hb
      go_wp2_with fail
      go_ret
      exact ⟨rfl, HB.out⟩
    · replace CQ := Lib.hid (CQ.out rfl rfl)
      unfold PARW at CQ
      clear HE
      go_enter Tryd.func5, Tryd.ntmps5
      go_upto_region 1 with fail
      have XA := Lib.hid (box_new (W := w) (g := w.heap.size) 26 #[.slice A1 N c1, .slice A2 M c2] (by simp))
      have HB := Lib.hid (below_alloc w (.cells #[.slice A1 N c1, .slice A2 M c2] 26))
      generalize w.alloc (.cells #[.slice A1 N c1, .slice A2 M c2] 26) = w1 at *
      have XA_0 := XA.out.at_ 0 _ rfl
      have XA_1 := XA.out.at_ 1 _ rfl
      go_wp2_with fail
      refine (CF.out _ HB.out).mono ?_; rintro e w2 ⟨rfl, hb⟩
      clear XA_0 XA_1
      replace XA := Lib.hid (XA.out.below hb)
      replace HB := Lib.hid (below_step HB.out hb)
      clear hb
      have XA_0 := XA.out.at_ 0 _ rfl
      have XA_1 := XA.out.at_ 1 _ rfl
      go_wp2_with fail
      clear XA_0 XA_1
      refine (CP.out _ HB.out).mono ?_; rintro e w3 ⟨rfl, hb⟩
      replace XA := Lib.hid (XA.out.below hb)
      replace HB := Lib.hid (below_step HB.out hb)
      clear hb
      have XA_0 := XA.out.at_ 0 _ rfl
      have XA_1 := XA.out.at_ 1 _ rfl
      go_wp2_with fail
      clear XA_0 XA_1
      refine (CR.out _ HB.out).mono ?_; rintro e w4 ⟨rfl, hb⟩
      replace XA := Lib.hid (XA.out.below hb)
      replace HB := Lib.hid (below_step HB.out hb)
      clear hb
      have XA_0 := XA.out.at_ 0 _ rfl
      have XA_1 := XA.out.at_ 1 _ rfl
      go_wp2_with fail
      clear XA_0 XA_1
      refine (CV.out _ HB.out).mono ?_; rintro e w5 ⟨rfl, hb⟩
      replace XA := Lib.hid (XA.out.below hb)
      replace HB := Lib.hid (below_step HB.out hb)
      clear hb
      go_wp2_with fail
      refine (CQ.out _ HB.out).mono ?_; rintro e w6 ⟨u1, u2, rfl, s1, s2, hb⟩
      have S3 := Lib.hid s1
      have S4 := Lib.hid s2
      obtain ⟨B1', d1, rfl, -⟩ := id s1
      obtain ⟨B2', d2, rfl, -⟩ := s2.slice
      rw [← HN.out] at S3 ⊢
      rw [← HM.out] at S4 ⊢
      clear s1 s2 CQ HN HM
      replace XA := Lib.hid (XA.out.below hb)
      replace HB := Lib.hid (below_step HB.out hb)
      clear hb
      have T1 := Lib.hid (S1.out.below HB.out)
      have T2 := Lib.hid (S2.out.below HB.out)
      go_upto_region 9 with fail
      have X7 := Lib.hid (box_new (W := w6) (g := w6.heap.size) 26 #[.slice B1' N d1, .slice B2' M d2] (by simp))
      have hba := (below_alloc w6 (.cells #[.slice B1' N d1, .slice B2' M d2] 26))
      replace XA := Lib.hid (XA.out.below hba)
      replace S3 := Lib.hid (S3.out.below hba)
      replace S4 := Lib.hid (S4.out.below hba)
      replace T1 := Lib.hid (T1.out.below hba)
      replace T2 := Lib.hid (T2.out.below hba)
      replace HB := Lib.hid (below_step HB.out hba)
      clear hba
      generalize w6.alloc (.cells #[.slice B1' N d1, .slice B2' M d2] 26) = w7 at *
      have X7_0 := X7.out.at_ 0 _ rfl
      have X7_1 := X7.out.at_ 1 _ rfl
      have XA_0 := XA.out.at_ 0 _ rfl
      have XA_1 := XA.out.at_ 1 _ rfl
      go_wp2_with fail
      clear X7_0 X7_1 XA_0 XA_1
      refine (CS.out _ _ _ _ _ S3.out S4.out T1.out T2.out).mono ?_; rintro e w8 ⟨rfl, hb⟩
      replace HB := Lib.hid (below_step HB.out hb)
      clear hb
      go_wp2_with fail
      refine (CW.out _ HB.out).mono ?_; rintro e w9 ⟨rfl, hb⟩
      replace HB := Lib.hid (below_step HB.out hb)
      clear hb
      go_wp2_with fail
      go_ret
      exact ⟨rfl, HB.out⟩

end Go.Proofs.YthpioaboekpjoaaDoor
