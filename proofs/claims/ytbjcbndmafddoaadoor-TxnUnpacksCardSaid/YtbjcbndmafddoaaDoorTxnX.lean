/-
  Walk of the law TxnUnpacks.
-/
import Derived.Test.YtbjcbndmafddoaaDoorUnpC
import Derived.Test.YtbjcbndmafddoaaDoorUnpD
import Derived.Test.YtbjcbndmafddoaaDoorTxnT
namespace Go.Proofs.YtbjcbndmafddoaaDoor
open Go.RowKit
set_option linter.unusedVariables false
set_option linter.unusedSimpArgs false

theorem unp_two (s : ByteArray) : (∃ c : Int, c ≠ 0 ∧ unpT s = ([], [], c)) ∨ ∃ ns zs, unpT s = (ns, zs, 0) := by
  unfold unpT
  by_cases h1 : (tl s 0 128).2.2 ≠ 0
  · left; exact ⟨_, h1, if_pos h1⟩
  rw [if_neg h1]
  generalize upRun s (tl s 0 128).1.length (tl s 0 128).2.1 [] = r
  unfold unpV
  by_cases h2 : r.2.2 ≠ 0
  · left; exact ⟨_, h2, if_pos h2⟩
  rw [if_neg h2]
  by_cases h3 : r.2.1 < s.size
  · left; exact ⟨5, by decide, if_pos h3⟩
  rw [if_neg h3]
  by_cases h4 : txV (tl s 0 128).1 r.1 = false
  · left; exact ⟨1, by decide, if_pos h4⟩
  · right; exact ⟨_, _, if_neg h4⟩
theorem pk_size {s : ByteArray} {ns : List ByteArray} {zs : List Int} (h : pkL ns zs = bl s) : ∀ t ∈ ns, t.size ≤ s.size := fun t ht => by
  have h1 := mem_len ht
  have h2 := congrArg List.length h
  rw [bl_len] at h2
  unfold pkL pList at h2
  simp only [List.length_append] at h2
  omega
set_option maxRecDepth 100000 in
set_option maxHeartbeats 8000000 in
theorem walkTxnUnpacks (s : ByteArray) (hs : s.size ≤ maxLen) (w : World) (ht : Tab w) (hm : MLen w) (hk : KW w) :
    Calls Tryd.prog 8 #[.string s] w fun e w' => e = .returned (.bool true) ∧ Below w.heap.size w w' := by
  have HK := Lib.hid hk
  have HM := Lib.hid hm
  have HT := Lib.hid ht
  have CW := Lib.hid (fun W h h' h'' => lawAwake W h h' h'')
  clear hk hm ht
  by_cases hbig : 3000 < s.size
  · have f1 : (3000 : Int) < s.size := by omega
    clear hbig
    go_enter Tryd.func8, Tryd.ntmps8
    go_wp2_with fail
    refine (CW.out _ HK.out HM.out HT.out).mono ?_; rintro e w3 ⟨rfl, hb⟩
    have HB := Lib.hid hb
    clear hb
    go_wp2_with fail
    go_ret
    exact ⟨rfl, HB.out⟩
  have f1 : ¬ (3000 : Int) < s.size := by omega
  have h3 : s.size ≤ 3000 := by omega
  have C1 := Lib.hid (fun w h h' => txnUnpack s w (by omega) h h')
  have C2 := Lib.hid (fun w => refUnpack s w (by omega))
  have hway := unp_two s
  have HBK := Lib.hid (fun ns zs (h : unpT s = (ns, zs, 0)) => unpT_back h)
  unfold RET at C1 C2
  generalize unpT s = r at *
  clear hbig
  rcases hway with ⟨c, hc, rfl⟩ | ⟨ns, zs, rfl⟩
  · simp only [List.length_nil] at C1 C2
    have f2 : (c != 0) = true := by simpa using hc
    have f3 : (c == 0) = false := by simpa using hc
    have f4 : (c != c) = false := by simp
    have f5 : (c == c) = true := by simp
    have CS := Lib.hid (fun W v1 v2 v3 v4 h1 h2 h3 h4 => refSame W v1 v2 v3 v4 [] [] [] [] h1 h2 h3 h4 (by decide) (by decide) (by decide) (by decide))
    rw [sameT_refl] at CS
    clear hc h3 HBK
    go_enter Tryd.func8, Tryd.ntmps8
    go_wp2_with fail
    refine (C1.out _ HK.out HM.out).mono ?_; rintro e w1 ⟨v1, v2, rfl, h1, h2, hb⟩
    have HB := Lib.hid hb
    have HS1 := Lib.hid h1
    have HS2 := Lib.hid h2
    obtain ⟨A1, c1, rfl, _, _⟩ := h1
    obtain ⟨A2, c2, rfl, _, _⟩ := h2
    simp only [List.length_nil] at HS1 HS2 ⊢
    clear hb
    go_wp2_with fail
    have XA := Lib.hid (box_new (W := w1) (g := w1.heap.size) 25 #[.slice A1 0 c1, .slice A2 0 c2] (by simp))
    have hba := (below_alloc w1 (.cells #[.slice A1 0 c1, .slice A2 0 c2] 25))
    replace HS1 := Lib.hid (HS1.out.below hba)
    replace HS2 := Lib.hid (HS2.out.below hba)
    replace HB := Lib.hid (below_step HB.out hba)
    clear hba
    generalize w1.alloc (.cells #[.slice A1 0 c1, .slice A2 0 c2] 25) = w2 at *
    refine (C2.out _).mono ?_; rintro e w3 ⟨v3, v4, rfl, h3, h4, hb⟩
    replace HS1 := Lib.hid (HS1.out.below hb)
    replace HS2 := Lib.hid (HS2.out.below hb)
    replace XA := Lib.hid (XA.out.below hb)
    replace HB := Lib.hid (below_step HB.out hb)
    clear hb
    have HS3 := Lib.hid h3
    have HS4 := Lib.hid h4
    obtain ⟨A3, c3, rfl, _, _⟩ := h3
    obtain ⟨A4, c4, rfl, _, _⟩ := h4
    simp only [List.length_nil] at HS3 HS4 ⊢
    have XA_0 := XA.out.at_ 0 _ rfl
    have XA_1 := XA.out.at_ 1 _ rfl
    have XA_l := XA.out.lt
    go_wp2_with fail
    clear XA_0 XA_1 XA_l
    have XB := Lib.hid (box_new (W := w3) (g := w3.heap.size) 25 #[.slice A3 0 c3, .slice A4 0 c4] (by simp))
    have hba := (below_alloc w3 (.cells #[.slice A3 0 c3, .slice A4 0 c4] 25))
    replace XA := Lib.hid (XA.out.below hba)
    replace HS1 := Lib.hid (HS1.out.below hba)
    replace HS2 := Lib.hid (HS2.out.below hba)
    replace HS3 := Lib.hid (HS3.out.below hba)
    replace HS4 := Lib.hid (HS4.out.below hba)
    replace HB := Lib.hid (below_step HB.out hba)
    clear hba
    generalize w3.alloc (.cells #[.slice A3 0 c3, .slice A4 0 c4] 25) = w4 at *
    refine (CS.out _ _ _ _ _ HS1.out HS2.out HS3.out HS4.out).mono ?_; rintro e w5 ⟨rfl, hb⟩
    replace XA := Lib.hid (XA.out.below hb)
    replace HS1 := Lib.hid (HS1.out.below hb)
    replace HS2 := Lib.hid (HS2.out.below hb)
    replace HS3 := Lib.hid (HS3.out.below hb)
    replace HS4 := Lib.hid (HS4.out.below hb)
    replace XB := Lib.hid (XB.out.below hb)
    replace HB := Lib.hid (below_step HB.out hb)
    clear hb
    go_wp2_with fail
    refine (CW.out _ (HK.out.below HB.out) (HM.out.below HB.out) (HT.out.below HB.out)).mono ?_; rintro e w7 ⟨rfl, hb⟩
    replace XA := Lib.hid (XA.out.below hb)
    replace HS1 := Lib.hid (HS1.out.below hb)
    replace HS2 := Lib.hid (HS2.out.below hb)
    replace HS3 := Lib.hid (HS3.out.below hb)
    replace HS4 := Lib.hid (HS4.out.below hb)
    replace XB := Lib.hid (XB.out.below hb)
    replace HB := Lib.hid (below_step HB.out hb)
    clear hb
    go_wp2_with fail
    go_ret
    exact ⟨rfl, HB.out⟩
  · obtain ⟨hv, hpl⟩ := HBK.out ns zs rfl
    simp only at C1 C2
    have hsz : ∀ t ∈ ns, t.size ≤ 2000000 := fun t ht => Nat.le_trans (pk_size hpl t ht) (by omega)
    obtain ⟨hlz, h128, _⟩ := txv_parts hv
    have CS := Lib.hid (fun W v1 v2 v3 v4 h1 h2 h3 h4 => refSame W v1 v2 v3 v4 ns zs ns zs h1 h2 h3 h4 (by omega) (by omega) (by omega) (by omega))
    rw [sameT_refl] at CS
    have CP := Lib.hid (fun W v1 v2 h1 h2 hk hm ht => (show Calls Tryd.prog 29 #[.agg #[v1, v2]] W (fun e w' => e = .returned (.tuple #[.string s, .int .i64 0]) ∧ Below W.heap.size W w') from by
      have := txnPack W v1 v2 ns zs h1 h2 hsz (by omega) (by omega) (by rw [hpl, bl_len]; omega) hk hm ht
      rw [if_pos hv, if_pos hv, hpl, show mkS (bl s) = s from ba_eq (mkS_data _)] at this
      exact this))
    have bs : (s.toList == s.toList) = true := by simp
    clear hv hpl hsz hlz h128 h3 HBK
    go_enter Tryd.func8, Tryd.ntmps8
    go_wp2_with fail
    refine (C1.out _ HK.out HM.out).mono ?_; rintro e w1 ⟨v1, v2, rfl, h1, h2, hb⟩
    have HB := Lib.hid hb
    have HS1 := Lib.hid h1
    have HS2 := Lib.hid h2
    obtain ⟨A1, c1, rfl, _, _⟩ := h1
    obtain ⟨A2, c2, rfl, _, _⟩ := h2
    clear hb
    go_wp2_with fail
    have XA := Lib.hid (box_new (W := w1) (g := w1.heap.size) 25 #[.slice A1 ns.length c1, .slice A2 zs.length c2] (by simp))
    have hba := (below_alloc w1 (.cells #[.slice A1 ns.length c1, .slice A2 zs.length c2] 25))
    replace HS1 := Lib.hid (HS1.out.below hba)
    replace HS2 := Lib.hid (HS2.out.below hba)
    replace HB := Lib.hid (below_step HB.out hba)
    clear hba
    generalize w1.alloc (.cells #[.slice A1 ns.length c1, .slice A2 zs.length c2] 25) = w2 at *
    refine (C2.out _).mono ?_; rintro e w3 ⟨v3, v4, rfl, h3, h4, hb⟩
    replace HS1 := Lib.hid (HS1.out.below hb)
    replace HS2 := Lib.hid (HS2.out.below hb)
    replace XA := Lib.hid (XA.out.below hb)
    replace HB := Lib.hid (below_step HB.out hb)
    clear hb
    have HS3 := Lib.hid h3
    have HS4 := Lib.hid h4
    obtain ⟨A3, c3, rfl, _, _⟩ := h3
    obtain ⟨A4, c4, rfl, _, _⟩ := h4
    have XA_0 := XA.out.at_ 0 _ rfl
    have XA_1 := XA.out.at_ 1 _ rfl
    have XA_l := XA.out.lt
    go_wp2_with fail
    clear XA_0 XA_1 XA_l
    have XB := Lib.hid (box_new (W := w3) (g := w3.heap.size) 25 #[.slice A3 ns.length c3, .slice A4 zs.length c4] (by simp))
    have hba := (below_alloc w3 (.cells #[.slice A3 ns.length c3, .slice A4 zs.length c4] 25))
    replace XA := Lib.hid (XA.out.below hba)
    replace HS1 := Lib.hid (HS1.out.below hba)
    replace HS2 := Lib.hid (HS2.out.below hba)
    replace HS3 := Lib.hid (HS3.out.below hba)
    replace HS4 := Lib.hid (HS4.out.below hba)
    replace HB := Lib.hid (below_step HB.out hba)
    clear hba
    generalize w3.alloc (.cells #[.slice A3 ns.length c3, .slice A4 zs.length c4] 25) = w4 at *
    refine (CS.out _ _ _ _ _ HS1.out HS2.out HS3.out HS4.out).mono ?_; rintro e w5 ⟨rfl, hb⟩
    replace XA := Lib.hid (XA.out.below hb)
    replace HS1 := Lib.hid (HS1.out.below hb)
    replace HS2 := Lib.hid (HS2.out.below hb)
    replace HS3 := Lib.hid (HS3.out.below hb)
    replace HS4 := Lib.hid (HS4.out.below hb)
    replace XB := Lib.hid (XB.out.below hb)
    replace HB := Lib.hid (below_step HB.out hb)
    clear hb
    have XA_0 := XA.out.at_ 0 _ rfl
    have XA_1 := XA.out.at_ 1 _ rfl
    go_wp2_with fail
    clear XA_0 XA_1
    refine (CP.out _ _ _ HS1.out HS2.out (HK.out.below HB.out) (HM.out.below HB.out) (HT.out.below HB.out)).mono ?_; rintro e w6 ⟨rfl, hb⟩
    replace XA := Lib.hid (XA.out.below hb)
    replace HS1 := Lib.hid (HS1.out.below hb)
    replace HS2 := Lib.hid (HS2.out.below hb)
    replace HS3 := Lib.hid (HS3.out.below hb)
    replace HS4 := Lib.hid (HS4.out.below hb)
    replace XB := Lib.hid (XB.out.below hb)
    replace HB := Lib.hid (below_step HB.out hb)
    clear hb
    go_wp2_with fail
    refine (CW.out _ (HK.out.below HB.out) (HM.out.below HB.out) (HT.out.below HB.out)).mono ?_; rintro e w7 ⟨rfl, hb⟩
    replace XA := Lib.hid (XA.out.below hb)
    replace HS1 := Lib.hid (HS1.out.below hb)
    replace HS2 := Lib.hid (HS2.out.below hb)
    replace HS3 := Lib.hid (HS3.out.below hb)
    replace HS4 := Lib.hid (HS4.out.below hb)
    replace XB := Lib.hid (XB.out.below hb)
    replace HB := Lib.hid (below_step HB.out hb)
    clear hb
    go_wp2_with fail
    go_ret
    exact ⟨rfl, HB.out⟩

end Go.Proofs.YtbjcbndmafddoaaDoor
