/-
  Walk of the law TxnRoundTrips.
-/
import Derived.Test.YtbjcbndmafddoaaGreatDoorTxnRp
import Derived.Test.YtbjcbndmafddoaaGreatDoorTxE
namespace Go.Proofs.YtbjcbndmafddoaaGreatDoor
open Go.RowKit
set_option linter.unusedVariables false
set_option linter.unusedSimpArgs false

theorem flat_len {α : Type} (f : α → List UInt8) (B : Nat) : ∀ l : List α, (∀ x ∈ l, (f x).length ≤ B) → ((l.map f).flatten).length ≤ l.length * B
  | [], _ => by simp
  | x :: l, h => by
    have h1 := h x (by simp)
    have h2 := flat_len f B l (fun y hy => h y (List.mem_cons_of_mem _ hy))
    simp only [List.map_cons, List.flatten_cons, List.length_append, List.length_cons]
    rw [Nat.succ_mul]; omega
theorem few_pack {ns : List ByteArray} {zs : List Int} (h : Few ns zs) (hv : txV ns zs = true) : (pkL ns zs).length ≤ 100000 := by
  obtain ⟨h1, h2, h3⟩ := h
  have a := flat_len pText 62 ns (fun s hs => by have := h3 s hs; have := pText_len s (by omega); omega)
  have b := flat_len pNum 22 zs (fun z hz => by
    have hw := (txv_parts hv).2.2.2.2 z hz
    unfold wordB at hw
    have := of_decide_eq_true hw
    exact pNum_len z (by omega) (by omega))
  have c := pNum_len (ns.length : Int) (by omega) (by omega)
  unfold pkL pList
  rw [List.length_append, List.length_append]
  have a2 : ns.length * 62 ≤ 140 * 62 := Nat.mul_le_mul_right _ h1
  have b2 : zs.length * 22 ≤ 140 * 22 := Nat.mul_le_mul_right _ h2
  omega
theorem few_print {ns : List ByteArray} {zs : List Int} (h : Few ns zs) (hv : txV ns zs = true) : (printT ns zs).size ≤ 10000 ∧ (joinP ((prs ns zs).map pstr)).length ≤ 10000 := by
  obtain ⟨hl, h128, _, _, hw⟩ := txv_parts hv
  have h1 := prB_size (B := 40) h.2.2 hw ns.length
  have e : prB ns zs ns.length = printT ns zs := by unfold printT; rw [if_pos hv, prB_all rfl hl.symm]
  rw [e] at h1
  have h2 : ns.length * (40 + 23) ≤ 140 * 63 := Nat.mul_le_mul_right _ h.1
  have h3 : (printT ns zs).size = (joinP ((prs ns zs).map pstr)).length := by unfold printT; rw [if_pos hv, Lib.size_eq]
  omega
theorem sameT_refl2 (ns : List ByteArray) (zs : List Int) : sameT ns zs ns zs = true := by simp [sameT]

set_option maxRecDepth 100000 in
set_option maxHeartbeats 8000000 in
theorem walkTxnRoundTrips {H : Type} {enc : TypeId × Value → H} {base : Nat} (v : Value) (d : DataW H) (p : List MemPlace)
    (w : World) (h : DataW.Trod enc Tryz.prog w 0 (fun _ => true) true 25 v d p) (hv : Value.okWide Tryz.prog w .any base 25 v) (ht : Tab w) (hm : MLen w) (hk : KW w) :
    Calls Tryz.prog 3 #[v] w fun e w' => e = .returned (.bool true) ∧ Below w.heap.size w w' := by
  obtain ⟨v1, v2, ns, zs, rfl, h1, h2, n1, n2, hsz⟩ := arg_txn h hv
  have HK := Lib.hid hk
  have HM := Lib.hid hm
  have HT := Lib.hid ht
  have HQ1 := Lib.hid h1
  have HQ2 := Lib.hid h2
  have CW := Lib.hid (fun W h h' h'' => lawAwake W h h' h'')
  have CF := Lib.hid (fun W h1 h2 => lawFew W v1 v2 ns zs h1 h2 n1 n2 hsz)
  clear h hv h1 h2 ht hm hk
  cases hf : decide (Few ns zs)
  · rw [hf] at CF
    clear hf
    go_enter Tryz.func3, Tryz.ntmps3
    go_wp2_with fail
    have XA := Lib.hid (box_new (W := w) (g := w.heap.size) 25 #[v1, v2] (by simp))
    have HB := Lib.hid (below_alloc w (.cells #[v1, v2] 25))
    generalize w.alloc (.cells #[v1, v2] 25) = w1 at *
    refine (CF.out _ (HQ1.out.below HB.out) (HQ2.out.below HB.out)).mono ?_; rintro e w2 ⟨rfl, hb⟩
    replace XA := Lib.hid (XA.out.below hb)
    replace HB := Lib.hid (below_step HB.out hb)
    clear hb
    go_wp2_with fail
    refine (CW.out _ (HK.out.below HB.out) (HM.out.below HB.out) (HT.out.below HB.out)).mono ?_; rintro e w3 ⟨rfl, hb⟩
    replace XA := Lib.hid (XA.out.below hb)
    replace HB := Lib.hid (below_step HB.out hb)
    clear hb
    go_wp2_with fail
    go_ret
    exact ⟨rfl, HB.out⟩
  have hfew : Few ns zs := of_decide_eq_true hf
  rw [hf] at CF
  have a1 := hfew.1
  have a2 := hfew.2.1
  have hsz2 : ∀ s ∈ ns, s.size ≤ 2000000 := fun s hs => Nat.le_trans (hfew.2.2 s hs) (by decide)
  have C1 := Lib.hid (fun W h1 h2 hk hm ht => txnPrint W v1 v2 ns zs h1 h2 hsz2 (by omega) n2 (fun hv => Nat.le_trans (few_print hfew hv).2 (by omega)) hk hm ht)
  have C2 := Lib.hid (fun W h1 h2 => refPrint W v1 v2 ns zs h1 h2 hsz2 n1 n2)
  have C3 := Lib.hid (fun W h1 h2 hk hm ht => txnPack W v1 v2 ns zs h1 h2 hsz2 n1 n2 (fun hv => Nat.le_trans (few_pack hfew hv) (by omega)) hk hm ht)
  have C4 := Lib.hid (fun W h1 h2 => refPack W v1 v2 ns zs h1 h2 hsz2 n1 n2 (fun hv => Nat.le_trans (few_pack hfew hv) (by omega)))
  have C5 := Lib.hid (fun W h1 h2 => refValidT W v1 v2 ns zs h1 h2 hsz2 n1 n2)
  clear hf hsz n1 n2
  cases hv : txV ns zs
  · have hpt : printT ns zs = ⟨#[]⟩ := by unfold printT; rw [if_neg (by simp [hv])]
    rw [hpt] at C1 C2
    rw [hv] at C3 C4 C5
    simp only [Bool.false_eq_true, if_false] at C3 C4
    clear hv hfew hpt
    go_enter Tryz.func3, Tryz.ntmps3
    go_wp2_with fail
    have XA := Lib.hid (box_new (W := w) (g := w.heap.size) 25 #[v1, v2] (by simp))
    have HB := Lib.hid (below_alloc w (.cells #[v1, v2] 25))
    generalize w.alloc (.cells #[v1, v2] 25) = w1 at *
    refine (CF.out _ (HQ1.out.below HB.out) (HQ2.out.below HB.out)).mono ?_; rintro e w2 ⟨rfl, hb⟩
    replace XA := Lib.hid (XA.out.below hb)
    replace HB := Lib.hid (below_step HB.out hb)
    clear hb
    go_wp2_with fail
    have VP1 := Lib.hid (fun p : Lat w2 => C1.out p.w (HQ1.out.below (below_step HB.out p.h)) (HQ2.out.below (below_step HB.out p.h)) (HK.out.below (below_step HB.out p.h)) (HM.out.below (below_step HB.out p.h)) (HT.out.below (below_step HB.out p.h)))
    have VP2 := Lib.hid (fun p : Lat w2 => C2.out p.w (HQ1.out.below (below_step HB.out p.h)) (HQ2.out.below (below_step HB.out p.h)))
    have l0 := XA.out.lat 0 _ rfl
    have l1 := XA.out.lat 1 _ rfl
    refine wp_region_lat (by kernel_rfl) (by kernel_rfl) ?_
    repeat (go_big_quiet_step (first | (with_reducible exact lat_call (VP1.out _)) | (with_reducible exact lat_call (VP2.out _))))
    refine wpQuiet_nil ?_; intro w3 hb
    clear l0 l1 VP1 VP2
    replace XA := Lib.hid (XA.out.below hb)
    replace HB := Lib.hid (below_step HB.out hb)
    clear hb
    have XA_0 := XA.out.at_ 0 _ rfl
    have XA_1 := XA.out.at_ 1 _ rfl
    go_wp2_with fail
    clear XA_0 XA_1
    refine (C3.out _ (HQ1.out.below HB.out) (HQ2.out.below HB.out) (HK.out.below HB.out) (HM.out.below HB.out) (HT.out.below HB.out)).mono ?_; rintro e w4 ⟨rfl, hb⟩
    replace XA := Lib.hid (XA.out.below hb)
    replace HB := Lib.hid (below_step HB.out hb)
    clear hb
    have XA_0 := XA.out.at_ 0 _ rfl
    have XA_1 := XA.out.at_ 1 _ rfl
    go_wp2_with fail
    clear XA_0 XA_1
    refine (C4.out _ (HQ1.out.below HB.out) (HQ2.out.below HB.out)).mono ?_; rintro e w5 ⟨rfl, hb⟩
    replace XA := Lib.hid (XA.out.below hb)
    replace HB := Lib.hid (below_step HB.out hb)
    clear hb
    have XA_0 := XA.out.at_ 0 _ rfl
    have XA_1 := XA.out.at_ 1 _ rfl
    go_wp2_with fail
    clear XA_0 XA_1
    refine (C5.out _ (HQ1.out.below HB.out) (HQ2.out.below HB.out)).mono ?_; rintro e w6 ⟨rfl, hb⟩
    replace XA := Lib.hid (XA.out.below hb)
    replace HB := Lib.hid (below_step HB.out hb)
    clear hb
    go_wp2_with fail
    refine (CW.out _ (HK.out.below HB.out) (HM.out.below HB.out) (HT.out.below HB.out)).mono ?_; rintro e w7 ⟨rfl, hb⟩
    replace XA := Lib.hid (XA.out.below hb)
    replace HB := Lib.hid (below_step HB.out hb)
    clear hb
    go_wp2_with fail
    go_ret
    exact ⟨rfl, HB.out⟩
  · have hps := (few_print hfew hv).1
    have hpk := few_pack hfew hv
    have C6 := Lib.hid (fun W hk hm => txnParse (printT ns zs) W (by omega) hk hm)
    rw [parse_print hv] at C6
    have C7 := Lib.hid (fun W hk hm => txnUnpack (mkS (pkL ns zs)) W (by rw [mkS_size]; omega) hk hm)
    rw [unpT_pack hv (fun t ht => Nat.le_trans (hsz2 t ht) (by omega)) (mkS_data _)] at C7
    unfold RET at C6 C7
    simp only at C6 C7
    have CS := Lib.hid (fun W v1 v2 v3 v4 h1 h2 h3 h4 => refSame W v1 v2 v3 v4 ns zs ns zs h1 h2 h3 h4 (by omega) (by omega) (by omega) (by omega))
    rw [sameT_refl2] at CS
    rw [hv] at C3 C4 C5
    simp only [if_true] at C3 C4
    generalize printT ns zs = s at *
    generalize mkS (pkL ns zs) = x at *
    have b1 : (s.toList != s.toList) = false := by simp
    have b2 : (s.toList == s.toList) = true := by simp
    have b3 : (x.toList != x.toList) = false := by simp
    have b4 : (x.toList == x.toList) = true := by simp
    obtain ⟨A1, c1, rfl, _, _⟩ := HQ1.out
    obtain ⟨A2, c2, rfl, _, _⟩ := HQ2.out
    clear hv hfew hps hpk hsz2
    go_enter Tryz.func3, Tryz.ntmps3
    go_wp2_with fail
    have XA := Lib.hid (box_new (W := w) (g := w.heap.size) 25 #[.slice A1 ns.length c1, .slice A2 zs.length c2] (by simp))
    have HB := Lib.hid (below_alloc w (.cells #[.slice A1 ns.length c1, .slice A2 zs.length c2] 25))
    generalize w.alloc (.cells #[.slice A1 ns.length c1, .slice A2 zs.length c2] 25) = w1 at *
    refine (CF.out _ (HQ1.out.below HB.out) (HQ2.out.below HB.out)).mono ?_; rintro e w2 ⟨rfl, hb⟩
    replace XA := Lib.hid (XA.out.below hb)
    replace HB := Lib.hid (below_step HB.out hb)
    clear hb
    go_wp2_with fail
    have VP1 := Lib.hid (fun p : Lat w2 => C1.out p.w (HQ1.out.below (below_step HB.out p.h)) (HQ2.out.below (below_step HB.out p.h)) (HK.out.below (below_step HB.out p.h)) (HM.out.below (below_step HB.out p.h)) (HT.out.below (below_step HB.out p.h)))
    have VP2 := Lib.hid (fun p : Lat w2 => C2.out p.w (HQ1.out.below (below_step HB.out p.h)) (HQ2.out.below (below_step HB.out p.h)))
    have l0 := XA.out.lat 0 _ rfl
    have l1 := XA.out.lat 1 _ rfl
    refine wp_region_lat (by kernel_rfl) (by kernel_rfl) ?_
    repeat (go_big_quiet_step (first | (with_reducible exact lat_call (VP1.out _)) | (with_reducible exact lat_call (VP2.out _))))
    refine wpQuiet_nil ?_; intro w3 hb
    clear l0 l1 VP1 VP2
    replace XA := Lib.hid (XA.out.below hb)
    replace HB := Lib.hid (below_step HB.out hb)
    clear hb
    have XA_0 := XA.out.at_ 0 _ rfl
    have XA_1 := XA.out.at_ 1 _ rfl
    go_wp2_with fail
    clear XA_0 XA_1
    refine (C3.out _ (HQ1.out.below HB.out) (HQ2.out.below HB.out) (HK.out.below HB.out) (HM.out.below HB.out) (HT.out.below HB.out)).mono ?_; rintro e w4 ⟨rfl, hb⟩
    replace XA := Lib.hid (XA.out.below hb)
    replace HB := Lib.hid (below_step HB.out hb)
    clear hb
    have XA_0 := XA.out.at_ 0 _ rfl
    have XA_1 := XA.out.at_ 1 _ rfl
    go_wp2_with fail
    clear XA_0 XA_1
    refine (C4.out _ (HQ1.out.below HB.out) (HQ2.out.below HB.out)).mono ?_; rintro e w5 ⟨rfl, hb⟩
    replace XA := Lib.hid (XA.out.below hb)
    replace HB := Lib.hid (below_step HB.out hb)
    clear hb
    have XA_0 := XA.out.at_ 0 _ rfl
    have XA_1 := XA.out.at_ 1 _ rfl
    go_wp2_with fail
    clear XA_0 XA_1
    refine (C5.out _ (HQ1.out.below HB.out) (HQ2.out.below HB.out)).mono ?_; rintro e w6 ⟨rfl, hb⟩
    replace XA := Lib.hid (XA.out.below hb)
    replace HB := Lib.hid (below_step HB.out hb)
    clear hb
    go_wp2_with fail
    refine (C6.out _ (HK.out.below HB.out) (HM.out.below HB.out)).mono ?_; rintro e w7 ⟨u1, u2, rfl, h1, h2, hb⟩
    replace XA := Lib.hid (XA.out.below hb)
    replace HB := Lib.hid (below_step HB.out hb)
    clear hb
    have HU1 := Lib.hid h1
    have HU2 := Lib.hid h2
    obtain ⟨B1, d1, rfl, _, _⟩ := h1
    obtain ⟨B2, d2, rfl, _, _⟩ := h2
    have XA_0 := XA.out.at_ 0 _ rfl
    have XA_1 := XA.out.at_ 1 _ rfl
    have XA_l := XA.out.lt
    go_wp2_with fail
    clear XA_0 XA_1 XA_l
    have X9 := Lib.hid (box_new (W := w7) (g := w7.heap.size) 25 #[.slice B1 ns.length d1, .slice B2 zs.length d2] (by simp))
    have hba := (below_alloc w7 (.cells #[.slice B1 ns.length d1, .slice B2 zs.length d2] 25))
    replace XA := Lib.hid (XA.out.below hba)
    replace HU1 := Lib.hid (HU1.out.below hba)
    replace HU2 := Lib.hid (HU2.out.below hba)
    replace HB := Lib.hid (below_step HB.out hba)
    clear hba
    generalize w7.alloc (.cells #[.slice B1 ns.length d1, .slice B2 zs.length d2] 25) = w8 at *
    refine (C7.out _ (HK.out.below HB.out) (HM.out.below HB.out)).mono ?_; rintro e w9 ⟨u3, u4, rfl, h3, h4, hb⟩
    replace XA := Lib.hid (XA.out.below hb)
    replace HU1 := Lib.hid (HU1.out.below hb)
    replace HU2 := Lib.hid (HU2.out.below hb)
    replace X9 := Lib.hid (X9.out.below hb)
    replace HB := Lib.hid (below_step HB.out hb)
    clear hb
    have HU3 := Lib.hid h3
    have HU4 := Lib.hid h4
    obtain ⟨B3, d3, rfl, _, _⟩ := h3
    obtain ⟨B4, d4, rfl, _, _⟩ := h4
    have XA_0 := XA.out.at_ 0 _ rfl
    have XA_1 := XA.out.at_ 1 _ rfl
    have XA_l := XA.out.lt
    have X9_0 := X9.out.at_ 0 _ rfl
    have X9_1 := X9.out.at_ 1 _ rfl
    have X9_l := X9.out.lt
    go_wp2_with fail
    clear XA_0 XA_1 XA_l X9_0 X9_1 X9_l
    have X11 := Lib.hid (box_new (W := w9) (g := w9.heap.size) 25 #[.slice B3 ns.length d3, .slice B4 zs.length d4] (by simp))
    have hba := (below_alloc w9 (.cells #[.slice B3 ns.length d3, .slice B4 zs.length d4] 25))
    replace XA := Lib.hid (XA.out.below hba)
    replace HU1 := Lib.hid (HU1.out.below hba)
    replace HU2 := Lib.hid (HU2.out.below hba)
    replace X9 := Lib.hid (X9.out.below hba)
    replace HU3 := Lib.hid (HU3.out.below hba)
    replace HU4 := Lib.hid (HU4.out.below hba)
    replace HB := Lib.hid (below_step HB.out hba)
    clear hba
    generalize w9.alloc (.cells #[.slice B3 ns.length d3, .slice B4 zs.length d4] 25) = wa at *
    refine (CS.out _ _ _ _ _ HU1.out HU2.out (HQ1.out.below HB.out) (HQ2.out.below HB.out)).mono ?_; rintro e wb ⟨rfl, hb⟩
    replace XA := Lib.hid (XA.out.below hb)
    replace HU1 := Lib.hid (HU1.out.below hb)
    replace HU2 := Lib.hid (HU2.out.below hb)
    replace X9 := Lib.hid (X9.out.below hb)
    replace HU3 := Lib.hid (HU3.out.below hb)
    replace HU4 := Lib.hid (HU4.out.below hb)
    replace X11 := Lib.hid (X11.out.below hb)
    replace HB := Lib.hid (below_step HB.out hb)
    clear hb
    have XA_0 := XA.out.at_ 0 _ rfl
    have XA_1 := XA.out.at_ 1 _ rfl
    have X11_0 := X11.out.at_ 0 _ rfl
    have X11_1 := X11.out.at_ 1 _ rfl
    go_wp2_with fail
    clear XA_0 XA_1 X11_0 X11_1
    refine (CS.out _ _ _ _ _ HU3.out HU4.out (HQ1.out.below HB.out) (HQ2.out.below HB.out)).mono ?_; rintro e wc ⟨rfl, hb⟩
    replace XA := Lib.hid (XA.out.below hb)
    replace HU1 := Lib.hid (HU1.out.below hb)
    replace HU2 := Lib.hid (HU2.out.below hb)
    replace X9 := Lib.hid (X9.out.below hb)
    replace HU3 := Lib.hid (HU3.out.below hb)
    replace HU4 := Lib.hid (HU4.out.below hb)
    replace X11 := Lib.hid (X11.out.below hb)
    replace HB := Lib.hid (below_step HB.out hb)
    clear hb
    go_wp2_with fail
    refine (CW.out _ (HK.out.below HB.out) (HM.out.below HB.out) (HT.out.below HB.out)).mono ?_; rintro e wd ⟨rfl, hb⟩
    replace XA := Lib.hid (XA.out.below hb)
    replace HU1 := Lib.hid (HU1.out.below hb)
    replace HU2 := Lib.hid (HU2.out.below hb)
    replace X9 := Lib.hid (X9.out.below hb)
    replace HU3 := Lib.hid (HU3.out.below hb)
    replace HU4 := Lib.hid (HU4.out.below hb)
    replace X11 := Lib.hid (X11.out.below hb)
    replace HB := Lib.hid (below_step HB.out hb)
    clear hb
    go_wp2_with fail
    go_ret
    exact ⟨rfl, HB.out⟩

end Go.Proofs.YtbjcbndmafddoaaGreatDoor
