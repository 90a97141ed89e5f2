/-
  Walk of the law TxnSets.
-/
import Derived.Test.YtbjcbndmafddoaaDoorTxnQ
namespace Go.Proofs.YtbjcbndmafddoaaDoor
open Go.RowKit
set_option linter.unusedVariables false
set_option linter.unusedSimpArgs false

theorem set_two (ns : List ByteArray) (zs : List Int) (s : ByteArray) (v : Int) : (∃ c : Int, c ≠ 0 ∧ setT ns zs s v = ([], [], c)) ∨ ∃ k : Nat, txV ns zs = true ∧ Lib.idxOfS ns s = k ∧ k < ns.length ∧ k < zs.length ∧ wordB v = true ∧ setT ns zs s v = (ns, zs.set k v, 0) := by
  rcases set_ways ns zs s v with ⟨_, h⟩ | ⟨_, _, h⟩ | ⟨_, _, _, h⟩ | h
  · exact .inl ⟨1, by decide, h⟩
  · exact .inl ⟨7, by decide, h⟩
  · exact .inl ⟨3, by decide, h⟩
  · exact .inr h
theorem sameT_refl (ns : List ByteArray) (zs : List Int) : sameT ns zs ns zs = true := by simp [sameT]
set_option maxRecDepth 100000 in
set_option maxHeartbeats 8000000 in
theorem walkTxnSets {H : Type} {enc : TypeId × Value → H} {base : Nat} (v : Value) (d : DataW H) (p : List MemPlace)
    (w : World) (h : DataW.Trod enc Tryd.prog w 0 (fun _ => true) true 25 v d p) (hv : Value.okWide Tryd.prog w .any base 25 v) (s : ByteArray) (hs : s.size ≤ maxLen) (z : Int) (hz : I64 z) (ht : Tab w) (hm : MLen w) (hk : KW w) :
    Calls Tryd.prog 7 #[v, .string s, .int .i64 z] w fun e w' => e = .returned (.bool true) ∧ Below w.heap.size w w' := by
  obtain ⟨v1, v2, ns, zs, rfl, h1, h2, n1, n2, hsz⟩ := arg_txn h hv
  have HK := Lib.hid hk
  have HM := Lib.hid hm
  have HT := Lib.hid ht
  have HQ1 := Lib.hid h1
  have HQ2 := Lib.hid h2
  have CW := Lib.hid (fun W h h' h'' => lawAwake W h h' h'')
  have CF := Lib.hid (fun W h1 h2 => lawFew W v1 v2 ns zs h1 h2 n1 n2 hsz)
  clear h hv h1 h2 ht hm hk hs hz
  cases hf : decide (Few ns zs)
  · rw [hf] at CF
    clear hf
    go_enter Tryd.func7, Tryd.ntmps7
    go_wp2_with fail
    have XA := Lib.hid (box_new (W := w) (g := w.heap.size) 25 #[v1, v2] (by simp))
    have HB := Lib.hid (below_alloc w (.cells #[v1, v2] 25))
    generalize w.alloc (.cells #[v1, v2] 25) = w1 at *
    refine (CF.out _ (HQ1.out.below HB.out) (HQ2.out.below HB.out)).mono ?_; rintro e w2 ⟨rfl, hb⟩
    replace XA := Lib.hid (XA.out.below hb)
    replace HB := Lib.hid (below_step HB.out hb)
    clear hb
    go_wp2_with fail
    refine (CW.out _ (HK.out.below HB.out) (HM.out.below HB.out) (HT.out.below HB.out)).mono ?_; rintro e w3 ⟨rfl, hb⟩
    replace XA := Lib.hid (XA.out.below hb)
    replace HB := Lib.hid (below_step HB.out hb)
    clear hb
    go_wp2_with fail
    go_ret
    exact ⟨rfl, HB.out⟩
  have hfew : Few ns zs := of_decide_eq_true hf
  rw [hf] at CF
  have a1 := hfew.1
  have a2 := hfew.2.1
  have hsz2 := few_sz hfew
  have C1 := Lib.hid (fun W h1 h2 hk hm => txnSet W v1 v2 ns zs s z h1 h2 hsz2 (by omega) (by omega) hk hm)
  have C2 := Lib.hid (fun W h1 h2 => refSet W v1 v2 ns zs s z h1 h2 hsz2 (by omega) (by omega))
  unfold RET at C1 C2
  have hway := set_two ns zs s z
  generalize setT ns zs s z = r at *
  clear hf hfew hsz
  rcases hway with ⟨c, hc, rfl⟩ | ⟨k, hv, hi, hkn, hkz, hwb, rfl⟩
  · simp only [List.length_nil] at C1 C2
    have f1 : (c != 0) = true := by simpa using hc
    have f2 : (c == 0) = false := by simpa using hc
    have f3 : (c != c) = false := by simp
    have f4 : (c == c) = true := by simp
    have CS := Lib.hid (fun W v1 v2 v3 v4 h1 h2 h3 h4 => refSame W v1 v2 v3 v4 [] [] [] [] h1 h2 h3 h4 (by decide) (by decide) (by decide) (by decide))
    rw [sameT_refl] at CS
    clear hc n1 n2 a1 a2 hsz2
    go_enter Tryd.func7, Tryd.ntmps7
    go_wp2_with fail
    have XA := Lib.hid (box_new (W := w) (g := w.heap.size) 25 #[v1, v2] (by simp))
    have HB := Lib.hid (below_alloc w (.cells #[v1, v2] 25))
    generalize w.alloc (.cells #[v1, v2] 25) = w1 at *
    refine (CF.out _ (HQ1.out.below HB.out) (HQ2.out.below HB.out)).mono ?_; rintro e w2 ⟨rfl, hb⟩
    replace XA := Lib.hid (XA.out.below hb)
    replace HB := Lib.hid (below_step HB.out hb)
    clear hb
    have XA_0 := XA.out.at_ 0 _ rfl
    have XA_1 := XA.out.at_ 1 _ rfl
    go_wp2_with fail
    clear XA_0 XA_1
    refine (C1.out _ (HQ1.out.below HB.out) (HQ2.out.below HB.out) (HK.out.below HB.out) (HM.out.below HB.out)).mono ?_; rintro e w3 ⟨u1, u2, rfl, h1, h2, hb⟩
    replace XA := Lib.hid (XA.out.below hb)
    replace HB := Lib.hid (below_step HB.out hb)
    clear hb
    have HS1 := Lib.hid h1
    have HS2 := Lib.hid h2
    obtain ⟨B1, d1, rfl, _, _⟩ := h1
    obtain ⟨B2, d2, rfl, _, _⟩ := h2
    simp only [List.length_nil] at HS1 HS2 ⊢
    have XA_0 := XA.out.at_ 0 _ rfl
    have XA_1 := XA.out.at_ 1 _ rfl
    have XA_l := XA.out.lt
    go_wp2_with fail
    clear XA_0 XA_1 XA_l
    have X7 := Lib.hid (box_new (W := w3) (g := w3.heap.size) 25 #[.slice B1 0 d1, .slice B2 0 d2] (by simp))
    have hba := (below_alloc w3 (.cells #[.slice B1 0 d1, .slice B2 0 d2] 25))
    replace XA := Lib.hid (XA.out.below hba)
    replace HS1 := Lib.hid (HS1.out.below hba)
    replace HS2 := Lib.hid (HS2.out.below hba)
    replace HB := Lib.hid (below_step HB.out hba)
    clear hba
    generalize w3.alloc (.cells #[.slice B1 0 d1, .slice B2 0 d2] 25) = w4 at *
    refine (C2.out _ (HQ1.out.below HB.out) (HQ2.out.below HB.out)).mono ?_; rintro e w5 ⟨u3, u4, rfl, h3, h4, hb⟩
    replace XA := Lib.hid (XA.out.below hb)
    replace HS1 := Lib.hid (HS1.out.below hb)
    replace HS2 := Lib.hid (HS2.out.below hb)
    replace X7 := Lib.hid (X7.out.below hb)
    replace HB := Lib.hid (below_step HB.out hb)
    clear hb
    have HS3 := Lib.hid h3
    have HS4 := Lib.hid h4
    obtain ⟨B3, d3, rfl, _, _⟩ := h3
    obtain ⟨B4, d4, rfl, _, _⟩ := h4
    simp only [List.length_nil] at HS3 HS4 ⊢
    have XA_0 := XA.out.at_ 0 _ rfl
    have XA_1 := XA.out.at_ 1 _ rfl
    have XA_l := XA.out.lt
    have X7_0 := X7.out.at_ 0 _ rfl
    have X7_1 := X7.out.at_ 1 _ rfl
    have X7_l := X7.out.lt
    go_wp2_with fail
    clear XA_0 XA_1 XA_l X7_0 X7_1 X7_l
    have X9 := Lib.hid (box_new (W := w5) (g := w5.heap.size) 25 #[.slice B3 0 d3, .slice B4 0 d4] (by simp))
    have hba := (below_alloc w5 (.cells #[.slice B3 0 d3, .slice B4 0 d4] 25))
    replace XA := Lib.hid (XA.out.below hba)
    replace HS1 := Lib.hid (HS1.out.below hba)
    replace HS2 := Lib.hid (HS2.out.below hba)
    replace X7 := Lib.hid (X7.out.below hba)
    replace HS3 := Lib.hid (HS3.out.below hba)
    replace HS4 := Lib.hid (HS4.out.below hba)
    replace HB := Lib.hid (below_step HB.out hba)
    clear hba
    generalize w5.alloc (.cells #[.slice B3 0 d3, .slice B4 0 d4] 25) = w6 at *
    refine (CS.out _ _ _ _ _ HS1.out HS2.out HS3.out HS4.out).mono ?_; rintro e w7 ⟨rfl, hb⟩
    replace XA := Lib.hid (XA.out.below hb)
    replace HS1 := Lib.hid (HS1.out.below hb)
    replace HS2 := Lib.hid (HS2.out.below hb)
    replace X7 := Lib.hid (X7.out.below hb)
    replace HS3 := Lib.hid (HS3.out.below hb)
    replace HS4 := Lib.hid (HS4.out.below hb)
    replace X9 := Lib.hid (X9.out.below hb)
    replace HB := Lib.hid (below_step HB.out hb)
    clear hb
    go_wp2_with fail
    refine (CW.out _ (HK.out.below HB.out) (HM.out.below HB.out) (HT.out.below HB.out)).mono ?_; rintro e w8 ⟨rfl, hb⟩
    replace XA := Lib.hid (XA.out.below hb)
    replace HS1 := Lib.hid (HS1.out.below hb)
    replace HS2 := Lib.hid (HS2.out.below hb)
    replace X7 := Lib.hid (X7.out.below hb)
    replace HS3 := Lib.hid (HS3.out.below hb)
    replace HS4 := Lib.hid (HS4.out.below hb)
    replace X9 := Lib.hid (X9.out.below hb)
    replace HB := Lib.hid (below_step HB.out hb)
    clear hb
    go_wp2_with fail
    go_ret
    exact ⟨rfl, HB.out⟩
  · have hln : ns.length = zs.length := (txv_parts hv).1
    have hv2 := txv_set (k := k) hv hwb
    have hsl : (zs.set k z).length = zs.length := List.length_set
    simp only at C1 C2
    have CS := Lib.hid (fun W v1 v2 v3 v4 h1 h2 h3 h4 => refSame W v1 v2 v3 v4 ns (zs.set k z) ns (zs.set k z) h1 h2 h3 h4 (by omega) (by omega) (by omega) (by omega))
    rw [sameT_refl] at CS
    have CV := Lib.hid (fun W v1 v2 h1 h2 hk hm => txnValid W v1 v2 ns (zs.set k z) h1 h2 hsz2 (by omega) (by omega) hk hm)
    rw [hv2] at CV
    have CG := Lib.hid (fun i (hi2 : i < ns.length) W v1 v2 h1 h2 => (show Calls Tryd.prog 12 #[.agg #[v1, v2], .string (ns.getD i ⟨#[]⟩)] W (fun e w' => e = .returned (.tuple #[.int .i64 ((zs.set k z).getD i 0), .bool true]) ∧ Below W.heap.size W w') from by
      have := txnGet W v1 v2 ns (zs.set k z) (ns.getD i ⟨#[]⟩) h1 h2 (by omega) (by omega)
      rw [get_at hv2 hi2] at this
      exact this))
    have HPL := Lib.hid (fun i (hi2 : i < ns.length) => name_place hv hi hi2)
    have HGD := Lib.hid (fun i (hi2 : i < zs.length) => set_getD zs k i z hi2)
    obtain ⟨N, hN⟩ : ∃ N, N = ns.length := ⟨_, rfl⟩
    obtain ⟨A1, c1, rfl, hc1, hs1⟩ := HQ1.out
    obtain ⟨A2, c2, rfl, hc2, hs2⟩ := HQ2.out
    have HS1 := Lib.hid hs1
    have HS2 := Lib.hid hs2
    have hMN : zs.length = N := by omega
    have hN140 : N ≤ 140 := by omega
    have hSN : (zs.set k z).length = N := by omega
    rw [← hN] at HS1 HQ1 CF C1 C2 hkn ⊢
    rw [hMN] at HS2 HQ2 CF C1 C2 ⊢
    generalize hzz : zs.set k z = zz at *
    have HN := Lib.hid hN
    have HMN := Lib.hid hMN
    have HSN := Lib.hid hSN
    have g1 : (z != z) = false := by simp
    clear hv hi hkz hwb hN hMN hSN hs1 hs2 hc1 hc2 hsl hv2 hln n1 n2 hsz2 hkn hzz
    go_enter Tryd.func7, Tryd.ntmps7
    go_wp2_with fail
    have XA := Lib.hid (box_new (W := w) (g := w.heap.size) 25 #[.slice A1 N c1, .slice A2 N c2] (by simp))
    have HB := Lib.hid (below_alloc w (.cells #[.slice A1 N c1, .slice A2 N c2] 25))
    generalize w.alloc (.cells #[.slice A1 N c1, .slice A2 N c2] 25) = w1 at *
    refine (CF.out _ (HQ1.out.below HB.out) (HQ2.out.below HB.out)).mono ?_; rintro e w2 ⟨rfl, hb⟩
    replace XA := Lib.hid (XA.out.below hb)
    replace HB := Lib.hid (below_step HB.out hb)
    clear hb
    have XA_0 := XA.out.at_ 0 _ rfl
    have XA_1 := XA.out.at_ 1 _ rfl
    go_wp2_with fail
    clear XA_0 XA_1
    refine (C1.out _ (HQ1.out.below HB.out) (HQ2.out.below HB.out) (HK.out.below HB.out) (HM.out.below HB.out)).mono ?_; rintro e w3 ⟨u1, u2, rfl, h1, h2, hb⟩
    replace XA := Lib.hid (XA.out.below hb)
    replace HB := Lib.hid (below_step HB.out hb)
    clear hb
    have HU1 := Lib.hid h1
    have HU2 := Lib.hid h2
    obtain ⟨B1, d1, rfl, _, _⟩ := h1
    obtain ⟨B2, d2, rfl, _, _⟩ := h2
    rw [← HN.out] at HU1 ⊢
    rw [HSN.out] at HU2 ⊢
    have XA_0 := XA.out.at_ 0 _ rfl
    have XA_1 := XA.out.at_ 1 _ rfl
    have XA_l := XA.out.lt
    go_wp2_with fail
    clear XA_0 XA_1 XA_l
    have X7 := Lib.hid (box_new (W := w3) (g := w3.heap.size) 25 #[.slice B1 N d1, .slice B2 N d2] (by simp))
    have hba := (below_alloc w3 (.cells #[.slice B1 N d1, .slice B2 N d2] 25))
    replace XA := Lib.hid (XA.out.below hba)
    replace HU1 := Lib.hid (HU1.out.below hba)
    replace HU2 := Lib.hid (HU2.out.below hba)
    replace HB := Lib.hid (below_step HB.out hba)
    clear hba
    generalize w3.alloc (.cells #[.slice B1 N d1, .slice B2 N d2] 25) = w4 at *
    refine (C2.out _ (HQ1.out.below HB.out) (HQ2.out.below HB.out)).mono ?_; rintro e w5 ⟨u3, u4, rfl, h3, h4, hb⟩
    replace XA := Lib.hid (XA.out.below hb)
    replace HU1 := Lib.hid (HU1.out.below hb)
    replace HU2 := Lib.hid (HU2.out.below hb)
    replace X7 := Lib.hid (X7.out.below hb)
    replace HB := Lib.hid (below_step HB.out hb)
    clear hb
    have HU3 := Lib.hid h3
    have HU4 := Lib.hid h4
    obtain ⟨B3, d3, rfl, _, _⟩ := h3
    obtain ⟨B4, d4, rfl, _, _⟩ := h4
    rw [← HN.out] at HU3 ⊢
    rw [HSN.out] at HU4 ⊢
    have XA_0 := XA.out.at_ 0 _ rfl
    have XA_1 := XA.out.at_ 1 _ rfl
    have XA_l := XA.out.lt
    have X7_0 := X7.out.at_ 0 _ rfl
    have X7_1 := X7.out.at_ 1 _ rfl
    have X7_l := X7.out.lt
    go_wp2_with fail
    clear XA_0 XA_1 XA_l X7_0 X7_1 X7_l
    have X9 := Lib.hid (box_new (W := w5) (g := w5.heap.size) 25 #[.slice B3 N d3, .slice B4 N d4] (by simp))
    have hba := (below_alloc w5 (.cells #[.slice B3 N d3, .slice B4 N d4] 25))
    replace XA := Lib.hid (XA.out.below hba)
    replace HU1 := Lib.hid (HU1.out.below hba)
    replace HU2 := Lib.hid (HU2.out.below hba)
    replace X7 := Lib.hid (X7.out.below hba)
    replace HU3 := Lib.hid (HU3.out.below hba)
    replace HU4 := Lib.hid (HU4.out.below hba)
    replace HB := Lib.hid (below_step HB.out hba)
    clear hba
    generalize w5.alloc (.cells #[.slice B3 N d3, .slice B4 N d4] 25) = w6 at *
    refine (CS.out _ _ _ _ _ HU1.out HU2.out HU3.out HU4.out).mono ?_; rintro e w7 ⟨rfl, hb⟩
    replace XA := Lib.hid (XA.out.below hb)
    replace HU1 := Lib.hid (HU1.out.below hb)
    replace HU2 := Lib.hid (HU2.out.below hb)
    replace X7 := Lib.hid (X7.out.below hb)
    replace HU3 := Lib.hid (HU3.out.below hb)
    replace HU4 := Lib.hid (HU4.out.below hb)
    replace X9 := Lib.hid (X9.out.below hb)
    replace HB := Lib.hid (below_step HB.out hb)
    clear hb
    have fN : ((N : Int) != (N : Int)) = false := by simp
    have fN2 : (N != N) = false := by simp
    have XA_0 := XA.out.at_ 0 _ rfl
    have XA_1 := XA.out.at_ 1 _ rfl
    go_wp2_with fail
    clear XA_0 XA_1
    clear X9 HU3 HU4 fN fN2
    go_loopw [11] (fun i wr => ∃ j : Nat, j ≤ N ∧ i = .int .i64 j ∧ Below w7.heap.size w7 wr) (fun i _ => N - (intOf i).toNat)
    case atStart => exact ⟨0, Nat.zero_le _, rfl, Below.refl _ _⟩
    case round =>
      obtain ⟨j, hj, rfl, hb⟩ := hrel
      have HC := Lib.hid hb
      replace XA := Lib.hid (XA.out.below hb)
      replace X7 := Lib.hid (X7.out.below hb)
      replace HU1 := Lib.hid (HU1.out.below hb)
      replace HU2 := Lib.hid (HU2.out.below hb)
      replace HB := Lib.hid (below_step HB.out hb)
      clear hb
      by_cases hlt : j < N
      · have hlt2 : (j : Int) < N := by omega
        have hj0 : (0 : Int) ≤ (j : Int) := by omega
        have hjn : j < ns.length := by rw [← HN.out]; exact hlt
        have hjz : j < zs.length := by rw [HMN.out]; exact hlt
        obtain ⟨x1, rfl, hr1⟩ := HS1.out (by omega)
        obtain ⟨x2, rfl, hr2⟩ := HS2.out (by omega)
        have hq1 : ∀ W, Below w.heap.size w W → W.cell? (x1.add j) = some (.string (ns.getD j ⟨#[]⟩)) := fun W hb => (hr1.below hb).cells j hjn
        have hq2 : ∀ W, Below w.heap.size w W → W.cell? (x2.add j) = some (.int .i64 (zs.getD j 0)) := fun W hb => by
          rw [hb.cell (p := x2.add j) (by rw [block_of_add]; exact hr2.1)]
          exact hr2.2 j hlt
        have hcase : (ns.getD j ⟨#[]⟩ = s ∧ zz.getD j 0 = z) ∨ (ns.getD j ⟨#[]⟩ ≠ s ∧ zz.getD j 0 = zs.getD j 0) := by
          have e1 := HPL.out j hjn
          have e2 := HGD.out j hjz
          by_cases e : j = k
          · left; exact ⟨e1.2 e, by rw [e2, if_pos e]⟩
          · right; exact ⟨fun h => e (e1.1 h), by rw [e2, if_neg e]⟩
        have G := Lib.hid (CG.out j hjn)
        have Q1 := Lib.hid hq1
        have Q2 := Lib.hid hq2
        generalize ns.getD j ⟨#[]⟩ = x at *
        generalize zs.getD j 0 = y at *
        generalize zz.getD j 0 = yy at *
        clear hq1 hq2 hr1 hr2 hjn hjz
        have q1 : ∀ p : Lat wr, p.w.cell? (x1.add j) = some (.string x) := fun p => Q1.out p.w (below_step HB.out p.h)
        have VG := Lib.hid (fun p : Lat wr => G.out p.w _ _ (HU1.out.below p.h) (HU2.out.below p.h))
        have XA_0 := XA.out.at_ 0 _ rfl
        go_wp2_with fail
        clear XA_0
        have l0 := XA.out.lat 0 _ rfl
        have l2 := X7.out.lat 0 _ rfl
        have l3 := X7.out.lat 1 _ rfl
        refine wp_region_lat (by kernel_rfl) (by kernel_rfl) ?_
        repeat (go_big_quiet_step (with_reducible exact lat_call (VG.out _)))
        refine wpQuiet_nil ?_; intro w9 hb
        clear l0 l2 l3 VG q1
        replace HC := Lib.hid (below_step HC.out hb)
        replace XA := Lib.hid (XA.out.below hb)
        replace X7 := Lib.hid (X7.out.below hb)
        replace HB := Lib.hid (below_step HB.out hb)
        clear hb
        have q1 := Q1.out w9 HB.out
        have q2 := Q2.out w9 HB.out
        clear G Q1 Q2
        rcases hcase with ⟨rfl, rfl⟩ | ⟨hne, rfl⟩
        · have f1 : (x.toList == x.toList) = true := by simp
          have f2 : (x.toList != x.toList) = false := by simp
          have f3 : (yy != yy) = false := by simp
          have XA_0 := XA.out.at_ 0 _ rfl
          have XA_1 := XA.out.at_ 1 _ rfl
          go_wp2_with fail
          clear XA_0 XA_1
          go_roundw
          case rel => exact ⟨j + 1, by omega, by go_num, HC.out⟩
          case measure => simp [intOf]; omega
        · obtain ⟨f1, f2⟩ := str_ne hne
          have f3 : (yy != yy) = false := by simp
          clear hne
          have XA_0 := XA.out.at_ 0 _ rfl
          have XA_1 := XA.out.at_ 1 _ rfl
          go_wp2_with fail
          clear XA_0 XA_1
          go_roundw
          case rel => exact ⟨j + 1, by omega, by go_num, HC.out⟩
          case measure => simp [intOf]; omega
      · have hlt2 : ¬ (j : Int) < N := by omega
        have XA_0 := XA.out.at_ 0 _ rfl
        have X7_0 := X7.out.at_ 0 _ rfl
        have X7_1 := X7.out.at_ 1 _ rfl
        go_wp2_with fail
        clear XA_0 X7_0 X7_1
        refine (CV.out _ _ _ HU1.out HU2.out (HK.out.below HB.out) (HM.out.below HB.out)).mono ?_; rintro e w8 ⟨rfl, hb⟩
        replace HB := Lib.hid (below_step HB.out hb)
        clear hb
        go_wp2_with fail
        refine (CW.out _ (HK.out.below HB.out) (HM.out.below HB.out) (HT.out.below HB.out)).mono ?_; rintro e w9 ⟨rfl, hb⟩
        replace HB := Lib.hid (below_step HB.out hb)
        clear hb
        go_wp2_with fail
        go_ret
        exact ⟨rfl, HB.out⟩

end Go.Proofs.YtbjcbndmafddoaaDoor
