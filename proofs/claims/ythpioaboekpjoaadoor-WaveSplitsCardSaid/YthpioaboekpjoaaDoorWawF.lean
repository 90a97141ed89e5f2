/-
  Walk of WaveSplits.
-/
import Derived.Test.YthpioaboekpjoaaDoorWawE
import Derived.Test.YthpioaboekpjoaaDoorWavU
import Derived.Test.YthpioaboekpjoaaDoorWavX
namespace Go.Proofs.YthpioaboekpjoaaDoor
open Go.RowKit Go.WideShapes
set_option linter.unusedVariables false
set_option linter.unusedSimpArgs false

theorem wz_part {ns : List ByteArray} {rs ts : List (List Int)} (h : WZ ns rs) (hl : ts.length ≤ rs.length) (hm : ∀ r ∈ ts, r ∈ rs) : WZ ns ts :=
  ⟨h.1, Nat.le_trans hl h.2.1, h.2.2.1, fun r hr => h.2.2.2 r (hm r hr)⟩
set_option maxRecDepth 100000 in
set_option maxHeartbeats 16000000 in
theorem walkWaveSplits {H : Type} {enc : TypeId × Value → H} {base base' : Nat} {w : World} (v0 : Value) (d0 : DataW H) (p0 : List MemPlace) (g0 : DataW.Trod enc Tryd.prog w 0 (fun _ => true) true 26 v0 d0 p0) (hv0 : Value.okWide Tryd.prog w .any base 26 v0)
    (at0 : Int) (wat : 0 ≤ at0 ∧ at0 ≤ 255)
    (v3 : Value) (d1 : DataW H) (p1 : List MemPlace) (g1 : DataW.Trod enc Tryd.prog w 0 (fun _ => true) true 23 v3 d1 p1) (hv1 : Value.okWide Tryd.prog w .any base' 23 v3) (ht : Tab w) (hm : MLen w) (hk : KW w) :
    Calls Tryd.prog 10 #[v0, .int .u8 at0, v3] w fun e w' => e = .returned (.bool true) ∧ Below w.heap.size w w' := by
  obtain ⟨v1, v2, ns, rs, rfl, h1, h2, hz⟩ := arg_wave g0 hv0
  obtain ⟨l, h3, hl1, hl2⟩ := arg_names g1 hv1
  clear g0 hv0 g1 hv1
  have CF := Lib.hid (fun W (hW : Below w.heap.size w W) => lawFewW W v1 v2 ns rs (h1.below hW) (h2.below hW) hz)
  have CW := Lib.hid (fun W (hW : Below w.heap.size w W) => lawAwakeW W (hk.below hW) (hm.below hW) (ht.below hW))
  have CV := Lib.hid (fun W (hW : Below w.heap.size w W) => refValidW W v1 v2 ns rs (h1.below hW) (h2.below hW) hz)
  have S1 := Lib.hid h1
  have S2 := Lib.hid h2
  have S3 := Lib.hid h3
  obtain ⟨k, hkk⟩ : ∃ k : Nat, at0.toNat % (rs.length + 1) = k := ⟨_, rfl⟩
  have hkM : k ≤ rs.length := by rw [← hkk]; have := Nat.mod_lt at0.toNat (show 0 < rs.length + 1 by omega); omega
  have hat : Hid (at0 % ((rs.length : Int) + 1) = k) := Lib.hid (by
    obtain ⟨n, rfl⟩ := Int.eq_ofNat_of_zero_le wat.1
    rw [← hkk]
    simp only [Int.toNat_natCast]
    rw [show ((rs.length : Int) + 1) = ((rs.length + 1 : Nat) : Int) by omega]
    exact (Int.natCast_emod _ _).symm)
  have FM : Hid (fewW ns rs = true → rs.length ≤ 20) := Lib.hid fun h => (of_decide_eq_true h : FewW ns rs).2.1
  have HK := Lib.hid hk
  have HM := Lib.hid hm
  -- the parts
  have CC : Hid (∀ W, Below w.heap.size w W → ∀ u1 u2 ms ts, SL W u1 ms → Rs ilR W u2 ts anyB → WZ ms ts → ∀ f t : Int, I64 f → I64 t → Calls Tryd.prog 27 #[.agg #[u1, u2], .int .i64 f, .int .i64 t] W (PARW W (wcT ms ts f t))) := Lib.hid fun W hW u1 u2 ms ts a b z f t p q => wavCut W u1 u2 ms ts f t a b z p q (HK.out.below hW) (HM.out.below hW)
  have CJ : Hid (∀ W, Below w.heap.size w W → ∀ u1 u2 u3 u4 ms ts xs ys, SL W u1 ms → Rs ilR W u2 ts anyB → SL W u3 xs → Rs ilR W u4 ys anyB → WZ ms ts → WZ xs ys → Calls Tryd.prog 31 #[.agg #[u1, u2], .agg #[u3, u4]] W (PARW W (wjT ms ts xs ys))) := Lib.hid fun W hW u1 u2 u3 u4 ms ts xs ys a b c d z y => wavJoin W u1 u2 u3 u4 ms xs ts ys a b c d z y (HK.out.below hW) (HM.out.below hW)
  have CO : Hid (l.length ≤ 52 → ∀ W, Below w.heap.size w W → ∀ u1 u2 ms ts, SL W u1 ms → Rs ilR W u2 ts anyB → WZ ms ts → Calls Tryd.prog 29 #[.agg #[u1, u2], v3] W (PARW W (woT ms ts l))) := Lib.hid fun hl W hW u1 u2 ms ts a b z => wavOnly W u1 u2 v3 ms l ts a b (S3.out.below hW) z (by omega) (HK.out.below hW) (HM.out.below hW)
  have CS := Lib.hid (fun (r : List ByteArray × List (List Int) × Int) (z : WZ r.1 r.2.1) W u1 u2 u3 u4 a b c d => same_par (W := W) (r := r) (u1 := u1) (u2 := u2) (u3 := u3) (u4 := u4) a b c d z)
  have CG : Hid (∀ s (t : Int), I64 t → ∀ W, Below w.heap.size w W → Calls Tryd.prog 19 #[.agg #[v1, v2], .string s, .int .i64 t] W fun e w' => e = ret2b (wgT ns rs s t) ∧ Below W.heap.size W w') := Lib.hid fun s t hti W hW => wavGet W v1 v2 ns rs s t (S1.out.below hW) (S2.out.below hW) hz hti (HK.out.below hW) (HM.out.below hW)
  have CH : Hid (∀ s, ∀ W, Below w.heap.size w W → Calls Tryd.prog 25 #[.agg #[v1, v2], .string s] W fun e w' => ∃ v, e = .returned v ∧ IL w' v (whT ns rs s) ∧ Below W.heap.size W w') := Lib.hid fun s W hW => wavChanges W v1 v2 ns rs s (S1.out.below hW) (S2.out.below hW) hz (HK.out.below hW) (HM.out.below hW)
  have HV : Hid (wvV ns rs = true → (wcT ns rs 0 k = (ns, rs.take k, 0) ∧ wcT ns rs k (rs.length : Nat) = (ns, rs.drop k, 0) ∧ wjT ns (rs.take k) ns (rs.drop k) = (ns, rs, 0)) ∧ WZ ns (rs.take k) ∧ WZ ns (rs.drop k)) := Lib.hid fun hv => ⟨⟨cut_to hv hkM, cut_from hv hkM, parts_joinW hv k⟩, wz_part hz (by rw [List.length_take]; omega) (fun r hr => List.mem_of_mem_take hr), wz_part hz (by rw [List.length_drop]; omega) (fun r hr => List.mem_of_mem_drop hr)⟩
  have HO : Hid (wvV ns rs = true → (woT ns rs l).2.2 ≠ 0 ∨ (onlyE ns [] l = 0 ∧ woT ns rs l = (l, rs.map (pick ns l), 0) ∧ wcT l (rs.map (pick ns l)) 0 k = (l, (rs.take k).map (pick ns l), 0) ∧ woT ns (rs.take k) l = (l, (rs.take k).map (pick ns l), 0) ∧ WZ l (rs.map (pick ns l)) ∧ WZ l ((rs.take k).map (pick ns l)))) := Lib.hid fun hv => by
    rcases only_two ns l rs hv with h | ⟨h0, h⟩
    · exact .inl h
    · have hv2 := only_valid hv h0
      have hvt := wv_part (ts := rs.take k) hv (by rw [List.length_take]; omega) (fun r hr => List.mem_of_mem_take hr)
      have z2 := woT_wz (rs := rs) hz hl1 hl2
      have z3 := woT_wz (ns := ns) (rs := rs.take k) (wz_part hz (by rw [List.length_take]; omega) (fun r hr => List.mem_of_mem_take hr)) hl1 hl2
      rw [h] at z2
      rw [only_val hvt h0] at z3
      refine .inr ⟨h0, h, ?_, only_val hvt h0, z2, z3⟩
      rw [cut_to hv2 (by rw [List.length_map]; exact hkM), List.map_take]
  have HI : Hid (onlyE ns [] l = 0 → ∀ s ∈ l, 0 ≤ Lib.idxOfS ns s) := Lib.hid fun h0 s hs => (onlyE_ok ns l [] h0 (by simp) (by simp)).2 s (by simpa using hs)
  -- WALK
  have HVI : Hid (wvV ns rs = true → onlyE ns [] l = 0 → 0 < l.length → ∃ (p : Nat → Nat) (f : Nat → Bool) (ch : List Int), whT ns rs (l.getD 0 ⟨#[]⟩) = ch ∧ ch.length ≤ rs.length ∧ p 0 = 0 ∧ (∀ t, t < rs.length → f t = true → p t < ch.length ∧ ch.getD (p t) 0 = (t : Int)) ∧ (∀ t, t < rs.length → f t = false → p t < ch.length → ch.getD (p t) 0 ≠ (t : Int)) ∧ (∀ t, p (t + 1) = p t + if f t = true then 1 else 0) ∧ (∀ t, t ≤ rs.length → p t ≤ ch.length) ∧ p rs.length = ch.length ∧ (∀ t : Nat, t < rs.length → f t = false → ∃ z, wgT ns rs (l.getD 0 ⟨#[]⟩) t = (z, true) ∧ wgT ns rs (l.getD 0 ⟨#[]⟩) ((t : Int) - 1) = (z, true))) := Lib.hid fun hv h0 hp => by
    have hi := HI.out h0 _ (getD_mem ⟨#[]⟩ hp)
    generalize l.getD 0 ⟨#[]⟩ = s at *
    refine ⟨chT rs (Lib.idxOfS ns s).toNat, chg rs (Lib.idxOfS ns s).toNat, _, wh_val hv hi, by rw [List.length_map]; exact Nat.le_trans (List.length_filter_le _ _) (by simp), rfl, fun t ht hf => ?_, fun t ht hf hp => ?_, fun t => filt_next _ t, fun t ht => ?_, ?_, fun t ht hf => wg_same hv hi ht hf⟩
    · obtain ⟨a, b⟩ := filt_hit _ ht hf
      refine ⟨by rw [List.length_map]; exact a, ?_⟩
      unfold chT
      rw [mapI_get Int.ofNat _ 0 0 _ a, b]; rfl
    · rw [List.length_map] at hp
      unfold chT at hp ⊢
      have := filt_miss _ ht hf hp
      rw [mapI_get Int.ofNat _ 0 0 _ hp]
      intro e
      exact this (Int.ofNat.inj e)
    · rw [List.length_map]; exact filt_le _ ht
    · rw [List.length_map]; rfl
  have QCAP : Hid (∀ s ∈ l, s.size ≤ 9223372036854775807) := Lib.hid hl2
  obtain ⟨N, hN⟩ : ∃ N, N = ns.length := ⟨_, rfl⟩
  obtain ⟨M, hM⟩ : ∃ M, M = rs.length := ⟨_, rfl⟩
  obtain ⟨K, hKl⟩ : ∃ K, K = l.length := ⟨_, rfl⟩
  have HN := Lib.hid hN
  have HMl := Lib.hid hM
  have HKl := Lib.hid hKl
  obtain ⟨A2, c2, rfl, -⟩ := h2.slice
  obtain ⟨A1, c1, rfl, -⟩ := h1
  obtain ⟨A3, c3, rfl, -, hs3⟩ := h3
  have HS3 := Lib.hid hs3
  rw [← hN] at CF CV CG CH S1 ⊢
  rw [← hM] at CF CV CG CH S2 HV HVI hat hkM FM ⊢
  rw [← hKl] at CO HVI S3 hl1 ⊢
  have hM2 : (M : Int) ≤ 9223372036854775807 := by have := hz.2.1; omega
  have HZ := Lib.hid hz
  have HKM := Lib.hid hkM
  obtain ⟨kk, hkk2⟩ : ∃ kk, kk = k := ⟨_, rfl⟩
  generalize fewW ns rs = fb at *
  generalize hvb : wvV ns rs = vb at *
  clear h2 hz hm ht hk hN hM hKl hs3 hl1 hl2 hkk hvb hkk2
  cases fb
  · clear FM HV HO HI HVI CC CJ CO CS CG CH CV S1 S2 S3 HS3 hat
    go_enter Tryd.func10, Tryd.ntmps10
    go_upto_region 1 with fail
    have XA := Lib.hid (box_new (W := w) (g := w.heap.size) 26 #[.slice A1 N c1, .slice A2 M c2] (by simp))
    have HB := Lib.hid (below_alloc w (.cells #[.slice A1 N c1, .slice A2 M c2] 26))
    generalize w.alloc (.cells #[.slice A1 N c1, .slice A2 M c2] 26) = w1 at *
    have XA_0 := XA.out.at_ 0 _ rfl
    have XA_1 := XA.out.at_ 1 _ rfl
    go_wp2_with fail
    refine (CF.out _ HB.out).mono ?_; rintro e w2 ⟨rfl, hb⟩
    clear XA_0 XA_1
    replace XA := Lib.hid (XA.out.below hb)
    replace HB := Lib.hid (below_step HB.out hb)
    clear hb
    go_wp2_with fail
    refine (CW.out _ HB.out).mono ?_; rintro e wz ⟨rfl, hb⟩
    replace XA := Lib.hid (XA.out.below hb)
    replace HB := Lib.hid (below_step HB.out hb)
    clear hb
    go_wp2_with fail
    go_ret
    exact ⟨rfl, HB.out⟩
  cases vb
  · clear FM HV HO HI HVI CC CJ CO CS CG CH S1 S2 S3 HS3 hat
    go_enter Tryd.func10, Tryd.ntmps10
    go_upto_region 1 with fail
    have XA := Lib.hid (box_new (W := w) (g := w.heap.size) 26 #[.slice A1 N c1, .slice A2 M c2] (by simp))
    have HB := Lib.hid (below_alloc w (.cells #[.slice A1 N c1, .slice A2 M c2] 26))
    generalize w.alloc (.cells #[.slice A1 N c1, .slice A2 M c2] 26) = w1 at *
    have XA_0 := XA.out.at_ 0 _ rfl
    have XA_1 := XA.out.at_ 1 _ rfl
    go_wp2_with fail
    refine (CF.out _ HB.out).mono ?_; rintro e w2 ⟨rfl, hb⟩
    clear XA_0 XA_1
    replace XA := Lib.hid (XA.out.below hb)
    replace HB := Lib.hid (below_step HB.out hb)
    clear hb
    have XA_0 := XA.out.at_ 0 _ rfl
    have XA_1 := XA.out.at_ 1 _ rfl
    go_wp2_with fail
    clear XA_0 XA_1
    refine (CV.out _ HB.out).mono ?_; rintro e w3 ⟨rfl, hb⟩
    replace XA := Lib.hid (XA.out.below hb)
    replace HB := Lib.hid (below_step HB.out hb)
    clear hb
    go_wp2_with fail
    refine (CW.out _ HB.out).mono ?_; rintro e wz ⟨rfl, hb⟩
    replace XA := Lib.hid (XA.out.below hb)
    replace HB := Lib.hid (below_step HB.out hb)
    clear hb
    go_wp2_with fail
    go_ret
    exact ⟨rfl, HB.out⟩
  by_cases hl : K ≤ 52
  case neg =>
    have hn2 : (52 : Int) < (K : Int) := by omega
    clear FM HV HO HI HVI CC CJ CO CS CG CH S1 S2 S3 HS3 hat
    go_enter Tryd.func10, Tryd.ntmps10
    go_upto_region 1 with fail
    have XA := Lib.hid (box_new (W := w) (g := w.heap.size) 26 #[.slice A1 N c1, .slice A2 M c2] (by simp))
    have HB := Lib.hid (below_alloc w (.cells #[.slice A1 N c1, .slice A2 M c2] 26))
    generalize w.alloc (.cells #[.slice A1 N c1, .slice A2 M c2] 26) = w1 at *
    have XA_0 := XA.out.at_ 0 _ rfl
    have XA_1 := XA.out.at_ 1 _ rfl
    go_wp2_with fail
    refine (CF.out _ HB.out).mono ?_; rintro e w2 ⟨rfl, hb⟩
    clear XA_0 XA_1
    replace XA := Lib.hid (XA.out.below hb)
    replace HB := Lib.hid (below_step HB.out hb)
    clear hb
    have XA_0 := XA.out.at_ 0 _ rfl
    have XA_1 := XA.out.at_ 1 _ rfl
    go_wp2_with fail
    clear XA_0 XA_1
    refine (CV.out _ HB.out).mono ?_; rintro e w3 ⟨rfl, hb⟩
    replace XA := Lib.hid (XA.out.below hb)
    replace HB := Lib.hid (below_step HB.out hb)
    clear hb
    go_wp2_with fail
    refine (CW.out _ HB.out).mono ?_; rintro e wz ⟨rfl, hb⟩
    replace XA := Lib.hid (XA.out.below hb)
    replace HB := Lib.hid (below_step HB.out hb)
    clear hb
    go_wp2_with fail
    go_ret
    exact ⟨rfl, HB.out⟩
  have hn2 : ¬ (52 : Int) < (K : Int) := by omega
  have hM20 : M ≤ 20 := FM.out rfl
  obtain ⟨⟨hc1, hc2, hj⟩, hzt, hzd⟩ := HV.out rfl
  have hway := HO.out rfl
  replace CO := Lib.hid (CO.out hl)
  replace HVI := Lib.hid (HVI.out rfl)
  have I0 : I64 0 := ⟨by decide, by decide⟩
  have Ik : I64 (k : Int) := ⟨by omega, by omega⟩
  have IM : I64 (M : Int) := ⟨by omega, by omega⟩
  have D1 := Lib.hid (fun W hW => CC.out W hW _ _ ns rs (S1.out.below hW) (S2.out.below hW) HZ.out 0 k I0 Ik)
  have D2 := Lib.hid (fun W hW => CC.out W hW _ _ ns rs (S1.out.below hW) (S2.out.below hW) HZ.out k M Ik IM)
  rw [hc1] at D1
  rw [hc2] at D2
  have D3 := Lib.hid (fun W hW u1 u2 u3 u4 a b c d => CJ.out W hW u1 u2 u3 u4 ns (rs.take k) ns (rs.drop k) a b c d hzt hzd)
  rw [hj] at D3
  have D4 := Lib.hid (fun W u1 u2 u3 u4 a b c d => CS.out (ns, rs, 0) HZ.out W u1 u2 u3 u4 a b c d)
  have D5 := Lib.hid (fun W hW => CO.out W hW _ _ ns rs (S1.out.below hW) (S2.out.below hW) HZ.out)
  have D6 := Lib.hid (fun W hW u1 u2 a b => CO.out W hW u1 u2 ns (rs.take k) a b hzt)
  have D7 := Lib.hid (fun W hW u1 u2 ms ts a b z => CC.out W hW u1 u2 ms ts a b z 0 k I0 Ik)
  unfold PARW at D1 D2 D3 D5 D6 D7
  have ck0 : (0 : Int) ≤ at0 := wat.1
  have E0 : ((0 : Int) != 0) = false := rfl
  have E1 : ((0 : Int) == 0) = true := rfl
  have EM : ((M : Int) + 1 == 0) = false := by
    have : ¬ (M : Int) + 1 = 0 := by omega
    simpa using this
  have EM2 : ¬ (M : Int) + 1 = 0 := by omega
  clear FM HV HO CC CJ CO I0 Ik IM hc1 hc2 hj hzt hzd
  go_enter Tryd.func10, Tryd.ntmps10
  go_upto_region 1 with fail
  have XA := Lib.hid (box_new (W := w) (g := w.heap.size) 26 #[.slice A1 N c1, .slice A2 M c2] (by simp))
  have HB := Lib.hid (below_alloc w (.cells #[.slice A1 N c1, .slice A2 M c2] 26))
  generalize w.alloc (.cells #[.slice A1 N c1, .slice A2 M c2] 26) = w1 at *
  have XA_0 := XA.out.at_ 0 _ rfl
  have XA_1 := XA.out.at_ 1 _ rfl
  go_wp2_with fail
  refine (CF.out _ HB.out).mono ?_; rintro e w2 ⟨rfl, hb⟩
  clear XA_0 XA_1
  replace XA := Lib.hid (XA.out.below hb)
  replace HB := Lib.hid (below_step HB.out hb)
  clear hb
  clear CF
  have XA_0 := XA.out.at_ 0 _ rfl
  have XA_1 := XA.out.at_ 1 _ rfl
  go_wp2_with fail
  clear XA_0 XA_1
  refine (CV.out _ HB.out).mono ?_; rintro e w3 ⟨rfl, hb⟩
  replace XA := Lib.hid (XA.out.below hb)
  replace HB := Lib.hid (below_step HB.out hb)
  clear hb
  clear CV
  have XA_1 := XA.out.at_ 1 _ rfl
  go_upto_region 4 with fail
  clear XA_1
  rw [hat.out]
  clear hat EM EM2
  obtain ⟨tk, htk⟩ : ∃ x, x = rs.take k := ⟨_, rfl⟩
  obtain ⟨dk, hdk⟩ : ∃ x, x = rs.drop k := ⟨_, rfl⟩
  rw [← htk] at D1 D3 D6 hway
  rw [← hdk] at D2 D3
  obtain ⟨T, hT⟩ : ∃ T, T = tk.length := ⟨_, rfl⟩
  obtain ⟨D, hD⟩ : ∃ D, D = dk.length := ⟨_, rfl⟩
  have HT := Lib.hid hT
  have HD := Lib.hid hD
  have HWAY := Lib.hid hway
  clear htk hdk hT hD hway
  try simp only at D1 D2 D3 D4
  have XA_0 := XA.out.at_ 0 _ rfl
  have XA_1 := XA.out.at_ 1 _ rfl
  go_wp2_with fail
  clear XA_0 XA_1
  refine (D1.out _ HB.out).mono ?_; rintro e w4 ⟨u1, u2, rfl, s1, s2, hb⟩
  have Sa := Lib.hid s1
  have Sb := Lib.hid s2
  obtain ⟨Ba, Ba', rfl, -⟩ := id s1
  obtain ⟨Bb, Bb', rfl, -⟩ := s2.slice
  rw [← HN.out] at Sa ⊢
  rw [← HT.out] at Sb ⊢
  clear s1 s2
  replace XA := Lib.hid (XA.out.below hb)
  replace HB := Lib.hid (below_step HB.out hb)
  clear hb
  go_upto_region 5 with fail
  have X8 := Lib.hid (box_new (W := w4) (g := w4.heap.size) 26 #[.slice Ba N Ba', .slice Bb T Bb'] (by simp))
  have hba := (below_alloc w4 (.cells #[.slice Ba N Ba', .slice Bb T Bb'] 26))
  replace XA := Lib.hid (XA.out.below hba)
  replace Sa := Lib.hid (Sa.out.below hba)
  replace Sb := Lib.hid (Sb.out.below hba)
  replace HB := Lib.hid (below_step HB.out hba)
  clear hba
  generalize w4.alloc (.cells #[.slice Ba N Ba', .slice Bb T Bb'] 26) = w5 at *
  have XA_0 := XA.out.at_ 0 _ rfl
  have XA_1 := XA.out.at_ 1 _ rfl
  go_wp2_with fail
  clear XA_0 XA_1
  refine (D2.out _ HB.out).mono ?_; rintro e w6 ⟨u1, u2, rfl, s1, s2, hb⟩
  have Sc := Lib.hid s1
  have Sd := Lib.hid s2
  obtain ⟨Bc, Bc', rfl, -⟩ := id s1
  obtain ⟨Bd, Bd', rfl, -⟩ := s2.slice
  rw [← HN.out] at Sc ⊢
  rw [← HD.out] at Sd ⊢
  clear s1 s2
  replace XA := Lib.hid (XA.out.below hb)
  replace X8 := Lib.hid (X8.out.below hb)
  replace Sa := Lib.hid (Sa.out.below hb)
  replace Sb := Lib.hid (Sb.out.below hb)
  replace HB := Lib.hid (below_step HB.out hb)
  clear hb
  go_upto_region 6 with fail
  have X10 := Lib.hid (box_new (W := w6) (g := w6.heap.size) 26 #[.slice Bc N Bc', .slice Bd D Bd'] (by simp))
  have hba := (below_alloc w6 (.cells #[.slice Bc N Bc', .slice Bd D Bd'] 26))
  replace XA := Lib.hid (XA.out.below hba)
  replace X8 := Lib.hid (X8.out.below hba)
  replace Sa := Lib.hid (Sa.out.below hba)
  replace Sb := Lib.hid (Sb.out.below hba)
  replace Sc := Lib.hid (Sc.out.below hba)
  replace Sd := Lib.hid (Sd.out.below hba)
  replace HB := Lib.hid (below_step HB.out hba)
  clear hba
  generalize w6.alloc (.cells #[.slice Bc N Bc', .slice Bd D Bd'] 26) = w7 at *
  have X8_0 := X8.out.at_ 0 _ rfl
  have X8_1 := X8.out.at_ 1 _ rfl
  have X10_0 := X10.out.at_ 0 _ rfl
  have X10_1 := X10.out.at_ 1 _ rfl
  go_wp2_with fail
  clear X8_0 X8_1 X10_0 X10_1
  refine (D3.out _ HB.out _ _ _ _ Sa.out Sb.out Sc.out Sd.out).mono ?_; rintro e w8 ⟨u1, u2, rfl, s1, s2, hb⟩
  have Se := Lib.hid s1
  have Sf := Lib.hid s2
  obtain ⟨Be, Be', rfl, -⟩ := id s1
  obtain ⟨Bf, Bf', rfl, -⟩ := s2.slice
  rw [← HN.out] at Se ⊢
  rw [← HMl.out] at Sf ⊢
  clear s1 s2
  replace XA := Lib.hid (XA.out.below hb)
  replace X8 := Lib.hid (X8.out.below hb)
  replace X10 := Lib.hid (X10.out.below hb)
  replace Sa := Lib.hid (Sa.out.below hb)
  replace Sb := Lib.hid (Sb.out.below hb)
  replace HB := Lib.hid (below_step HB.out hb)
  clear hb
  go_upto_region 7 with fail
  have X12 := Lib.hid (box_new (W := w8) (g := w8.heap.size) 26 #[.slice Be N Be', .slice Bf M Bf'] (by simp))
  have hba := (below_alloc w8 (.cells #[.slice Be N Be', .slice Bf M Bf'] 26))
  replace XA := Lib.hid (XA.out.below hba)
  replace X8 := Lib.hid (X8.out.below hba)
  replace X10 := Lib.hid (X10.out.below hba)
  replace Sa := Lib.hid (Sa.out.below hba)
  replace Sb := Lib.hid (Sb.out.below hba)
  replace Se := Lib.hid (Se.out.below hba)
  replace Sf := Lib.hid (Sf.out.below hba)
  replace HB := Lib.hid (below_step HB.out hba)
  clear hba
  generalize w8.alloc (.cells #[.slice Be N Be', .slice Bf M Bf'] 26) = w9 at *
  clear D1 D2 D3
  have XA_0 := XA.out.at_ 0 _ rfl
  have XA_1 := XA.out.at_ 1 _ rfl
  have X12_0 := X12.out.at_ 0 _ rfl
  have X12_1 := X12.out.at_ 1 _ rfl
  go_wp2_with fail
  clear XA_0 XA_1 X12_0 X12_1
  refine (D4.out _ _ _ _ _ Se.out Sf.out (S1.out.below HB.out) (S2.out.below HB.out)).mono ?_; rintro e wa ⟨rfl, hb⟩
  clear D4
  replace XA := Lib.hid (XA.out.below hb)
  replace X8 := Lib.hid (X8.out.below hb)
  replace Sa := Lib.hid (Sa.out.below hb)
  replace Sb := Lib.hid (Sb.out.below hb)
  replace HB := Lib.hid (below_step HB.out hb)
  clear hb
  go_upto_region 9 with fail
  rcases HWAY.out with hne | ⟨h0, ho, hc3, ho2, z2, z3⟩
  · obtain ⟨r, hr⟩ : ∃ r, r = woT ns rs l := ⟨_, rfl⟩
    rw [← hr] at D5 hne
    have f2 : (r.2.2 != 0) = true := by simpa using hne
    clear HWAY hne hr D6 D7 HI HVI CS CG CH
    have XA_0 := XA.out.at_ 0 _ rfl
    have XA_1 := XA.out.at_ 1 _ rfl
    go_wp2_with fail
    clear XA_0 XA_1
    refine (D5.out _ HB.out).mono ?_; rintro e wb ⟨u1, u2, rfl, s1, s2, hb⟩
    obtain ⟨Bg, dg, rfl, -⟩ := id s1
    obtain ⟨Bh, dh, rfl, -⟩ := s2.slice
    clear s1 s2
    replace HB := Lib.hid (below_step HB.out hb)
    clear hb
    generalize r.1.length = L1 at *
    generalize r.2.1.length = L2 at *
    go_upto_region 10 with fail
    have X14 := Lib.hid (box_new (W := wb) (g := wb.heap.size) 26 #[.slice Bg L1 dg, .slice Bh L2 dh] (by simp))
    have hba := (below_alloc wb (.cells #[.slice Bg L1 dg, .slice Bh L2 dh] 26))
    replace HB := Lib.hid (below_step HB.out hba)
    clear hba
    generalize wb.alloc (.cells #[.slice Bg L1 dg, .slice Bh L2 dh] 26) = wc at *
    go_wp2_with fail
    refine (CW.out _ HB.out).mono ?_; rintro e wz ⟨rfl, hb⟩
    replace X14 := Lib.hid (X14.out.below hb)
    replace HB := Lib.hid (below_step HB.out hb)
    clear hb
    go_wp2_with fail
    go_ret
    exact ⟨rfl, HB.out⟩
  · rw [ho] at D5
    obtain ⟨pr, hpr⟩ : ∃ x, x = rs.map (pick ns l) := ⟨_, rfl⟩
    obtain ⟨pt, hpt⟩ : ∃ x, x = tk.map (pick ns l) := ⟨_, rfl⟩
    rw [← hpr] at D5 hc3 z2
    rw [← hpt] at hc3 ho2 z3
    rw [ho2] at D6
    replace D7 := Lib.hid (fun W hW u1 u2 a b => D7.out W hW u1 u2 l pr a b z2)
    rw [hc3] at D7
    have D8 := Lib.hid (fun W u1 u2 u3 u4 a b c d => CS.out (l, pt, 0) z3 W u1 u2 u3 u4 a b c d)
    replace HVI := Lib.hid (HVI.out h0)
    obtain ⟨P, hP⟩ : ∃ P, P = pr.length := ⟨_, rfl⟩
    obtain ⟨Q, hQ⟩ : ∃ Q, Q = pt.length := ⟨_, rfl⟩
    have HP := Lib.hid hP
    have HQ := Lib.hid hQ
    clear hpr hpt hP hQ ho hc3 ho2 z2 z3 HWAY CS h0 HI
    try simp only at D5 D6 D7 D8
    have XA_0 := XA.out.at_ 0 _ rfl
    have XA_1 := XA.out.at_ 1 _ rfl
    go_wp2_with fail
    clear XA_0 XA_1
    refine (D5.out _ HB.out).mono ?_; rintro e wb ⟨u1, u2, rfl, s1, s2, hb⟩
    have Sg := Lib.hid s1
    have Sh := Lib.hid s2
    obtain ⟨Bg, Bg', rfl, -⟩ := id s1
    obtain ⟨Bh, Bh', rfl, -⟩ := s2.slice
    rw [← HKl.out] at Sg ⊢
    rw [← HP.out] at Sh ⊢
    clear s1 s2
    replace XA := Lib.hid (XA.out.below hb)
    replace X8 := Lib.hid (X8.out.below hb)
    replace Sa := Lib.hid (Sa.out.below hb)
    replace Sb := Lib.hid (Sb.out.below hb)
    replace HB := Lib.hid (below_step HB.out hb)
    clear hb
    go_upto_region 10 with fail
    have X14 := Lib.hid (box_new (W := wb) (g := wb.heap.size) 26 #[.slice Bg K Bg', .slice Bh P Bh'] (by simp))
    have hba := (below_alloc wb (.cells #[.slice Bg K Bg', .slice Bh P Bh'] 26))
    replace XA := Lib.hid (XA.out.below hba)
    replace X8 := Lib.hid (X8.out.below hba)
    replace Sa := Lib.hid (Sa.out.below hba)
    replace Sb := Lib.hid (Sb.out.below hba)
    replace Sg := Lib.hid (Sg.out.below hba)
    replace Sh := Lib.hid (Sh.out.below hba)
    replace HB := Lib.hid (below_step HB.out hba)
    clear hba
    generalize wb.alloc (.cells #[.slice Bg K Bg', .slice Bh P Bh'] 26) = wc at *
    go_upto_region 12 with fail
    have X14_0 := X14.out.at_ 0 _ rfl
    have X14_1 := X14.out.at_ 1 _ rfl
    go_wp2_with fail
    clear X14_0 X14_1
    refine (D7.out _ HB.out _ _ Sg.out Sh.out).mono ?_; rintro e wd ⟨u1, u2, rfl, s1, s2, hb⟩
    have Si := Lib.hid s1
    have Sj := Lib.hid s2
    obtain ⟨Bi, Bi', rfl, -⟩ := id s1
    obtain ⟨Bj, Bj', rfl, -⟩ := s2.slice
    rw [← HKl.out] at Si ⊢
    rw [← HQ.out] at Sj ⊢
    clear s1 s2
    replace XA := Lib.hid (XA.out.below hb)
    replace X8 := Lib.hid (X8.out.below hb)
    replace Sa := Lib.hid (Sa.out.below hb)
    replace Sb := Lib.hid (Sb.out.below hb)
    replace HB := Lib.hid (below_step HB.out hb)
    clear hb
    go_upto_region 13 with fail
    have X16 := Lib.hid (box_new (W := wd) (g := wd.heap.size) 26 #[.slice Bi K Bi', .slice Bj Q Bj'] (by simp))
    have hba := (below_alloc wd (.cells #[.slice Bi K Bi', .slice Bj Q Bj'] 26))
    replace XA := Lib.hid (XA.out.below hba)
    replace X8 := Lib.hid (X8.out.below hba)
    replace Sa := Lib.hid (Sa.out.below hba)
    replace Sb := Lib.hid (Sb.out.below hba)
    replace Si := Lib.hid (Si.out.below hba)
    replace Sj := Lib.hid (Sj.out.below hba)
    replace HB := Lib.hid (below_step HB.out hba)
    clear hba
    generalize wd.alloc (.cells #[.slice Bi K Bi', .slice Bj Q Bj'] 26) = we at *
    have X8_0 := X8.out.at_ 0 _ rfl
    have X8_1 := X8.out.at_ 1 _ rfl
    go_wp2_with fail
    clear X8_0 X8_1
    refine (D6.out _ HB.out _ _ Sa.out Sb.out).mono ?_; rintro e wf ⟨u1, u2, rfl, s1, s2, hb⟩
    have Sk := Lib.hid s1
    have Sl := Lib.hid s2
    obtain ⟨Bk, Bk', rfl, -⟩ := id s1
    obtain ⟨Bl, Bl', rfl, -⟩ := s2.slice
    rw [← HKl.out] at Sk ⊢
    rw [← HQ.out] at Sl ⊢
    clear s1 s2
    replace XA := Lib.hid (XA.out.below hb)
    replace X16 := Lib.hid (X16.out.below hb)
    replace Si := Lib.hid (Si.out.below hb)
    replace Sj := Lib.hid (Sj.out.below hb)
    replace HB := Lib.hid (below_step HB.out hb)
    clear hb
    go_upto_region 14 with fail
    have X18 := Lib.hid (box_new (W := wf) (g := wf.heap.size) 26 #[.slice Bk K Bk', .slice Bl Q Bl'] (by simp))
    have hba := (below_alloc wf (.cells #[.slice Bk K Bk', .slice Bl Q Bl'] 26))
    replace XA := Lib.hid (XA.out.below hba)
    replace X16 := Lib.hid (X16.out.below hba)
    replace Si := Lib.hid (Si.out.below hba)
    replace Sj := Lib.hid (Sj.out.below hba)
    replace Sk := Lib.hid (Sk.out.below hba)
    replace Sl := Lib.hid (Sl.out.below hba)
    replace HB := Lib.hid (below_step HB.out hba)
    clear hba
    generalize wf.alloc (.cells #[.slice Bk K Bk', .slice Bl Q Bl'] 26) = wg at *
    clear D5 D6 D7 HP HQ HT HD
    by_cases hK0 : K = 0
    · have f5 : ((K : Int) == 0) = true := by
        have : (K : Int) = 0 := by omega
        simpa using this
      clear hK0 HVI
      have X16_0 := X16.out.at_ 0 _ rfl
      have X16_1 := X16.out.at_ 1 _ rfl
      have X18_0 := X18.out.at_ 0 _ rfl
      have X18_1 := X18.out.at_ 1 _ rfl
      go_wp2_with fail
      clear X16_0 X16_1 X18_0 X18_1
      refine (D8.out _ _ _ _ _ Si.out Sj.out Sk.out Sl.out).mono ?_; rintro e wh ⟨rfl, hb⟩
      replace XA := Lib.hid (XA.out.below hb)
      replace X16 := Lib.hid (X16.out.below hb)
      replace X18 := Lib.hid (X18.out.below hb)
      replace Si := Lib.hid (Si.out.below hb)
      replace Sj := Lib.hid (Sj.out.below hb)
      replace Sk := Lib.hid (Sk.out.below hb)
      replace Sl := Lib.hid (Sl.out.below hb)
      replace HB := Lib.hid (below_step HB.out hb)
      clear hb
      have X16_0 := X16.out.at_ 0 _ rfl
      have X16_1 := X16.out.at_ 1 _ rfl
      have X18_0 := X18.out.at_ 0 _ rfl
      have X18_1 := X18.out.at_ 1 _ rfl
      go_wp2_with fail
      clear X16_0 X16_1 X18_0 X18_1
      refine (D8.out _ _ _ _ _ Si.out Sj.out Sk.out Sl.out).mono ?_; rintro e wi ⟨rfl, hb⟩
      replace HB := Lib.hid (below_step HB.out hb)
      clear hb
      go_wp2_with fail
      refine (CW.out _ HB.out).mono ?_; rintro e wz ⟨rfl, hb⟩
      replace HB := Lib.hid (below_step HB.out hb)
      clear hb
      go_wp2_with fail
      go_ret
      exact ⟨rfl, HB.out⟩
    · have f5 : ((K : Int) == 0) = false := by
        have : ¬ (K : Int) = 0 := by omega
        simpa using this
      have hK1 : 0 < l.length := by rw [← HKl.out]; omega
      have hK2 : 0 < K := by omega
      have hK3 : (0 : Int) < (K : Int) := by omega
      obtain ⟨p, f, ch, hch, hcl, hp0, hhit, hmiss, hnext, hle, hend, hsame⟩ := HVI.out (by omega)
      obtain ⟨a3, rfl, hr3⟩ := HS3.out hK1
      have hr0 := hr3.cells 0 hK1
      rw [add_zero] at hr0
      have HA3 : Hid (a3.block < w.heap.size) := Lib.hid hr3.lt
      generalize l.getD 0 ⟨#[]⟩ = s at *
      have HR0 := Lib.hid hr0
      have CH2 := Lib.hid (fun W hW => CH.out s W hW)
      rw [hch] at CH2
      have HIT := Lib.hid hhit
      have MISS := Lib.hid hmiss
      have NEXT := Lib.hid hnext
      have HLE := Lib.hid hle
      have HEND := Lib.hid hend
      have SAME := Lib.hid hsame
      have HP0 := Lib.hid hp0
      clear hK0 hK1 HVI hch hp0 hhit hmiss hnext hle hend hsame hr3 hr0 CH HS3
      have X16_0 := X16.out.at_ 0 _ rfl
      have X16_1 := X16.out.at_ 1 _ rfl
      have X18_0 := X18.out.at_ 0 _ rfl
      have X18_1 := X18.out.at_ 1 _ rfl
      go_wp2_with fail
      clear X16_0 X16_1 X18_0 X18_1
      refine (D8.out _ _ _ _ _ Si.out Sj.out Sk.out Sl.out).mono ?_; rintro e wh ⟨rfl, hb⟩
      clear D8
      replace XA := Lib.hid (XA.out.below hb)
      replace HB := Lib.hid (below_step HB.out hb)
      clear hb
      go_upto_region 16 with fail
      clear f5
      have HBL := HB
      refine wp_region_gen 5 (Kit.of [gIL 4 [] ch]) (by kernel_rfl) (by kernel_rfl) (fun γ => by kernel_rfl) (by kernel_rfl) (Kit.of_stable ?_) (Kit.of_known ?_) ?_
      · intro z hz; simp only [List.mem_cons, List.not_mem_nil, or_false] at hz; rcases hz with rfl
        · apply gIL_st
      · intro z hz; simp only [List.mem_cons, List.not_mem_nil, or_false] at hz; rcases hz with rfl
        · apply gIL_kn
      intro γ hγ C hC hne
      obtain ⟨P4, d4, k4⟩ : ∃ A c, γ 4 = .slice A ch.length c := hγ 4 rfl
      have a0 := XA.out.latC (C := C) 0 _ rfl
      have a1 := XA.out.latC (C := C) 1 _ rfl
      have y0 : ∀ p : LatC wh C, p.w.cell? a3 = some (.string s) := fun p => (below_step HBL.out p.h).cell HA3.out ▸ HR0.out
      simp only [List.take_succ_cons, List.take_zero, List.drop_succ_cons, List.drop_zero]
      iterate 4 (refine wpF_quiet rfl ?_; go_big_quiet_step (fail); refine wpQuiet_nil ?_)
      refine wpF_fresh rfl (freshAt_call (args := #[.agg #[.slice A1 N c1, .slice A2 M c2], .string s]) rfl _ _ _ (run_go Tryd.func25 (by kernel_rfl) (by kernel_rfl)) rfl (by simp [Act.eval]) (fun w' hb hf => (CH2.out w' (below_step HBL.out hb)).mono fun e w2 ⟨v, he, h1, h2⟩ => ⟨v, he, h1, h2⟩)) ?_
      simp only [Nat.zero_add, Nat.reduceAdd, k4]
      go_simp
      intro w9 hb hF
      have hil : IL w9 (γ 4) ch := hF 4 (by decide) rfl
      rw [k4] at hil
      have HIL := Lib.hid hil
      clear a0 a1 y0 hF hγ hC hne hil k4 CH2
      replace XA := Lib.hid (XA.out.below hb)
      replace HB := Lib.hid (below_step HB.out hb)
      clear hb
      replace HKM := HKM
      obtain ⟨Cn, hCn⟩ : ∃ x, x = ch.length := ⟨_, rfl⟩
      have HCN := Lib.hid hCn
      rw [← hCn] at HIL hcl ⊢
      clear hCn
      have HB9 := HB
      have HC9 := Lib.hid (Below.refl w9.heap.size w9)
      have P00 := Lib.hid HP0.out.symm
      clear HP0 HBL
      go_wp2_with fail
      go_loopw [21, 22] (fun pv tv wr => ∃ t : Nat, t ≤ M ∧ pv = .int .i64 (p t : Nat) ∧ tv = .int .i64 t ∧ Box wr w.heap.size #[.slice A1 N c1, .slice A2 M c2] 26 ∧ Below w9.heap.size w9 wr ∧ Below w.heap.size w wr) (fun _ tv _ => M - (intOf tv).toNat)
      case atStart => exact ⟨0, Nat.zero_le _, by rw [← P00.out]; rfl, rfl, XA.out, HC9.out, HB9.out⟩
      case round =>
        clear XA HB HB9 HC9 P00
        obtain ⟨t, ht, rfl, rfl, hxa, hc, hb⟩ := hrel
        have XA := Lib.hid hxa
        have HC := Lib.hid hc
        have HB := Lib.hid hb
        clear hxa hc hb
        by_cases hlt : t < M
        · have hlt2 : (t : Int) < M := by omega
          have ht0 : (0 : Int) ≤ (t : Int) := by omega
          have htn : t < rs.length := by rw [← HMl.out]; exact hlt
          have hpl := HLE.out t ht
          rw [← HCN.out] at hpl
          have NX := Lib.hid (NEXT.out t)
          have HT1 := Lib.hid (HIT.out t hlt)
          have MS1 := Lib.hid (MISS.out t hlt)
          have SM1 := Lib.hid (SAME.out t hlt)
          obtain ⟨q, hq⟩ : ∃ q, q = p t := ⟨_, rfl⟩
          have HQ := Lib.hid hq
          rw [← hq] at NX HT1 MS1 hpl ⊢
          clear hq htn
          cases hf : f t
          · rw [hf] at NX MS1 SM1
            obtain ⟨z, hz1, hz2⟩ := SM1.out rfl
            have It : I64 (t : Int) := ⟨by omega, by omega⟩
            have It2 : I64 ((t : Int) - 1) := ⟨by omega, by omega⟩
            have G1 := Lib.hid (CG.out s t It)
            have G2 := Lib.hid (CG.out s ((t : Int) - 1) It2)
            rw [hz1] at G1
            rw [hz2] at G2
            unfold ret2b at G1 G2
            simp only at G1 G2
            have NX2 : Hid (p (t + 1) = q) := Lib.hid (by rw [NX.out]; simp)
            have hzz : (z != z) = false := by simp
            have ht1 : ¬ (t : Int) - 1 < -9223372036854775808 := by omega
            clear hz1 hz2 It It2 NX HT1 SM1 hf
            by_cases hqc : q < Cn
            · have hq2 : (q : Int) < Cn := by omega
              have hq0 : (0 : Int) ≤ (q : Int) := by omega
              have hqn : q < ch.length := by rw [← HCN.out]; exact hqc
              obtain ⟨aa, haa, QT⟩ := il_at (w := w9) (fun W hW => HIL.out.below hW) hqn
              have q2 := QT _ HC.out
              have hne := MS1.out rfl hqn
              generalize ch.getD q 0 = cz at *
              have f3 : (cz == (t : Int)) = false := by simpa using hne
              subst haa
              clear QT hqn hne MS1
              have XA_1 := XA.out.at_ 1 _ rfl
              go_wp2_with fail
              clear XA_1
              have y0 : ∀ p : Lat wr, p.w.cell? a3 = some (.string s) := fun p => (below_step HB.out p.h).cell HA3.out ▸ HR0.out
              have l0 := XA.out.lat 0 _ rfl
              have l1 := XA.out.lat 1 _ rfl
              have VG := Lib.hid (fun p : Lat wr => G1.out p.w (below_step HB.out p.h))
              refine wp_region_lat (by kernel_rfl) (by kernel_rfl) ?_
              repeat (go_big_quiet_step (with_reducible exact lat_call (VG.out _)))
              refine wpQuiet_nil ?_; intro w7 hb
              replace HC := Lib.hid (below_step HC.out hb)
              clear y0 l0 l1 VG
              replace XA := Lib.hid (XA.out.below hb)
              replace HB := Lib.hid (below_step HB.out hb)
              clear hb
              have y0 : ∀ p : Lat w7, p.w.cell? a3 = some (.string s) := fun p => (below_step HB.out p.h).cell HA3.out ▸ HR0.out
              have l0 := XA.out.lat 0 _ rfl
              have l1 := XA.out.lat 1 _ rfl
              have VG := Lib.hid (fun p : Lat w7 => G2.out p.w (below_step HB.out p.h))
              go_upto_region 24 with fail
              refine wp_region_lat (by kernel_rfl) (by kernel_rfl) ?_
              repeat (go_big_quiet_step (with_reducible exact lat_call (VG.out _)))
              refine wpQuiet_nil ?_; intro w8 hb
              replace HC := Lib.hid (below_step HC.out hb)
              clear y0 l0 l1 VG
              replace XA := Lib.hid (XA.out.below hb)
              replace HB := Lib.hid (below_step HB.out hb)
              clear hb
              go_wp2_with fail
              go_roundw
              case rel => first | exact ⟨t + 1, by omega, by rw [NX2.out], by go_num, XA.out, HC.out, HB.out⟩ | ((repeat apply Exists.intro); exact ⟨⟨t + 1, by omega, by rw [NX2.out], by go_num, XA.out, HC.out, HB.out⟩, rfl⟩)
              case measure => simp [intOf]; omega
            · have hq2 : ¬ (q : Int) < Cn := by omega
              clear MS1
              have XA_1 := XA.out.at_ 1 _ rfl
              go_wp2_with fail
              clear XA_1
              have y0 : ∀ p : Lat wr, p.w.cell? a3 = some (.string s) := fun p => (below_step HB.out p.h).cell HA3.out ▸ HR0.out
              have l0 := XA.out.lat 0 _ rfl
              have l1 := XA.out.lat 1 _ rfl
              have VG := Lib.hid (fun p : Lat wr => G1.out p.w (below_step HB.out p.h))
              refine wp_region_lat (by kernel_rfl) (by kernel_rfl) ?_
              repeat (go_big_quiet_step (with_reducible exact lat_call (VG.out _)))
              refine wpQuiet_nil ?_; intro w7 hb
              replace HC := Lib.hid (below_step HC.out hb)
              clear y0 l0 l1 VG
              replace XA := Lib.hid (XA.out.below hb)
              replace HB := Lib.hid (below_step HB.out hb)
              clear hb
              have y0 : ∀ p : Lat w7, p.w.cell? a3 = some (.string s) := fun p => (below_step HB.out p.h).cell HA3.out ▸ HR0.out
              have l0 := XA.out.lat 0 _ rfl
              have l1 := XA.out.lat 1 _ rfl
              have VG := Lib.hid (fun p : Lat w7 => G2.out p.w (below_step HB.out p.h))
              go_upto_region 24 with fail
              refine wp_region_lat (by kernel_rfl) (by kernel_rfl) ?_
              repeat (go_big_quiet_step (with_reducible exact lat_call (VG.out _)))
              refine wpQuiet_nil ?_; intro w8 hb
              replace HC := Lib.hid (below_step HC.out hb)
              clear y0 l0 l1 VG
              replace XA := Lib.hid (XA.out.below hb)
              replace HB := Lib.hid (below_step HB.out hb)
              clear hb
              go_wp2_with fail
              go_roundw
              case rel => first | exact ⟨t + 1, by omega, by rw [NX2.out], by go_num, XA.out, HC.out, HB.out⟩ | ((repeat apply Exists.intro); exact ⟨⟨t + 1, by omega, by rw [NX2.out], by go_num, XA.out, HC.out, HB.out⟩, rfl⟩)
              case measure => simp [intOf]; omega
          · rw [hf] at NX HT1
            obtain ⟨hqc0, hcq⟩ := HT1.out rfl
            have hqc : q < Cn := by rw [HCN.out]; exact hqc0
            have hq2 : (q : Int) < Cn := by omega
            have hq0 : (0 : Int) ≤ (q : Int) := by omega
            obtain ⟨aa, haa, QT⟩ := il_at (w := w9) (fun W hW => HIL.out.below hW) hqc0
            have q2 := QT _ HC.out
            rw [hcq] at q2
            subst haa
            have f3 : ((t : Int) == (t : Int)) = true := by simp
            have NX2 : Hid (p (t + 1) = q + 1) := Lib.hid (by rw [NX.out]; simp)
            clear QT hqc0 hcq NX HT1 MS1 SM1 hf
            have XA_1 := XA.out.at_ 1 _ rfl
            go_wp2_with fail
            clear XA_1
            go_roundw
            case rel => exact ⟨t + 1, by omega, by rw [NX2.out]; go_num, by go_num, XA.out, HC.out, HB.out⟩
            case measure => simp [intOf]; omega
        · have hlt2 : ¬ (t : Int) < M := by omega
          have htM : t = M := by omega
          have hpc : p t = Cn := by rw [htM, HCN.out]; exact HEND.out
          have f6 : ((Cn : Int) == (Cn : Int)) = true := by simp
          clear htM
          rw [hpc]
          clear hpc
          have XA_1 := XA.out.at_ 1 _ rfl
          go_wp2_with fail
          clear XA_1
          refine (CW.out _ HB.out).mono ?_; rintro e wz ⟨rfl, hb⟩
          replace XA := Lib.hid (XA.out.below hb)
          replace HB := Lib.hid (below_step HB.out hb)
          clear hb
          go_wp2_with fail
          go_ret
          exact ⟨rfl, HB.out⟩

end Go.Proofs.YthpioaboekpjoaaDoor
