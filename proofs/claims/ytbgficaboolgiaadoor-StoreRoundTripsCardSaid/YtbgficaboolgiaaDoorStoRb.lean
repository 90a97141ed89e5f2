/-
  Walk of StoreRoundTrips.
-/
import Derived.Test.YtbgficaboolgiaaDoorStoRa
import Derived.Test.YtbgficaboolgiaaDoorStoHb
import Derived.SliceStrings
namespace Go.Proofs.YtbgficaboolgiaaDoor
open Go.RowKit Go.WideShapes Go.ChangeShapes Go.Deep
set_option linter.unusedVariables false
set_option linter.unusedSimpArgs false

section
variable {H : Type} {enc : TypeId × Value → H} {w : World} {base : Nat} {spare : Nat → Bool} {held : Bool}
theorem sl_of_trod2 {fuel : Nat} {c : Value} {x : DataW H × List MemPlace} (h : DataW.trod enc Tryd.prog w base spare held fuel 40 [c] = some x) :
    ∃ ns, SL w c ns ∧ ns.length ≤ 9223372036854775807 ∧ ∀ s ∈ ns, s.size ≤ 9223372036854775807 := by
  rcases ChangeShapes.open_strings Tryd.underlying40 Tryd.underlying9 (by kernel_rfl) h with ⟨h0, _⟩ | ⟨a, len, cap, ss, h0, _, hlc, hcm, hsl, _, hcell, hsz⟩
  · obtain rfl : c = .slice none 0 0 := by simpa using h0
    exact ⟨[], SL.nil w, by simp, by simp⟩
  · obtain rfl : c = .slice (some a) len cap := by simpa using h0
    have hle : len ≤ ss.length := by rw [hsl]; split <;> omega
    have hl : (ss.take len).length = len := by rw [List.length_take]; omega
    refine ⟨ss.take len, ⟨some a, cap, by rw [hl], by omega, fun hp => ⟨a, rfl, ?_, fun j hj => ?_⟩⟩, by rw [hl]; unfold maxLen at hcm; omega, fun s hs => hsz s (List.mem_of_mem_take hs)⟩
    · have := hcell 0 (by omega)
      have := World.block_lt_of_cell? _ _ this
      rwa [block_of_add] at this
    · rw [hcell j (by omega)]
      simp only [List.getD_eq_getElem?_getD]
      rw [List.getElem?_take_of_lt (by omega)]
      rfl
end
section
variable {H : Type} {enc : TypeId × Value → H} {W : World} {v : Value} {d : DataW H} {p : List MemPlace} {base : Nat}
set_option maxRecDepth 100000 in
theorem arg_sl (h : DataW.Trod enc Tryd.prog W 0 (fun _ => true) true 40 v d p) (hv : Value.okWide Tryd.prog W .any base 40 v) :
    ∃ ns, SL W v ns ∧ ns.length ≤ 9223372036854775807 ∧ ∀ s ∈ ns, s.size ≤ 9223372036854775807 := by
  obtain ⟨fuel, hf⟩ := h
  obtain ⟨A, m, c, rfl⟩ := okWide_slice Tryd.underlying40 hv
  exact sl_of_trod2 hf
end
set_option maxRecDepth 100000 in
theorem resz_of {r : Res} (h : stoB r = true) (hse : r.seed < 18446744073709551616) : ResZ r := by
  obtain ⟨⟨s1, s2, s3⟩, ⟨⟨n1, n1'⟩, ⟨n2, n2'⟩, n3, n3'⟩, l1, l2, ⟨n4, n4'⟩, n5, n5'⟩ := sto_parts h
  obtain ⟨a1, a2⟩ := lst_parts l1
  obtain ⟨b1, b2⟩ := lst_parts l2
  unfold ResZ maxLen I64
  exact ⟨by omega, by omega, by omega, hse, ⟨by omega, by omega⟩, ⟨by omega, by omega⟩, ⟨by omega, by omega⟩, ⟨by omega, by omega⟩, ⟨by omega, by omega⟩, ⟨by omega, fun c hc => by have := (a2 c hc).1; omega⟩, by omega, fun c hc => by have := (b2 c hc).1; omega⟩

set_option maxRecDepth 100000 in
set_option maxHeartbeats 32000000 in
theorem walkStoreRoundTrips {H : Type} {enc : TypeId × Value → H} {base base' : Nat} {w : World} (v0 : Value) (d0 : DataW H) (p0 : List MemPlace) (g0 : DataW.Trod enc Tryd.prog w 0 (fun _ => true) true 27 v0 d0 p0) (hv0 : Value.okWide Tryd.prog w .any base 27 v0)
    (v1 : Value) (e1 : DataW H) (p1 : List MemPlace) (g1 : DataW.Trod enc Tryd.prog w 0 (fun _ => true) true 40 v1 e1 p1) (hv1 : Value.okWide Tryd.prog w .any base' 40 v1)
    (s : ByteArray) (hs : s.size ≤ maxLen) (ht : Tab w) :
    Calls Tryd.prog 9 #[v0, v1, .string s] w fun e w' => e = .returned (.bool true) ∧ Below w.heap.size w w' := by
  obtain ⟨p, q, r, rfl, hp, hq, hz⟩ := arg_res g0 hv0
  obtain ⟨l, hl, hln, hls⟩ := arg_sl g1 hv1
  have hs63 : s.size ≤ 9223372036854775807 := by unfold maxLen at hs; exact hs
  have CD := Lib.hid (fun W => stoDecode s hs W)
  have CE := Lib.hid (fun W (hW : Below w.heap.size w W) => stoEncode W p q r (hp.below hW) (hq.below hW) hz (ht.below hW))
  have CB := Lib.hid (fun W (hW : Below w.heap.size w W) => refStorable W p q r (hp.below hW) (hq.below hW) hz)
  have CW := Lib.hid (fun W (hW : Below w.heap.size w W) => lawAwake W (ht.below hW))
  have CA := Lib.hid (fun W (hW : Below w.heap.size w W) => stoAppend W v1 l (hl.below hW) p q r (hp.below hW) (hq.below hW) hz hln (ht.below hW))
  have CS := Lib.hid (fun W (hW : Below w.heap.size w W) p2 q2 (h1 : Rs ilR W p2 r.pts anyB) (h2 : Rs ilR W q2 r.crs anyB) => refSameR W p2 q2 p q r h1 h2 (hp.below hW) (hq.below hW) hz.2.2.2.2.2.2.2.2.2.1 hz.2.2.2.2.2.2.2.2.2.2)
  have HD : Hid ((decT s).2 = 0 → ∀ W (hW : Below w.heap.size w W) p2 q2, Rs ilR W p2 (decT s).1.pts anyB → Rs ilR W q2 (decT s).1.crs anyB → Calls Tryd.prog 10 #[resV p2 q2 (decT s).1] W fun e w' => e = .returned (.tuple #[.string s, .int .i64 0]) ∧ Below W.heap.size W w') := Lib.hid fun h W hW p2 q2 h1 h2 => by
    obtain ⟨-, hb, hse⟩ := decT_back hs63 h
    have := stoEncode W p2 q2 (decT s).1 h1 h2 (resz_of hb hse) (ht.below hW)
    rw [dec_enc hs63 h] at this
    exact this
  have HT : Hid (stoB r = true → ∃ t : ByteArray, t.size ≤ maxLen ∧ encT r = (t, 0) ∧ decT t = (r, 0)) := Lib.hid fun h => by
    refine ⟨mkS (sealL (bodyL r)), ?_, by unfold encT; rw [if_pos h], decT_enc h hz.2.2.2.1⟩
    have := body_len h
    rw [mkS_size, sealL_len]; unfold maxLen; omega
  have HF : Hid (stoB r = false → encT r = (⟨#[]⟩, 1)) := Lib.hid fun h => by unfold encT; rw [h]; rfl
  have HL := Lib.hid (fun W (hW : Below w.heap.size w W) => hl.below hW)
  have HLS := Lib.hid hls
  obtain ⟨LA, lc, rfl, -⟩ := id hl
  obtain ⟨A1, c1, rfl, -⟩ := hp.slice
  obtain ⟨A2, c2, rfl, -⟩ := hq.slice
  unfold DEC at CD
  generalize hdd : decT s = dd at *
  obtain ⟨x, ex⟩ := dd
  simp only at CD HD
  have HA : Hid (appT l r = if 1024 ≤ l.length then ([], 16) else if (encT r).2 ≠ 0 then ([], (encT r).2) else (l ++ [(encT r).1], 0)) := Lib.hid rfl
  generalize appT l r = ap at *
  generalize encT r = en at *
  generalize stoB r = sb at *
  obtain ⟨L, hL⟩ : ∃ L, L = l.length := ⟨_, rfl⟩
  have HLL := Lib.hid hL
  rw [← hL] at HA hln CA HL ⊢
  have hs' := Lib.hid hs
  clear hp hq hz ht hl hls g0 hv0 g1 hv1 hs hs63 hdd hL
  obtain ⟨te, se, de, si, cy, sn, gt, ps, cs, sm, il⟩ := r
  simp only [resV] at CE CB CA CS ⊢
  obtain ⟨M, hM⟩ : ∃ M, M = ps.length := ⟨_, rfl⟩
  obtain ⟨N, hN⟩ : ∃ N, N = cs.length := ⟨_, rfl⟩
  rw [← hM, ← hN] at CE CB CA CS ⊢
  have HM := Lib.hid hM
  have HN := Lib.hid hN
  clear hM hN
  obtain ⟨s1, s2⟩ := str_eq s
  go_enter Tryd.func9, Tryd.ntmps9
  go_upto_region 1 with fail
  have XR := Lib.hid (box_new (W := w) (g := w.heap.size) 27 #[.string te, .int .u64 se, .string de, .string si, .int .i64 cy, .int .i64 sn, .int .i64 gt, .slice A1 M c1, .slice A2 N c2, .int .i64 sm, .int .i64 il] (by simp))
  have HB := Lib.hid (below_alloc w (.cells #[.string te, .int .u64 se, .string de, .string si, .int .i64 cy, .int .i64 sn, .int .i64 gt, .slice A1 M c1, .slice A2 N c2, .int .i64 sm, .int .i64 il] 27))
  generalize w.alloc (.cells #[.string te, .int .u64 se, .string de, .string si, .int .i64 cy, .int .i64 sn, .int .i64 gt, .slice A1 M c1, .slice A2 N c2, .int .i64 sm, .int .i64 il] 27) = w1 at *
  obtain ⟨gR, hgR⟩ : ∃ g, g = w.heap.size := ⟨_, rfl⟩
  rw [← hgR] at XR ⊢
  clear hgR
  go_wp2_with fail
  refine (CD.out _).mono ?_; rintro e w2 ⟨p2, q2, rfl, ho1, ho2, hb⟩
  have P1 := Lib.hid ho1.any
  have Q1 := Lib.hid ho2.any
  obtain ⟨A3, c3, rfl⟩ := ho1.slice
  obtain ⟨A4, c4, rfl⟩ := ho2.slice
  clear ho1 ho2 CD
  replace XR := Lib.hid (XR.out.below hb)
  replace HB := Lib.hid (below_step HB.out hb)
  clear hb
  obtain ⟨xte, xse, xde, xsi, xcy, xsn, xgt, xps, xcs, xsm, xil⟩ := x
  simp only [resV] at HD P1 Q1 ⊢
  generalize xps.length = XM at *
  generalize xcs.length = XN at *
  go_upto_region 2 with fail
  have XA := Lib.hid (box_new (W := w2) (g := w2.heap.size) 27 #[.string xte, .int .u64 xse, .string xde, .string xsi, .int .i64 xcy, .int .i64 xsn, .int .i64 xgt, .slice A3 XM c3, .slice A4 XN c4, .int .i64 xsm, .int .i64 xil] (by simp))
  have hba := (below_alloc w2 (.cells #[.string xte, .int .u64 xse, .string xde, .string xsi, .int .i64 xcy, .int .i64 xsn, .int .i64 xgt, .slice A3 XM c3, .slice A4 XN c4, .int .i64 xsm, .int .i64 xil] 27))
  replace XR := Lib.hid (XR.out.below hba)
  replace P1 := Lib.hid (P1.out.below hba)
  replace Q1 := Lib.hid (Q1.out.below hba)
  replace HB := Lib.hid (below_step HB.out hba)
  clear hba
  generalize w2.alloc (.cells #[.string xte, .int .u64 xse, .string xde, .string xsi, .int .i64 xcy, .int .i64 xsn, .int .i64 xgt, .slice A3 XM c3, .slice A4 XN c4, .int .i64 xsm, .int .i64 xil] 27) = w3 at *
  obtain ⟨gA, hgA⟩ : ∃ g, g = w2.heap.size := ⟨_, rfl⟩
  rw [← hgA] at XA ⊢
  clear hgA
  by_cases he : ex = 0
  case neg =>
    have f1 : (ex == 0) = false := by simpa using he
    clear he HD s1 s2 P1 Q1 XA
    obtain ⟨wc, rfl⟩ : ∃ x : World, x = w3 := ⟨_, rfl⟩
    have XR_0 := XR.out.at_ 0 _ rfl
    have XR_1 := XR.out.at_ 1 _ rfl
    have XR_2 := XR.out.at_ 2 _ rfl
    have XR_3 := XR.out.at_ 3 _ rfl
    have XR_4 := XR.out.at_ 4 _ rfl
    have XR_5 := XR.out.at_ 5 _ rfl
    have XR_6 := XR.out.at_ 6 _ rfl
    have XR_7 := XR.out.at_ 7 _ rfl
    have XR_8 := XR.out.at_ 8 _ rfl
    have XR_9 := XR.out.at_ 9 _ rfl
    have XR_a := XR.out.at_ 10 _ rfl
    go_wp2_with fail
    refine (CE.out _ HB.out).mono ?_; rintro e w2b ⟨rfl, hb⟩
    clear XR_0 XR_1 XR_2 XR_3 XR_4 XR_5 XR_6 XR_7 XR_8 XR_9 XR_a
    replace XR := Lib.hid (XR.out.below hb)
    replace HB := Lib.hid (below_step HB.out hb)
    clear hb
    have XR_0 := XR.out.at_ 0 _ rfl
    have XR_1 := XR.out.at_ 1 _ rfl
    have XR_2 := XR.out.at_ 2 _ rfl
    have XR_3 := XR.out.at_ 3 _ rfl
    have XR_4 := XR.out.at_ 4 _ rfl
    have XR_5 := XR.out.at_ 5 _ rfl
    have XR_6 := XR.out.at_ 6 _ rfl
    have XR_7 := XR.out.at_ 7 _ rfl
    have XR_8 := XR.out.at_ 8 _ rfl
    have XR_9 := XR.out.at_ 9 _ rfl
    have XR_a := XR.out.at_ 10 _ rfl
    go_wp2_with fail
    refine (CB.out _ HB.out).mono ?_; rintro e w3b ⟨rfl, hb⟩
    clear XR_0 XR_1 XR_2 XR_3 XR_4 XR_5 XR_6 XR_7 XR_8 XR_9 XR_a
    replace XR := Lib.hid (XR.out.below hb)
    replace HB := Lib.hid (below_step HB.out hb)
    clear hb
    clear CE CB
    cases sb
    case false =>
      obtain rfl := HF.out rfl
      clear HF HT HA CA CS
      go_wp2_with fail
      refine (CW.out _ HB.out).mono ?_; rintro e w4 ⟨rfl, hb⟩
      replace XR := Lib.hid (XR.out.below hb)
      replace HB := Lib.hid (below_step HB.out hb)
      clear hb
      go_wp2_with fail
      go_ret
      exact ⟨rfl, HB.out⟩
    obtain ⟨t, ht, rfl, hdt⟩ := HT.out rfl
    clear HF HT
    simp only at HA
    have CD2 := Lib.hid (fun W => stoDecode t ht W)
    unfold DEC at CD2
    rw [hdt] at CD2
    simp only at CD2
    have HDT := Lib.hid hdt
    have HTZ := Lib.hid ht
    clear hdt ht
    obtain ⟨s1, s2⟩ := str_eq t
    go_wp2_with fail
    refine (CD2.out _).mono ?_; rintro e w4 ⟨p3, q3, rfl, ho1, ho2, hb⟩
    replace XR := Lib.hid (XR.out.below hb)
    replace HB := Lib.hid (below_step HB.out hb)
    clear hb
    have P1 := Lib.hid ho1.any
    have Q1 := Lib.hid ho2.any
    obtain ⟨A3, c3, rfl⟩ := ho1.slice
    obtain ⟨A4, c4, rfl⟩ := ho2.slice
    simp only [resV] at P1 Q1 ⊢
    rw [← HM.out] at P1 ⊢
    rw [← HN.out] at Q1 ⊢
    clear ho1 ho2 CD2
    go_upto_region 10 with fail
    have XD := Lib.hid (box_new (W := w4) (g := w4.heap.size) 27 #[.string te, .int .u64 se, .string de, .string si, .int .i64 cy, .int .i64 sn, .int .i64 gt, .slice A3 M c3, .slice A4 N c4, .int .i64 sm, .int .i64 il] (by simp))
    have hba := (below_alloc w4 (.cells #[.string te, .int .u64 se, .string de, .string si, .int .i64 cy, .int .i64 sn, .int .i64 gt, .slice A3 M c3, .slice A4 N c4, .int .i64 sm, .int .i64 il] 27))
    replace XR := Lib.hid (XR.out.below hba)
    replace P1 := Lib.hid (P1.out.below hba)
    replace Q1 := Lib.hid (Q1.out.below hba)
    replace HB := Lib.hid (below_step HB.out hba)
    clear hba
    generalize w4.alloc (.cells #[.string te, .int .u64 se, .string de, .string si, .int .i64 cy, .int .i64 sn, .int .i64 gt, .slice A3 M c3, .slice A4 N c4, .int .i64 sm, .int .i64 il] 27) = w5 at *
    have CS1 := Lib.hid (CS.out w5 HB.out _ _ P1.out Q1.out)
    have XR_0 := XR.out.at_ 0 _ rfl
    have XR_1 := XR.out.at_ 1 _ rfl
    have XR_2 := XR.out.at_ 2 _ rfl
    have XR_3 := XR.out.at_ 3 _ rfl
    have XR_4 := XR.out.at_ 4 _ rfl
    have XR_5 := XR.out.at_ 5 _ rfl
    have XR_6 := XR.out.at_ 6 _ rfl
    have XR_7 := XR.out.at_ 7 _ rfl
    have XR_8 := XR.out.at_ 8 _ rfl
    have XR_9 := XR.out.at_ 9 _ rfl
    have XR_a := XR.out.at_ 10 _ rfl
    have XD_0 := XD.out.at_ 0 _ rfl
    have XD_1 := XD.out.at_ 1 _ rfl
    have XD_2 := XD.out.at_ 2 _ rfl
    have XD_3 := XD.out.at_ 3 _ rfl
    have XD_4 := XD.out.at_ 4 _ rfl
    have XD_5 := XD.out.at_ 5 _ rfl
    have XD_6 := XD.out.at_ 6 _ rfl
    have XD_7 := XD.out.at_ 7 _ rfl
    have XD_8 := XD.out.at_ 8 _ rfl
    have XD_9 := XD.out.at_ 9 _ rfl
    have XD_a := XD.out.at_ 10 _ rfl
    go_wp2_with fail
    refine (CS1.out).mono ?_; rintro e w6 ⟨rfl, hb⟩
    clear XR_0 XR_1 XR_2 XR_3 XR_4 XR_5 XR_6 XR_7 XR_8 XR_9 XR_a XD_0 XD_1 XD_2 XD_3 XD_4 XD_5 XD_6 XD_7 XD_8 XD_9 XD_a
    replace XR := Lib.hid (XR.out.below hb)
    replace P1 := Lib.hid (P1.out.below hb)
    replace Q1 := Lib.hid (Q1.out.below hb)
    replace XD := Lib.hid (XD.out.below hb)
    replace HB := Lib.hid (below_step HB.out hb)
    clear hb
    clear CS1 P1 Q1 XD
    have XR_0 := XR.out.at_ 0 _ rfl
    have XR_1 := XR.out.at_ 1 _ rfl
    have XR_2 := XR.out.at_ 2 _ rfl
    have XR_3 := XR.out.at_ 3 _ rfl
    have XR_4 := XR.out.at_ 4 _ rfl
    have XR_5 := XR.out.at_ 5 _ rfl
    have XR_6 := XR.out.at_ 6 _ rfl
    have XR_7 := XR.out.at_ 7 _ rfl
    have XR_8 := XR.out.at_ 8 _ rfl
    have XR_9 := XR.out.at_ 9 _ rfl
    have XR_a := XR.out.at_ 10 _ rfl
    go_wp2_with fail
    refine (CA.out _ HB.out).mono ?_; rintro e w7 ⟨u, rfl, hu, hb⟩
    clear XR_0 XR_1 XR_2 XR_3 XR_4 XR_5 XR_6 XR_7 XR_8 XR_9 XR_a
    replace XR := Lib.hid (XR.out.below hb)
    replace HB := Lib.hid (below_step HB.out hb)
    clear hb
    clear CA
    by_cases h1024 : 1024 ≤ L
    · have f1 : (1024 : Int) ≤ (L : Int) := by omega
      rw [if_pos h1024] at HA
      obtain rfl := HA.out
      clear HA hu h1024
      go_wp2_with fail
      refine (CW.out _ HB.out).mono ?_; rintro e w8 ⟨rfl, hb⟩
      replace XR := Lib.hid (XR.out.below hb)
      replace HB := Lib.hid (below_step HB.out hb)
      clear hb
      go_wp2_with fail
      go_ret
      exact ⟨rfl, HB.out⟩
    rw [if_neg h1024, if_neg (by simp)] at HA
    obtain rfl := HA.out
    simp only at hu
    have HU := Lib.hid hu
    have hLT : L ≤ 1023 := by omega
    clear HA h1024 hu
    have hml : (l ++ [t]).length = L + 1 := by rw [List.length_append, ← HLL.out]; rfl
    have CR := Lib.hid (stoRead w7 u (l ++ [t]) HU.out (by omega) (fun x hx => by
      rcases List.mem_append.1 hx with h | h
      · unfold maxLen; exact HLS.out x h
      · rw [List.mem_singleton.1 h]; exact HTZ.out))
    have HGL : Hid ((l ++ [t]).getD L ⟨#[]⟩ = t) := Lib.hid (by
      rw [List.getD_eq_getElem?_getD, List.getElem?_append_right (by rw [HLL.out]; exact Nat.le_refl _), HLL.out, Nat.sub_self]; rfl)
    have HGX : Hid (((l ++ [t]).map d1).getD L res0 = ⟨te, se, de, si, cy, sn, gt, ps, cs, sm, il⟩) := Lib.hid (by
      rw [List.getD_eq_getElem?_getD, List.getElem?_map, List.getElem?_append_right (by rw [HLL.out]; exact Nat.le_refl _), HLL.out, Nat.sub_self]
      show d1 t = _
      unfold d1; rw [HDT.out])
    have HXL : Hid (((l ++ [t]).map d1).length = L + 1) := Lib.hid (by rw [List.length_map, hml])
    obtain ⟨T, hT⟩ : ∃ T, T = L + 1 := ⟨_, rfl⟩
    rw [← hT] at HXL hml
    have HTT := Lib.hid hT
    have HML := Lib.hid hml
    clear hml hT
    generalize l ++ [t] = ml at *
    obtain ⟨UA, uc, rfl, huc, hus⟩ := id HU.out
    rw [HML.out]
    rw [HML.out] at hus huc
    obtain ⟨a, rfl, hr⟩ := hus (by have := HTT.out; omega)
    rw [HML.out] at HU CR
    clear hus huc
    go_wp2_with fail
    refine CR.out.mono ?_; rintro e w8 ⟨u2, xs, n, er, rfl, hrd, hrs, hb⟩
    have HRC := Lib.hid hr
    replace HRC := Lib.hid (HRC.out.below hb)
    clear hr CR
    replace XR := Lib.hid (XR.out.below hb)
    replace HB := Lib.hid (below_step HB.out hb)
    clear hb
    have k1 : ((T : Int) == (L : Int) + 1) = true := by have := HTT.out; simp; omega
    have k2 : (0 : Int) ≤ (L : Int) := by omega
    have k3 : (L : Int) < (T : Int) := by have := HTT.out; omega
    have m1 : ∀ x : Lat w8, x.w.cell? (a.add L) = some (.string t) := fun x => by
      rw [(HRC.out.below x.h).cells L (by rw [HML.out, HTT.out]; omega), HGL.out]
    have V2 := Lib.hid (fun x : Lat w8 => CW.out x.w (below_step HB.out x.h))
    by_cases he : er = 0
    case neg =>
      have f1 : (er != 0) = true := by simpa using he
      obtain ⟨UA2, uc2, rfl, -⟩ := hrs.slice
      generalize xs.length = XL at *
      clear he hrd hrs
      go_wp2_with fail
      refine wp_region_lat (by kernel_rfl) (by kernel_rfl) ?_
      repeat (go_big_quiet_step (first | with_reducible exact lat_call (V2.out _)))
      refine wpQuiet_nil ?_; intro w9 hb
      clear m1 V2
      replace HB := Lib.hid (below_step HB.out hb)
      clear hb
      go_wp2_with fail
      go_ret
      exact ⟨rfl, HB.out⟩
    subst he
    obtain ⟨rfl, rfl⟩ : n = (T : Int) ∧ xs = ml.map d1 := by
      rcases hrd with ⟨-, h2, h3, -⟩ | ⟨k, h1, -⟩
      · exact ⟨by rw [h2, HML.out], h3⟩
      · exact absurd rfl h1
    obtain ⟨UA2, uc2, rfl, huc2, hcl⟩ := hrs.ress
    rw [HXL.out] at huc2 hcl ⊢
    obtain ⟨b, o, p4, q4, rfl, hbl, hcl, ⟨hp4, -⟩, hq4, -⟩ := hcl L (by have := HTT.out; omega)
    rw [HGX.out] at hcl hp4 hq4
    obtain ⟨A5, c5, rfl, -⟩ := hp4.slice
    obtain ⟨A6, c6, rfl, -⟩ := hq4.slice
    simp only at hp4 hq4 hcl
    rw [← HM.out] at hp4 hcl
    rw [← HN.out] at hq4 hcl
    have V1 := Lib.hid (fun x : Lat w8 => CS.out x.w (below_step HB.out x.h) _ _ (hp4.below x.h) (hq4.below x.h))
    have t1 : ((T : Int) - 1).toNat = L := by have := HTT.out; omega
    have t2 : (0 : Int) ≤ (T : Int) - 1 := by have := HTT.out; omega
    have t3 : (T : Int) - 1 < (T : Int) := by omega
    have hlc : ∀ i u, (resL (.slice A5 M c5) (.slice A6 N c6) ⟨te, se, de, si, cy, sn, gt, ps, cs, sm, il⟩)[i]? = some u → ∀ x : Lat w8, x.w.cell? ⟨b, o + L * 11 + i, none⟩ = some u := fun i u h x => (x.h.cell (p := ⟨b, o + L * 11 + i, none⟩) hbl).trans (hcl i u h)
    have y0 := hlc 0 _ rfl
    have y1 := hlc 1 _ rfl
    have y2 := hlc 2 _ rfl
    have y3 := hlc 3 _ rfl
    have y4 := hlc 4 _ rfl
    have y5 := hlc 5 _ rfl
    have y6 := hlc 6 _ rfl
    have y7 := hlc 7 _ rfl
    have y8 := hlc 8 _ rfl
    have y9 := hlc 9 _ rfl
    have y10 := hlc 10 _ rfl
    simp only [Nat.add_zero] at y0
    have l0 := XR.out.lat 0 _ rfl
    have l1 := XR.out.lat 1 _ rfl
    have l2 := XR.out.lat 2 _ rfl
    have l3 := XR.out.lat 3 _ rfl
    have l4 := XR.out.lat 4 _ rfl
    have l5 := XR.out.lat 5 _ rfl
    have l6 := XR.out.lat 6 _ rfl
    have l7 := XR.out.lat 7 _ rfl
    have l8 := XR.out.lat 8 _ rfl
    have l9 := XR.out.lat 9 _ rfl
    have l10 := XR.out.lat 10 _ rfl
    have k4 : ((T : Int) == (T : Int)) = true := by simp
    clear hcl hlc hp4 hq4 hrd hrs hbl huc2
    go_wp2_with fail
    refine wp_region_lat (by kernel_rfl) (by kernel_rfl) ?_
    repeat (go_big_quiet_step (first | with_reducible exact lat_call (V1.out _) | with_reducible exact lat_call (V2.out _)))
    refine wpQuiet_nil ?_; intro w9 hb
    clear m1 V1 V2 y0 y1 y2 y3 y4 y5 y6 y7 y8 y9 y10 l0 l1 l2 l3 l4 l5 l6 l7 l8 l9 l10
    replace HB := Lib.hid (below_step HB.out hb)
    clear hb
    go_wp2_with fail
    go_ret
    exact ⟨rfl, HB.out⟩
  case pos =>
    subst he
    have CE0 := Lib.hid (HD.out rfl w3 HB.out _ _ P1.out Q1.out)
    clear HD P1 Q1
    have XA_0 := XA.out.at_ 0 _ rfl
    have XA_1 := XA.out.at_ 1 _ rfl
    have XA_2 := XA.out.at_ 2 _ rfl
    have XA_3 := XA.out.at_ 3 _ rfl
    have XA_4 := XA.out.at_ 4 _ rfl
    have XA_5 := XA.out.at_ 5 _ rfl
    have XA_6 := XA.out.at_ 6 _ rfl
    have XA_7 := XA.out.at_ 7 _ rfl
    have XA_8 := XA.out.at_ 8 _ rfl
    have XA_9 := XA.out.at_ 9 _ rfl
    have XA_a := XA.out.at_ 10 _ rfl
    go_wp2_with fail
    refine CE0.out.mono ?_; rintro e wc ⟨rfl, hb⟩
    clear XA_0 XA_1 XA_2 XA_3 XA_4 XA_5 XA_6 XA_7 XA_8 XA_9 XA_a
    clear XA CE0
    replace XR := Lib.hid (XR.out.below hb)
    replace HB := Lib.hid (below_step HB.out hb)
    clear hb
    have XR_0 := XR.out.at_ 0 _ rfl
    have XR_1 := XR.out.at_ 1 _ rfl
    have XR_2 := XR.out.at_ 2 _ rfl
    have XR_3 := XR.out.at_ 3 _ rfl
    have XR_4 := XR.out.at_ 4 _ rfl
    have XR_5 := XR.out.at_ 5 _ rfl
    have XR_6 := XR.out.at_ 6 _ rfl
    have XR_7 := XR.out.at_ 7 _ rfl
    have XR_8 := XR.out.at_ 8 _ rfl
    have XR_9 := XR.out.at_ 9 _ rfl
    have XR_a := XR.out.at_ 10 _ rfl
    go_wp2_with fail
    refine (CE.out _ HB.out).mono ?_; rintro e w2b ⟨rfl, hb⟩
    clear XR_0 XR_1 XR_2 XR_3 XR_4 XR_5 XR_6 XR_7 XR_8 XR_9 XR_a
    replace XR := Lib.hid (XR.out.below hb)
    replace HB := Lib.hid (below_step HB.out hb)
    clear hb
    have XR_0 := XR.out.at_ 0 _ rfl
    have XR_1 := XR.out.at_ 1 _ rfl
    have XR_2 := XR.out.at_ 2 _ rfl
    have XR_3 := XR.out.at_ 3 _ rfl
    have XR_4 := XR.out.at_ 4 _ rfl
    have XR_5 := XR.out.at_ 5 _ rfl
    have XR_6 := XR.out.at_ 6 _ rfl
    have XR_7 := XR.out.at_ 7 _ rfl
    have XR_8 := XR.out.at_ 8 _ rfl
    have XR_9 := XR.out.at_ 9 _ rfl
    have XR_a := XR.out.at_ 10 _ rfl
    go_wp2_with fail
    refine (CB.out _ HB.out).mono ?_; rintro e w3b ⟨rfl, hb⟩
    clear XR_0 XR_1 XR_2 XR_3 XR_4 XR_5 XR_6 XR_7 XR_8 XR_9 XR_a
    replace XR := Lib.hid (XR.out.below hb)
    replace HB := Lib.hid (below_step HB.out hb)
    clear hb
    clear CE CB s1 s2
    cases sb
    case false =>
      obtain rfl := HF.out rfl
      clear HF HT HA CA CS
      go_wp2_with fail
      refine (CW.out _ HB.out).mono ?_; rintro e w4 ⟨rfl, hb⟩
      replace XR := Lib.hid (XR.out.below hb)
      replace HB := Lib.hid (below_step HB.out hb)
      clear hb
      go_wp2_with fail
      go_ret
      exact ⟨rfl, HB.out⟩
    obtain ⟨t, ht, rfl, hdt⟩ := HT.out rfl
    clear HF HT
    simp only at HA
    have CD2 := Lib.hid (fun W => stoDecode t ht W)
    unfold DEC at CD2
    rw [hdt] at CD2
    simp only at CD2
    have HDT := Lib.hid hdt
    have HTZ := Lib.hid ht
    clear hdt ht
    obtain ⟨s1, s2⟩ := str_eq t
    go_wp2_with fail
    refine (CD2.out _).mono ?_; rintro e w4 ⟨p3, q3, rfl, ho1, ho2, hb⟩
    replace XR := Lib.hid (XR.out.below hb)
    replace HB := Lib.hid (below_step HB.out hb)
    clear hb
    have P1 := Lib.hid ho1.any
    have Q1 := Lib.hid ho2.any
    obtain ⟨A3, c3, rfl⟩ := ho1.slice
    obtain ⟨A4, c4, rfl⟩ := ho2.slice
    simp only [resV] at P1 Q1 ⊢
    rw [← HM.out] at P1 ⊢
    rw [← HN.out] at Q1 ⊢
    clear ho1 ho2 CD2
    go_upto_region 10 with fail
    have XD := Lib.hid (box_new (W := w4) (g := w4.heap.size) 27 #[.string te, .int .u64 se, .string de, .string si, .int .i64 cy, .int .i64 sn, .int .i64 gt, .slice A3 M c3, .slice A4 N c4, .int .i64 sm, .int .i64 il] (by simp))
    have hba := (below_alloc w4 (.cells #[.string te, .int .u64 se, .string de, .string si, .int .i64 cy, .int .i64 sn, .int .i64 gt, .slice A3 M c3, .slice A4 N c4, .int .i64 sm, .int .i64 il] 27))
    replace XR := Lib.hid (XR.out.below hba)
    replace P1 := Lib.hid (P1.out.below hba)
    replace Q1 := Lib.hid (Q1.out.below hba)
    replace HB := Lib.hid (below_step HB.out hba)
    clear hba
    generalize w4.alloc (.cells #[.string te, .int .u64 se, .string de, .string si, .int .i64 cy, .int .i64 sn, .int .i64 gt, .slice A3 M c3, .slice A4 N c4, .int .i64 sm, .int .i64 il] 27) = w5 at *
    have CS1 := Lib.hid (CS.out w5 HB.out _ _ P1.out Q1.out)
    have XR_0 := XR.out.at_ 0 _ rfl
    have XR_1 := XR.out.at_ 1 _ rfl
    have XR_2 := XR.out.at_ 2 _ rfl
    have XR_3 := XR.out.at_ 3 _ rfl
    have XR_4 := XR.out.at_ 4 _ rfl
    have XR_5 := XR.out.at_ 5 _ rfl
    have XR_6 := XR.out.at_ 6 _ rfl
    have XR_7 := XR.out.at_ 7 _ rfl
    have XR_8 := XR.out.at_ 8 _ rfl
    have XR_9 := XR.out.at_ 9 _ rfl
    have XR_a := XR.out.at_ 10 _ rfl
    have XD_0 := XD.out.at_ 0 _ rfl
    have XD_1 := XD.out.at_ 1 _ rfl
    have XD_2 := XD.out.at_ 2 _ rfl
    have XD_3 := XD.out.at_ 3 _ rfl
    have XD_4 := XD.out.at_ 4 _ rfl
    have XD_5 := XD.out.at_ 5 _ rfl
    have XD_6 := XD.out.at_ 6 _ rfl
    have XD_7 := XD.out.at_ 7 _ rfl
    have XD_8 := XD.out.at_ 8 _ rfl
    have XD_9 := XD.out.at_ 9 _ rfl
    have XD_a := XD.out.at_ 10 _ rfl
    go_wp2_with fail
    refine (CS1.out).mono ?_; rintro e w6 ⟨rfl, hb⟩
    clear XR_0 XR_1 XR_2 XR_3 XR_4 XR_5 XR_6 XR_7 XR_8 XR_9 XR_a XD_0 XD_1 XD_2 XD_3 XD_4 XD_5 XD_6 XD_7 XD_8 XD_9 XD_a
    replace XR := Lib.hid (XR.out.below hb)
    replace P1 := Lib.hid (P1.out.below hb)
    replace Q1 := Lib.hid (Q1.out.below hb)
    replace XD := Lib.hid (XD.out.below hb)
    replace HB := Lib.hid (below_step HB.out hb)
    clear hb
    clear CS1 P1 Q1 XD
    have XR_0 := XR.out.at_ 0 _ rfl
    have XR_1 := XR.out.at_ 1 _ rfl
    have XR_2 := XR.out.at_ 2 _ rfl
    have XR_3 := XR.out.at_ 3 _ rfl
    have XR_4 := XR.out.at_ 4 _ rfl
    have XR_5 := XR.out.at_ 5 _ rfl
    have XR_6 := XR.out.at_ 6 _ rfl
    have XR_7 := XR.out.at_ 7 _ rfl
    have XR_8 := XR.out.at_ 8 _ rfl
    have XR_9 := XR.out.at_ 9 _ rfl
    have XR_a := XR.out.at_ 10 _ rfl
    go_wp2_with fail
    refine (CA.out _ HB.out).mono ?_; rintro e w7 ⟨u, rfl, hu, hb⟩
    clear XR_0 XR_1 XR_2 XR_3 XR_4 XR_5 XR_6 XR_7 XR_8 XR_9 XR_a
    replace XR := Lib.hid (XR.out.below hb)
    replace HB := Lib.hid (below_step HB.out hb)
    clear hb
    clear CA
    by_cases h1024 : 1024 ≤ L
    · have f1 : (1024 : Int) ≤ (L : Int) := by omega
      rw [if_pos h1024] at HA
      obtain rfl := HA.out
      clear HA hu h1024
      go_wp2_with fail
      refine (CW.out _ HB.out).mono ?_; rintro e w8 ⟨rfl, hb⟩
      replace XR := Lib.hid (XR.out.below hb)
      replace HB := Lib.hid (below_step HB.out hb)
      clear hb
      go_wp2_with fail
      go_ret
      exact ⟨rfl, HB.out⟩
    rw [if_neg h1024, if_neg (by simp)] at HA
    obtain rfl := HA.out
    simp only at hu
    have HU := Lib.hid hu
    have hLT : L ≤ 1023 := by omega
    clear HA h1024 hu
    have hml : (l ++ [t]).length = L + 1 := by rw [List.length_append, ← HLL.out]; rfl
    have CR := Lib.hid (stoRead w7 u (l ++ [t]) HU.out (by omega) (fun x hx => by
      rcases List.mem_append.1 hx with h | h
      · unfold maxLen; exact HLS.out x h
      · rw [List.mem_singleton.1 h]; exact HTZ.out))
    have HGL : Hid ((l ++ [t]).getD L ⟨#[]⟩ = t) := Lib.hid (by
      rw [List.getD_eq_getElem?_getD, List.getElem?_append_right (by rw [HLL.out]; exact Nat.le_refl _), HLL.out, Nat.sub_self]; rfl)
    have HGX : Hid (((l ++ [t]).map d1).getD L res0 = ⟨te, se, de, si, cy, sn, gt, ps, cs, sm, il⟩) := Lib.hid (by
      rw [List.getD_eq_getElem?_getD, List.getElem?_map, List.getElem?_append_right (by rw [HLL.out]; exact Nat.le_refl _), HLL.out, Nat.sub_self]
      show d1 t = _
      unfold d1; rw [HDT.out])
    have HXL : Hid (((l ++ [t]).map d1).length = L + 1) := Lib.hid (by rw [List.length_map, hml])
    obtain ⟨T, hT⟩ : ∃ T, T = L + 1 := ⟨_, rfl⟩
    rw [← hT] at HXL hml
    have HTT := Lib.hid hT
    have HML := Lib.hid hml
    clear hml hT
    generalize l ++ [t] = ml at *
    obtain ⟨UA, uc, rfl, huc, hus⟩ := id HU.out
    rw [HML.out]
    rw [HML.out] at hus huc
    obtain ⟨a, rfl, hr⟩ := hus (by have := HTT.out; omega)
    rw [HML.out] at HU CR
    clear hus huc
    go_wp2_with fail
    refine CR.out.mono ?_; rintro e w8 ⟨u2, xs, n, er, rfl, hrd, hrs, hb⟩
    have HRC := Lib.hid hr
    replace HRC := Lib.hid (HRC.out.below hb)
    clear hr CR
    replace XR := Lib.hid (XR.out.below hb)
    replace HB := Lib.hid (below_step HB.out hb)
    clear hb
    have k1 : ((T : Int) == (L : Int) + 1) = true := by have := HTT.out; simp; omega
    have k2 : (0 : Int) ≤ (L : Int) := by omega
    have k3 : (L : Int) < (T : Int) := by have := HTT.out; omega
    have m1 : ∀ x : Lat w8, x.w.cell? (a.add L) = some (.string t) := fun x => by
      rw [(HRC.out.below x.h).cells L (by rw [HML.out, HTT.out]; omega), HGL.out]
    have V2 := Lib.hid (fun x : Lat w8 => CW.out x.w (below_step HB.out x.h))
    by_cases he : er = 0
    case neg =>
      have f1 : (er != 0) = true := by simpa using he
      obtain ⟨UA2, uc2, rfl, -⟩ := hrs.slice
      generalize xs.length = XL at *
      clear he hrd hrs
      go_wp2_with fail
      refine wp_region_lat (by kernel_rfl) (by kernel_rfl) ?_
      repeat (go_big_quiet_step (first | with_reducible exact lat_call (V2.out _)))
      refine wpQuiet_nil ?_; intro w9 hb
      clear m1 V2
      replace HB := Lib.hid (below_step HB.out hb)
      clear hb
      go_wp2_with fail
      go_ret
      exact ⟨rfl, HB.out⟩
    subst he
    obtain ⟨rfl, rfl⟩ : n = (T : Int) ∧ xs = ml.map d1 := by
      rcases hrd with ⟨-, h2, h3, -⟩ | ⟨k, h1, -⟩
      · exact ⟨by rw [h2, HML.out], h3⟩
      · exact absurd rfl h1
    obtain ⟨UA2, uc2, rfl, huc2, hcl⟩ := hrs.ress
    rw [HXL.out] at huc2 hcl ⊢
    obtain ⟨b, o, p4, q4, rfl, hbl, hcl, ⟨hp4, -⟩, hq4, -⟩ := hcl L (by have := HTT.out; omega)
    rw [HGX.out] at hcl hp4 hq4
    obtain ⟨A5, c5, rfl, -⟩ := hp4.slice
    obtain ⟨A6, c6, rfl, -⟩ := hq4.slice
    simp only at hp4 hq4 hcl
    rw [← HM.out] at hp4 hcl
    rw [← HN.out] at hq4 hcl
    have V1 := Lib.hid (fun x : Lat w8 => CS.out x.w (below_step HB.out x.h) _ _ (hp4.below x.h) (hq4.below x.h))
    have t1 : ((T : Int) - 1).toNat = L := by have := HTT.out; omega
    have t2 : (0 : Int) ≤ (T : Int) - 1 := by have := HTT.out; omega
    have t3 : (T : Int) - 1 < (T : Int) := by omega
    have hlc : ∀ i u, (resL (.slice A5 M c5) (.slice A6 N c6) ⟨te, se, de, si, cy, sn, gt, ps, cs, sm, il⟩)[i]? = some u → ∀ x : Lat w8, x.w.cell? ⟨b, o + L * 11 + i, none⟩ = some u := fun i u h x => (x.h.cell (p := ⟨b, o + L * 11 + i, none⟩) hbl).trans (hcl i u h)
    have y0 := hlc 0 _ rfl
    have y1 := hlc 1 _ rfl
    have y2 := hlc 2 _ rfl
    have y3 := hlc 3 _ rfl
    have y4 := hlc 4 _ rfl
    have y5 := hlc 5 _ rfl
    have y6 := hlc 6 _ rfl
    have y7 := hlc 7 _ rfl
    have y8 := hlc 8 _ rfl
    have y9 := hlc 9 _ rfl
    have y10 := hlc 10 _ rfl
    simp only [Nat.add_zero] at y0
    have l0 := XR.out.lat 0 _ rfl
    have l1 := XR.out.lat 1 _ rfl
    have l2 := XR.out.lat 2 _ rfl
    have l3 := XR.out.lat 3 _ rfl
    have l4 := XR.out.lat 4 _ rfl
    have l5 := XR.out.lat 5 _ rfl
    have l6 := XR.out.lat 6 _ rfl
    have l7 := XR.out.lat 7 _ rfl
    have l8 := XR.out.lat 8 _ rfl
    have l9 := XR.out.lat 9 _ rfl
    have l10 := XR.out.lat 10 _ rfl
    have k4 : ((T : Int) == (T : Int)) = true := by simp
    clear hcl hlc hp4 hq4 hrd hrs hbl huc2
    go_wp2_with fail
    refine wp_region_lat (by kernel_rfl) (by kernel_rfl) ?_
    repeat (go_big_quiet_step (first | with_reducible exact lat_call (V1.out _) | with_reducible exact lat_call (V2.out _)))
    refine wpQuiet_nil ?_; intro w9 hb
    clear m1 V1 V2 y0 y1 y2 y3 y4 y5 y6 y7 y8 y9 y10 l0 l1 l2 l3 l4 l5 l6 l7 l8 l9 l10
    replace HB := Lib.hid (below_step HB.out hb)
    clear hb
    go_wp2_with fail
    go_ret
    exact ⟨rfl, HB.out⟩

end Go.Proofs.YtbgficaboolgiaaDoor
