/-
  Contract of the reference's Parse.
-/
import Derived.Test.YthpioaboekpjoaaDoorWavZ
namespace Go.Proofs.YthpioaboekpjoaaDoor
open Go.RowKit
set_option linter.unusedVariables false
set_option linter.unusedSimpArgs false

theorem end_byt {s : ByteArray} (h : 0 < s.size) : endB s = decide (byt s (s.size - 1) = 10) := by
  unfold endB
  rw [← Lib.hasSuffix_of_drop]
  have hl : s.data.toList.length = s.size := (Lib.size_eq s).symm
  have hk : s.data.toList.length - 1 < s.data.toList.length := by omega
  rw [show ([10] : List UInt8).length = 1 from rfl, List.drop_eq_getElem_cons hk]
  have e : s.data.toList.length - 1 + 1 = s.data.toList.length := by omega
  rw [e, List.drop_length]
  have hb : byt s (s.size - 1) = ((s.data.toList[s.data.toList.length - 1]).toNat : Int) := by
    unfold byt
    rw [List.getD_eq_getElem?_getD, ← hl, List.getElem?_eq_getElem hk]; rfl
  rw [hb, Bool.eq_iff_iff]
  simp only [Bool.and_eq_true, decide_eq_true_eq, beq_iff_eq, List.cons.injEq, and_true]
  constructor
  · rintro ⟨_, h2⟩; rw [h2]; rfl
  · intro h2
    refine ⟨by omega, UInt8.toNat_inj.1 ?_⟩
    show _ = 10
    omega
theorem end_nil {s : ByteArray} (h : s.size = 0) : endB s = false := by
  unfold endB Lib.hasSuffix
  rw [Lib.size_eq] at h
  rw [List.eq_nil_of_length_eq_zero h]; rfl
theorem cut_ext {s : ByteArray} (h : endB s = true) : cutS s = s.extract 0 (s.size - 1) := by
  apply ba_eq
  unfold endB at h
  unfold cutS Lib.trimSuffix
  rw [if_pos h, Lib.extract_data, ← Lib.size_eq]
  simp

set_option maxRecDepth 100000 in
set_option maxHeartbeats 8000000 in
theorem refParseW (s : ByteArray) (w : World) (hs : s.size ≤ 2000000) :
    Calls Tryd.prog 13 #[.string s] w (PARW w (parseW s)) := by
  by_cases h0 : s.size = 0
  · have e1 : s.toList = [] := (str_empty2 s).2.2.2 h0
    have e2 : s.toList.isEmpty = true := by rw [(str_empty2 s).1]; exact decide_eq_true h0
    have HR : Hid (parseW s = ([], [], 5)) := Lib.hid (by unfold parseW; rw [if_neg (by rw [end_nil h0]; decide)])
    clear hs h0
    go_enter Tryd.func13, Tryd.ntmps13
    go_upto_region 1 with fail
    have XR := Lib.hid (box_new (W := w) (g := w.heap.size) 26 #[.slice none 0 0, .slice none 0 0] (by simp))
    have HB := Lib.hid (below_alloc w (.cells #[.slice none 0 0, .slice none 0 0] 26))
    generalize w.alloc (.cells #[.slice none 0 0, .slice none 0 0] 26) = w1 at *
    have XR_0 := XR.out.at_ 0 _ rfl
    have XR_1 := XR.out.at_ 1 _ rfl
    have XR_l := XR.out.lt
    have XR_z0 := XR.out.frozen 0
    have XR_z1 := XR.out.frozen 1
    go_wp2_with fail
    refine bodyPost_ret (v := .tuple #[.agg #[.slice none 0 0, .slice none 0 0], .int .i64 5]) (by simp [results, Tryd.results13, go_sem, XR_0, XR_1, XR_l]) rfl ?_
    exact parw_no HR.out (below_zrs (g := w.heap.size) HB.out (Nat.le_refl _))
  have e1 : ¬ s.toList = [] := fun h => h0 ((str_empty2 s).2.2.1 h)
  have e2 : s.toList.isEmpty = false := by rw [(str_empty2 s).1]; exact decide_eq_false h0
  have l1 : s.size - 1 < s.size := by omega
  have b1 := byt_at s _ l1
  have u1 := s[s.size - 1].toNat_lt
  have x1 : ((s.size : Int) - 1).toNat = s.size - 1 := by omega
  have y1 : 1 ≤ (s.size : Int) := by omega
  have hend := end_byt (s := s) (by omega)
  rw [b1] at hend
  have HP : Hid (parseW s = if endB s = true then
    (if hdrT (lineW ((words 10 (cutS s)).getD 0 ⟨#[]⟩)) = 0 then
      (if (rowsR (lineW ((words 10 (cutS s)).getD 0 ⟨#[]⟩)).length ((words 10 (cutS s)).drop 1) []).2 = 0 then
        (lineW ((words 10 (cutS s)).getD 0 ⟨#[]⟩), (rowsR (lineW ((words 10 (cutS s)).getD 0 ⟨#[]⟩)).length ((words 10 (cutS s)).drop 1) []).1, 0)
      else ([], [], (rowsR (lineW ((words 10 (cutS s)).getD 0 ⟨#[]⟩)).length ((words 10 (cutS s)).drop 1) []).2))
    else ([], [], hdrT (lineW ((words 10 (cutS s)).getD 0 ⟨#[]⟩))))
  else ([], [], 5)) := Lib.hid (by rw [List.drop_one]; rfl)
  have hce := cut_ext (s := s)
  generalize parseW s = r at *
  generalize endB s = eb at *
  cases eb
  case false =>
    have HR : Hid (r = ([], [], 5)) := Lib.hid (by rw [HP.out]; rfl)
    have k1 : ¬ (s[s.size - 1].toNat : Int) = 10 := of_decide_eq_false hend.symm
    have f1 : ((s[s.size - 1].toNat : Int) != 10) = true := by simpa using k1
    clear h0 HP hce b1 hend k1
    go_enter Tryd.func13, Tryd.ntmps13
    go_upto_region 1 with fail
    have XR := Lib.hid (box_new (W := w) (g := w.heap.size) 26 #[.slice none 0 0, .slice none 0 0] (by simp))
    have HB := Lib.hid (below_alloc w (.cells #[.slice none 0 0, .slice none 0 0] 26))
    generalize w.alloc (.cells #[.slice none 0 0, .slice none 0 0] 26) = w1 at *
    have XR_0 := XR.out.at_ 0 _ rfl
    have XR_1 := XR.out.at_ 1 _ rfl
    have XR_l := XR.out.lt
    have XR_z0 := XR.out.frozen 0
    have XR_z1 := XR.out.frozen 1
    go_wp2_with fail
    refine bodyPost_ret (v := .tuple #[.agg #[.slice none 0 0, .slice none 0 0], .int .i64 5]) (by simp [results, Tryd.results13, go_sem, XR_0, XR_1, XR_l]) rfl ?_
    exact parw_no HR.out (below_zrs (g := w.heap.size) HB.out (Nat.le_refl _))
  case true =>
    have k1 : (s[s.size - 1].toNat : Int) = 10 := of_decide_eq_true hend.symm
    have f1 : ((s[s.size - 1].toNat : Int) != 10) = false := by simpa using k1
    have hts := cutS_size s
    rw [if_pos rfl] at HP
    rw [hce rfl] at HP hts
    obtain ⟨x, hx⟩ : ∃ x, x = s.extract 0 (s.size - 1) := ⟨_, rfl⟩
    rw [← hx] at HP hts
    have C1 : Hid (∀ W, Calls Tryd.prog 38 #[.string (s.extract 0 (s.size - 1)), .int .u8 10] W fun e w' => ∃ v, e = .returned v ∧ SL w' v (words 10 x) ∧ Below W.heap.size W w') := Lib.hid fun W => (refPartsB 10 10 (by decide) (s.extract 0 (s.size - 1)) W (by rw [← hx]; omega)).mono fun e w' ⟨v, h1, h2, h3⟩ => ⟨v, h1, by rw [hx]; exact SL.of_own h2, h3⟩
    have hwl := words_le 10 x
    have hwz := words_size 10 x.size x (Nat.le_refl _)
    have hwn := words_ne 10 x
    generalize words 10 x = ws at *
    have hT0 : 0 < ws.length := List.length_pos_iff.2 hwn
    have hz0 : (ws.getD 0 ⟨#[]⟩).size ≤ 2000000 := by have := hwz _ (getD_mem ⟨#[]⟩ hT0); omega
    have hzt : ∀ k, k < ws.length → (ws.getD k ⟨#[]⟩).size ≤ 2000000 := fun k hk => by have := hwz _ (getD_mem ⟨#[]⟩ hk); omega
    have C4 : Hid (∀ k, k < ws.length → ∀ W, Calls Tryd.prog 39 #[.string (ws.getD k ⟨#[]⟩)] W fun e w' => ∃ v, e = .returned v ∧ SL w' v (lineW (ws.getD k ⟨#[]⟩)) ∧ Below W.heap.size W w') := Lib.hid fun k hk W => refWordsW _ W (hzt k hk)
    have C5 : Hid (∀ k, k < ws.length → ∀ W v, SL W v (lineW (ws.getD k ⟨#[]⟩)) → Calls Tryd.prog 41 #[v] W (ROWT W (rowR (lineW (ws.getD k ⟨#[]⟩)) false []))) := Lib.hid fun k hk W v h => refRowW W v _ h (fun s hs => by have := lineW_size _ s hs; have := hzt k hk; unfold maxLen; omega) (by have := lineW_len (ws.getD k ⟨#[]⟩); have := hzt k hk; omega)
    obtain ⟨x0, hx0⟩ : ∃ x0, x0 = ws.getD 0 ⟨#[]⟩ := ⟨_, rfl⟩
    rw [← hx0] at HP hz0
    have HX0 := Lib.hid hx0
    have C2 := Lib.hid (fun W => refWordsW x0 W hz0)
    have hnl := lineW_len x0
    have hnz := lineW_size x0
    generalize lineW x0 = ns at *
    have C3 : Hid (∀ W v, SL W v ns → Calls Tryd.prog 40 #[v] W fun e w' => e = .returned (.int .i64 (hdrT ns)) ∧ Below W.heap.size W w') := Lib.hid fun W v a => refHeaderW W v ns a (fun s h => by have := hnz s h; omega) (by omega)
    have HD := Lib.hid (fun k hk acc => rowsR_drop (n := ns.length) (l := ws) (k := k) hk acc)
    have HE := Lib.hid (rowsR_end ns.length ws)
    have hn2 : ns.length ≤ 2000001 := by omega
    obtain ⟨N, hN⟩ : ∃ N, N = ns.length := ⟨_, rfl⟩
    have HN := Lib.hid hN
    obtain ⟨T, hT⟩ : ∃ T, T = ws.length := ⟨_, rfl⟩
    have HTL := Lib.hid hT
    have hTb : T ≤ 2000001 := by omega
    rw [← hN] at HD HE HP hn2
    rw [← hT] at HE C4 C5 hT0
    have HRT : Hid (∀ y, rowT N y = if (lineW y).length = N then rowR (lineW y) false [] else ([], 5)) := Lib.hid fun y => rfl
    generalize hdrT ns = he at *
    clear hwl hwz hwn hz0 hzt hnl hnz hN hT hts h0 hce b1 hend k1 hx hx0
    go_enter Tryd.func13, Tryd.ntmps13
    go_upto_region 1 with fail
    have XR := Lib.hid (box_new (W := w) (g := w.heap.size) 26 #[.slice none 0 0, .slice none 0 0] (by simp))
    have HB := Lib.hid (below_alloc w (.cells #[.slice none 0 0, .slice none 0 0] 26))
    generalize w.alloc (.cells #[.slice none 0 0, .slice none 0 0] 26) = w1 at *
    go_wp2_with fail
    refine (C1.out _).mono ?_; rintro e w2 ⟨v, rfl, hsl, hb⟩
    have SW := Lib.hid hsl
    obtain ⟨WA, wc0, rfl, hwc, hws⟩ := hsl
    rw [← HTL.out] at hwc hws ⊢
    obtain ⟨a1, rfl, hr1⟩ := hws hT0
    have HR1 := Lib.hid hr1
    have q0 := hr1.cells 0 (by rw [← HTL.out]; exact hT0)
    rw [add_zero, ← HX0.out] at q0
    clear hws hr1 C1 e1 e2 f1
    replace XR := Lib.hid (XR.out.below hb)
    replace HB := Lib.hid (below_step HB.out hb)
    clear hb
    go_wp2_with fail
    refine (C2.out _).mono ?_; rintro e w3 ⟨nv, rfl, hsl, hb⟩
    have SN := Lib.hid hsl
    obtain ⟨NA, nc, rfl, hnc, -⟩ := hsl
    rw [← HN.out] at hnc SN ⊢
    have hb23 := Lib.hid hb
    clear q0 C2
    replace XR := Lib.hid (XR.out.below hb)
    replace HB := Lib.hid (below_step HB.out hb)
    clear hb
    have XR3 := XR
    have SN3 := SN
    have HB3 := HB
    have HR3 : Hid (RS w3 a1 ws) := Lib.hid (HR1.out.below hb23.out)
    clear HR1 hb23
    go_upto_region 5 with fail
    have HC := Lib.hid (below_alloc w3 (.cells #[.slice NA N nc, .slice none 0 0] 26))
    have XT := Lib.hid (box_new (W := w3) (g := w3.heap.size) 26 #[.slice NA N nc, .slice none 0 0] (by simp))
    have hba := (below_alloc w3 (.cells #[.slice NA N nc, .slice none 0 0] 26))
    replace SN := Lib.hid (SN.out.below hba)
    replace XR := Lib.hid (XR.out.below hba)
    replace HB := Lib.hid (below_step HB.out hba)
    clear hba
    generalize w3.alloc (.cells #[.slice NA N nc, .slice none 0 0] 26) = w4 at *
    have XT_0 := XT.out.at_ 0 _ rfl
    go_wp2_with fail
    refine (C3.out _ _ SN.out).mono ?_; rintro e w5 ⟨rfl, hb⟩
    replace HC := Lib.hid (below_step HC.out hb)
    clear C3
    clear XT_0
    replace SN := Lib.hid (SN.out.below hb)
    replace XR := Lib.hid (XR.out.below hb)
    replace XT := Lib.hid (XT.out.below hb)
    replace HB := Lib.hid (below_step HB.out hb)
    clear hb
    by_cases hhe : he = 0
    case neg =>
      have f1 : (he != 0) = true := by simpa using hhe
      have HR : Hid (r = ([], [], he)) := Lib.hid (by rw [HP.out, if_neg hhe])
      clear HP hhe
      have XR_0 := XR.out.at_ 0 _ rfl
      have XR_1 := XR.out.at_ 1 _ rfl
      have XR_l := XR.out.lt
      have XR_z0 := XR.out.frozen 0
      have XR_z1 := XR.out.frozen 1
      go_wp2_with fail
      refine bodyPost_ret (v := .tuple #[.agg #[.slice none 0 0, .slice none 0 0], .int .i64 he]) (by simp [results, Tryd.results13, go_sem, XR_0, XR_1, XR_l]) rfl ?_
      exact parw_no HR.out (below_zrs (g := w.heap.size) HB.out (Nat.le_refl _))
    case pos =>
      subst hhe
      rw [if_pos rfl] at HP
      obtain ⟨i0, hi, hz0, hz1, hz2⟩ := info_parts ilist
      have JI := Lib.hid hi
      have JZ0 := Lib.hid hz0
      have JZ1 := Lib.hid hz1
      have JZ2 := Lib.hid hz2
      clear hi hz0 hz1 hz2
      have H0 : Hid (rowsR N (ws.drop 1) [] = rowsR N (ws.drop 1) []) := Lib.hid rfl
      have hw3 : w.heap.size ≤ w3.heap.size := HB3.out.size
      clear SN XR
      go_wp2_with fail
      go_loopw [7] (fun i wr => ∃ (j : Nat) (acc : List (List Int)) (RA : Option Addr) (rc : Nat), j ≤ T ∧ i = .int .i64 j ∧ Hid (rowsR N (ws.drop 1) [] = rowsR N (ws.drop j) acc) ∧ Hid (acc.length ≤ 4096) ∧ OG ilR wr w3.heap.size 0 44 (.slice RA acc.length rc) acc ∧ Box wr w3.heap.size #[.slice NA N nc, .slice RA acc.length rc] 26 ∧ Below w3.heap.size w3 wr ∧ Below w.heap.size w wr) (fun i _ => T - (intOf i).toNat)
      case atStart => exact ⟨1, [], none, 0, hT0, rfl, Lib.hid rfl, Lib.hid (by simp), OG.nil ilR _ _ _ _ (by decide) (Nat.zero_le _), XT.out, HC.out, HB.out⟩
      case round =>
        clear HB HC XT H0
        obtain ⟨k, acc, RA, rc, hk, rfl, HRR, HA4, hog, hxt, hc, hb⟩ := hrel
        have HC := Lib.hid hc
        have HB := Lib.hid hb
        have HOG := Lib.hid hog
        have XT := Lib.hid hxt
        have XR := Lib.hid (XR3.out.below hc)
        obtain ⟨L, hL⟩ : ∃ L, L = acc.length := ⟨_, rfl⟩
        have HL := Lib.hid hL
        rw [← hL] at HOG XT HA4
        clear hb hc hog hxt hL
        by_cases hlt : k < T
        · have hlt2 : (k : Int) < T := by omega
          have hk0 : (0 : Int) ≤ (k : Int) := by omega
          have hkn : k < ws.length := by rw [← HTL.out]; exact hlt
          have q1 := (HR3.out.below HC.out).cells k hkn
          have CWk := Lib.hid (C4.out k hlt)
          have CRk := Lib.hid (C5.out k hlt)
          have HDk := Lib.hid (HRR.out.trans (HD.out k hkn acc))
          have HRk := Lib.hid (HRT.out (ws.getD k ⟨#[]⟩))
          rw [← HL.out] at HDk
          generalize ws.getD k ⟨#[]⟩ = y at *
          generalize rowT N y = rt at *
          generalize lineW y = l2 at *
          obtain ⟨⟨row, re⟩, hrow⟩ : ∃ q, q = rowR l2 false [] := ⟨_, rfl⟩
          rw [← hrow] at CRk HRk
          unfold ROWT at CRk
          simp only at CRk
          clear hrow hkn HRR
          by_cases h4 : L = 4096
          · have f1 : ((L : Int) == 4096) = true := by
              have : (L : Int) = 4096 := by omega
              simpa using this
            have HR2 : Hid (r = ([], [], 2)) := Lib.hid (by rw [HP.out, HDk.out, if_pos (show 4096 ≤ L by omega)]; rfl)
            clear HDk HP h4 CRk CWk HRk
            have XT_1 := XT.out.at_ 1 _ rfl
            have XR_0 := XR.out.at_ 0 _ rfl
            have XR_1 := XR.out.at_ 1 _ rfl
            have XR_l := XR.out.lt
            have XR_z0 := XR.out.frozen 0
            have XR_z1 := XR.out.frozen 1
            go_wp2_with fail
            refine bodyPost_ret (v := .tuple #[.agg #[.slice none 0 0, .slice none 0 0], .int .i64 2]) (by simp [results, Tryd.results13, go_sem, XR_0, XR_1, XR_l]) rfl ?_
            exact parw_no HR2.out (below_zrs (g := w.heap.size) HB.out (Nat.le_refl _))
          · have f1 : ((L : Int) == 4096) = false := by
              have : ¬ (L : Int) = 4096 := by omega
              simpa using this
            have hL4 : L < 4096 := by have := HA4.out; omega
            rw [if_neg (show ¬ 4096 ≤ L by omega)] at HDk
            have XT_0 := XT.out.at_ 0 _ rfl
            have XT_1 := XT.out.at_ 1 _ rfl
            go_wp2_with fail
            refine (CWk.out _).mono ?_; rintro e w6 ⟨wv, rfl, hsl, hb⟩
            have SV := Lib.hid hsl
            obtain ⟨VA, vc, rfl, hvc, -⟩ := hsl
            replace HC := Lib.hid (below_step HC.out hb)
            clear CWk q1 f1 XT_0 XT_1
            replace XT := Lib.hid (XT.out.below hb)
            replace XR := Lib.hid (XR.out.below hb)
            replace HOG := Lib.hid (HOG.out.below hb)
            replace HB := Lib.hid (below_step HB.out hb)
            clear hb
            obtain ⟨N2, hN2⟩ : ∃ N2, N2 = l2.length := ⟨_, rfl⟩
            rw [← hN2] at SV HRk hvc ⊢
            clear hN2
            by_cases hN : N2 = N
            case neg =>
              have f1 : ((N2 : Int) != (N : Int)) = true := by
                have : ¬ (N2 : Int) = N := by omega
                simpa using this
              have f2 : (N2 != N) = true := by simpa using hN
              have HR2 : Hid (r = ([], [], 5)) := Lib.hid (by rw [HP.out, HDk.out, HRk.out, if_neg hN]; rfl)
              clear HDk HP CRk HRk hN
              have XT_0 := XT.out.at_ 0 _ rfl
              have XR_0 := XR.out.at_ 0 _ rfl
              have XR_1 := XR.out.at_ 1 _ rfl
              have XR_l := XR.out.lt
              have XR_z0 := XR.out.frozen 0
              have XR_z1 := XR.out.frozen 1
              go_wp2_with fail
              refine bodyPost_ret (v := .tuple #[.agg #[.slice none 0 0, .slice none 0 0], .int .i64 5]) (by simp [results, Tryd.results13, go_sem, XR_0, XR_1, XR_l]) rfl ?_
              exact parw_no HR2.out (below_zrs (g := w.heap.size) HB.out (Nat.le_refl _))
            subst hN
            have f1 : ((N2 : Int) != (N2 : Int)) = false := by simp
            have f2 : (N2 != N2) = false := by simp
            have HRk2 : Hid (rt = (row, re)) := Lib.hid (by rw [HRk.out, if_pos rfl])
            rw [HRk2.out] at HDk
            simp only at HDk
            have XT_0 := XT.out.at_ 0 _ rfl
            go_wp2_with fail
            clear XT_0
            refine (CRk.out _ _ SV.out).mono ?_; rintro e w7 ⟨rv, rfl, hrg, hb⟩
            have HRG := Lib.hid hrg
            replace HC := Lib.hid (below_step HC.out hb)
            clear hrg CRk f1 f2
            replace XT := Lib.hid (XT.out.below hb)
            replace XR := Lib.hid (XR.out.below hb)
            replace HOG := Lib.hid (HOG.out.below hb)
            replace HB := Lib.hid (below_step HB.out hb)
            clear hb
            by_cases hre : re = 0
            · subst hre
              have f2 : ((0 : Int) != 0) = false := rfl
              rw [if_pos rfl] at HDk
              have HG := Lib.hid (HRG.out rfl)
              obtain ⟨RB, rd, rfl⟩ := HG.out.slice
              clear HRG
              have hbl := below_alloc w7 (.cells #[.slice RB row.length rd] 44)
              have HR4 : Hid (Rs ilR (w7.alloc (.cells #[.slice RB row.length rd] 44)) (.slice (some ⟨w7.heap.size, 0, none⟩) 1 1) [row] (Ty (w7.alloc (.cells #[.slice RB row.length rd] 44)) 0 ilR.ts)) :=
                Lib.hid ((Rs.one (φ := ilR) (us := [.slice RB row.length rd]) (x := row) (HG.out.rowR 0) 44).mono fun q hq => hq.below hbl)
              have HOGa := Lib.hid (HOG.out.below hbl)
              have HBa := Lib.hid (below_step HB.out hbl)
              have HCa := Lib.hid (below_step HC.out hbl)
              have XTa := Lib.hid (XT.out.below hbl)
              have XT_1 := XT.out.at_ 1 _ rfl
              have HACC : Hid ((acc ++ [row]).length = L + 1) := Lib.hid (by rw [List.length_append, HL.out]; rfl)
              clear hbl HG
              generalize row.length = RL at *
              go_wp2_with (at_builtin; refine wpList_append_og (φ := ilR) (T := 44) (B := w3.heap.size) (C := 0) (xs := acc) (ys := [row]) rfl _ _ 24 rfl i0 (.slice none 0 0) 24 Tryd.underlying24 JI.out JZ0.out JZ1.out JZ2.out rfl rfl HOGa.out (.slice (some ⟨w7.heap.size, 0, none⟩) 1 1) rfl HR4.out ?c1 ?c2 ?c3 ?_)
              case c1 => (try simp only [List.length_cons, List.length_nil]); rw [← HL.out]; have := HA4.out; omega
              case c2 => (try simp only [List.length_cons, List.length_nil]); rw [← HL.out]; have := HA4.out; unfold maxLen; omega
              case c3 => have := HCa.out.size; first | exact this | simpa using this
              intro v' w8 hog7 hg7
              clear XT_1 HB HC HOG XT
              have XT := Lib.hid (HOGa.out.boxKept hg7.out XTa.out (.inl (by decide)))
              have HB := Lib.hid (HOGa.out.belowG hg7.out HBa.out HBa.out.size hw3)
              have HC := Lib.hid (HOGa.out.belowG hg7.out HCa.out HCa.out.size (Nat.le_refl _))
              obtain ⟨A7, c7, hv'⟩ := hog7.out.slice
              rw [HACC.out] at hv'
              subst hv'
              clear HOGa HBa HCa XTa hg7 HR4 XR
              have HOG := hog7
              clear hog7
              have HC' := Lib.hid (HC.out.setCell (p := ⟨w3.heap.size, 1, none⟩) (Nat.le_refl _) (.slice A7 (L + 1) c7))
              clear HC
              have hHA : Hid (L + 1 ≤ 4096) := Lib.hid (by omega)
              have XT' := Lib.hid (XT.out.set_ 1 (.slice A7 (L + 1) c7))
              have HOG' := Lib.hid (HOG.out.setBox XT.out (by decide) (by omega) (by decide) 1 (.slice A7 (L + 1) c7))
              have HB' := Lib.hid (HB.out.setCell (p := ⟨w3.heap.size, 1, none⟩) (by show w.heap.size ≤ w3.heap.size; omega) (.slice A7 (L + 1) c7))
              have XT_1 := XT.out.at_ 1 _ rfl
              have XT_l := XT.out.lt
              have XT_z1 := XT.out.frozen 1
              go_upto_region 10 with fail
              clear XT_1 XT_l XT_z1
              clear HB XT HOG
              generalize w8.setCell ⟨w3.heap.size, 1, none⟩ (.slice A7 (L + 1) c7) = w9 at *
              have XT : Hid (Box w9 w3.heap.size #[.slice NA N2 nc, .slice A7 (L + 1) c7] 26) := XT'
              have HOG := HOG'
              have HB := HB'
              clear HB' XT' HOG'
              go_wp2_with fail
              go_roundw
              case rel => first | exact ⟨k + 1, acc ++ [row], A7, c7, by omega, by go_num, HDk, by rw [HACC.out]; exact hHA, by rw [HACC.out]; exact HOG.out, by rw [HACC.out]; exact XT.out, HC'.out, HB.out⟩ | ((repeat apply Exists.intro); exact ⟨⟨k + 1, acc ++ [row], A7, c7, by omega, by go_num, HDk, by rw [HACC.out]; exact hHA, by rw [HACC.out]; exact HOG.out, by rw [HACC.out]; exact XT.out, HC'.out, HB.out⟩, rfl⟩)
              case measure => simp [intOf]; omega
            · have f2 : (re != 0) = true := by simpa using hre
              rw [if_neg hre] at HDk
              have HR2 : Hid (r = ([], [], re)) := Lib.hid (by rw [HP.out, HDk.out, if_neg hre])
              clear HDk HP HRG hre
              have XR_0 := XR.out.at_ 0 _ rfl
              have XR_1 := XR.out.at_ 1 _ rfl
              have XR_l := XR.out.lt
              have XR_z0 := XR.out.frozen 0
              have XR_z1 := XR.out.frozen 1
              go_wp2_with fail
              refine bodyPost_ret (v := .tuple #[.agg #[.slice none 0 0, .slice none 0 0], .int .i64 re]) (by simp [results, Tryd.results13, go_sem, XR_0, XR_1, XR_l]) rfl ?_
              exact parw_no HR2.out (below_zrs (g := w.heap.size) HB.out (Nat.le_refl _))
        · have hlt2 : ¬ (k : Int) < T := by omega
          have hkK : k = T := by omega
          have HRE : Hid (rowsR N (ws.drop 1) [] = (acc, 0)) := Lib.hid (by rw [HRR.out, hkK]; exact HE.out acc)
          have HR2 : Hid (r = (ns, acc, 0)) := Lib.hid (by rw [HP.out, HRE.out]; rfl)
          have SN := Lib.hid (SN3.out.below HC.out)
          clear HRR hkK HRE HP
          have XT_0 := XT.out.at_ 0 _ rfl
          have XT_1 := XT.out.at_ 1 _ rfl
          have XR_0 := XR.out.at_ 0 _ rfl
          have XR_1 := XR.out.at_ 1 _ rfl
          have XR_l := XR.out.lt
          have XR_z0 := XR.out.frozen 0
          have XR_z1 := XR.out.frozen 1
          go_wp2_with fail
          refine bodyPost_ret (v := .tuple #[.agg #[.slice NA N nc, .slice RA L rc], .int .i64 0]) (by simp [results, Tryd.results13, go_sem, XR_0, XR_1, XR_l]) rfl ?_
          rw [HR2.out]
          exact ⟨_, _, rfl, (SN.out.setBoxW XR.out (by simp)).setBoxW (XR.out.set_ 0 (.slice NA N nc)) (by simp), ((HOG.out.setBox XR.out (by decide) (Nat.zero_le _) (by decide) 0 (.slice NA N nc)).setBox (XR.out.set_ 0 (.slice NA N nc)) (by decide) (Nat.zero_le _) (by decide) 1 (.slice RA L rc)).any, (HB.out.setCell (p := ⟨w.heap.size, 0, none⟩) (Nat.le_refl _) _).setCell (p := ⟨w.heap.size, 1, none⟩) (Nat.le_refl _) _⟩

end Go.Proofs.YthpioaboekpjoaaDoor
