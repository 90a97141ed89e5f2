/-
  Contracts of the reference's words, header and row.
-/
import Derived.Test.YthpioaboekpjoaaDoorWavF
namespace Go.Proofs.YthpioaboekpjoaaDoor
open Go.RowKit
set_option linter.unusedVariables false
set_option linter.unusedSimpArgs false

set_option maxRecDepth 100000 in
set_option maxHeartbeats 8000000 in
theorem refWordsW (s : ByteArray) (w : World) (hs : s.size ≤ 2000000) :
    Calls Tryd.prog 39 #[.string s] w fun e w' => ∃ v, e = .returned v ∧ SL w' v (lineW s) ∧ Below w.heap.size w w' := by
  have C0 := Lib.hid (refPartsB 32 32 (by decide) s w hs)
  by_cases h0 : s.size = 0
  · have e1 : s.toList = [] := (str_empty2 s).2.2.2 h0
    have e2 : s.toList.isEmpty = true := by rw [(str_empty2 s).1]; exact decide_eq_true h0
    have HR : Hid (lineW s = []) := Lib.hid (by unfold lineW; rw [if_pos h0])
    clear hs h0 C0
    go_enter Tryd.func39, Tryd.ntmps39
    go_wp2_with fail
    go_ret
    exact ⟨_, rfl, by rw [HR.out]; exact SL.nil _, Below.refl _ _⟩
  · have e1 : ¬ s.toList = [] := fun h => h0 ((str_empty2 s).2.2.1 h)
    have e2 : s.toList.isEmpty = false := by rw [(str_empty2 s).1]; exact decide_eq_false h0
    have HR : Hid (lineW s = words 32 s) := Lib.hid (by unfold lineW; rw [if_neg h0])
    clear hs h0
    go_enter Tryd.func39, Tryd.ntmps39
    go_wp2_with fail
    refine C0.out.mono ?_; rintro e w2 ⟨v, rfl, hsl, hb⟩
    have HS := Lib.hid (SL.of_own hsl)
    have HB := Lib.hid hb
    clear hsl hb
    go_wp2_with fail
    go_ret
    exact ⟨_, rfl, by rw [HR.out]; exact HS.out, HB.out⟩

set_option maxRecDepth 100000 in
set_option maxHeartbeats 8000000 in
theorem refHeaderW (w : World) (v1 : Value) (ns : List ByteArray) (h1 : SL w v1 ns) (hsz : ∀ s ∈ ns, s.size ≤ 9223372036854775807) (hn : ns.length ≤ 9223372036854775807) :
    Calls Tryd.prog 40 #[v1] w fun e w' => e = .returned (.int .i64 (hdrT ns)) ∧ Below w.heap.size w w' := by
  have CI : Hid (∀ k, k < ns.length → ∀ W, Calls Tryd.prog 66 #[.string (ns.getD k ⟨#[]⟩)] W fun e w' => e = .returned (.bool (varB (ns.getD k ⟨#[]⟩))) ∧ Below W.heap.size W w') := Lib.hid fun k hk W => refIsVar _ W (hsz _ (getD_mem ⟨#[]⟩ hk))
  have CD := Lib.hid (fun W (hW : Below w.heap.size w W) => refDifferent W v1 ns (h1.below hW) hsz hn)
  have H5 : Hid (∀ k, k < ns.length → varB (ns.getD k ⟨#[]⟩) = false → hdrT ns = 5) := Lib.hid fun k hk hv => by
    unfold hdrT
    rw [if_neg fun h => by rw [h _ (getD_mem ⟨#[]⟩ hk)] at hv; cases hv]
  have H8 : Hid ((∀ j, j < ns.length → varB (ns.getD j ⟨#[]⟩) = true) → hdrT ns = if decide (Dif ns) = true then (if 48 < ns.length then 2 else 0) else 8) := Lib.hid fun h => by
    have hall : ∀ s ∈ ns, varB s = true := fun s hs => by
      obtain ⟨j, hj, rfl⟩ := List.mem_iff_getElem.1 hs
      have := h j hj
      rwa [List.getD_eq_getElem?_getD, List.getElem?_eq_getElem hj] at this
    unfold hdrT
    rw [if_pos hall]
    by_cases hd : ns.Nodup
    · have e : decide (Dif ns) = true := decide_eq_true ⟨hd, hall⟩
      rw [if_pos hd, e, if_pos rfl]
    · have e : decide (Dif ns) = false := decide_eq_false fun h => hd h.1
      rw [if_neg hd, e, if_neg (by decide)]
  obtain ⟨A1, c1, rfl, hc1, hs1⟩ := h1
  have HS1 := Lib.hid hs1
  obtain ⟨N, hN⟩ : ∃ N, N = ns.length := ⟨_, rfl⟩
  have HN := Lib.hid hN
  rw [← hN] at hn CI H5 H8 CD hc1 ⊢
  generalize hdrT ns = r at *
  generalize decide (Dif ns) = df at *
  clear hs1 hsz hN
  go_enter Tryd.func40, Tryd.ntmps40
  go_wp2_with fail
  go_loopw [3] (fun i wr => ∃ k : Nat, k ≤ N ∧ i = .int .i64 k ∧ Hid (∀ j, j < k → varB (ns.getD j ⟨#[]⟩) = true) ∧ Below w.heap.size w wr) (fun i _ => N - (intOf i).toNat)
  case atStart => exact ⟨0, Nat.zero_le _, rfl, Lib.hid (fun j h => absurd h (by omega)), Below.refl _ _⟩
  case round =>
    obtain ⟨k, hk, rfl, HV, hb⟩ := hrel
    have HB := Lib.hid hb
    clear hb
    by_cases hlt : k < N
    · have hlt2 : (k : Int) < N := by omega
      have hk0 : (0 : Int) ≤ (k : Int) := by omega
      have hkc : (k : Int) ≤ (c1 : Int) := by omega
      have hkc2 : k ≤ c1 := by omega
      have hkn : k < ns.length := by rw [← HN.out]; exact hlt
      obtain ⟨a1, rfl, hr1⟩ := HS1.out (by omega)
      have q1 := (hr1.below HB.out).cells k hkn
      have CIk := Lib.hid (CI.out k hlt)
      have H5k := Lib.hid (H5.out k hlt)
      have HVk : Hid (varB (ns.getD k ⟨#[]⟩) = true → ∀ j, j < k + 1 → varB (ns.getD j ⟨#[]⟩) = true) := Lib.hid fun h j hj => by
        by_cases e : j = k
        · rw [e]; exact h
        · exact HV.out j (by omega)
      generalize ns.getD k ⟨#[]⟩ = s at *
      generalize varB s = vb at *
      clear hr1 hkn HV
      go_wp2_with fail
      refine (CIk.out _).mono ?_; rintro e w3 ⟨rfl, hb⟩
      replace HB := Lib.hid (below_step HB.out hb)
      clear CIk q1 hb
      cases vb
      · have HR := Lib.hid (H5k.out rfl)
        go_wp2_with fail
        go_ret
        exact ⟨ret1 HR.out.symm, HB.out⟩
      · have HV2 := Lib.hid (HVk.out rfl)
        go_wp2_with fail
        go_roundw
        case rel => exact ⟨k + 1, by omega, by go_num, HV2, HB.out⟩
        case measure => simp [intOf]; omega
    · have hlt2 : ¬ (k : Int) < N := by omega
      have hkN : k = N := by omega
      have HR := Lib.hid (H8.out (by rw [← hkN]; exact HV.out))
      clear HV hkN H5 H8
      cases df
      · go_wp2_with fail
        refine (CD.out _ HB.out).mono ?_; rintro e w3 ⟨rfl, hb⟩
        replace HB := Lib.hid (below_step HB.out hb)
        clear CD hb
        go_wp2_with fail
        go_ret
        exact ⟨ret1 HR.out.symm, HB.out⟩
      · by_cases hb48 : 48 < N
        · have h48 : (48 : Int) < N := by omega
          have HR2 : Hid (r = 2) := Lib.hid (by rw [HR.out, if_pos rfl, if_pos hb48])
          clear HR
          go_wp2_with fail
          refine (CD.out _ HB.out).mono ?_; rintro e w3 ⟨rfl, hb⟩
          replace HB := Lib.hid (below_step HB.out hb)
          clear CD hb
          go_wp2_with fail
          go_ret
          exact ⟨ret1 HR2.out.symm, HB.out⟩
        · have h48 : ¬ (48 : Int) < N := by omega
          have HR2 : Hid (r = 0) := Lib.hid (by rw [HR.out, if_pos rfl, if_neg hb48])
          clear HR
          go_wp2_with fail
          refine (CD.out _ HB.out).mono ?_; rintro e w3 ⟨rfl, hb⟩
          replace HB := Lib.hid (below_step HB.out hb)
          clear CD hb
          go_wp2_with fail
          go_ret
          exact ⟨ret1 HR2.out.symm, HB.out⟩

set_option maxRecDepth 100000 in
set_option maxHeartbeats 8000000 in
theorem refRowW (w : World) (v1 : Value) (ws : List ByteArray) (h1 : SL w v1 ws) (hsz : ∀ s ∈ ws, s.size ≤ maxLen) (hn : ws.length ≤ 2000001) :
    Calls Tryd.prog 41 #[v1] w (ROWT w (rowR ws false [])) := by
  have HZ : Hid (∀ k, k < ws.length → ∀ W, Calls Tryd.prog 67 #[.string (ws.getD k ⟨#[]⟩)] W fun e w' => e = .returned (.tuple #[.int .i64 (parV (ws.getD k ⟨#[]⟩)), .int .i64 (parE (ws.getD k ⟨#[]⟩))]) ∧ W = w') := Lib.hid fun k hk W =>
    refParse _ W (hsz _ (getD_mem ⟨#[]⟩ hk))
  have HD := Lib.hid (fun k hk ov acc => rowR_drop (l := ws) (k := k) hk ov acc)
  have HE := Lib.hid (rowR_end ws)
  have H0 : Hid (rowR ws false [] = rowR (ws.drop 0) false []) := Lib.hid (by rw [List.drop_zero])
  obtain ⟨r, hr⟩ : ∃ r, r = rowR ws false [] := ⟨_, rfl⟩
  have HR := Lib.hid hr
  rw [← hr]
  obtain ⟨i0, hi, hz0, hz1, hz2⟩ := info_parts iint3
  have JI := Lib.hid hi
  have JZ0 := Lib.hid hz0
  have JZ1 := Lib.hid hz1
  have JZ2 := Lib.hid hz2
  obtain ⟨A1, c1, rfl, hc1, hs1⟩ := h1
  have HS1 := Lib.hid hs1
  obtain ⟨K, hK⟩ : ∃ K, K = ws.length := ⟨_, rfl⟩
  have HKL := Lib.hid hK
  rw [← hK] at HE hn hc1 HZ ⊢
  clear hK hi hz0 hz1 hz2 hs1 hsz hr
  go_enter Tryd.func41, Tryd.ntmps41
  go_wp2_with fail
  go_loopw [4, 5, 6] (fun ov bv i wr => ∃ (k : Nat) (cb : Bool) (acc : List Int), k ≤ K ∧ i = .int .i64 k ∧ bv = .bool cb ∧ Hid (acc.length = k) ∧ Hid (rowR ws false [] = rowR (ws.drop k) cb acc) ∧ OG intR wr w.heap.size 0 3 ov acc ∧ Below w.heap.size w wr) (fun _ _ i _ => K - (intOf i).toNat)
  case atStart => exact ⟨0, false, [], Nat.zero_le _, rfl, rfl, rfl, H0, OG.nil intR _ _ _ _ (by decide) (Nat.zero_le _), Below.refl _ _⟩
  case round =>
    clear H0
    obtain ⟨k, cb, acc, hk, rfl, rfl, HA, HRR, hog, hb⟩ := hrel
    have HB := Lib.hid hb
    have HOG := Lib.hid hog
    obtain ⟨OA, oc, rfl⟩ := hog.slice
    clear hb hog
    by_cases hlt : k < K
    · have hlt2 : (k : Int) < K := by omega
      have hk0 : (0 : Int) ≤ (k : Int) := by omega
      have hkn : k < ws.length := by rw [← HKL.out]; exact hlt
      obtain ⟨a1, rfl, hr1⟩ := HS1.out (by omega)
      have q1 := (hr1.below HB.out).cells k hkn
      have CP := Lib.hid (HZ.out k hlt)
      have HDk := Lib.hid (HRR.out.trans (HD.out k hkn cb acc))
      rw [HA.out] at HOG ⊢
      generalize ws.getD k ⟨#[]⟩ = x at *
      generalize parE x = pe at *
      generalize parV x = pv at *
      clear hr1 hkn HRR
      by_cases h5 : pe = 5
      · have f1 : (pe == 5) = true := by simpa using h5
        have HR3 : Hid (r = ([], 5)) := Lib.hid (by rw [HR.out, HDk.out, if_pos h5])
        subst h5
        clear HDk
        go_wp2_with fail
        refine (CP.out _).mono ?_; rintro e w3 ⟨rfl, rfl⟩
        clear CP q1
        go_wp2_with fail
        go_ret2
        exact ⟨.slice none 0 0, by rw [HR3.out]; rfl, (fun h => by rw [HR3.out] at h; cases h), HB.out⟩
      · have f1 : (pe == 5) = false := by simpa using h5
        rw [if_neg h5] at HDk
        have key : ∃ cb2 : Bool, (rowR ws false [] = rowR (ws.drop (k + 1)) cb2 (acc ++ [pv])) ∧ ((cb = true ∧ cb2 = true) ∨ (cb = false ∧ pe ≠ 0 ∧ cb2 = true) ∨ (cb = false ∧ pe = 0 ∧ pv < 0 ∧ cb2 = true) ∨ (cb = false ∧ pe = 0 ∧ ¬ pv < 0 ∧ 65535 < pv ∧ cb2 = true) ∨ (cb = false ∧ pe = 0 ∧ ¬ pv < 0 ∧ ¬ 65535 < pv ∧ cb2 = false)) := by
          refine ⟨_, HDk.out, ?_⟩
          cases cb
          · by_cases hp : pe = 0
            · by_cases h1 : pv < 0
              · exact .inr (.inr (.inl ⟨rfl, hp, h1, by simp [hp, wordB]; omega⟩))
              · by_cases h2 : 65535 < pv
                · exact .inr (.inr (.inr (.inl ⟨rfl, hp, h1, h2, by simp [hp, wordB]; omega⟩)))
                · exact .inr (.inr (.inr (.inr ⟨rfl, hp, h1, h2, by simp [hp, wordB]; omega⟩)))
            · exact .inr (.inl ⟨rfl, hp, by simp [hp]⟩)
          · exact .inl ⟨rfl, by simp⟩
        obtain ⟨cb2, HR3, hway⟩ := key
        replace HR3 := Lib.hid HR3
        clear HDk h5
        go_wp2_with fail
        refine (CP.out _).mono ?_; rintro e w3 ⟨rfl, rfl⟩
        clear CP q1
        go_upto_region 9 with fail
        go_cut [4, 5, 6, 7] from 9 to 42 (fun s4 s5 s6 s7 wx => s4 = .slice OA k oc ∧ s5 = .bool cb2 ∧ s6 = .int .i64 k ∧ s7 = .int .i64 pv ∧ wx = wr)
        case first =>
          rcases hway with ⟨rfl, rfl⟩ | ⟨rfl, hp, rfl⟩ | ⟨rfl, rfl, g2, rfl⟩ | ⟨rfl, rfl, g2, g3, rfl⟩ | ⟨rfl, rfl, g2, g3, rfl⟩
          · go_wp2_with fail
            go_meet
            exact ⟨rfl, rfl, rfl, rfl, rfl⟩
          · have g1 : (pe != 0) = true := by simpa using hp
            clear hp
            go_wp2_with fail
            go_meet
            exact ⟨rfl, rfl, rfl, rfl, rfl⟩
          · go_wp2_with fail
            go_meet
            exact ⟨rfl, rfl, rfl, rfl, rfl⟩
          · go_wp2_with fail
            go_meet
            exact ⟨rfl, rfl, rfl, rfl, rfl⟩
          · go_wp2_with fail
            go_meet
            exact ⟨rfl, (by first | rfl | rw [decide_eq_false (show ¬ pv < 0 by omega), decide_eq_false (show ¬ 65535 < pv by omega)]; rfl), rfl, rfl, rfl⟩
        case rest =>
          obtain ⟨rfl, rfl, rfl, rfl, rfl⟩ := hcut
          clear hway
          have hbl := below_alloc wc (.cells #[.int .i64 pv] 3)
          have HR4 : Hid (Rs intR (wc.alloc (.cells #[.int .i64 pv] 3)) (.slice (some ⟨wc.heap.size, 0, none⟩) 1 1) [pv] (Ty (wc.alloc (.cells #[.int .i64 pv] 3)) 0 intR.ts)) :=
            Lib.hid (Rs.one (φ := intR) (us := [.int .i64 pv]) (x := pv) rfl 3)
          have HOGa := Lib.hid (HOG.out.below hbl)
          have HBa := Lib.hid (below_step HB.out hbl)
          clear hbl
          go_wp2_with (at_builtin; refine wpList_append_og (φ := intR) (T := 3) (B := w.heap.size) (C := 0) (xs := acc) (ys := [pv]) rfl _ _ 44 rfl i0 (.int .i64 0) 8 Tryd.underlying44 JI.out JZ0.out JZ1.out JZ2.out rfl rfl HOGa.out (.slice (some ⟨wc.heap.size, 0, none⟩) 1 1) rfl HR4.out ?c1 ?c2 ?c3 ?_)
          case c1 => (try simp only [List.length_cons, List.length_nil]); rw [HA.out]; omega
          case c2 => (try simp only [List.length_cons, List.length_nil]); rw [HA.out]; unfold maxLen; omega
          case c3 => have := HBa.out.size; first | exact this | simpa using this
          intro v' w7 hog7 hg7
          clear HB HOG
          have HB := Lib.hid (HOGa.out.belowG hg7.out HBa.out HBa.out.size (Nat.le_refl _))
          have HA2 : Hid ((acc ++ [pv]).length = k + 1) := Lib.hid (by rw [List.length_append, HA.out]; rfl)
          clear HOGa HBa hg7 HR4
          go_wp2_with fail
          go_roundw
          case rel => exact ⟨k + 1, cb2, acc ++ [pv], by omega, by go_num, rfl, HA2, HR3, hog7.out, HB.out⟩
          case measure => simp [intOf]; omega
    · have hlt2 : ¬ (k : Int) < K := by omega
      have hkK : k = K := by omega
      have HR3 : Hid (r = if cb then ([], 3) else (acc, 0)) := Lib.hid (by rw [HR.out, HRR.out, hkK, ← HE.out cb acc])
      clear HRR hkK
      cases cb
      · go_wp2_with fail
        go_ret2
        refine ⟨.slice OA acc.length oc, by rw [HR3.out]; rfl, fun h => ?_, HB.out⟩
        rw [HR3.out]
        exact HOG.out
      · go_wp2_with fail
        go_ret2
        exact ⟨.slice none 0 0, by rw [HR3.out]; rfl, (fun h => by rw [HR3.out] at h; cases h), HB.out⟩

end Go.Proofs.YthpioaboekpjoaaDoor
