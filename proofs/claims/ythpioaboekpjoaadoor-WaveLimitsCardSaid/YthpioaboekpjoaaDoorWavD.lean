/-
  Contracts of wave.words and wave.row.
-/
import Derived.Test.YthpioaboekpjoaaDoorWavC
import Derived.Test.YthpioaboekpjoaaDoorWavQ
import Derived.Deep.CutBlock
namespace Go.Proofs.YthpioaboekpjoaaDoor
open Go.RowKit
set_option linter.unusedVariables false
set_option linter.unusedSimpArgs false

theorem OG.lower {α : Type} {φ : Rd α} {w : World} {B B' C : Nat} {T : TypeId} {v : Value} {xs : List α} (h : OG φ w B C T v xs) (hB : B' ≤ B) (hC : C ≤ B') : OG φ w B' C T v xs := by
  obtain ⟨⟨hT, _⟩, uss, hl, ho, hc⟩ := h
  refine ⟨⟨hT, hC⟩, uss, hl, ⟨ho.1, ?_⟩, hc⟩
  rcases ho.2 with h0 | ⟨g, cap, cur, e, hg, rest⟩
  · exact .inl h0
  · exact .inr ⟨g, cap, cur, e, Nat.le_trans hB hg, rest⟩
theorem lineW_size (s : ByteArray) : ∀ p ∈ lineW s, p.size ≤ s.size := fun p hp => by
  unfold lineW at hp
  split at hp
  · simp at hp
  · exact words_size 32 s.size s (Nat.le_refl _) p hp
theorem lineW_len (s : ByteArray) : (lineW s).length ≤ s.size + 1 := by
  unfold lineW
  split
  · simp
  · exact words_le 32 s

set_option maxRecDepth 100000 in
set_option maxHeartbeats 8000000 in
theorem wavWords (s : ByteArray) (w : World) (hs : s.size ≤ 2000000) (hm : MLen w) :
    Calls Tryd.prog 35 #[.string s] w fun e w' => ∃ v, e = .returned v ∧ SL w' v (lineW s) ∧ Below w.heap.size w w' := by
  have C0 := Lib.hid (strSplit 32 s w hs hm)
  by_cases h0 : s.size = 0
  · have e1 : s.toList = [] := (str_empty2 s).2.2.2 h0
    have e2 : s.toList.isEmpty = true := by rw [(str_empty2 s).1]; exact decide_eq_true h0
    have HR : Hid (lineW s = []) := Lib.hid (by unfold lineW; rw [if_pos h0])
    clear hs hm h0 C0
    go_enter Tryd.func35, Tryd.ntmps35
    go_wp2_with fail
    go_ret
    exact ⟨_, rfl, by rw [HR.out]; exact SL.nil _, Below.refl _ _⟩
  · have e1 : ¬ s.toList = [] := fun h => h0 ((str_empty2 s).2.2.1 h)
    have e2 : s.toList.isEmpty = false := by rw [(str_empty2 s).1]; exact decide_eq_false h0
    have HR : Hid (lineW s = words 32 s) := Lib.hid (by unfold lineW; rw [if_neg h0])
    clear hs hm h0
    go_enter Tryd.func35, Tryd.ntmps35
    go_wp2_with fail
    refine C0.out.mono ?_; rintro e w2 ⟨v, rfl, hsl, hb⟩
    have HS := Lib.hid hsl
    have HB := Lib.hid hb
    clear hsl hb
    go_wp2_with fail
    go_ret
    exact ⟨_, rfl, by rw [HR.out]; exact HS.out, HB.out⟩

/-- What a row of values hands back. -/
def ROWT (w : World) (r : List Int × Int) (e : Ending) (w' : World) : Prop :=
  ∃ v, e = .returned (.tuple #[v, .int .i64 r.2]) ∧ (r.2 = 0 → OG intR w' w.heap.size 0 3 v r.1) ∧ Below w.heap.size w w'

set_option maxRecDepth 100000 in
set_option maxHeartbeats 8000000 in
theorem wavRow (s : ByteArray) (n : Nat) (w : World) (hs : s.size ≤ 2000000) (hn : n ≤ 9223372036854775807) (hm : MLen w) :
    Calls Tryd.prog 37 #[.string s, .int .i64 n] w (ROWT w (rowT n s)) := by
  have C0 := Lib.hid (wavWords s w hs hm)
  have HZ : Hid (∀ k, k < (lineW s).length → ∀ W, Calls Tryd.prog 65 #[.string ((lineW s).getD k ⟨#[]⟩)] W fun e w' => e = .returned (.tuple #[.int .i64 (parV ((lineW s).getD k ⟨#[]⟩)), .int .i64 (parE ((lineW s).getD k ⟨#[]⟩))]) ∧ Below W.heap.size W w') := Lib.hid fun k hk W =>
    numParse _ W (by have := lineW_size s _ (getD_mem ⟨#[]⟩ hk); unfold maxLen; omega)
  have HD := Lib.hid (fun k hk ov acc => rowR_drop (l := lineW s) (k := k) hk ov acc)
  have HE := Lib.hid (rowR_end (lineW s))
  have hle := lineW_len s
  have HR : Hid (rowT n s = if (lineW s).length = n then rowR (lineW s) false [] else ([], 5)) := Lib.hid rfl
  generalize rowT n s = r at *
  generalize lineW s = ws at *
  have H0 : Hid (rowR ws false [] = rowR (ws.drop 0) false []) := Lib.hid (by rw [List.drop_zero])
  obtain ⟨i0, hi, hz0, hz1, hz2⟩ := info_parts iint3
  have JI := Lib.hid hi
  have JZ0 := Lib.hid hz0
  have JZ1 := Lib.hid hz1
  have JZ2 := Lib.hid hz2
  clear hi hz0 hz1 hz2 hm
  obtain ⟨K, hK⟩ : ∃ K, K = ws.length := ⟨_, rfl⟩
  have HKL := Lib.hid hK
  have hK2 : K ≤ 2000001 := by omega
  rw [← hK] at HR HE
  clear hK hle
  go_enter Tryd.func37, Tryd.ntmps37
  go_wp2_with fail
  refine C0.out.mono ?_; rintro e w2 ⟨v, rfl, hsl, hb⟩
  have HS := Lib.hid hsl
  have HB := Lib.hid hb
  have HW2 := Lib.hid hb.size
  obtain ⟨A1, c1, rfl, hc1, hs1⟩ := hsl
  have HS1 := Lib.hid hs1
  rw [← HKL.out] at hc1 ⊢
  clear hb C0 hs1
  by_cases hl : K = n
  case neg =>
    have f1 : ((K : Int) != (n : Int)) = true := by
      have : ¬ (K : Int) = n := by omega
      simpa using this
    have f2 : (K != n) = true := by simpa using hl
    have HR2 : Hid (r = ([], 5)) := Lib.hid (by rw [HR.out, if_neg hl])
    clear hl HR
    go_wp2_with fail
    go_ret2
    exact ⟨.slice none 0 0, by rw [HR2.out]; rfl, (fun h => by rw [HR2.out] at h; cases h), HB.out⟩
  case pos =>
    subst hl
    have f1 : ((K : Int) != (K : Int)) = false := by simp
    have f2 : (K != K) = false := by simp
    have HR2 : Hid (r = rowR ws false []) := Lib.hid (by rw [HR.out, if_pos rfl])
    clear HR
    go_wp2_with fail
    clear f1 f2
    go_loopw [7, 8, 21] (fun ov fv i wr => ∃ (k : Nat) (cb : Bool) (acc : List Int) (f : Int), k ≤ K ∧ i = .int .i64 k ∧ fv = .int .i64 f ∧ Hid (f = if cb then 3 else 0) ∧ Hid (acc.length = k) ∧ Hid (rowR ws false [] = rowR (ws.drop k) cb acc) ∧ OG intR wr w2.heap.size 0 3 ov acc ∧ Below w2.heap.size w2 wr ∧ Below w.heap.size w wr) (fun _ _ i _ => K - (intOf i).toNat)
    case atStart => exact ⟨0, false, [], 0, Nat.zero_le _, rfl, rfl, rfl, rfl, H0, OG.nil intR _ _ _ _ (by decide) (Nat.zero_le _), Below.refl _ _, HB.out⟩
    case round =>
      clear HB H0
      obtain ⟨k, cb, acc, f, hk, rfl, rfl, HF, HA, HRR, hog, hc, hb⟩ := hrel
      have HC := Lib.hid hc
      have HB := Lib.hid hb
      have HOG := Lib.hid hog
      obtain ⟨OA, oc, rfl⟩ := hog.slice
      clear hb hc hog
      by_cases hlt : k < K
      · have hlt2 : (k : Int) < K := by omega
        have hk0 : (0 : Int) ≤ (k : Int) := by omega
        have hkn : k < ws.length := by rw [← HKL.out]; exact hlt
        obtain ⟨a1, rfl, hr1⟩ := HS1.out (by omega)
        have q1 := (hr1.below HC.out).cells k hkn
        have CP := Lib.hid (HZ.out k hkn)
        have HDk := Lib.hid (HRR.out.trans (HD.out k hkn cb acc))
        rw [HA.out] at HOG ⊢
        generalize ws.getD k ⟨#[]⟩ = x at *
        generalize parE x = pe at *
        generalize parV x = pv at *
        have hac : acc.length = k := HA.out
        clear hr1 hkn HRR
        by_cases h5 : pe = 5
        · have f1 : (pe == 5) = true := by simpa using h5
          have HR3 : Hid (r = ([], 5)) := Lib.hid (by rw [HR2.out, HDk.out, if_pos h5])
          subst h5
          clear HDk
          go_wp2_with fail
          refine (CP.out _).mono ?_; rintro e w3 ⟨rfl, hb⟩
          replace HB := Lib.hid (below_step HB.out hb)
          clear hb CP q1
          go_wp2_with fail
          go_ret2
          exact ⟨.slice none 0 0, by rw [HR3.out]; rfl, (fun h => by rw [HR3.out] at h; cases h), HB.out⟩
        · have f1 : (pe == 5) = false := by simpa using h5
          rw [if_neg h5] at HDk
          have key : ∃ (cb2 : Bool) (f2 : Int), (f2 = if cb2 then 3 else 0) ∧ (rowR ws false [] = rowR (ws.drop (k + 1)) cb2 (acc ++ [pv])) ∧ ((pe ≠ 0 ∧ f2 = 3) ∨ (pe = 0 ∧ wordB pv = false ∧ f2 = 3) ∨ (pe = 0 ∧ wordB pv = true ∧ f2 = f)) := by
            refine ⟨_, _, rfl, HDk.out, ?_⟩
            by_cases hp : pe = 0
            · cases hw : wordB pv
              · exact .inr (.inl ⟨hp, rfl, by simp⟩)
              · refine .inr (.inr ⟨hp, rfl, ?_⟩)
                rw [HF.out]; simp [hp]
            · exact .inl ⟨hp, by simp [hp]⟩
          obtain ⟨cb2, f2, HF2, HR3, hway⟩ := key
          replace HF2 := Lib.hid HF2
          replace HR3 := Lib.hid HR3
          have CW := Lib.hid (wavIsWord pv)
          generalize wordB pv = wb at *
          clear HDk h5 HF
          go_wp2_with fail
          refine (CP.out _).mono ?_; rintro e w3 ⟨rfl, hb⟩
          clear CP q1
          replace HC := Lib.hid (below_step HC.out hb)
          replace HOG := Lib.hid (HOG.out.below hb)
          replace HB := Lib.hid (below_step HB.out hb)
          clear hb
          go_upto_block 2 with fail
          go_cut [7, 8, 11, 21] from 21 to 46 (fun s7 s8 s11 s21 wx => s7 = .slice OA k oc ∧ s8 = .int .i64 f2 ∧ s11 = .int .i64 pv ∧ s21 = .int .i64 k ∧ wx = w3)
          case first =>
            rcases hway with ⟨hp, rfl⟩ | ⟨rfl, rfl, rfl⟩ | ⟨rfl, rfl, rfl⟩
            · have g1 : (pe != 0) = true := by simpa using hp
              clear hp
              go_wp2_with fail
              go_meet
              exact ⟨rfl, rfl, rfl, rfl, rfl⟩
            · go_wp2_with fail
              refine (CW.out _).mono ?_; rintro e w4 ⟨rfl, rfl⟩
              go_wp2_with fail
              go_meet
              exact ⟨rfl, rfl, rfl, rfl, rfl⟩
            · go_wp2_with fail
              refine (CW.out _).mono ?_; rintro e w4 ⟨rfl, rfl⟩
              go_wp2_with fail
              go_meet
              exact ⟨rfl, rfl, rfl, rfl, rfl⟩
          case rest =>
            obtain ⟨rfl, rfl, rfl, rfl, rfl⟩ := hcut
            clear hway
            have hbl := below_alloc wc (.cells #[.int .i64 pv] 3)
            have HR4 : Hid (Rs intR (wc.alloc (.cells #[.int .i64 pv] 3)) (.slice (some ⟨wc.heap.size, 0, none⟩) 1 1) [pv] (Ty (wc.alloc (.cells #[.int .i64 pv] 3)) 0 intR.ts)) :=
              Lib.hid (Rs.one (φ := intR) (us := [.int .i64 pv]) (x := pv) rfl 3)
            have HOGa := Lib.hid (HOG.out.below hbl)
            have HBa := Lib.hid (below_step HB.out hbl)
            have HCa := Lib.hid (below_step HC.out hbl)
            have hww := HBa.out.size
            have hw22 : w.heap.size ≤ w2.heap.size := HW2.out
            clear hbl
            go_wp2_with (at_builtin; refine wpList_append_og (φ := intR) (T := 3) (B := w2.heap.size) (C := 0) (xs := acc) (ys := [pv]) rfl _ _ 44 rfl i0 (.int .i64 0) 8 Tryd.underlying44 JI.out JZ0.out JZ1.out JZ2.out rfl rfl HOGa.out (.slice (some ⟨wc.heap.size, 0, none⟩) 1 1) rfl HR4.out ?c1 ?c2 ?c3 ?_)
            case c1 => (try simp only [List.length_cons, List.length_nil]); rw [HA.out]; omega
            case c2 => (try simp only [List.length_cons, List.length_nil]); rw [HA.out]; unfold maxLen; omega
            case c3 => have := HCa.out.size; first | exact this | simpa using this
            intro v' w7 hog7 hg7
            clear HB HC HOG
            have HB := Lib.hid (HOGa.out.belowG hg7.out HBa.out HBa.out.size hw22)
            have HC := Lib.hid (HOGa.out.belowG hg7.out HCa.out HCa.out.size (Nat.le_refl _))
            have HA2 : Hid ((acc ++ [pv]).length = k + 1) := Lib.hid (by rw [List.length_append, HA.out]; rfl)
            clear HOGa HBa HCa hg7 HR4
            go_wp2_with fail
            go_roundw
            case rel => exact ⟨k + 1, cb2, acc ++ [pv], f2, by omega, by go_num, rfl, HF2, HA2, HR3, hog7.out, HC.out, HB.out⟩
            case measure => simp [intOf]; omega
      · have hlt2 : ¬ (k : Int) < K := by omega
        have hkK : k = K := by omega
        have HR3 : Hid (r = if cb then ([], 3) else (acc, 0)) := Lib.hid (by rw [HR2.out, HRR.out, hkK, ← HE.out cb acc])
        clear HRR hkK
        go_wp2_with fail
        go_ret2
        refine ⟨.slice OA acc.length oc, ?_, ?_, HB.out⟩
        · rw [HR3.out, HF.out]; cases cb <;> rfl
        · intro h
          rw [HR3.out] at h ⊢
          cases cb
          · exact HOG.out.lower HW2.out (Nat.zero_le _)
          · cases h

end Go.Proofs.YthpioaboekpjoaaDoor
