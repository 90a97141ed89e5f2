/-
  Contracts of lexer and of its reference: words, keywords, names, variable names.
-/
import Derived.Test.YtbjcbndmafddoaaDoorNameA
namespace Go.Proofs.YtbjcbndmafddoaaDoor
open Go.RowKit
set_option linter.unusedVariables false
set_option linter.unusedSimpArgs false

/-- The program's table of keywords. -/
def KW (w : World) : Prop := ∃ v, w.cell? ⟨0, 0, none⟩ = some v ∧ SL w v keyWords
theorem KW.lt {w : World} (h : KW w) : 0 < w.heap.size := by
  obtain ⟨v, h, _⟩ := h
  rcases Nat.lt_or_ge 0 w.heap.size with hlt | hge
  · exact hlt
  · unfold World.cell? at h
    simp only [Array.getElem?_eq_none hge] at h
    cases h
theorem KW.below {w w' : World} (h : KW w) (hb : Below w.heap.size w w') : KW w' := by
  have hlt := h.lt
  obtain ⟨v, h1, h2⟩ := h
  exact ⟨v, by rw [hb.cell (p := ⟨0, 0, none⟩) hlt]; exact h1, h2.below hb⟩

theorem below_iter (w : World) (s : ByteArray) (p : Nat) : Below w.heap.size w (w.iter s p) := below_alloc w _
theorem wrd_step {s : ByteArray} {k : Nat} (h : ∀ j, j < k → innC (byt s j) = true) (hk : innC (byt s k) = true) : ∀ j, j < k + 1 → innC (byt s j) = true := fun j hj => by
  by_cases e : j = k
  · rw [e]; exact hk
  · exact h j (by omega)

theorem not_wrd {s : ByteArray} {k : Nat} (hk : k < s.size) (h : innC (byt s k) = false) : decide (Wrd s) = false :=
  decide_eq_false fun hw => by rw [hw.2.2 k hk] at h; cases h
theorem not_wrd0 {s : ByteArray} (h : lowC (byt s 0) = false) : decide (Wrd s) = false :=
  decide_eq_false fun hw => by rw [hw.2.1] at h; cases h
theorem high_no {c : Int} (h : 128 ≤ c) : lowC c = false ∧ innC c = false := by
  unfold lowC innC; exact ⟨decide_eq_false (by omega), decide_eq_false (by omega)⟩
theorem low_inn {c : Int} (h : lowC c = true) : innC c = true := by
  unfold lowC at h; unfold innC
  have := of_decide_eq_true h
  exact decide_eq_true (by omega)
theorem str_empty2 (d : ByteArray) : (d.toList.isEmpty = decide (d.size = 0)) ∧ ((!d.toList.isEmpty) = !decide (d.size = 0)) ∧ (d.toList = [] ↔ d.size = 0) := by
  have e : d.toList.isEmpty = decide (d.size = 0) := by
    rw [Lib.toList_data, Lib.size_eq]
    cases d.data.toList <;> simp
  refine ⟨e, by rw [e], ?_⟩
  rw [Lib.toList_data, Lib.size_eq]
  exact List.length_eq_zero_iff.symm

theorem ba_empty (s : ByteArray) : s = ByteArray.empty ↔ s.size = 0 := by
  constructor
  · intro h; rw [h]; rfl
  · intro h
    refine ba_eq ?_
    rw [Lib.size_eq] at h
    rw [List.eq_nil_of_length_eq_zero h]; rfl

set_option maxRecDepth 100000 in
set_option maxHeartbeats 8000000 in
theorem lexWord (s : ByteArray) (w : World) (hs : s.size ≤ maxLen) :
    Calls Tryd.prog 89 #[.string s] w fun e w' => e = .returned (.bool (decide (Wrd s))) ∧ Below w.heap.size w w' := by
  unfold maxLen at hs
  go_enter Tryd.func89, Tryd.ntmps89
  go_wp2_with fail
  go_loopw [] (fun wr => ∃ k : Nat, k ≤ s.size ∧ Hid (∀ j, j < k → innC (byt s j) = true) ∧ Hid (0 < k → lowC (byt s 0) = true) ∧ wr = w.iter s k) (fun wr => s.size - wr.iterPos w.heap.size)
  case atStart => exact ⟨0, Nat.zero_le _, (fun j h => by omega), (fun h => by omega), rfl⟩
  case round =>
    obtain ⟨k, hk, hd, hl, rfl⟩ := hrel
    by_cases hlt : k < s.size
    · have hbk := byt_at s k hlt
      have hbd := byt_bd s k
      obtain ⟨c, k', hnx, hc0, hc1, hway⟩ : ∃ (c : Int) (k' : Nat), (∀ ty, (Instr.next (.pointer (some ⟨w.heap.size, 0, none⟩)) true ty).run Tryd.prog (w.iter s k) = .ok (.tuple #[.bool true, .int .i64 k, .int .i32 c]) (w.iter s k')) ∧ 0 ≤ c ∧ c ≤ 2147483647 ∧
          ((c = byt s k ∧ k' = k + 1) ∨ (innC c = false ∧ innC (byt s k) = false ∧ lowC c = false)) := by
        by_cases ha : (s[k]'hlt).toNat < 128
        · exact ⟨byt s k, k + 1, fun ty => by rw [hbk]; exact run_next_ascii (P := Tryd.prog) w s k ty hlt ha, by omega, by omega, .inl ⟨rfl, rfl⟩⟩
        · have h1 := (decode_high s k hlt (by omega)).1
          have h2 := decode_le s k
          exact ⟨((Utf8.decode s k).1 : Int), k + (Utf8.decode s k).2, fun ty => run_next_any (P := Tryd.prog) w s k ty hlt, by omega, by omega, .inr ⟨(high_no (by omega)).2, (high_no (by rw [hbk]; omega)).2, (high_no (by omega)).1⟩⟩
      have L1 := Lib.hid (fun w => lexLower c w (by omega) hc1)
      have L2 := Lib.hid (fun w => lexFollows c w (by omega) hc1)
      have key : (lowC c = true ∧ innC c = true ∧ c = byt s k ∧ k' = k + 1) ∨ (lowC c = false ∧ innC c = true ∧ c = byt s k ∧ k' = k + 1) ∨ (lowC c = false ∧ innC c = false ∧ innC (byt s k) = false) := by
        rcases hway with ⟨e1, e2⟩ | ⟨e1, e2, e3⟩
        · cases hl : lowC c
          · cases hi : innC c
            · exact .inr (.inr ⟨rfl, rfl, by rw [← e1]; exact hi⟩)
            · exact .inr (.inl ⟨rfl, rfl, e1, e2⟩)
          · exact .inl ⟨rfl, low_inn hl, e1, e2⟩
        · exact .inr (.inr ⟨e3, e1, e2⟩)
      have HK : Hid (k' = k + 1 → ∀ W, W = w.iter s k' → W = w.iter s (k + 1)) := Lib.hid fun h W hW => by rw [hW, h]
      clear hway hbk hbd
      rcases key with ⟨h1, h2, h3, h4⟩ | ⟨h1, h2, h3, h4⟩ | ⟨h1, h2, h3⟩
      · have HD := Lib.hid (wrd_step hd.out (by rw [← h3]; exact h2))
        have HL : Hid (0 < k + 1 → lowC (byt s 0) = true) := Lib.hid fun _ => by
          by_cases h0 : k = 0
          · subst h0; rw [← h3]; exact h1
          · exact hl.out (by omega)
        rw [h1] at L1
        rw [h2] at L2
        have H4 := Lib.hid h4
        clear h1 h2 h3 h4 hd hl HK
        by_cases h0 : k = 0
        · have f0 : ((k : Int) == 0) = true := by simpa using h0
          clear h0
          go_wp2_with fail
          refine (L1.out _).mono ?_; rintro e w' ⟨rfl, rfl⟩
          go_wp2_with fail
          refine (L2.out _).mono ?_; rintro e w' ⟨rfl, rfl⟩
          go_wp2_with fail
          go_roundw
          case rel => exact ⟨k + 1, by omega, HD, HL, by rw [H4.out]⟩
          case measure => simp [H4.out]; omega
        · have f0 : ((k : Int) == 0) = false := by simpa using h0
          clear h0
          go_wp2_with fail
          refine (L2.out _).mono ?_; rintro e w' ⟨rfl, rfl⟩
          go_wp2_with fail
          go_roundw
          case rel => exact ⟨k + 1, by omega, HD, HL, by rw [H4.out]⟩
          case measure => simp [H4.out]; omega
      · by_cases h0 : k = 0
        · have f0 : ((k : Int) == 0) = true := by simpa using h0
          have HR := Lib.hid (not_wrd0 (s := s) (by rw [h0] at h3; rw [← h3]; exact h1))
          rw [h1] at L1
          clear h0 h1 h2 h3 h4 hd hl HK
          go_wp2_with fail
          refine (L1.out _).mono ?_; rintro e w' ⟨rfl, rfl⟩
          go_wp2_with fail
          go_ret
          exact ⟨retb HR.out.symm, below_iter _ _ _⟩
        · have f0 : ((k : Int) == 0) = false := by simpa using h0
          have HD := Lib.hid (wrd_step hd.out (by rw [← h3]; exact h2))
          have HL : Hid (0 < k + 1 → lowC (byt s 0) = true) := Lib.hid fun _ => hl.out (by omega)
          rw [h2] at L2
          have H4 := Lib.hid h4
          clear h0 h1 h2 h3 h4 hd hl HK
          go_wp2_with fail
          refine (L2.out _).mono ?_; rintro e w' ⟨rfl, rfl⟩
          go_wp2_with fail
          go_roundw
          case rel => exact ⟨k + 1, by omega, HD, HL, by rw [H4.out]⟩
          case measure => simp [H4.out]; omega
      · have HR := Lib.hid (not_wrd hlt h3)
        rw [h1] at L1
        rw [h2] at L2
        clear h1 h2 h3 hd hl HK
        by_cases h0 : k = 0
        · have f0 : ((k : Int) == 0) = true := by simpa using h0
          clear h0
          go_wp2_with fail
          refine (L1.out _).mono ?_; rintro e w' ⟨rfl, rfl⟩
          go_wp2_with fail
          go_ret
          exact ⟨retb HR.out.symm, below_iter _ _ _⟩
        · have f0 : ((k : Int) == 0) = false := by simpa using h0
          clear h0
          go_wp2_with fail
          refine (L2.out _).mono ?_; rintro e w' ⟨rfl, rfl⟩
          go_wp2_with fail
          go_ret
          exact ⟨retb HR.out.symm, below_iter _ _ _⟩
    · have hnx := fun ty => run_next_end (P := Tryd.prog) w s k ty hlt
      have HR : Hid ((!s.toList.isEmpty) = decide (Wrd s)) := by
        refine Lib.hid ?_
        rw [(str_empty2 s).2.1]
        by_cases hz : s.size = 0
        · rw [decide_eq_true hz, decide_eq_false (fun hw : Wrd s => by have := hw.1; omega)]; rfl
        · have hks : k = s.size := by omega
          rw [decide_eq_false hz, decide_eq_true (show Wrd s from ⟨by omega, hl.out (by omega), fun j hj => hd.out j (by omega)⟩)]; rfl
      clear hd hl
      go_wp2_with fail
      go_ret
      exact ⟨retb HR.out, below_iter _ _ _⟩

set_option maxRecDepth 100000 in
set_option maxHeartbeats 4000000 in
theorem lexKey (s : ByteArray) (w : World) (h : KW w) :
    Calls Tryd.prog 90 #[.string s] w fun e w' => e = .returned (.bool (isKey s)) ∧ w = w' := by
  obtain ⟨v, h1, h2⟩ := h
  have C := Lib.hid (slContains w v keyWords s h2 (by decide))
  clear h2
  go_enter Tryd.func90, Tryd.ntmps90
  go_wp2_with fail
  refine C.out.mono ?_; rintro e w' ⟨rfl, rfl⟩
  go_wp2_with fail
  go_ret
  exact ⟨rfl, rfl⟩

set_option maxRecDepth 100000 in
set_option maxHeartbeats 4000000 in
theorem lexName (s : ByteArray) (w : World) (hs : s.size ≤ maxLen) (h : KW w) :
    Calls Tryd.prog 63 #[.string s] w fun e w' => e = .returned (.bool (nameB s)) ∧ Below w.heap.size w w' := by
  have HK := Lib.hid h
  have C1 := Lib.hid (fun w => lexWord s w hs)
  have C2 := Lib.hid (fun w h => lexKey s w h)
  have HN : Hid (nameB s = (decide (Wrd s) && decide (s.size ≤ 16) && !isKey s)) := Lib.hid rfl
  generalize nameB s = r at *
  generalize decide (Wrd s) = q at *
  generalize isKey s = ky at *
  unfold maxLen at hs
  clear h
  cases q
  · go_enter Tryd.func63, Tryd.ntmps63
    go_wp2_with fail
    refine (C1.out _).mono ?_; rintro e w1 ⟨rfl, hb⟩
    have HB := Lib.hid hb
    clear hb
    go_wp2_with fail
    go_ret
    exact ⟨retb (by rw [HN.out]; rfl), HB.out⟩
  · by_cases h16 : s.size ≤ 16
    · have f : (s.size : Int) ≤ 16 := by omega
      have HN2 : Hid (r = !ky) := Lib.hid (by rw [HN.out, decide_eq_true h16]; rfl)
      clear HN
      go_enter Tryd.func63, Tryd.ntmps63
      go_wp2_with fail
      refine (C1.out _).mono ?_; rintro e w1 ⟨rfl, hb⟩
      have HB := Lib.hid hb
      clear hb
      go_wp2_with fail
      refine (C2.out _ (HK.out.below HB.out)).mono ?_; rintro e w' ⟨rfl, rfl⟩
      go_wp2_with fail
      go_ret
      exact ⟨retb (by rw [HN2.out]), HB.out⟩
    · have f : ¬ (s.size : Int) ≤ 16 := by omega
      have HN2 : Hid (r = false) := Lib.hid (by rw [HN.out, decide_eq_false h16]; rfl)
      clear HN
      go_enter Tryd.func63, Tryd.ntmps63
      go_wp2_with fail
      refine (C1.out _).mono ?_; rintro e w1 ⟨rfl, hb⟩
      have HB := Lib.hid hb
      clear hb
      go_wp2_with fail
      go_ret
      exact ⟨retb (by rw [HN2.out]), HB.out⟩

/-! The program's variable names. -/
set_option maxRecDepth 100000 in
set_option maxHeartbeats 8000000 in
theorem txnIsVar (s : ByteArray) (w : World) (hs : s.size ≤ 2000000) (h : KW w) (hm : MLen w) :
    Calls Tryd.prog 43 #[.string s] w fun e w' => e = .returned (.bool (varB s)) ∧ Below w.heap.size w w' := by
  have HK := Lib.hid h
  have C0 := Lib.hid (cutAt 91 s w hs hm)
  have hps := preB_size 91 s
  have hqs := posB_size 91 s
  have hle := ix_le (b := 91) s.data.toList
  rw [← Lib.size_eq] at hle
  have C1 := Lib.hid (fun w h => lexName s w (by unfold maxLen; omega) h)
  have C2 := Lib.hid (fun w h => lexName (preB 91 s) w (by unfold maxLen; omega) h)
  have hq : (posB 91 s).size ≤ 2000000 := by omega
  have HV : Hid (varB s = if hasB 91 s = true then nameB (preB 91 s) && (decide ((posB 91 s).size = 2) && (decide (48 ≤ byt (posB 91 s) 0) && (decide (byt (posB 91 s) 0 < 56) && decide (byt (posB 91 s) 1 = 93)))) else nameB s) := Lib.hid (by rw [← varP_eq]; rfl)
  generalize varB s = r at *
  generalize hasB 91 s = hh at *
  generalize nameB s = n1 at *
  generalize nameB (preB 91 s) = n2 at *
  generalize preB 91 s = ps at *
  generalize posB 91 s = qs at *
  clear h hm hps hqs hle
  cases hh
  · have HV2 : Hid (r = n1) := Lib.hid (by rw [HV.out]; rfl)
    clear HV hq
    go_enter Tryd.func43, Tryd.ntmps43
    go_wp2_with fail
    refine C0.out.mono ?_; rintro e w1 ⟨rfl, hb⟩
    have HB := Lib.hid hb
    clear hb
    go_wp2_with fail
    refine (C1.out _ (HK.out.below HB.out)).mono ?_; rintro e w2 ⟨rfl, hb⟩
    replace HB := Lib.hid (below_step HB.out hb)
    clear hb
    go_wp2_with fail
    go_ret
    exact ⟨retb (by rw [HV2.out]), HB.out⟩
  · cases n2
    · have HV2 : Hid (r = false) := Lib.hid (by rw [HV.out]; rfl)
      clear HV hq
      go_enter Tryd.func43, Tryd.ntmps43
      go_wp2_with fail
      refine C0.out.mono ?_; rintro e w1 ⟨rfl, hb⟩
      have HB := Lib.hid hb
      clear hb
      go_wp2_with fail
      refine (C2.out _ (HK.out.below HB.out)).mono ?_; rintro e w2 ⟨rfl, hb⟩
      replace HB := Lib.hid (below_step HB.out hb)
      clear hb
      go_wp2_with fail
      go_ret
      exact ⟨retb (by rw [HV2.out]), HB.out⟩
    · by_cases h2 : qs.size = 2
      · have f2 : ((qs.size : Int) == 2) = true := by simpa using (by omega : (qs.size : Int) = 2)
        have l0 : 0 < qs.size := by omega
        have l1 : 1 < qs.size := by omega
        have b0 := byt_at qs 0 l0
        have b1 := byt_at qs 1 l1
        have HV2 : Hid (r = (decide (48 ≤ byt qs 0) && (decide (byt qs 0 < 56) && decide (byt qs 1 = 93)))) := Lib.hid (by rw [HV.out, decide_eq_true h2]; rfl)
        rw [b0, b1] at HV2
        clear HV hq h2 b0 b1
        have key : ((48 : Int) ≤ (qs[0].toNat : Int) ∧ (qs[0].toNat : Int) < 56 ∧ r = decide ((qs[1].toNat : Int) = 93)) ∨ ((48 : Int) ≤ (qs[0].toNat : Int) ∧ ¬ (qs[0].toNat : Int) < 56 ∧ r = false) ∨ (¬ (48 : Int) ≤ (qs[0].toNat : Int) ∧ r = false) := by
          rw [HV2.out]
          by_cases k1 : (48 : Int) ≤ (qs[0].toNat : Int)
          · by_cases k2 : (qs[0].toNat : Int) < 56
            · left; rw [decide_eq_true k1, decide_eq_true k2]; exact ⟨k1, k2, rfl⟩
            · right; left; rw [decide_eq_true k1, decide_eq_false k2]; exact ⟨k1, k2, rfl⟩
          · right; right; rw [decide_eq_false k1]; exact ⟨k1, rfl⟩
        clear HV2
        rcases key with ⟨k1, k2, hr⟩ | ⟨k1, k2, hr⟩ | ⟨k1, hr⟩
        all_goals
          have HR := Lib.hid hr
          clear hr
          go_enter Tryd.func43, Tryd.ntmps43
          go_wp2_with fail
          refine C0.out.mono ?_; rintro e w1 ⟨rfl, hb⟩
          have HB := Lib.hid hb
          clear hb
          go_wp2_with fail
          refine (C2.out _ (HK.out.below HB.out)).mono ?_; rintro e w2 ⟨rfl, hb⟩
          replace HB := Lib.hid (below_step HB.out hb)
          clear hb
          go_wp2_with fail
          go_ret
          exact ⟨retb (by rw [HR.out] <;> first | rfl | (rw [Bool.eq_iff_iff]; simp)), HB.out⟩
      · have f2 : ((qs.size : Int) == 2) = false := by
          have : ¬ (qs.size : Int) = 2 := by omega
          simpa using this
        have HV2 : Hid (r = false) := Lib.hid (by rw [HV.out, decide_eq_false h2]; rfl)
        clear HV h2
        go_enter Tryd.func43, Tryd.ntmps43
        go_wp2_with fail
        refine C0.out.mono ?_; rintro e w1 ⟨rfl, hb⟩
        have HB := Lib.hid hb
        clear hb
        go_wp2_with fail
        refine (C2.out _ (HK.out.below HB.out)).mono ?_; rintro e w2 ⟨rfl, hb⟩
        replace HB := Lib.hid (below_step HB.out hb)
        clear hb
        go_wp2_with fail
        go_ret
        exact ⟨retb (by rw [HV2.out]), HB.out⟩

end Go.Proofs.YtbjcbndmafddoaaDoor
