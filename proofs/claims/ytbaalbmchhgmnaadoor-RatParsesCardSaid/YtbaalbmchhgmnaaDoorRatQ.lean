/-
  Contracts of Parse of rational numbers: the reference's, and rat's.
-/
import Derived.Test.YtbaalbmchhgmnaaDoorRatP
import Derived.Test.YtbaalbmchhgmnaaDoorShape
import Derived.Test.YtbaalbmchhgmnaaDoorParse
import Derived.Test.YtbaalbmchhgmnaaDoorShelf
namespace Go.Proofs.YtbaalbmchhgmnaaDoor
open Go.RowKit
set_option linter.unusedVariables false
set_option linter.unusedSimpArgs false

theorem pPart_size (s : ByteArray) : (pPart s).size ≤ s.size := by
  unfold pPart; rw [Lib.size_eq, Lib.size_eq]; simp; omega
theorem qPart_size (s : ByteArray) : (qPart s).size = s.size - (sl s.data.toList + 1) := by
  unfold qPart; rw [Lib.size_eq, Lib.size_eq]; simp
theorem neg_q (s : ByteArray) : isNeg (qPart s) = decide (sl s.data.toList + 1 < s.size ∧ byt s (sl s.data.toList + 1) = 45) := by
  unfold isNeg
  rw [qPart_size]
  have e : byt (qPart s) 0 = byt s (sl s.data.toList + 1) := by
    unfold byt qPart
    simp [List.getD_eq_getElem?_getD, List.getElem?_drop]
  rw [e]
  exact decide_eq_decide.2 ⟨fun h => ⟨by omega, h.2⟩, fun h => ⟨by omega, h.2⟩⟩
theorem hasPrefix_neg (s : ByteArray) : Lib.hasPrefix s.data.toList [45] = isNeg s := by
  unfold isNeg Lib.hasPrefix
  match hl : s.data.toList with
  | [] =>
    have : s.size = 0 := by rw [Lib.size_eq, hl]; rfl
    simp [this]
  | x :: r =>
    have h1 : s.size = r.length + 1 := by rw [Lib.size_eq, hl]; rfl
    have h2 : byt s 0 = (x.toNat : Int) := by unfold byt; rw [hl]; rfl
    rw [h1, h2]
    by_cases e : x = 45
    · subst e; simp [List.isPrefixOf]
    · have : ¬ (x.toNat : Int) = 45 := fun h => e (UInt8.toNat_inj.1 (by simpa using (by omega : x.toNat = 45)))
      simp [List.isPrefixOf, this]
      exact fun h => absurd h.symm e
theorem cut_parts (s : ByteArray) : Lib.cut s.data.toList [47] = ((pPart s).data.toList, (qPart s).data.toList, decide (hasS s)) := by
  rw [cut_sl]
  by_cases h : hasS s
  · rw [if_pos (show sl s.data.toList < s.data.toList.length from h), decide_eq_true h]; rfl
  · have h2 : ¬ sl s.data.toList < s.data.toList.length := h
    have e : sl s.data.toList = s.data.toList.length := by have := sl_le s.data.toList; omega
    rw [if_neg h2, decide_eq_false h]
    unfold pPart qPart
    rw [e]; simp only [List.take_length, List.drop_eq_nil_of_le (Nat.le_succ _)]
theorem par_head (s : ByteArray) : (sl s.data.toList = s.size ∧ parD s = 1 ∧ parF s = 0 ∧ decide (hasS s) = false) ∨ (sl s.data.toList < s.size ∧ parD s = parV (qPart s) ∧ decide (hasS s) = true ∧ ((isNeg (qPart s) = true ∧ parF s = 5) ∨ (isNeg (qPart s) = false ∧ parF s = parE (qPart s)))) := by
  have hS : hasS s ↔ sl s.data.toList < s.size := by unfold hasS; rw [← Lib.size_eq]
  have hl := sl_le s.data.toList
  rw [← Lib.size_eq] at hl
  unfold parD parF
  by_cases h : hasS s
  · right
    refine ⟨hS.1 h, by rw [if_pos h], decide_eq_true h, ?_⟩
    rw [if_pos h]
    cases hn : isNeg (qPart s)
    · right; exact ⟨rfl, by rw [if_neg (by decide)]⟩
    · left; exact ⟨rfl, by rw [if_pos rfl]⟩
  · left
    have h2 : ¬ sl s.data.toList < s.size := fun x => h (hS.2 x)
    exact ⟨by omega, by rw [if_neg h], by rw [if_neg h], decide_eq_false h⟩

set_option maxRecDepth 100000 in
set_option maxHeartbeats 16000000 in
theorem refParse05 (s : ByteArray) (w : World) (hs : s.size ≤ 1000) :
    Calls Tryd.prog 33 #[.string s] w fun e w' => e = ret3r (parR s) ∧ Below w.heap.size w w' := by
  have hm : s.size ≤ maxLen := by unfold maxLen; omega
  have hp : (pPart s).size ≤ maxLen := by have := pPart_size s; unfold maxLen at *; omega
  have hq : (qPart s).size ≤ maxLen := by have := qPart_size s; unfold maxLen at *; omega
  have hk1 := sl_le s.data.toList
  rw [← Lib.size_eq] at hk1
  have hi1 := par_I64 (pPart s)
  have hi2 : I64 (parD s) := by unfold parD; split; exact par_I64 _; unfold I64; omega
  have ways := parR_ways s
  have hneg := neg_q s
  have C0 := Lib.hid (fun w => refSlash s w hm)
  have P1 : Hid (∀ w, Calls Tryd.prog 53 #[.string (s.extract 0 (sl s.data.toList))] w fun e w' => e = .returned (.tuple #[.int .i64 (parV (pPart s)), .int .i64 (parE (pPart s))]) ∧ w = w') := Lib.hid fun w => by rw [extract_p]; exact refParse _ w hp
  have P2 : Hid (∀ w, Calls Tryd.prog 53 #[.string (s.extract (sl s.data.toList + 1) s.size)] w fun e w' => e = .returned (.tuple #[.int .i64 (parV (qPart s)), .int .i64 (parE (qPart s))]) ∧ w = w') := Lib.hid fun w => by rw [extract_q]; exact refParse _ w hq
  have FM := Lib.hid (fun w => refFormat05 (parV (pPart s)) (parD s) w hi1 hi2)
  have hhead := par_head s
  obtain ⟨R, hR⟩ : ∃ R, R = parR s := ⟨_, rfl⟩
  rw [← hR] at ways ⊢
  generalize parV (pPart s) = pv at *
  generalize parE (pPart s) = pe at *
  generalize parD s = pd at *
  generalize parF s = pf at *
  generalize parV (qPart s) = qv at *
  generalize parE (qPart s) = qe at *
  generalize isNeg (qPart s) = ng at *
  generalize sl s.data.toList = k at *
  clear hR hi1 hi2 hp hq
  clear hm
  rcases hhead with ⟨hk2, rfl, rfl, hb1⟩ | ⟨hk2, rfl, hb1, ⟨hn1, rfl⟩ | ⟨hn1, rfl⟩⟩
  · skip
    have hk3 : ¬ k < s.size := by omega
    clear hk2
    clear hneg
    rcases ways with ⟨rfl, hR⟩ | ⟨rfl, hf, hR⟩ | ⟨rfl, hf, hR⟩ | ⟨rfl, hf, hR⟩ | ⟨rfl, hf, hR⟩ | ⟨rfl, hf, hfm, hR⟩ | ⟨rfl, hf, hfm, hR⟩
    · skip
      have HR := Lib.hid hR
      clear hR
      go_enter Tryd.func33, Tryd.ntmps33
      go_wp2_with fail
      have XR := Lib.hid (box_new (W := w) (g := w.heap.size) 23 #[.int .i64 0, .int .i64 0] (by simp))
      have HB := Lib.hid (below_alloc w (.cells #[.int .i64 0, .int .i64 0] 23))
      generalize w.alloc (.cells #[.int .i64 0, .int .i64 0] 23) = w0 at *
      refine (C0.out _).mono ?_; rintro e w1 ⟨rfl, rfl⟩
      go_wp2_with fail
      refine (P1.out _).mono ?_; rintro e w2 ⟨rfl, rfl⟩
      have XR_0 := XR.out.at_ 0 _ rfl
      have XR_1 := XR.out.at_ 1 _ rfl
      have XR_z0 := XR.out.frozen 0
      have XR_z1 := XR.out.frozen 1
      go_wp2_with fail
      refine bodyPost_ret (v := .tuple #[.agg #[.int .i64 0, .int .i64 0], .int .i64 5]) (by simp [results, Tryd.results33, go_sem, XR_0, XR_1]) rfl ⟨by rw [HR.out]; rfl, ?_⟩
      exact (HB.out.setCell (p := ⟨w.heap.size, 0, none⟩) (Nat.le_refl _) _).setCell (p := ⟨w.heap.size, 1, none⟩) (Nat.le_refl _) _
    · first | (cases hf; done) | (exact absurd hf (by decide))
    · first | (cases hf; done) | (exact absurd hf (by decide))
    · skip
      clear hf
      have HR := Lib.hid hR
      clear hR
      go_enter Tryd.func33, Tryd.ntmps33
      go_wp2_with fail
      have XR := Lib.hid (box_new (W := w) (g := w.heap.size) 23 #[.int .i64 0, .int .i64 0] (by simp))
      have HB := Lib.hid (below_alloc w (.cells #[.int .i64 0, .int .i64 0] 23))
      generalize w.alloc (.cells #[.int .i64 0, .int .i64 0] 23) = w0 at *
      refine (C0.out _).mono ?_; rintro e w1 ⟨rfl, rfl⟩
      go_wp2_with fail
      refine (P1.out _).mono ?_; rintro e w2 ⟨rfl, rfl⟩
      have XR_0 := XR.out.at_ 0 _ rfl
      have XR_1 := XR.out.at_ 1 _ rfl
      have XR_z0 := XR.out.frozen 0
      have XR_z1 := XR.out.frozen 1
      go_wp2_with fail
      refine bodyPost_ret (v := .tuple #[.agg #[.int .i64 0, .int .i64 0], .int .i64 3]) (by simp [results, Tryd.results33, go_sem, XR_0, XR_1]) rfl ⟨by rw [HR.out]; rfl, ?_⟩
      exact (HB.out.setCell (p := ⟨w.heap.size, 0, none⟩) (Nat.le_refl _) _).setCell (p := ⟨w.heap.size, 1, none⟩) (Nat.le_refl _) _
    · first | (cases hf; done) | (exact absurd hf (by decide))
    · skip
      clear hf
      have HR := Lib.hid hR
      clear hR
      rw [hfm] at FM
      clear hfm
      go_enter Tryd.func33, Tryd.ntmps33
      go_wp2_with fail
      have XR := Lib.hid (box_new (W := w) (g := w.heap.size) 23 #[.int .i64 0, .int .i64 0] (by simp))
      have HB := Lib.hid (below_alloc w (.cells #[.int .i64 0, .int .i64 0] 23))
      generalize w.alloc (.cells #[.int .i64 0, .int .i64 0] 23) = w0 at *
      refine (C0.out _).mono ?_; rintro e w1 ⟨rfl, rfl⟩
      go_wp2_with fail
      refine (P1.out _).mono ?_; rintro e w2 ⟨rfl, rfl⟩
      go_wp2_with fail
      have XV := Lib.hid (Box.new w0 23 #[.int .i64 pv, .int .i64 1])
      have hba := below_alloc w0 (.cells #[.int .i64 pv, .int .i64 1] 23)
      replace XR := Lib.hid (XR.out.below hba)
      replace HB := Lib.hid (below_step HB.out hba)
      clear hba
      refine (FM.out _).mono ?_; rintro e w5 ⟨rfl, hb⟩
      replace XR := Lib.hid (XR.out.below hb)
      replace XV := Lib.hid (XV.out.below hb)
      replace HB := Lib.hid (below_step HB.out hb)
      clear hb
      have XV_0 := XV.out.at_ 0 _ rfl
      have XV_1 := XV.out.at_ 1 _ rfl
      have XR_0 := XR.out.at_ 0 _ rfl
      have XR_1 := XR.out.at_ 1 _ rfl
      have XR_z0 := XR.out.frozen 0
      have XR_z1 := XR.out.frozen 1
      go_wp2_with fail
      refine bodyPost_ret (v := .tuple #[.agg #[.int .i64 pv, .int .i64 1], .int .i64 0]) (by simp [results, Tryd.results33, go_sem, XR_0, XR_1]) rfl ⟨by rw [HR.out]; rfl, ?_⟩
      exact (HB.out.setCell (p := ⟨w.heap.size, 0, none⟩) (Nat.le_refl _) _).setCell (p := ⟨w.heap.size, 1, none⟩) (Nat.le_refl _) _
    · skip
      clear hf
      have HR := Lib.hid hR
      clear hR
      obtain ⟨fm1, fm2⟩ := str_ne hfm
      generalize ratFmt _ _ = q at *
      clear hfm
      go_enter Tryd.func33, Tryd.ntmps33
      go_wp2_with fail
      have XR := Lib.hid (box_new (W := w) (g := w.heap.size) 23 #[.int .i64 0, .int .i64 0] (by simp))
      have HB := Lib.hid (below_alloc w (.cells #[.int .i64 0, .int .i64 0] 23))
      generalize w.alloc (.cells #[.int .i64 0, .int .i64 0] 23) = w0 at *
      refine (C0.out _).mono ?_; rintro e w1 ⟨rfl, rfl⟩
      go_wp2_with fail
      refine (P1.out _).mono ?_; rintro e w2 ⟨rfl, rfl⟩
      go_wp2_with fail
      have XV := Lib.hid (Box.new w0 23 #[.int .i64 pv, .int .i64 1])
      have hba := below_alloc w0 (.cells #[.int .i64 pv, .int .i64 1] 23)
      replace XR := Lib.hid (XR.out.below hba)
      replace HB := Lib.hid (below_step HB.out hba)
      clear hba
      refine (FM.out _).mono ?_; rintro e w5 ⟨rfl, hb⟩
      replace XR := Lib.hid (XR.out.below hb)
      replace XV := Lib.hid (XV.out.below hb)
      replace HB := Lib.hid (below_step HB.out hb)
      clear hb
      have XV_0 := XV.out.at_ 0 _ rfl
      have XV_1 := XV.out.at_ 1 _ rfl
      have XR_0 := XR.out.at_ 0 _ rfl
      have XR_1 := XR.out.at_ 1 _ rfl
      have XR_z0 := XR.out.frozen 0
      have XR_z1 := XR.out.frozen 1
      go_wp2_with fail
      refine bodyPost_ret (v := .tuple #[.agg #[.int .i64 0, .int .i64 0], .int .i64 5]) (by simp [results, Tryd.results33, go_sem, XR_0, XR_1]) rfl ⟨by rw [HR.out]; rfl, ?_⟩
      exact (HB.out.setCell (p := ⟨w.heap.size, 0, none⟩) (Nat.le_refl _) _).setCell (p := ⟨w.heap.size, 1, none⟩) (Nat.le_refl _) _
  · skip
    rw [hn1] at hneg
    have hneg2 := of_decide_eq_true hneg.symm
    obtain ⟨hk3, hk4⟩ := hneg2
    rw [byt_at s _ hk3] at hk4
    have f45 : ((s[k + 1].toNat : Int) == 45) = true := by simpa using hk4
    clear hneg hn1 hk4
    have hk5 : (k : Int) + 1 ≤ s.size := by omega
    rcases ways with ⟨rfl, hR⟩ | ⟨rfl, hf, hR⟩ | ⟨rfl, hf, hR⟩ | ⟨rfl, hf, hR⟩ | ⟨rfl, hf, hR⟩ | ⟨rfl, hf, hfm, hR⟩ | ⟨rfl, hf, hfm, hR⟩
    · skip
      have HR := Lib.hid hR
      clear hR
      have hk6 : (k : Int) + 1 < s.size := by omega
      go_enter Tryd.func33, Tryd.ntmps33
      go_wp2_with fail
      have XR := Lib.hid (box_new (W := w) (g := w.heap.size) 23 #[.int .i64 0, .int .i64 0] (by simp))
      have HB := Lib.hid (below_alloc w (.cells #[.int .i64 0, .int .i64 0] 23))
      generalize w.alloc (.cells #[.int .i64 0, .int .i64 0] 23) = w0 at *
      refine (C0.out _).mono ?_; rintro e w1 ⟨rfl, rfl⟩
      go_wp2_with fail
      refine (P1.out _).mono ?_; rintro e w2 ⟨rfl, rfl⟩
      go_wp2_with fail
      refine (P2.out _).mono ?_; rintro e w3 ⟨rfl, rfl⟩
      have XR_0 := XR.out.at_ 0 _ rfl
      have XR_1 := XR.out.at_ 1 _ rfl
      have XR_z0 := XR.out.frozen 0
      have XR_z1 := XR.out.frozen 1
      go_wp2_with fail
      refine bodyPost_ret (v := .tuple #[.agg #[.int .i64 0, .int .i64 0], .int .i64 5]) (by simp [results, Tryd.results33, go_sem, XR_0, XR_1]) rfl ⟨by rw [HR.out]; rfl, ?_⟩
      exact (HB.out.setCell (p := ⟨w.heap.size, 0, none⟩) (Nat.le_refl _) _).setCell (p := ⟨w.heap.size, 1, none⟩) (Nat.le_refl _) _
    · skip
      clear hf
      have HR := Lib.hid hR
      clear hR
      have hk6 : (k : Int) + 1 < s.size := by omega
      go_enter Tryd.func33, Tryd.ntmps33
      go_wp2_with fail
      have XR := Lib.hid (box_new (W := w) (g := w.heap.size) 23 #[.int .i64 0, .int .i64 0] (by simp))
      have HB := Lib.hid (below_alloc w (.cells #[.int .i64 0, .int .i64 0] 23))
      generalize w.alloc (.cells #[.int .i64 0, .int .i64 0] 23) = w0 at *
      refine (C0.out _).mono ?_; rintro e w1 ⟨rfl, rfl⟩
      go_wp2_with fail
      refine (P1.out _).mono ?_; rintro e w2 ⟨rfl, rfl⟩
      go_wp2_with fail
      refine (P2.out _).mono ?_; rintro e w3 ⟨rfl, rfl⟩
      have XR_0 := XR.out.at_ 0 _ rfl
      have XR_1 := XR.out.at_ 1 _ rfl
      have XR_z0 := XR.out.frozen 0
      have XR_z1 := XR.out.frozen 1
      go_wp2_with fail
      refine bodyPost_ret (v := .tuple #[.agg #[.int .i64 0, .int .i64 0], .int .i64 5]) (by simp [results, Tryd.results33, go_sem, XR_0, XR_1]) rfl ⟨by rw [HR.out]; rfl, ?_⟩
      exact (HB.out.setCell (p := ⟨w.heap.size, 0, none⟩) (Nat.le_refl _) _).setCell (p := ⟨w.heap.size, 1, none⟩) (Nat.le_refl _) _
    · skip
      clear hf
      have HR := Lib.hid hR
      clear hR
      have hk6 : (k : Int) + 1 < s.size := by omega
      go_enter Tryd.func33, Tryd.ntmps33
      go_wp2_with fail
      have XR := Lib.hid (box_new (W := w) (g := w.heap.size) 23 #[.int .i64 0, .int .i64 0] (by simp))
      have HB := Lib.hid (below_alloc w (.cells #[.int .i64 0, .int .i64 0] 23))
      generalize w.alloc (.cells #[.int .i64 0, .int .i64 0] 23) = w0 at *
      refine (C0.out _).mono ?_; rintro e w1 ⟨rfl, rfl⟩
      go_wp2_with fail
      refine (P1.out _).mono ?_; rintro e w2 ⟨rfl, rfl⟩
      go_wp2_with fail
      refine (P2.out _).mono ?_; rintro e w3 ⟨rfl, rfl⟩
      have XR_0 := XR.out.at_ 0 _ rfl
      have XR_1 := XR.out.at_ 1 _ rfl
      have XR_z0 := XR.out.frozen 0
      have XR_z1 := XR.out.frozen 1
      go_wp2_with fail
      refine bodyPost_ret (v := .tuple #[.agg #[.int .i64 0, .int .i64 0], .int .i64 5]) (by simp [results, Tryd.results33, go_sem, XR_0, XR_1]) rfl ⟨by rw [HR.out]; rfl, ?_⟩
      exact (HB.out.setCell (p := ⟨w.heap.size, 0, none⟩) (Nat.le_refl _) _).setCell (p := ⟨w.heap.size, 1, none⟩) (Nat.le_refl _) _
    · first | (cases hf; done) | (exact absurd hf (by decide))
    · first | (cases hf; done) | (exact absurd hf (by decide))
    · first | (cases hf; done) | (exact absurd hf (by decide))
    · first | (cases hf; done) | (exact absurd hf (by decide))
  · skip
    rw [hn1] at hneg
    have hneg2 := of_decide_eq_false hneg.symm
    clear hneg hn1
    have hk5 : (k : Int) + 1 ≤ s.size := by omega
    rcases ways with ⟨rfl, hR⟩ | ⟨rfl, hf, hR⟩ | ⟨rfl, hf, hR⟩ | ⟨rfl, hf, hR⟩ | ⟨rfl, hf, hR⟩ | ⟨rfl, hf, hfm, hR⟩ | ⟨rfl, hf, hfm, hR⟩
    · skip
      have HR := Lib.hid hR
      clear hR
      by_cases hk3 : k + 1 < s.size
      · skip
        have f45 : ((s[k + 1].toNat : Int) == 45) = false := by
          have : ¬ byt s (k + 1) = 45 := fun h => hneg2 ⟨hk3, h⟩
          rw [byt_at s _ hk3] at this; simpa using this
        clear hneg2
        have hk6 : (k : Int) + 1 < s.size := by omega
        go_enter Tryd.func33, Tryd.ntmps33
        go_wp2_with fail
        have XR := Lib.hid (box_new (W := w) (g := w.heap.size) 23 #[.int .i64 0, .int .i64 0] (by simp))
        have HB := Lib.hid (below_alloc w (.cells #[.int .i64 0, .int .i64 0] 23))
        generalize w.alloc (.cells #[.int .i64 0, .int .i64 0] 23) = w0 at *
        refine (C0.out _).mono ?_; rintro e w1 ⟨rfl, rfl⟩
        go_wp2_with fail
        refine (P1.out _).mono ?_; rintro e w2 ⟨rfl, rfl⟩
        go_wp2_with fail
        refine (P2.out _).mono ?_; rintro e w3 ⟨rfl, rfl⟩
        have XR_0 := XR.out.at_ 0 _ rfl
        have XR_1 := XR.out.at_ 1 _ rfl
        have XR_z0 := XR.out.frozen 0
        have XR_z1 := XR.out.frozen 1
        go_wp2_with fail
        refine bodyPost_ret (v := .tuple #[.agg #[.int .i64 0, .int .i64 0], .int .i64 5]) (by simp [results, Tryd.results33, go_sem, XR_0, XR_1]) rfl ⟨by rw [HR.out]; rfl, ?_⟩
        exact (HB.out.setCell (p := ⟨w.heap.size, 0, none⟩) (Nat.le_refl _) _).setCell (p := ⟨w.heap.size, 1, none⟩) (Nat.le_refl _) _
      · skip
        clear hneg2
        have hk6 : ¬ (k : Int) + 1 < s.size := by omega
        go_enter Tryd.func33, Tryd.ntmps33
        go_wp2_with fail
        have XR := Lib.hid (box_new (W := w) (g := w.heap.size) 23 #[.int .i64 0, .int .i64 0] (by simp))
        have HB := Lib.hid (below_alloc w (.cells #[.int .i64 0, .int .i64 0] 23))
        generalize w.alloc (.cells #[.int .i64 0, .int .i64 0] 23) = w0 at *
        refine (C0.out _).mono ?_; rintro e w1 ⟨rfl, rfl⟩
        go_wp2_with fail
        refine (P1.out _).mono ?_; rintro e w2 ⟨rfl, rfl⟩
        go_wp2_with fail
        refine (P2.out _).mono ?_; rintro e w3 ⟨rfl, rfl⟩
        have XR_0 := XR.out.at_ 0 _ rfl
        have XR_1 := XR.out.at_ 1 _ rfl
        have XR_z0 := XR.out.frozen 0
        have XR_z1 := XR.out.frozen 1
        go_wp2_with fail
        refine bodyPost_ret (v := .tuple #[.agg #[.int .i64 0, .int .i64 0], .int .i64 5]) (by simp [results, Tryd.results33, go_sem, XR_0, XR_1]) rfl ⟨by rw [HR.out]; rfl, ?_⟩
        exact (HB.out.setCell (p := ⟨w.heap.size, 0, none⟩) (Nat.le_refl _) _).setCell (p := ⟨w.heap.size, 1, none⟩) (Nat.le_refl _) _
    · skip
      subst hf
      have HR := Lib.hid hR
      clear hR
      by_cases hk3 : k + 1 < s.size
      · skip
        have f45 : ((s[k + 1].toNat : Int) == 45) = false := by
          have : ¬ byt s (k + 1) = 45 := fun h => hneg2 ⟨hk3, h⟩
          rw [byt_at s _ hk3] at this; simpa using this
        clear hneg2
        have hk6 : (k : Int) + 1 < s.size := by omega
        go_enter Tryd.func33, Tryd.ntmps33
        go_wp2_with fail
        have XR := Lib.hid (box_new (W := w) (g := w.heap.size) 23 #[.int .i64 0, .int .i64 0] (by simp))
        have HB := Lib.hid (below_alloc w (.cells #[.int .i64 0, .int .i64 0] 23))
        generalize w.alloc (.cells #[.int .i64 0, .int .i64 0] 23) = w0 at *
        refine (C0.out _).mono ?_; rintro e w1 ⟨rfl, rfl⟩
        go_wp2_with fail
        refine (P1.out _).mono ?_; rintro e w2 ⟨rfl, rfl⟩
        go_wp2_with fail
        refine (P2.out _).mono ?_; rintro e w3 ⟨rfl, rfl⟩
        have XR_0 := XR.out.at_ 0 _ rfl
        have XR_1 := XR.out.at_ 1 _ rfl
        have XR_z0 := XR.out.frozen 0
        have XR_z1 := XR.out.frozen 1
        go_wp2_with fail
        refine bodyPost_ret (v := .tuple #[.agg #[.int .i64 0, .int .i64 0], .int .i64 5]) (by simp [results, Tryd.results33, go_sem, XR_0, XR_1]) rfl ⟨by rw [HR.out]; rfl, ?_⟩
        exact (HB.out.setCell (p := ⟨w.heap.size, 0, none⟩) (Nat.le_refl _) _).setCell (p := ⟨w.heap.size, 1, none⟩) (Nat.le_refl _) _
      · skip
        clear hneg2
        have hk6 : ¬ (k : Int) + 1 < s.size := by omega
        go_enter Tryd.func33, Tryd.ntmps33
        go_wp2_with fail
        have XR := Lib.hid (box_new (W := w) (g := w.heap.size) 23 #[.int .i64 0, .int .i64 0] (by simp))
        have HB := Lib.hid (below_alloc w (.cells #[.int .i64 0, .int .i64 0] 23))
        generalize w.alloc (.cells #[.int .i64 0, .int .i64 0] 23) = w0 at *
        refine (C0.out _).mono ?_; rintro e w1 ⟨rfl, rfl⟩
        go_wp2_with fail
        refine (P1.out _).mono ?_; rintro e w2 ⟨rfl, rfl⟩
        go_wp2_with fail
        refine (P2.out _).mono ?_; rintro e w3 ⟨rfl, rfl⟩
        have XR_0 := XR.out.at_ 0 _ rfl
        have XR_1 := XR.out.at_ 1 _ rfl
        have XR_z0 := XR.out.frozen 0
        have XR_z1 := XR.out.frozen 1
        go_wp2_with fail
        refine bodyPost_ret (v := .tuple #[.agg #[.int .i64 0, .int .i64 0], .int .i64 5]) (by simp [results, Tryd.results33, go_sem, XR_0, XR_1]) rfl ⟨by rw [HR.out]; rfl, ?_⟩
        exact (HB.out.setCell (p := ⟨w.heap.size, 0, none⟩) (Nat.le_refl _) _).setCell (p := ⟨w.heap.size, 1, none⟩) (Nat.le_refl _) _
    · skip
      subst hf
      have HR := Lib.hid hR
      clear hR
      by_cases hk3 : k + 1 < s.size
      · skip
        have f45 : ((s[k + 1].toNat : Int) == 45) = false := by
          have : ¬ byt s (k + 1) = 45 := fun h => hneg2 ⟨hk3, h⟩
          rw [byt_at s _ hk3] at this; simpa using this
        clear hneg2
        have hk6 : (k : Int) + 1 < s.size := by omega
        go_enter Tryd.func33, Tryd.ntmps33
        go_wp2_with fail
        have XR := Lib.hid (box_new (W := w) (g := w.heap.size) 23 #[.int .i64 0, .int .i64 0] (by simp))
        have HB := Lib.hid (below_alloc w (.cells #[.int .i64 0, .int .i64 0] 23))
        generalize w.alloc (.cells #[.int .i64 0, .int .i64 0] 23) = w0 at *
        refine (C0.out _).mono ?_; rintro e w1 ⟨rfl, rfl⟩
        go_wp2_with fail
        refine (P1.out _).mono ?_; rintro e w2 ⟨rfl, rfl⟩
        go_wp2_with fail
        refine (P2.out _).mono ?_; rintro e w3 ⟨rfl, rfl⟩
        have XR_0 := XR.out.at_ 0 _ rfl
        have XR_1 := XR.out.at_ 1 _ rfl
        have XR_z0 := XR.out.frozen 0
        have XR_z1 := XR.out.frozen 1
        go_wp2_with fail
        refine bodyPost_ret (v := .tuple #[.agg #[.int .i64 0, .int .i64 0], .int .i64 5]) (by simp [results, Tryd.results33, go_sem, XR_0, XR_1]) rfl ⟨by rw [HR.out]; rfl, ?_⟩
        exact (HB.out.setCell (p := ⟨w.heap.size, 0, none⟩) (Nat.le_refl _) _).setCell (p := ⟨w.heap.size, 1, none⟩) (Nat.le_refl _) _
      · skip
        clear hneg2
        have hk6 : ¬ (k : Int) + 1 < s.size := by omega
        go_enter Tryd.func33, Tryd.ntmps33
        go_wp2_with fail
        have XR := Lib.hid (box_new (W := w) (g := w.heap.size) 23 #[.int .i64 0, .int .i64 0] (by simp))
        have HB := Lib.hid (below_alloc w (.cells #[.int .i64 0, .int .i64 0] 23))
        generalize w.alloc (.cells #[.int .i64 0, .int .i64 0] 23) = w0 at *
        refine (C0.out _).mono ?_; rintro e w1 ⟨rfl, rfl⟩
        go_wp2_with fail
        refine (P1.out _).mono ?_; rintro e w2 ⟨rfl, rfl⟩
        go_wp2_with fail
        refine (P2.out _).mono ?_; rintro e w3 ⟨rfl, rfl⟩
        have XR_0 := XR.out.at_ 0 _ rfl
        have XR_1 := XR.out.at_ 1 _ rfl
        have XR_z0 := XR.out.frozen 0
        have XR_z1 := XR.out.frozen 1
        go_wp2_with fail
        refine bodyPost_ret (v := .tuple #[.agg #[.int .i64 0, .int .i64 0], .int .i64 5]) (by simp [results, Tryd.results33, go_sem, XR_0, XR_1]) rfl ⟨by rw [HR.out]; rfl, ?_⟩
        exact (HB.out.setCell (p := ⟨w.heap.size, 0, none⟩) (Nat.le_refl _) _).setCell (p := ⟨w.heap.size, 1, none⟩) (Nat.le_refl _) _
    · skip
      have HR := Lib.hid hR
      clear hR
      by_cases hk3 : k + 1 < s.size
      · skip
        have f45 : ((s[k + 1].toNat : Int) == 45) = false := by
          have : ¬ byt s (k + 1) = 45 := fun h => hneg2 ⟨hk3, h⟩
          rw [byt_at s _ hk3] at this; simpa using this
        clear hneg2
        have hk6 : (k : Int) + 1 < s.size := by omega
        go_enter Tryd.func33, Tryd.ntmps33
        go_wp2_with fail
        have XR := Lib.hid (box_new (W := w) (g := w.heap.size) 23 #[.int .i64 0, .int .i64 0] (by simp))
        have HB := Lib.hid (below_alloc w (.cells #[.int .i64 0, .int .i64 0] 23))
        generalize w.alloc (.cells #[.int .i64 0, .int .i64 0] 23) = w0 at *
        refine (C0.out _).mono ?_; rintro e w1 ⟨rfl, rfl⟩
        go_wp2_with fail
        refine (P1.out _).mono ?_; rintro e w2 ⟨rfl, rfl⟩
        go_wp2_with fail
        refine (P2.out _).mono ?_; rintro e w3 ⟨rfl, rfl⟩
        have XR_0 := XR.out.at_ 0 _ rfl
        have XR_1 := XR.out.at_ 1 _ rfl
        have XR_z0 := XR.out.frozen 0
        have XR_z1 := XR.out.frozen 1
        go_wp2_with fail
        refine bodyPost_ret (v := .tuple #[.agg #[.int .i64 0, .int .i64 0], .int .i64 3]) (by simp [results, Tryd.results33, go_sem, XR_0, XR_1]) rfl ⟨by rw [HR.out]; rfl, ?_⟩
        exact (HB.out.setCell (p := ⟨w.heap.size, 0, none⟩) (Nat.le_refl _) _).setCell (p := ⟨w.heap.size, 1, none⟩) (Nat.le_refl _) _
      · skip
        clear hneg2
        have hk6 : ¬ (k : Int) + 1 < s.size := by omega
        go_enter Tryd.func33, Tryd.ntmps33
        go_wp2_with fail
        have XR := Lib.hid (box_new (W := w) (g := w.heap.size) 23 #[.int .i64 0, .int .i64 0] (by simp))
        have HB := Lib.hid (below_alloc w (.cells #[.int .i64 0, .int .i64 0] 23))
        generalize w.alloc (.cells #[.int .i64 0, .int .i64 0] 23) = w0 at *
        refine (C0.out _).mono ?_; rintro e w1 ⟨rfl, rfl⟩
        go_wp2_with fail
        refine (P1.out _).mono ?_; rintro e w2 ⟨rfl, rfl⟩
        go_wp2_with fail
        refine (P2.out _).mono ?_; rintro e w3 ⟨rfl, rfl⟩
        have XR_0 := XR.out.at_ 0 _ rfl
        have XR_1 := XR.out.at_ 1 _ rfl
        have XR_z0 := XR.out.frozen 0
        have XR_z1 := XR.out.frozen 1
        go_wp2_with fail
        refine bodyPost_ret (v := .tuple #[.agg #[.int .i64 0, .int .i64 0], .int .i64 3]) (by simp [results, Tryd.results33, go_sem, XR_0, XR_1]) rfl ⟨by rw [HR.out]; rfl, ?_⟩
        exact (HB.out.setCell (p := ⟨w.heap.size, 0, none⟩) (Nat.le_refl _) _).setCell (p := ⟨w.heap.size, 1, none⟩) (Nat.le_refl _) _
    · skip
      subst hf
      have HR := Lib.hid hR
      clear hR
      by_cases hk3 : k + 1 < s.size
      · skip
        have f45 : ((s[k + 1].toNat : Int) == 45) = false := by
          have : ¬ byt s (k + 1) = 45 := fun h => hneg2 ⟨hk3, h⟩
          rw [byt_at s _ hk3] at this; simpa using this
        clear hneg2
        have hk6 : (k : Int) + 1 < s.size := by omega
        go_enter Tryd.func33, Tryd.ntmps33
        go_wp2_with fail
        have XR := Lib.hid (box_new (W := w) (g := w.heap.size) 23 #[.int .i64 0, .int .i64 0] (by simp))
        have HB := Lib.hid (below_alloc w (.cells #[.int .i64 0, .int .i64 0] 23))
        generalize w.alloc (.cells #[.int .i64 0, .int .i64 0] 23) = w0 at *
        refine (C0.out _).mono ?_; rintro e w1 ⟨rfl, rfl⟩
        go_wp2_with fail
        refine (P1.out _).mono ?_; rintro e w2 ⟨rfl, rfl⟩
        go_wp2_with fail
        refine (P2.out _).mono ?_; rintro e w3 ⟨rfl, rfl⟩
        have XR_0 := XR.out.at_ 0 _ rfl
        have XR_1 := XR.out.at_ 1 _ rfl
        have XR_z0 := XR.out.frozen 0
        have XR_z1 := XR.out.frozen 1
        go_wp2_with fail
        refine bodyPost_ret (v := .tuple #[.agg #[.int .i64 0, .int .i64 0], .int .i64 3]) (by simp [results, Tryd.results33, go_sem, XR_0, XR_1]) rfl ⟨by rw [HR.out]; rfl, ?_⟩
        exact (HB.out.setCell (p := ⟨w.heap.size, 0, none⟩) (Nat.le_refl _) _).setCell (p := ⟨w.heap.size, 1, none⟩) (Nat.le_refl _) _
      · skip
        clear hneg2
        have hk6 : ¬ (k : Int) + 1 < s.size := by omega
        go_enter Tryd.func33, Tryd.ntmps33
        go_wp2_with fail
        have XR := Lib.hid (box_new (W := w) (g := w.heap.size) 23 #[.int .i64 0, .int .i64 0] (by simp))
        have HB := Lib.hid (below_alloc w (.cells #[.int .i64 0, .int .i64 0] 23))
        generalize w.alloc (.cells #[.int .i64 0, .int .i64 0] 23) = w0 at *
        refine (C0.out _).mono ?_; rintro e w1 ⟨rfl, rfl⟩
        go_wp2_with fail
        refine (P1.out _).mono ?_; rintro e w2 ⟨rfl, rfl⟩
        go_wp2_with fail
        refine (P2.out _).mono ?_; rintro e w3 ⟨rfl, rfl⟩
        have XR_0 := XR.out.at_ 0 _ rfl
        have XR_1 := XR.out.at_ 1 _ rfl
        have XR_z0 := XR.out.frozen 0
        have XR_z1 := XR.out.frozen 1
        go_wp2_with fail
        refine bodyPost_ret (v := .tuple #[.agg #[.int .i64 0, .int .i64 0], .int .i64 3]) (by simp [results, Tryd.results33, go_sem, XR_0, XR_1]) rfl ⟨by rw [HR.out]; rfl, ?_⟩
        exact (HB.out.setCell (p := ⟨w.heap.size, 0, none⟩) (Nat.le_refl _) _).setCell (p := ⟨w.heap.size, 1, none⟩) (Nat.le_refl _) _
    · skip
      subst hf
      have HR := Lib.hid hR
      clear hR
      rw [hfm] at FM
      clear hfm
      by_cases hk3 : k + 1 < s.size
      · skip
        have f45 : ((s[k + 1].toNat : Int) == 45) = false := by
          have : ¬ byt s (k + 1) = 45 := fun h => hneg2 ⟨hk3, h⟩
          rw [byt_at s _ hk3] at this; simpa using this
        clear hneg2
        have hk6 : (k : Int) + 1 < s.size := by omega
        go_enter Tryd.func33, Tryd.ntmps33
        go_wp2_with fail
        have XR := Lib.hid (box_new (W := w) (g := w.heap.size) 23 #[.int .i64 0, .int .i64 0] (by simp))
        have HB := Lib.hid (below_alloc w (.cells #[.int .i64 0, .int .i64 0] 23))
        generalize w.alloc (.cells #[.int .i64 0, .int .i64 0] 23) = w0 at *
        refine (C0.out _).mono ?_; rintro e w1 ⟨rfl, rfl⟩
        go_wp2_with fail
        refine (P1.out _).mono ?_; rintro e w2 ⟨rfl, rfl⟩
        go_wp2_with fail
        refine (P2.out _).mono ?_; rintro e w3 ⟨rfl, rfl⟩
        go_wp2_with fail
        have XV := Lib.hid (Box.new w0 23 #[.int .i64 pv, .int .i64 pd])
        have hba := below_alloc w0 (.cells #[.int .i64 pv, .int .i64 pd] 23)
        replace XR := Lib.hid (XR.out.below hba)
        replace HB := Lib.hid (below_step HB.out hba)
        clear hba
        refine (FM.out _).mono ?_; rintro e w5 ⟨rfl, hb⟩
        replace XR := Lib.hid (XR.out.below hb)
        replace XV := Lib.hid (XV.out.below hb)
        replace HB := Lib.hid (below_step HB.out hb)
        clear hb
        have XV_0 := XV.out.at_ 0 _ rfl
        have XV_1 := XV.out.at_ 1 _ rfl
        have XR_0 := XR.out.at_ 0 _ rfl
        have XR_1 := XR.out.at_ 1 _ rfl
        have XR_z0 := XR.out.frozen 0
        have XR_z1 := XR.out.frozen 1
        go_wp2_with fail
        refine bodyPost_ret (v := .tuple #[.agg #[.int .i64 pv, .int .i64 pd], .int .i64 0]) (by simp [results, Tryd.results33, go_sem, XR_0, XR_1]) rfl ⟨by rw [HR.out]; rfl, ?_⟩
        exact (HB.out.setCell (p := ⟨w.heap.size, 0, none⟩) (Nat.le_refl _) _).setCell (p := ⟨w.heap.size, 1, none⟩) (Nat.le_refl _) _
      · skip
        clear hneg2
        have hk6 : ¬ (k : Int) + 1 < s.size := by omega
        go_enter Tryd.func33, Tryd.ntmps33
        go_wp2_with fail
        have XR := Lib.hid (box_new (W := w) (g := w.heap.size) 23 #[.int .i64 0, .int .i64 0] (by simp))
        have HB := Lib.hid (below_alloc w (.cells #[.int .i64 0, .int .i64 0] 23))
        generalize w.alloc (.cells #[.int .i64 0, .int .i64 0] 23) = w0 at *
        refine (C0.out _).mono ?_; rintro e w1 ⟨rfl, rfl⟩
        go_wp2_with fail
        refine (P1.out _).mono ?_; rintro e w2 ⟨rfl, rfl⟩
        go_wp2_with fail
        refine (P2.out _).mono ?_; rintro e w3 ⟨rfl, rfl⟩
        go_wp2_with fail
        have XV := Lib.hid (Box.new w0 23 #[.int .i64 pv, .int .i64 pd])
        have hba := below_alloc w0 (.cells #[.int .i64 pv, .int .i64 pd] 23)
        replace XR := Lib.hid (XR.out.below hba)
        replace HB := Lib.hid (below_step HB.out hba)
        clear hba
        refine (FM.out _).mono ?_; rintro e w5 ⟨rfl, hb⟩
        replace XR := Lib.hid (XR.out.below hb)
        replace XV := Lib.hid (XV.out.below hb)
        replace HB := Lib.hid (below_step HB.out hb)
        clear hb
        have XV_0 := XV.out.at_ 0 _ rfl
        have XV_1 := XV.out.at_ 1 _ rfl
        have XR_0 := XR.out.at_ 0 _ rfl
        have XR_1 := XR.out.at_ 1 _ rfl
        have XR_z0 := XR.out.frozen 0
        have XR_z1 := XR.out.frozen 1
        go_wp2_with fail
        refine bodyPost_ret (v := .tuple #[.agg #[.int .i64 pv, .int .i64 pd], .int .i64 0]) (by simp [results, Tryd.results33, go_sem, XR_0, XR_1]) rfl ⟨by rw [HR.out]; rfl, ?_⟩
        exact (HB.out.setCell (p := ⟨w.heap.size, 0, none⟩) (Nat.le_refl _) _).setCell (p := ⟨w.heap.size, 1, none⟩) (Nat.le_refl _) _
    · skip
      subst hf
      have HR := Lib.hid hR
      clear hR
      obtain ⟨fm1, fm2⟩ := str_ne hfm
      generalize ratFmt _ _ = q at *
      clear hfm
      by_cases hk3 : k + 1 < s.size
      · skip
        have f45 : ((s[k + 1].toNat : Int) == 45) = false := by
          have : ¬ byt s (k + 1) = 45 := fun h => hneg2 ⟨hk3, h⟩
          rw [byt_at s _ hk3] at this; simpa using this
        clear hneg2
        have hk6 : (k : Int) + 1 < s.size := by omega
        go_enter Tryd.func33, Tryd.ntmps33
        go_wp2_with fail
        have XR := Lib.hid (box_new (W := w) (g := w.heap.size) 23 #[.int .i64 0, .int .i64 0] (by simp))
        have HB := Lib.hid (below_alloc w (.cells #[.int .i64 0, .int .i64 0] 23))
        generalize w.alloc (.cells #[.int .i64 0, .int .i64 0] 23) = w0 at *
        refine (C0.out _).mono ?_; rintro e w1 ⟨rfl, rfl⟩
        go_wp2_with fail
        refine (P1.out _).mono ?_; rintro e w2 ⟨rfl, rfl⟩
        go_wp2_with fail
        refine (P2.out _).mono ?_; rintro e w3 ⟨rfl, rfl⟩
        go_wp2_with fail
        have XV := Lib.hid (Box.new w0 23 #[.int .i64 pv, .int .i64 pd])
        have hba := below_alloc w0 (.cells #[.int .i64 pv, .int .i64 pd] 23)
        replace XR := Lib.hid (XR.out.below hba)
        replace HB := Lib.hid (below_step HB.out hba)
        clear hba
        refine (FM.out _).mono ?_; rintro e w5 ⟨rfl, hb⟩
        replace XR := Lib.hid (XR.out.below hb)
        replace XV := Lib.hid (XV.out.below hb)
        replace HB := Lib.hid (below_step HB.out hb)
        clear hb
        have XV_0 := XV.out.at_ 0 _ rfl
        have XV_1 := XV.out.at_ 1 _ rfl
        have XR_0 := XR.out.at_ 0 _ rfl
        have XR_1 := XR.out.at_ 1 _ rfl
        have XR_z0 := XR.out.frozen 0
        have XR_z1 := XR.out.frozen 1
        go_wp2_with fail
        refine bodyPost_ret (v := .tuple #[.agg #[.int .i64 0, .int .i64 0], .int .i64 5]) (by simp [results, Tryd.results33, go_sem, XR_0, XR_1]) rfl ⟨by rw [HR.out]; rfl, ?_⟩
        exact (HB.out.setCell (p := ⟨w.heap.size, 0, none⟩) (Nat.le_refl _) _).setCell (p := ⟨w.heap.size, 1, none⟩) (Nat.le_refl _) _
      · skip
        clear hneg2
        have hk6 : ¬ (k : Int) + 1 < s.size := by omega
        go_enter Tryd.func33, Tryd.ntmps33
        go_wp2_with fail
        have XR := Lib.hid (box_new (W := w) (g := w.heap.size) 23 #[.int .i64 0, .int .i64 0] (by simp))
        have HB := Lib.hid (below_alloc w (.cells #[.int .i64 0, .int .i64 0] 23))
        generalize w.alloc (.cells #[.int .i64 0, .int .i64 0] 23) = w0 at *
        refine (C0.out _).mono ?_; rintro e w1 ⟨rfl, rfl⟩
        go_wp2_with fail
        refine (P1.out _).mono ?_; rintro e w2 ⟨rfl, rfl⟩
        go_wp2_with fail
        refine (P2.out _).mono ?_; rintro e w3 ⟨rfl, rfl⟩
        go_wp2_with fail
        have XV := Lib.hid (Box.new w0 23 #[.int .i64 pv, .int .i64 pd])
        have hba := below_alloc w0 (.cells #[.int .i64 pv, .int .i64 pd] 23)
        replace XR := Lib.hid (XR.out.below hba)
        replace HB := Lib.hid (below_step HB.out hba)
        clear hba
        refine (FM.out _).mono ?_; rintro e w5 ⟨rfl, hb⟩
        replace XR := Lib.hid (XR.out.below hb)
        replace XV := Lib.hid (XV.out.below hb)
        replace HB := Lib.hid (below_step HB.out hb)
        clear hb
        have XV_0 := XV.out.at_ 0 _ rfl
        have XV_1 := XV.out.at_ 1 _ rfl
        have XR_0 := XR.out.at_ 0 _ rfl
        have XR_1 := XR.out.at_ 1 _ rfl
        have XR_z0 := XR.out.frozen 0
        have XR_z1 := XR.out.frozen 1
        go_wp2_with fail
        refine bodyPost_ret (v := .tuple #[.agg #[.int .i64 0, .int .i64 0], .int .i64 5]) (by simp [results, Tryd.results33, go_sem, XR_0, XR_1]) rfl ⟨by rw [HR.out]; rfl, ?_⟩
        exact (HB.out.setCell (p := ⟨w.heap.size, 0, none⟩) (Nat.le_refl _) _).setCell (p := ⟨w.heap.size, 1, none⟩) (Nat.le_refl _) _

theorem stringsCut (s : ByteArray) (w : World) (hs : s.size ≤ 1000) (h : MLen w) :
    Calls Tryd.prog 49 #[.string s, .string ⟨#[47]⟩] w fun e w' => e = .returned (.tuple #[.string (pPart s), .string (qPart s), .bool (decide (hasS s))]) ∧ Below w.heap.size w w' := by
  obtain ⟨m, hm⟩ := h
  refine (Tryd.strings_Cut s ⟨#[47]⟩ m w (by omega) hm).mono fun e w' ⟨he, n, hw⟩ => ⟨?_, ?_⟩
  · rw [he, show (⟨#[47]⟩ : ByteArray).data.toList = [47] from rfl, cut_parts]
  · rw [hw]; exact below_drewN (Below.refl _ _) n
theorem stringsNeg (s : ByteArray) (w : World) :
    Calls Tryd.prog 51 #[.string s, .string ⟨#[45]⟩] w fun e w' => e = .returned (.bool (isNeg s)) ∧ w = w' := by
  refine (Tryd.strings_HasPrefix s ⟨#[45]⟩ w).mono fun e w' ⟨he, hw⟩ => ⟨?_, ?_⟩
  · rw [he, show (⟨#[45]⟩ : ByteArray).data.toList = [45] from rfl, hasPrefix_neg]
  · first | exact hw | exact hw.symm

set_option maxRecDepth 100000 in
set_option maxHeartbeats 16000000 in
theorem ratParse (s : ByteArray) (w : World) (hs : s.size ≤ 1000) (hT : Tab w) (hML : MLen w) :
    Calls Tryd.prog 32 #[.string s] w fun e w' => e = ret3r (parR s) ∧ Below w.heap.size w w' := by
  have hm : s.size ≤ maxLen := by unfold maxLen; omega
  have hp : (pPart s).size ≤ maxLen := by have := pPart_size s; unfold maxLen at *; omega
  have hq : (qPart s).size ≤ maxLen := by have := qPart_size s; unfold maxLen at *; omega
  have hk1 := sl_le s.data.toList
  rw [← Lib.size_eq] at hk1
  have hi1 := par_I64 (pPart s)
  have hi2 : I64 (parD s) := by unfold parD; split; exact par_I64 _; unfold I64; omega
  have ways := parR_ways s
  have hneg := neg_q s
  have HM := Lib.hid hML
  have HT := Lib.hid hT
  have C0 := Lib.hid (fun w h => stringsCut s w hs h)
  have P1 := Lib.hid (fun w => numParse (pPart s) w hp)
  have P2 := Lib.hid (fun w => numParse (qPart s) w hq)
  have PF := Lib.hid (fun w => stringsNeg (qPart s) w)
  have FM := Lib.hid (fun w h => ratFormat (parV (pPart s)) (parD s) w hi1 hi2 h)
  clear hT hML
  have hhead := par_head s
  obtain ⟨R, hR⟩ : ∃ R, R = parR s := ⟨_, rfl⟩
  rw [← hR] at ways ⊢
  generalize parV (pPart s) = pv at *
  generalize parE (pPart s) = pe at *
  generalize parD s = pd at *
  generalize parF s = pf at *
  generalize parV (qPart s) = qv at *
  generalize parE (qPart s) = qe at *
  generalize isNeg (qPart s) = ng at *
  generalize decide (hasS s) = hs1 at *
  generalize pPart s = ps at *
  generalize qPart s = qs at *
  generalize sl s.data.toList = k at *
  clear hR hi1 hi2 hp hq
  clear hm
  rcases hhead with ⟨hk2, rfl, rfl, hb1⟩ | ⟨hk2, rfl, hb1, ⟨hn1, rfl⟩ | ⟨hn1, rfl⟩⟩
  · skip
    subst hb1
    clear hk2 hneg hk1
    rcases ways with ⟨rfl, hR⟩ | ⟨rfl, hf, hR⟩ | ⟨rfl, hf, hR⟩ | ⟨rfl, hf, hR⟩ | ⟨rfl, hf, hR⟩ | ⟨rfl, hf, hfm, hR⟩ | ⟨rfl, hf, hfm, hR⟩
    · skip
      have HR := Lib.hid hR
      clear hR
      go_enter Tryd.func32, Tryd.ntmps32
      go_wp2_with fail
      have XR := Lib.hid (box_new (W := w) (g := w.heap.size) 23 #[.int .i64 0, .int .i64 0] (by simp))
      have HB := Lib.hid (below_alloc w (.cells #[.int .i64 0, .int .i64 0] 23))
      generalize w.alloc (.cells #[.int .i64 0, .int .i64 0] 23) = w0 at *
      refine (C0.out _ (HM.out.below HB.out)).mono ?_; rintro e w1 ⟨rfl, hb⟩
      replace XR := Lib.hid (XR.out.below hb)
      replace HB := Lib.hid (below_step HB.out hb)
      clear hb
      go_wp2_with fail
      refine (P1.out _).mono ?_; rintro e w2 ⟨rfl, hb⟩
      replace XR := Lib.hid (XR.out.below hb)
      replace HB := Lib.hid (below_step HB.out hb)
      clear hb
      have XR_0 := XR.out.at_ 0 _ rfl
      have XR_1 := XR.out.at_ 1 _ rfl
      have XR_z0 := XR.out.frozen 0
      have XR_z1 := XR.out.frozen 1
      go_wp2_with fail
      refine bodyPost_ret (v := .tuple #[.agg #[.int .i64 0, .int .i64 0], .int .i64 5]) (by simp [results, Tryd.results32, go_sem, XR_0, XR_1]) rfl ⟨by rw [HR.out]; rfl, ?_⟩
      exact (HB.out.setCell (p := ⟨w.heap.size, 0, none⟩) (Nat.le_refl _) _).setCell (p := ⟨w.heap.size, 1, none⟩) (Nat.le_refl _) _
    · first | (cases hf; done) | (exact absurd hf (by decide))
    · first | (cases hf; done) | (exact absurd hf (by decide))
    · skip
      clear hf
      have HR := Lib.hid hR
      clear hR
      go_enter Tryd.func32, Tryd.ntmps32
      go_wp2_with fail
      have XR := Lib.hid (box_new (W := w) (g := w.heap.size) 23 #[.int .i64 0, .int .i64 0] (by simp))
      have HB := Lib.hid (below_alloc w (.cells #[.int .i64 0, .int .i64 0] 23))
      generalize w.alloc (.cells #[.int .i64 0, .int .i64 0] 23) = w0 at *
      refine (C0.out _ (HM.out.below HB.out)).mono ?_; rintro e w1 ⟨rfl, hb⟩
      replace XR := Lib.hid (XR.out.below hb)
      replace HB := Lib.hid (below_step HB.out hb)
      clear hb
      go_wp2_with fail
      refine (P1.out _).mono ?_; rintro e w2 ⟨rfl, hb⟩
      replace XR := Lib.hid (XR.out.below hb)
      replace HB := Lib.hid (below_step HB.out hb)
      clear hb
      have XR_0 := XR.out.at_ 0 _ rfl
      have XR_1 := XR.out.at_ 1 _ rfl
      have XR_z0 := XR.out.frozen 0
      have XR_z1 := XR.out.frozen 1
      go_wp2_with fail
      refine bodyPost_ret (v := .tuple #[.agg #[.int .i64 0, .int .i64 0], .int .i64 3]) (by simp [results, Tryd.results32, go_sem, XR_0, XR_1]) rfl ⟨by rw [HR.out]; rfl, ?_⟩
      exact (HB.out.setCell (p := ⟨w.heap.size, 0, none⟩) (Nat.le_refl _) _).setCell (p := ⟨w.heap.size, 1, none⟩) (Nat.le_refl _) _
    · first | (cases hf; done) | (exact absurd hf (by decide))
    · skip
      clear hf
      have HR := Lib.hid hR
      clear hR
      rw [hfm] at FM
      clear hfm
      go_enter Tryd.func32, Tryd.ntmps32
      go_wp2_with fail
      have XR := Lib.hid (box_new (W := w) (g := w.heap.size) 23 #[.int .i64 0, .int .i64 0] (by simp))
      have HB := Lib.hid (below_alloc w (.cells #[.int .i64 0, .int .i64 0] 23))
      generalize w.alloc (.cells #[.int .i64 0, .int .i64 0] 23) = w0 at *
      refine (C0.out _ (HM.out.below HB.out)).mono ?_; rintro e w1 ⟨rfl, hb⟩
      replace XR := Lib.hid (XR.out.below hb)
      replace HB := Lib.hid (below_step HB.out hb)
      clear hb
      go_wp2_with fail
      refine (P1.out _).mono ?_; rintro e w2 ⟨rfl, hb⟩
      replace XR := Lib.hid (XR.out.below hb)
      replace HB := Lib.hid (below_step HB.out hb)
      clear hb
      go_wp2_with fail
      have XV := Lib.hid (Box.new w2 23 #[.int .i64 pv, .int .i64 1])
      have hba := below_alloc w2 (.cells #[.int .i64 pv, .int .i64 1] 23)
      replace XR := Lib.hid (XR.out.below hba)
      replace HB := Lib.hid (below_step HB.out hba)
      clear hba
      refine (FM.out _ (HT.out.below HB.out)).mono ?_; rintro e w5 ⟨rfl, hb⟩
      replace XR := Lib.hid (XR.out.below hb)
      replace XV := Lib.hid (XV.out.below hb)
      replace HB := Lib.hid (below_step HB.out hb)
      clear hb
      have XV_0 := XV.out.at_ 0 _ rfl
      have XV_1 := XV.out.at_ 1 _ rfl
      have XR_0 := XR.out.at_ 0 _ rfl
      have XR_1 := XR.out.at_ 1 _ rfl
      have XR_z0 := XR.out.frozen 0
      have XR_z1 := XR.out.frozen 1
      go_wp2_with fail
      refine bodyPost_ret (v := .tuple #[.agg #[.int .i64 pv, .int .i64 1], .int .i64 0]) (by simp [results, Tryd.results32, go_sem, XR_0, XR_1]) rfl ⟨by rw [HR.out]; rfl, ?_⟩
      exact (HB.out.setCell (p := ⟨w.heap.size, 0, none⟩) (Nat.le_refl _) _).setCell (p := ⟨w.heap.size, 1, none⟩) (Nat.le_refl _) _
    · skip
      clear hf
      have HR := Lib.hid hR
      clear hR
      obtain ⟨fm1, fm2⟩ := str_ne hfm
      generalize ratFmt _ _ = q at *
      clear hfm
      go_enter Tryd.func32, Tryd.ntmps32
      go_wp2_with fail
      have XR := Lib.hid (box_new (W := w) (g := w.heap.size) 23 #[.int .i64 0, .int .i64 0] (by simp))
      have HB := Lib.hid (below_alloc w (.cells #[.int .i64 0, .int .i64 0] 23))
      generalize w.alloc (.cells #[.int .i64 0, .int .i64 0] 23) = w0 at *
      refine (C0.out _ (HM.out.below HB.out)).mono ?_; rintro e w1 ⟨rfl, hb⟩
      replace XR := Lib.hid (XR.out.below hb)
      replace HB := Lib.hid (below_step HB.out hb)
      clear hb
      go_wp2_with fail
      refine (P1.out _).mono ?_; rintro e w2 ⟨rfl, hb⟩
      replace XR := Lib.hid (XR.out.below hb)
      replace HB := Lib.hid (below_step HB.out hb)
      clear hb
      go_wp2_with fail
      have XV := Lib.hid (Box.new w2 23 #[.int .i64 pv, .int .i64 1])
      have hba := below_alloc w2 (.cells #[.int .i64 pv, .int .i64 1] 23)
      replace XR := Lib.hid (XR.out.below hba)
      replace HB := Lib.hid (below_step HB.out hba)
      clear hba
      refine (FM.out _ (HT.out.below HB.out)).mono ?_; rintro e w5 ⟨rfl, hb⟩
      replace XR := Lib.hid (XR.out.below hb)
      replace XV := Lib.hid (XV.out.below hb)
      replace HB := Lib.hid (below_step HB.out hb)
      clear hb
      have XV_0 := XV.out.at_ 0 _ rfl
      have XV_1 := XV.out.at_ 1 _ rfl
      have XR_0 := XR.out.at_ 0 _ rfl
      have XR_1 := XR.out.at_ 1 _ rfl
      have XR_z0 := XR.out.frozen 0
      have XR_z1 := XR.out.frozen 1
      go_wp2_with fail
      refine bodyPost_ret (v := .tuple #[.agg #[.int .i64 0, .int .i64 0], .int .i64 5]) (by simp [results, Tryd.results32, go_sem, XR_0, XR_1]) rfl ⟨by rw [HR.out]; rfl, ?_⟩
      exact (HB.out.setCell (p := ⟨w.heap.size, 0, none⟩) (Nat.le_refl _) _).setCell (p := ⟨w.heap.size, 1, none⟩) (Nat.le_refl _) _
  · skip
    subst hb1
    subst hn1
    clear hneg hk2 hk1
    rcases ways with ⟨rfl, hR⟩ | ⟨rfl, hf, hR⟩ | ⟨rfl, hf, hR⟩ | ⟨rfl, hf, hR⟩ | ⟨rfl, hf, hR⟩ | ⟨rfl, hf, hfm, hR⟩ | ⟨rfl, hf, hfm, hR⟩
    · skip
      have HR := Lib.hid hR
      clear hR
      go_enter Tryd.func32, Tryd.ntmps32
      go_wp2_with fail
      have XR := Lib.hid (box_new (W := w) (g := w.heap.size) 23 #[.int .i64 0, .int .i64 0] (by simp))
      have HB := Lib.hid (below_alloc w (.cells #[.int .i64 0, .int .i64 0] 23))
      generalize w.alloc (.cells #[.int .i64 0, .int .i64 0] 23) = w0 at *
      refine (C0.out _ (HM.out.below HB.out)).mono ?_; rintro e w1 ⟨rfl, hb⟩
      replace XR := Lib.hid (XR.out.below hb)
      replace HB := Lib.hid (below_step HB.out hb)
      clear hb
      go_wp2_with fail
      refine (P1.out _).mono ?_; rintro e w2 ⟨rfl, hb⟩
      replace XR := Lib.hid (XR.out.below hb)
      replace HB := Lib.hid (below_step HB.out hb)
      clear hb
      go_wp2_with fail
      refine (P2.out _).mono ?_; rintro e w3 ⟨rfl, hb⟩
      replace XR := Lib.hid (XR.out.below hb)
      replace HB := Lib.hid (below_step HB.out hb)
      clear hb
      go_wp2_with fail
      refine (PF.out _).mono ?_; rintro e w4 ⟨rfl, rfl⟩
      have XR_0 := XR.out.at_ 0 _ rfl
      have XR_1 := XR.out.at_ 1 _ rfl
      have XR_z0 := XR.out.frozen 0
      have XR_z1 := XR.out.frozen 1
      go_wp2_with fail
      refine bodyPost_ret (v := .tuple #[.agg #[.int .i64 0, .int .i64 0], .int .i64 5]) (by simp [results, Tryd.results32, go_sem, XR_0, XR_1]) rfl ⟨by rw [HR.out]; rfl, ?_⟩
      exact (HB.out.setCell (p := ⟨w.heap.size, 0, none⟩) (Nat.le_refl _) _).setCell (p := ⟨w.heap.size, 1, none⟩) (Nat.le_refl _) _
    · skip
      clear hf
      have HR := Lib.hid hR
      clear hR
      go_enter Tryd.func32, Tryd.ntmps32
      go_wp2_with fail
      have XR := Lib.hid (box_new (W := w) (g := w.heap.size) 23 #[.int .i64 0, .int .i64 0] (by simp))
      have HB := Lib.hid (below_alloc w (.cells #[.int .i64 0, .int .i64 0] 23))
      generalize w.alloc (.cells #[.int .i64 0, .int .i64 0] 23) = w0 at *
      refine (C0.out _ (HM.out.below HB.out)).mono ?_; rintro e w1 ⟨rfl, hb⟩
      replace XR := Lib.hid (XR.out.below hb)
      replace HB := Lib.hid (below_step HB.out hb)
      clear hb
      go_wp2_with fail
      refine (P1.out _).mono ?_; rintro e w2 ⟨rfl, hb⟩
      replace XR := Lib.hid (XR.out.below hb)
      replace HB := Lib.hid (below_step HB.out hb)
      clear hb
      go_wp2_with fail
      refine (P2.out _).mono ?_; rintro e w3 ⟨rfl, hb⟩
      replace XR := Lib.hid (XR.out.below hb)
      replace HB := Lib.hid (below_step HB.out hb)
      clear hb
      go_wp2_with fail
      refine (PF.out _).mono ?_; rintro e w4 ⟨rfl, rfl⟩
      have XR_0 := XR.out.at_ 0 _ rfl
      have XR_1 := XR.out.at_ 1 _ rfl
      have XR_z0 := XR.out.frozen 0
      have XR_z1 := XR.out.frozen 1
      go_wp2_with fail
      refine bodyPost_ret (v := .tuple #[.agg #[.int .i64 0, .int .i64 0], .int .i64 5]) (by simp [results, Tryd.results32, go_sem, XR_0, XR_1]) rfl ⟨by rw [HR.out]; rfl, ?_⟩
      exact (HB.out.setCell (p := ⟨w.heap.size, 0, none⟩) (Nat.le_refl _) _).setCell (p := ⟨w.heap.size, 1, none⟩) (Nat.le_refl _) _
    · skip
      clear hf
      have HR := Lib.hid hR
      clear hR
      go_enter Tryd.func32, Tryd.ntmps32
      go_wp2_with fail
      have XR := Lib.hid (box_new (W := w) (g := w.heap.size) 23 #[.int .i64 0, .int .i64 0] (by simp))
      have HB := Lib.hid (below_alloc w (.cells #[.int .i64 0, .int .i64 0] 23))
      generalize w.alloc (.cells #[.int .i64 0, .int .i64 0] 23) = w0 at *
      refine (C0.out _ (HM.out.below HB.out)).mono ?_; rintro e w1 ⟨rfl, hb⟩
      replace XR := Lib.hid (XR.out.below hb)
      replace HB := Lib.hid (below_step HB.out hb)
      clear hb
      go_wp2_with fail
      refine (P1.out _).mono ?_; rintro e w2 ⟨rfl, hb⟩
      replace XR := Lib.hid (XR.out.below hb)
      replace HB := Lib.hid (below_step HB.out hb)
      clear hb
      go_wp2_with fail
      refine (P2.out _).mono ?_; rintro e w3 ⟨rfl, hb⟩
      replace XR := Lib.hid (XR.out.below hb)
      replace HB := Lib.hid (below_step HB.out hb)
      clear hb
      go_wp2_with fail
      refine (PF.out _).mono ?_; rintro e w4 ⟨rfl, rfl⟩
      have XR_0 := XR.out.at_ 0 _ rfl
      have XR_1 := XR.out.at_ 1 _ rfl
      have XR_z0 := XR.out.frozen 0
      have XR_z1 := XR.out.frozen 1
      go_wp2_with fail
      refine bodyPost_ret (v := .tuple #[.agg #[.int .i64 0, .int .i64 0], .int .i64 5]) (by simp [results, Tryd.results32, go_sem, XR_0, XR_1]) rfl ⟨by rw [HR.out]; rfl, ?_⟩
      exact (HB.out.setCell (p := ⟨w.heap.size, 0, none⟩) (Nat.le_refl _) _).setCell (p := ⟨w.heap.size, 1, none⟩) (Nat.le_refl _) _
    · first | (cases hf; done) | (exact absurd hf (by decide))
    · first | (cases hf; done) | (exact absurd hf (by decide))
    · first | (cases hf; done) | (exact absurd hf (by decide))
    · first | (cases hf; done) | (exact absurd hf (by decide))
  · skip
    subst hb1
    subst hn1
    clear hneg hk2 hk1
    rcases ways with ⟨rfl, hR⟩ | ⟨rfl, hf, hR⟩ | ⟨rfl, hf, hR⟩ | ⟨rfl, hf, hR⟩ | ⟨rfl, hf, hR⟩ | ⟨rfl, hf, hfm, hR⟩ | ⟨rfl, hf, hfm, hR⟩
    · skip
      have HR := Lib.hid hR
      clear hR
      go_enter Tryd.func32, Tryd.ntmps32
      go_wp2_with fail
      have XR := Lib.hid (box_new (W := w) (g := w.heap.size) 23 #[.int .i64 0, .int .i64 0] (by simp))
      have HB := Lib.hid (below_alloc w (.cells #[.int .i64 0, .int .i64 0] 23))
      generalize w.alloc (.cells #[.int .i64 0, .int .i64 0] 23) = w0 at *
      refine (C0.out _ (HM.out.below HB.out)).mono ?_; rintro e w1 ⟨rfl, hb⟩
      replace XR := Lib.hid (XR.out.below hb)
      replace HB := Lib.hid (below_step HB.out hb)
      clear hb
      go_wp2_with fail
      refine (P1.out _).mono ?_; rintro e w2 ⟨rfl, hb⟩
      replace XR := Lib.hid (XR.out.below hb)
      replace HB := Lib.hid (below_step HB.out hb)
      clear hb
      go_wp2_with fail
      refine (P2.out _).mono ?_; rintro e w3 ⟨rfl, hb⟩
      replace XR := Lib.hid (XR.out.below hb)
      replace HB := Lib.hid (below_step HB.out hb)
      clear hb
      go_wp2_with fail
      refine (PF.out _).mono ?_; rintro e w4 ⟨rfl, rfl⟩
      have XR_0 := XR.out.at_ 0 _ rfl
      have XR_1 := XR.out.at_ 1 _ rfl
      have XR_z0 := XR.out.frozen 0
      have XR_z1 := XR.out.frozen 1
      go_wp2_with fail
      refine bodyPost_ret (v := .tuple #[.agg #[.int .i64 0, .int .i64 0], .int .i64 5]) (by simp [results, Tryd.results32, go_sem, XR_0, XR_1]) rfl ⟨by rw [HR.out]; rfl, ?_⟩
      exact (HB.out.setCell (p := ⟨w.heap.size, 0, none⟩) (Nat.le_refl _) _).setCell (p := ⟨w.heap.size, 1, none⟩) (Nat.le_refl _) _
    · skip
      subst hf
      have HR := Lib.hid hR
      clear hR
      go_enter Tryd.func32, Tryd.ntmps32
      go_wp2_with fail
      have XR := Lib.hid (box_new (W := w) (g := w.heap.size) 23 #[.int .i64 0, .int .i64 0] (by simp))
      have HB := Lib.hid (below_alloc w (.cells #[.int .i64 0, .int .i64 0] 23))
      generalize w.alloc (.cells #[.int .i64 0, .int .i64 0] 23) = w0 at *
      refine (C0.out _ (HM.out.below HB.out)).mono ?_; rintro e w1 ⟨rfl, hb⟩
      replace XR := Lib.hid (XR.out.below hb)
      replace HB := Lib.hid (below_step HB.out hb)
      clear hb
      go_wp2_with fail
      refine (P1.out _).mono ?_; rintro e w2 ⟨rfl, hb⟩
      replace XR := Lib.hid (XR.out.below hb)
      replace HB := Lib.hid (below_step HB.out hb)
      clear hb
      go_wp2_with fail
      refine (P2.out _).mono ?_; rintro e w3 ⟨rfl, hb⟩
      replace XR := Lib.hid (XR.out.below hb)
      replace HB := Lib.hid (below_step HB.out hb)
      clear hb
      go_wp2_with fail
      refine (PF.out _).mono ?_; rintro e w4 ⟨rfl, rfl⟩
      have XR_0 := XR.out.at_ 0 _ rfl
      have XR_1 := XR.out.at_ 1 _ rfl
      have XR_z0 := XR.out.frozen 0
      have XR_z1 := XR.out.frozen 1
      go_wp2_with fail
      refine bodyPost_ret (v := .tuple #[.agg #[.int .i64 0, .int .i64 0], .int .i64 5]) (by simp [results, Tryd.results32, go_sem, XR_0, XR_1]) rfl ⟨by rw [HR.out]; rfl, ?_⟩
      exact (HB.out.setCell (p := ⟨w.heap.size, 0, none⟩) (Nat.le_refl _) _).setCell (p := ⟨w.heap.size, 1, none⟩) (Nat.le_refl _) _
    · skip
      subst hf
      have HR := Lib.hid hR
      clear hR
      go_enter Tryd.func32, Tryd.ntmps32
      go_wp2_with fail
      have XR := Lib.hid (box_new (W := w) (g := w.heap.size) 23 #[.int .i64 0, .int .i64 0] (by simp))
      have HB := Lib.hid (below_alloc w (.cells #[.int .i64 0, .int .i64 0] 23))
      generalize w.alloc (.cells #[.int .i64 0, .int .i64 0] 23) = w0 at *
      refine (C0.out _ (HM.out.below HB.out)).mono ?_; rintro e w1 ⟨rfl, hb⟩
      replace XR := Lib.hid (XR.out.below hb)
      replace HB := Lib.hid (below_step HB.out hb)
      clear hb
      go_wp2_with fail
      refine (P1.out _).mono ?_; rintro e w2 ⟨rfl, hb⟩
      replace XR := Lib.hid (XR.out.below hb)
      replace HB := Lib.hid (below_step HB.out hb)
      clear hb
      go_wp2_with fail
      refine (P2.out _).mono ?_; rintro e w3 ⟨rfl, hb⟩
      replace XR := Lib.hid (XR.out.below hb)
      replace HB := Lib.hid (below_step HB.out hb)
      clear hb
      go_wp2_with fail
      refine (PF.out _).mono ?_; rintro e w4 ⟨rfl, rfl⟩
      have XR_0 := XR.out.at_ 0 _ rfl
      have XR_1 := XR.out.at_ 1 _ rfl
      have XR_z0 := XR.out.frozen 0
      have XR_z1 := XR.out.frozen 1
      go_wp2_with fail
      refine bodyPost_ret (v := .tuple #[.agg #[.int .i64 0, .int .i64 0], .int .i64 5]) (by simp [results, Tryd.results32, go_sem, XR_0, XR_1]) rfl ⟨by rw [HR.out]; rfl, ?_⟩
      exact (HB.out.setCell (p := ⟨w.heap.size, 0, none⟩) (Nat.le_refl _) _).setCell (p := ⟨w.heap.size, 1, none⟩) (Nat.le_refl _) _
    · skip
      have HR := Lib.hid hR
      clear hR
      go_enter Tryd.func32, Tryd.ntmps32
      go_wp2_with fail
      have XR := Lib.hid (box_new (W := w) (g := w.heap.size) 23 #[.int .i64 0, .int .i64 0] (by simp))
      have HB := Lib.hid (below_alloc w (.cells #[.int .i64 0, .int .i64 0] 23))
      generalize w.alloc (.cells #[.int .i64 0, .int .i64 0] 23) = w0 at *
      refine (C0.out _ (HM.out.below HB.out)).mono ?_; rintro e w1 ⟨rfl, hb⟩
      replace XR := Lib.hid (XR.out.below hb)
      replace HB := Lib.hid (below_step HB.out hb)
      clear hb
      go_wp2_with fail
      refine (P1.out _).mono ?_; rintro e w2 ⟨rfl, hb⟩
      replace XR := Lib.hid (XR.out.below hb)
      replace HB := Lib.hid (below_step HB.out hb)
      clear hb
      go_wp2_with fail
      refine (P2.out _).mono ?_; rintro e w3 ⟨rfl, hb⟩
      replace XR := Lib.hid (XR.out.below hb)
      replace HB := Lib.hid (below_step HB.out hb)
      clear hb
      go_wp2_with fail
      refine (PF.out _).mono ?_; rintro e w4 ⟨rfl, rfl⟩
      have XR_0 := XR.out.at_ 0 _ rfl
      have XR_1 := XR.out.at_ 1 _ rfl
      have XR_z0 := XR.out.frozen 0
      have XR_z1 := XR.out.frozen 1
      go_wp2_with fail
      refine bodyPost_ret (v := .tuple #[.agg #[.int .i64 0, .int .i64 0], .int .i64 3]) (by simp [results, Tryd.results32, go_sem, XR_0, XR_1]) rfl ⟨by rw [HR.out]; rfl, ?_⟩
      exact (HB.out.setCell (p := ⟨w.heap.size, 0, none⟩) (Nat.le_refl _) _).setCell (p := ⟨w.heap.size, 1, none⟩) (Nat.le_refl _) _
    · skip
      subst hf
      have HR := Lib.hid hR
      clear hR
      go_enter Tryd.func32, Tryd.ntmps32
      go_wp2_with fail
      have XR := Lib.hid (box_new (W := w) (g := w.heap.size) 23 #[.int .i64 0, .int .i64 0] (by simp))
      have HB := Lib.hid (below_alloc w (.cells #[.int .i64 0, .int .i64 0] 23))
      generalize w.alloc (.cells #[.int .i64 0, .int .i64 0] 23) = w0 at *
      refine (C0.out _ (HM.out.below HB.out)).mono ?_; rintro e w1 ⟨rfl, hb⟩
      replace XR := Lib.hid (XR.out.below hb)
      replace HB := Lib.hid (below_step HB.out hb)
      clear hb
      go_wp2_with fail
      refine (P1.out _).mono ?_; rintro e w2 ⟨rfl, hb⟩
      replace XR := Lib.hid (XR.out.below hb)
      replace HB := Lib.hid (below_step HB.out hb)
      clear hb
      go_wp2_with fail
      refine (P2.out _).mono ?_; rintro e w3 ⟨rfl, hb⟩
      replace XR := Lib.hid (XR.out.below hb)
      replace HB := Lib.hid (below_step HB.out hb)
      clear hb
      go_wp2_with fail
      refine (PF.out _).mono ?_; rintro e w4 ⟨rfl, rfl⟩
      have XR_0 := XR.out.at_ 0 _ rfl
      have XR_1 := XR.out.at_ 1 _ rfl
      have XR_z0 := XR.out.frozen 0
      have XR_z1 := XR.out.frozen 1
      go_wp2_with fail
      refine bodyPost_ret (v := .tuple #[.agg #[.int .i64 0, .int .i64 0], .int .i64 3]) (by simp [results, Tryd.results32, go_sem, XR_0, XR_1]) rfl ⟨by rw [HR.out]; rfl, ?_⟩
      exact (HB.out.setCell (p := ⟨w.heap.size, 0, none⟩) (Nat.le_refl _) _).setCell (p := ⟨w.heap.size, 1, none⟩) (Nat.le_refl _) _
    · skip
      subst hf
      have HR := Lib.hid hR
      clear hR
      rw [hfm] at FM
      clear hfm
      go_enter Tryd.func32, Tryd.ntmps32
      go_wp2_with fail
      have XR := Lib.hid (box_new (W := w) (g := w.heap.size) 23 #[.int .i64 0, .int .i64 0] (by simp))
      have HB := Lib.hid (below_alloc w (.cells #[.int .i64 0, .int .i64 0] 23))
      generalize w.alloc (.cells #[.int .i64 0, .int .i64 0] 23) = w0 at *
      refine (C0.out _ (HM.out.below HB.out)).mono ?_; rintro e w1 ⟨rfl, hb⟩
      replace XR := Lib.hid (XR.out.below hb)
      replace HB := Lib.hid (below_step HB.out hb)
      clear hb
      go_wp2_with fail
      refine (P1.out _).mono ?_; rintro e w2 ⟨rfl, hb⟩
      replace XR := Lib.hid (XR.out.below hb)
      replace HB := Lib.hid (below_step HB.out hb)
      clear hb
      go_wp2_with fail
      refine (P2.out _).mono ?_; rintro e w3 ⟨rfl, hb⟩
      replace XR := Lib.hid (XR.out.below hb)
      replace HB := Lib.hid (below_step HB.out hb)
      clear hb
      go_wp2_with fail
      refine (PF.out _).mono ?_; rintro e w4 ⟨rfl, rfl⟩
      go_wp2_with fail
      have XV := Lib.hid (Box.new w3 23 #[.int .i64 pv, .int .i64 pd])
      have hba := below_alloc w3 (.cells #[.int .i64 pv, .int .i64 pd] 23)
      replace XR := Lib.hid (XR.out.below hba)
      replace HB := Lib.hid (below_step HB.out hba)
      clear hba
      refine (FM.out _ (HT.out.below HB.out)).mono ?_; rintro e w5 ⟨rfl, hb⟩
      replace XR := Lib.hid (XR.out.below hb)
      replace XV := Lib.hid (XV.out.below hb)
      replace HB := Lib.hid (below_step HB.out hb)
      clear hb
      have XV_0 := XV.out.at_ 0 _ rfl
      have XV_1 := XV.out.at_ 1 _ rfl
      have XR_0 := XR.out.at_ 0 _ rfl
      have XR_1 := XR.out.at_ 1 _ rfl
      have XR_z0 := XR.out.frozen 0
      have XR_z1 := XR.out.frozen 1
      go_wp2_with fail
      refine bodyPost_ret (v := .tuple #[.agg #[.int .i64 pv, .int .i64 pd], .int .i64 0]) (by simp [results, Tryd.results32, go_sem, XR_0, XR_1]) rfl ⟨by rw [HR.out]; rfl, ?_⟩
      exact (HB.out.setCell (p := ⟨w.heap.size, 0, none⟩) (Nat.le_refl _) _).setCell (p := ⟨w.heap.size, 1, none⟩) (Nat.le_refl _) _
    · skip
      subst hf
      have HR := Lib.hid hR
      clear hR
      obtain ⟨fm1, fm2⟩ := str_ne hfm
      generalize ratFmt _ _ = q at *
      clear hfm
      go_enter Tryd.func32, Tryd.ntmps32
      go_wp2_with fail
      have XR := Lib.hid (box_new (W := w) (g := w.heap.size) 23 #[.int .i64 0, .int .i64 0] (by simp))
      have HB := Lib.hid (below_alloc w (.cells #[.int .i64 0, .int .i64 0] 23))
      generalize w.alloc (.cells #[.int .i64 0, .int .i64 0] 23) = w0 at *
      refine (C0.out _ (HM.out.below HB.out)).mono ?_; rintro e w1 ⟨rfl, hb⟩
      replace XR := Lib.hid (XR.out.below hb)
      replace HB := Lib.hid (below_step HB.out hb)
      clear hb
      go_wp2_with fail
      refine (P1.out _).mono ?_; rintro e w2 ⟨rfl, hb⟩
      replace XR := Lib.hid (XR.out.below hb)
      replace HB := Lib.hid (below_step HB.out hb)
      clear hb
      go_wp2_with fail
      refine (P2.out _).mono ?_; rintro e w3 ⟨rfl, hb⟩
      replace XR := Lib.hid (XR.out.below hb)
      replace HB := Lib.hid (below_step HB.out hb)
      clear hb
      go_wp2_with fail
      refine (PF.out _).mono ?_; rintro e w4 ⟨rfl, rfl⟩
      go_wp2_with fail
      have XV := Lib.hid (Box.new w3 23 #[.int .i64 pv, .int .i64 pd])
      have hba := below_alloc w3 (.cells #[.int .i64 pv, .int .i64 pd] 23)
      replace XR := Lib.hid (XR.out.below hba)
      replace HB := Lib.hid (below_step HB.out hba)
      clear hba
      refine (FM.out _ (HT.out.below HB.out)).mono ?_; rintro e w5 ⟨rfl, hb⟩
      replace XR := Lib.hid (XR.out.below hb)
      replace XV := Lib.hid (XV.out.below hb)
      replace HB := Lib.hid (below_step HB.out hb)
      clear hb
      have XV_0 := XV.out.at_ 0 _ rfl
      have XV_1 := XV.out.at_ 1 _ rfl
      have XR_0 := XR.out.at_ 0 _ rfl
      have XR_1 := XR.out.at_ 1 _ rfl
      have XR_z0 := XR.out.frozen 0
      have XR_z1 := XR.out.frozen 1
      go_wp2_with fail
      refine bodyPost_ret (v := .tuple #[.agg #[.int .i64 0, .int .i64 0], .int .i64 5]) (by simp [results, Tryd.results32, go_sem, XR_0, XR_1]) rfl ⟨by rw [HR.out]; rfl, ?_⟩
      exact (HB.out.setCell (p := ⟨w.heap.size, 0, none⟩) (Nat.le_refl _) _).setCell (p := ⟨w.heap.size, 1, none⟩) (Nat.le_refl _) _

end Go.Proofs.YtbaalbmchhgmnaaDoor
