/-
  Contracts of wave.isVar, wave.isWord and of the closures over them.
-/
import Derived.Test.YthpioaboekpjoaaDoorFuncs
import Derived.Test.YthpioaboekpjoaaDoorName
namespace Go.Proofs.YthpioaboekpjoaaDoor
open Go.RowKit
set_option linter.unusedVariables false
set_option linter.unusedSimpArgs false

/-! The program's variable names. -/
set_option maxRecDepth 100000 in
set_option maxHeartbeats 8000000 in
theorem wavIsVar (s : ByteArray) (w : World) (hs : s.size ≤ 9223372036854775807) (h : KW w) (hm : MLen w) :
    Calls Tryd.prog 64 #[.string s] w fun e w' => e = .returned (.bool (varB s)) ∧ Below w.heap.size w w' := by
  have HK := Lib.hid h
  have C0 := Lib.hid (cutAt 91 s w hs hm)
  have hps := preB_size 91 s
  have hqs := posB_size 91 s
  have hle := ix_le (b := 91) s.data.toList
  rw [← Lib.size_eq] at hle
  have C1 := Lib.hid (fun w h => lexName s w (by unfold maxLen; omega) h)
  have C2 := Lib.hid (fun w h => lexName (preB 91 s) w (by unfold maxLen; omega) h)
  have hq : (posB 91 s).size ≤ 9223372036854775807 := by omega
  have HV : Hid (varB s = if hasB 91 s = true then nameB (preB 91 s) && (decide ((posB 91 s).size = 2) && (decide (48 ≤ byt (posB 91 s) 0) && (decide (byt (posB 91 s) 0 < 56) && decide (byt (posB 91 s) 1 = 93)))) else nameB s) := Lib.hid (by rw [← varP_eq]; rfl)
  generalize varB s = r at *
  generalize hasB 91 s = hh at *
  generalize nameB s = n1 at *
  generalize nameB (preB 91 s) = n2 at *
  generalize preB 91 s = ps at *
  generalize posB 91 s = qs at *
  clear h hm hps hqs hle
  cases hh
  · have HV2 : Hid (r = n1) := Lib.hid (by rw [HV.out]; rfl)
    clear HV hq
    go_enter Tryd.func64, Tryd.ntmps64
    go_wp2_with fail
    refine C0.out.mono ?_; rintro e w1 ⟨rfl, hb⟩
    have HB := Lib.hid hb
    clear hb
    go_wp2_with fail
    refine (C1.out _ (HK.out.below HB.out)).mono ?_; rintro e w2 ⟨rfl, hb⟩
    replace HB := Lib.hid (below_step HB.out hb)
    clear hb
    go_wp2_with fail
    go_ret
    exact ⟨retb (by rw [HV2.out]), HB.out⟩
  · cases n2
    · have HV2 : Hid (r = false) := Lib.hid (by rw [HV.out]; rfl)
      clear HV hq
      go_enter Tryd.func64, Tryd.ntmps64
      go_wp2_with fail
      refine C0.out.mono ?_; rintro e w1 ⟨rfl, hb⟩
      have HB := Lib.hid hb
      clear hb
      go_wp2_with fail
      refine (C2.out _ (HK.out.below HB.out)).mono ?_; rintro e w2 ⟨rfl, hb⟩
      replace HB := Lib.hid (below_step HB.out hb)
      clear hb
      go_wp2_with fail
      go_ret
      exact ⟨retb (by rw [HV2.out]), HB.out⟩
    · by_cases h2 : qs.size = 2
      · have f2 : ((qs.size : Int) == 2) = true := by simpa using (by omega : (qs.size : Int) = 2)
        have l0 : 0 < qs.size := by omega
        have l1 : 1 < qs.size := by omega
        have b0 := byt_at qs 0 l0
        have b1 := byt_at qs 1 l1
        have HV2 : Hid (r = (decide (48 ≤ byt qs 0) && (decide (byt qs 0 < 56) && decide (byt qs 1 = 93)))) := Lib.hid (by rw [HV.out, decide_eq_true h2]; rfl)
        rw [b0, b1] at HV2
        clear HV hq h2 b0 b1
        have key : ((48 : Int) ≤ (qs[0].toNat : Int) ∧ (qs[0].toNat : Int) < 56 ∧ r = decide ((qs[1].toNat : Int) = 93)) ∨ ((48 : Int) ≤ (qs[0].toNat : Int) ∧ ¬ (qs[0].toNat : Int) < 56 ∧ r = false) ∨ (¬ (48 : Int) ≤ (qs[0].toNat : Int) ∧ r = false) := by
          rw [HV2.out]
          by_cases k1 : (48 : Int) ≤ (qs[0].toNat : Int)
          · by_cases k2 : (qs[0].toNat : Int) < 56
            · left; rw [decide_eq_true k1, decide_eq_true k2]; exact ⟨k1, k2, rfl⟩
            · right; left; rw [decide_eq_true k1, decide_eq_false k2]; exact ⟨k1, k2, rfl⟩
          · right; right; rw [decide_eq_false k1]; exact ⟨k1, rfl⟩
        clear HV2
        rcases key with ⟨k1, k2, hr⟩ | ⟨k1, k2, hr⟩ | ⟨k1, hr⟩
        all_goals
          have HR := Lib.hid hr
          clear hr
          go_enter Tryd.func64, Tryd.ntmps64
          go_wp2_with fail
          refine C0.out.mono ?_; rintro e w1 ⟨rfl, hb⟩
          have HB := Lib.hid hb
          clear hb
          go_wp2_with fail
          refine (C2.out _ (HK.out.below HB.out)).mono ?_; rintro e w2 ⟨rfl, hb⟩
          replace HB := Lib.hid (below_step HB.out hb)
          clear hb
          go_wp2_with fail
          go_ret
          exact ⟨retb (by rw [HR.out] <;> first | rfl | (rw [Bool.eq_iff_iff]; simp)), HB.out⟩
      · have f2 : ((qs.size : Int) == 2) = false := by
          have : ¬ (qs.size : Int) = 2 := by omega
          simpa using this
        have HV2 : Hid (r = false) := Lib.hid (by rw [HV.out, decide_eq_false h2]; rfl)
        clear HV h2
        go_enter Tryd.func64, Tryd.ntmps64
        go_wp2_with fail
        refine C0.out.mono ?_; rintro e w1 ⟨rfl, hb⟩
        have HB := Lib.hid hb
        clear hb
        go_wp2_with fail
        refine (C2.out _ (HK.out.below HB.out)).mono ?_; rintro e w2 ⟨rfl, hb⟩
        replace HB := Lib.hid (below_step HB.out hb)
        clear hb
        go_wp2_with fail
        go_ret
        exact ⟨retb (by rw [HV2.out]), HB.out⟩

theorem wavIsWord (z : Int) (w : World) :
    Calls Tryd.prog 55 #[.int .i64 z] w fun e w' => e = .returned (.bool (wordB z)) ∧ w = w' := by
  go_enter Tryd.func55, Tryd.ntmps55
  go_wp2
  all_goals
    go_ret
    refine ⟨retb ?_, rfl⟩
    unfold wordB
    first | (rw [eq_comm]; exact decide_eq_true (by omega)) | (rw [eq_comm]; exact decide_eq_false (by omega)) | (simp; omega)

theorem wavHeader1 (s : ByteArray) (w : World) (hs : s.size ≤ 9223372036854775807) (h : KW w) (hm : MLen w) :
    Calls Tryd.prog 63 #[.string s] w fun e w' => e = .returned (.bool (!varB s)) ∧ Below w.heap.size w w' := by
  have C1 := Lib.hid (wavIsVar s w hs h hm)
  generalize varB s = r at *
  clear h hm hs
  go_enter Tryd.func63, Tryd.ntmps63
  go_wp2_with fail
  refine C1.out.mono ?_; rintro e w1 ⟨rfl, hb⟩
  have HB := Lib.hid hb
  clear hb
  go_wp2_with fail
  go_ret
  exact ⟨rfl, HB.out⟩

theorem wavValid1 (z : Int) (w : World) :
    Calls Tryd.prog 54 #[.int .i64 z] w fun e w' => e = .returned (.bool (!wordB z)) ∧ Below w.heap.size w w' := by
  have C1 := Lib.hid (wavIsWord z w)
  generalize wordB z = r at *
  go_enter Tryd.func54, Tryd.ntmps54
  go_wp2_with fail
  refine C1.out.mono ?_; rintro e w1 ⟨rfl, rfl⟩
  go_wp2_with fail
  go_ret
  exact ⟨rfl, Below.refl _ _⟩

end Go.Proofs.YthpioaboekpjoaaDoor
