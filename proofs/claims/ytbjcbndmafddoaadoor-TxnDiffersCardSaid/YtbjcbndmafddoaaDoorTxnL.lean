/-
  Contract of a pair's text: txn.part.
-/
import Derived.Test.YtbjcbndmafddoaaDoorTxnK
import Derived.Test.YtbjcbndmafddoaaDoorAwake
import Derived.Test.YtbjcbndmafddoaaDoorRefParse
namespace Go.Proofs.YtbjcbndmafddoaaDoor
open Go.RowKit
set_option linter.unusedVariables false
set_option linter.unusedSimpArgs false

/-- What a pair's text denotes: the name, the value, the error. -/
noncomputable def partT (s : ByteArray) : ByteArray × Int × Int :=
  if hasB 61 s = false ∨ varB (preB 61 s) = false then (⟨#[]⟩, 0, 5) else if parE (posB 61 s) ≠ 0 then (⟨#[]⟩, 0, parE (posB 61 s)) else if wordB (parV (posB 61 s)) = false then (⟨#[]⟩, 0, 3) else (preB 61 s, parV (posB 61 s), 0)
theorem part_ways (s : ByteArray) : (hasB 61 s = false ∧ partT s = (⟨#[]⟩, 0, 5)) ∨ (hasB 61 s = true ∧ varB (preB 61 s) = false ∧ partT s = (⟨#[]⟩, 0, 5)) ∨ (hasB 61 s = true ∧ varB (preB 61 s) = true ∧ parE (posB 61 s) ≠ 0 ∧ partT s = (⟨#[]⟩, 0, parE (posB 61 s))) ∨
    (hasB 61 s = true ∧ varB (preB 61 s) = true ∧ parE (posB 61 s) = 0 ∧ wordB (parV (posB 61 s)) = false ∧ partT s = (⟨#[]⟩, 0, 3)) ∨ (hasB 61 s = true ∧ varB (preB 61 s) = true ∧ parE (posB 61 s) = 0 ∧ wordB (parV (posB 61 s)) = true ∧ partT s = (preB 61 s, parV (posB 61 s), 0)) := by
  unfold partT
  cases h1 : hasB 61 s <;> cases h2 : varB (preB 61 s) <;> simp
  by_cases h3 : parE (posB 61 s) = 0
  · right; cases h4 : wordB (parV (posB 61 s)) <;> simp [h3]
  · left; simp [h3]
def ret3s (r : ByteArray × Int × Int) : Ending := .returned (.tuple #[.string r.1, .int .i64 r.2.1, .int .i64 r.2.2])
def ret3p (r : ByteArray × Int × Int) : Ending := .returned (.tuple #[.agg #[.string r.1, .int .i64 r.2.1], .int .i64 r.2.2])

set_option maxRecDepth 100000 in
set_option maxHeartbeats 8000000 in
theorem txnPart (s : ByteArray) (w : World) (hs : s.size ≤ 2000000) (hk : KW w) (hm : MLen w) :
    Calls Tryd.prog 36 #[.string s] w fun e w' => e = ret3p (partT s) ∧ Below w.heap.size w w' := by
  have HK := Lib.hid hk
  have HM := Lib.hid hm
  have C0 := Lib.hid (fun w h => cutAt 61 s w hs h)
  have hps := preB_size 61 s
  have hqs := posB_size 61 s
  have hle := ix_le (b := 61) s.data.toList
  rw [← Lib.size_eq] at hle
  have C1 := Lib.hid (fun w h h' => txnIsVar (preB 61 s) w (by omega) h h')
  have C2 := Lib.hid (fun w => numParse (posB 61 s) w (by unfold maxLen; omega))
  have C3 := Lib.hid (fun w => txnIsWord (parV (posB 61 s)) w)
  have hw := part_ways s
  generalize partT s = r at *
  generalize hasB 61 s = hb0 at *
  generalize varB (preB 61 s) = vb at *
  generalize parE (posB 61 s) = pe at *
  generalize wordB (parV (posB 61 s)) = wb at *
  generalize parV (posB 61 s) = pv at *
  generalize preB 61 s = ps at *
  generalize posB 61 s = qs at *
  clear hps hqs hle hk hm
  rcases hw with ⟨rfl, hr⟩ | ⟨rfl, rfl, hr⟩ | ⟨rfl, rfl, he, hr⟩ | ⟨rfl, rfl, rfl, rfl, hr⟩ | ⟨rfl, rfl, rfl, rfl, hr⟩
  · have HR := Lib.hid hr
    clear hr
    go_enter Tryd.func36, Tryd.ntmps36
    go_wp2_with fail
    have XR := Lib.hid (box_new (W := w) (g := w.heap.size) 55 #[.string ⟨#[]⟩, .int .i64 0] (by simp))
    have HB := Lib.hid (below_alloc w (.cells #[.string ⟨#[]⟩, .int .i64 0] 55))
    generalize w.alloc (.cells #[.string ⟨#[]⟩, .int .i64 0] 55) = w0 at *
    refine (C0.out _ (HM.out.below HB.out)).mono ?_; rintro e w1 ⟨rfl, hb⟩
    replace XR := Lib.hid (XR.out.below hb)
    replace HB := Lib.hid (below_step HB.out hb)
    clear hb
    have XR_0 := XR.out.at_ 0 _ rfl
    have XR_1 := XR.out.at_ 1 _ rfl
    have XR_z0 := XR.out.frozen 0
    have XR_z1 := XR.out.frozen 1
    go_wp2_with fail
    refine bodyPost_ret (v := .tuple #[.agg #[.string ⟨#[]⟩, .int .i64 0], .int .i64 5]) (by simp [results, Tryd.results36, go_sem, XR_0, XR_1]) rfl ⟨by rw [HR.out]; rfl, ?_⟩
    exact (HB.out.setCell (p := ⟨w.heap.size, 0, none⟩) (Nat.le_refl _) _).setCell (p := ⟨w.heap.size, 1, none⟩) (Nat.le_refl _) _
  · have HR := Lib.hid hr
    clear hr
    go_enter Tryd.func36, Tryd.ntmps36
    go_wp2_with fail
    have XR := Lib.hid (box_new (W := w) (g := w.heap.size) 55 #[.string ⟨#[]⟩, .int .i64 0] (by simp))
    have HB := Lib.hid (below_alloc w (.cells #[.string ⟨#[]⟩, .int .i64 0] 55))
    generalize w.alloc (.cells #[.string ⟨#[]⟩, .int .i64 0] 55) = w0 at *
    refine (C0.out _ (HM.out.below HB.out)).mono ?_; rintro e w1 ⟨rfl, hb⟩
    replace XR := Lib.hid (XR.out.below hb)
    replace HB := Lib.hid (below_step HB.out hb)
    clear hb
    go_wp2_with fail
    refine (C1.out _ (HK.out.below HB.out) (HM.out.below HB.out)).mono ?_; rintro e w2 ⟨rfl, hb⟩
    replace XR := Lib.hid (XR.out.below hb)
    replace HB := Lib.hid (below_step HB.out hb)
    clear hb
    have XR_0 := XR.out.at_ 0 _ rfl
    have XR_1 := XR.out.at_ 1 _ rfl
    have XR_z0 := XR.out.frozen 0
    have XR_z1 := XR.out.frozen 1
    go_wp2_with fail
    refine bodyPost_ret (v := .tuple #[.agg #[.string ⟨#[]⟩, .int .i64 0], .int .i64 5]) (by simp [results, Tryd.results36, go_sem, XR_0, XR_1]) rfl ⟨by rw [HR.out]; rfl, ?_⟩
    exact (HB.out.setCell (p := ⟨w.heap.size, 0, none⟩) (Nat.le_refl _) _).setCell (p := ⟨w.heap.size, 1, none⟩) (Nat.le_refl _) _
  · have HR := Lib.hid hr
    have f1 : (pe != 0) = true := by simpa using he
    clear hr he
    go_enter Tryd.func36, Tryd.ntmps36
    go_wp2_with fail
    have XR := Lib.hid (box_new (W := w) (g := w.heap.size) 55 #[.string ⟨#[]⟩, .int .i64 0] (by simp))
    have HB := Lib.hid (below_alloc w (.cells #[.string ⟨#[]⟩, .int .i64 0] 55))
    generalize w.alloc (.cells #[.string ⟨#[]⟩, .int .i64 0] 55) = w0 at *
    refine (C0.out _ (HM.out.below HB.out)).mono ?_; rintro e w1 ⟨rfl, hb⟩
    replace XR := Lib.hid (XR.out.below hb)
    replace HB := Lib.hid (below_step HB.out hb)
    clear hb
    go_wp2_with fail
    refine (C1.out _ (HK.out.below HB.out) (HM.out.below HB.out)).mono ?_; rintro e w2 ⟨rfl, hb⟩
    replace XR := Lib.hid (XR.out.below hb)
    replace HB := Lib.hid (below_step HB.out hb)
    clear hb
    go_wp2_with fail
    refine (C2.out _).mono ?_; rintro e w3 ⟨rfl, hb⟩
    replace XR := Lib.hid (XR.out.below hb)
    replace HB := Lib.hid (below_step HB.out hb)
    clear hb
    have XR_0 := XR.out.at_ 0 _ rfl
    have XR_1 := XR.out.at_ 1 _ rfl
    have XR_z0 := XR.out.frozen 0
    have XR_z1 := XR.out.frozen 1
    go_wp2_with fail
    refine bodyPost_ret (v := .tuple #[.agg #[.string ⟨#[]⟩, .int .i64 0], .int .i64 pe]) (by simp [results, Tryd.results36, go_sem, XR_0, XR_1]) rfl ⟨by rw [HR.out]; rfl, ?_⟩
    exact (HB.out.setCell (p := ⟨w.heap.size, 0, none⟩) (Nat.le_refl _) _).setCell (p := ⟨w.heap.size, 1, none⟩) (Nat.le_refl _) _
  · have HR := Lib.hid hr
    clear hr
    go_enter Tryd.func36, Tryd.ntmps36
    go_wp2_with fail
    have XR := Lib.hid (box_new (W := w) (g := w.heap.size) 55 #[.string ⟨#[]⟩, .int .i64 0] (by simp))
    have HB := Lib.hid (below_alloc w (.cells #[.string ⟨#[]⟩, .int .i64 0] 55))
    generalize w.alloc (.cells #[.string ⟨#[]⟩, .int .i64 0] 55) = w0 at *
    refine (C0.out _ (HM.out.below HB.out)).mono ?_; rintro e w1 ⟨rfl, hb⟩
    replace XR := Lib.hid (XR.out.below hb)
    replace HB := Lib.hid (below_step HB.out hb)
    clear hb
    go_wp2_with fail
    refine (C1.out _ (HK.out.below HB.out) (HM.out.below HB.out)).mono ?_; rintro e w2 ⟨rfl, hb⟩
    replace XR := Lib.hid (XR.out.below hb)
    replace HB := Lib.hid (below_step HB.out hb)
    clear hb
    go_wp2_with fail
    refine (C2.out _).mono ?_; rintro e w3 ⟨rfl, hb⟩
    replace XR := Lib.hid (XR.out.below hb)
    replace HB := Lib.hid (below_step HB.out hb)
    clear hb
    go_wp2_with fail
    refine (C3.out _).mono ?_; rintro e w' ⟨rfl, rfl⟩
    have XR_0 := XR.out.at_ 0 _ rfl
    have XR_1 := XR.out.at_ 1 _ rfl
    have XR_z0 := XR.out.frozen 0
    have XR_z1 := XR.out.frozen 1
    go_wp2_with fail
    refine bodyPost_ret (v := .tuple #[.agg #[.string ⟨#[]⟩, .int .i64 0], .int .i64 3]) (by simp [results, Tryd.results36, go_sem, XR_0, XR_1]) rfl ⟨by rw [HR.out]; rfl, ?_⟩
    exact (HB.out.setCell (p := ⟨w.heap.size, 0, none⟩) (Nat.le_refl _) _).setCell (p := ⟨w.heap.size, 1, none⟩) (Nat.le_refl _) _
  · have HR := Lib.hid hr
    clear hr
    go_enter Tryd.func36, Tryd.ntmps36
    go_wp2_with fail
    have XR := Lib.hid (box_new (W := w) (g := w.heap.size) 55 #[.string ⟨#[]⟩, .int .i64 0] (by simp))
    have HB := Lib.hid (below_alloc w (.cells #[.string ⟨#[]⟩, .int .i64 0] 55))
    generalize w.alloc (.cells #[.string ⟨#[]⟩, .int .i64 0] 55) = w0 at *
    refine (C0.out _ (HM.out.below HB.out)).mono ?_; rintro e w1 ⟨rfl, hb⟩
    replace XR := Lib.hid (XR.out.below hb)
    replace HB := Lib.hid (below_step HB.out hb)
    clear hb
    go_wp2_with fail
    refine (C1.out _ (HK.out.below HB.out) (HM.out.below HB.out)).mono ?_; rintro e w2 ⟨rfl, hb⟩
    replace XR := Lib.hid (XR.out.below hb)
    replace HB := Lib.hid (below_step HB.out hb)
    clear hb
    go_wp2_with fail
    refine (C2.out _).mono ?_; rintro e w3 ⟨rfl, hb⟩
    replace XR := Lib.hid (XR.out.below hb)
    replace HB := Lib.hid (below_step HB.out hb)
    clear hb
    go_wp2_with fail
    refine (C3.out _).mono ?_; rintro e w' ⟨rfl, rfl⟩
    have XR_0 := XR.out.at_ 0 _ rfl
    have XR_1 := XR.out.at_ 1 _ rfl
    have XR_z0 := XR.out.frozen 0
    have XR_z1 := XR.out.frozen 1
    go_wp2_with fail
    refine bodyPost_ret (v := .tuple #[.agg #[.string ps, .int .i64 pv], .int .i64 0]) (by simp [results, Tryd.results36, go_sem, XR_0, XR_1]) rfl ⟨by rw [HR.out]; rfl, ?_⟩
    exact (HB.out.setCell (p := ⟨w.heap.size, 0, none⟩) (Nat.le_refl _) _).setCell (p := ⟨w.heap.size, 1, none⟩) (Nat.le_refl _) _

end Go.Proofs.YtbjcbndmafddoaaDoor
