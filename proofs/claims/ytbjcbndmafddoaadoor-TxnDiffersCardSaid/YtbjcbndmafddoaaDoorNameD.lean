/-
  Contracts of the reference's variable names.
-/
import Derived.Test.YtbjcbndmafddoaaDoorNameC
namespace Go.Proofs.YtbjcbndmafddoaaDoor
open Go.RowKit
set_option linter.unusedVariables false
set_option linter.unusedSimpArgs false

/-- What Split says, its third result. -/
def SPT (w : World) (s : ByteArray) (e : Ending) (w' : World) : Prop := ∃ (a : ByteArray) (i : Int), e = .returned (.tuple #[.string a, .int .i64 i, .bool (decide (Elt s))]) ∧ Below w.heap.size w w'
theorem SPT.mk {w w' : World} {s : ByteArray} {a : ByteArray} {i : Int} {b : Bool} (h : b = decide (Elt s)) (hb : Below w.heap.size w w') : SPT w s (.returned (.tuple #[.string a, .int .i64 i, .bool b])) w' := ⟨a, i, by rw [h], hb⟩

set_option maxRecDepth 100000 in
set_option maxHeartbeats 8000000 in
theorem refSplit (s : ByteArray) (w : World) (hs : s.size ≤ 2000000) :
    Calls Tryd.prog 77 #[.string s] w (SPT w s) := by
  have hno : ¬ Elt s → Hid (false = decide (Elt s)) := fun h => Lib.hid (decide_eq_false h).symm
  by_cases h4 : s.size < 4
  · have HR := hno (fun h => by have := h.1; omega)
    have f : (s.size : Int) < 4 := by omega
    clear hno h4
    go_enter Tryd.func77, Tryd.ntmps77
    go_wp2_with fail
    go_ret3
    exact SPT.mk HR.out (Below.refl _ _)
  obtain ⟨n, hn⟩ : ∃ n, s.size = n + 4 := ⟨s.size - 4, by omega⟩
  have f4 : ¬ (s.size : Int) < 4 := by omega
  have l1 : s.size - 1 < s.size := by omega
  have l2 : s.size - 2 < s.size := by omega
  have l3 : s.size - 3 < s.size := by omega
  have b1 := byt_at s _ l1
  have b2 := byt_at s _ l2
  have b3 := byt_at s _ l3
  have HE : Hid (Elt s ↔ (s[s.size - 1].toNat : Int) = 93 ∧ (s[s.size - 3].toNat : Int) = 91 ∧ 48 ≤ (s[s.size - 2].toNat : Int) ∧ (s[s.size - 2].toNat : Int) < 56 ∧ nameB (s.extract 0 (s.size - 3)) = true) := Lib.hid (by
    rw [← b1, ← b2, ← b3]; unfold Elt
    constructor
    · exact fun h => h.2
    · exact fun h => ⟨by omega, h⟩)
  have C1 := Lib.hid (fun w => refName (s.extract 0 (s.size - 3)) w (by unfold maxLen; rw [Lib.size_eq, Lib.extract_data]; simp only [List.length_take, List.length_drop]; omega))
  have u1 := s[s.size - 1].toNat_lt
  have u2 := s[s.size - 2].toNat_lt
  have u3 := s[s.size - 3].toNat_lt
  have x1 : ((s.size : Int) - 1).toNat = s.size - 1 := by omega
  have x2 : ((s.size : Int) - 2).toNat = s.size - 2 := by omega
  have x3 : ((s.size : Int) - 3).toNat = s.size - 3 := by omega
  have y1 : 1 ≤ (s.size : Int) := by omega
  have y2 : 2 ≤ (s.size : Int) := by omega
  have y3 : 3 ≤ (s.size : Int) := by omega
  generalize nameB (s.extract 0 (s.size - 3)) = nb at *
  clear b1 b2 b3 hn h4
  by_cases k1 : (s[s.size - 1].toNat : Int) = 93
  case neg =>
    have HR := hno (fun h => k1 (HE.out.1 h).1)
    have f1 : ((s[s.size - 1].toNat : Int) != 93) = true := by simpa using k1
    clear hno k1
    go_enter Tryd.func77, Tryd.ntmps77
    go_wp2_with fail
    go_ret3
    exact SPT.mk HR.out (Below.refl _ _)
  have f1 : ((s[s.size - 1].toNat : Int) != 93) = false := by simpa using k1
  by_cases k3 : (s[s.size - 3].toNat : Int) = 91
  case neg =>
    have HR := hno (fun h => k3 (HE.out.1 h).2.1)
    have f3 : ((s[s.size - 3].toNat : Int) != 91) = true := by simpa using k3
    clear hno k1 k3
    go_enter Tryd.func77, Tryd.ntmps77
    go_wp2_with fail
    go_ret3
    exact SPT.mk HR.out (Below.refl _ _)
  have f3 : ((s[s.size - 3].toNat : Int) != 91) = false := by simpa using k3
  by_cases k5 : (s[s.size - 2].toNat : Int) < 48
  · have HR := hno (fun h => by have := (HE.out.1 h).2.2.1; omega)
    have k6 : (s[s.size - 2].toNat : Int) - 48 < 0 := by omega
    clear hno k1 k3
    go_enter Tryd.func77, Tryd.ntmps77
    go_wp2_with fail
    go_ret3
    exact SPT.mk HR.out (Below.refl _ _)
  have k6 : ¬ (s[s.size - 2].toNat : Int) - 48 < 0 := by omega
  by_cases k7 : 8 ≤ (s[s.size - 2].toNat : Int) - 48
  · have HR := hno (fun h => by have := (HE.out.1 h).2.2.2.1; omega)
    clear hno k1 k3
    go_enter Tryd.func77, Tryd.ntmps77
    go_wp2_with fail
    go_ret3
    exact SPT.mk HR.out (Below.refl _ _)
  have HR : Hid (nb = decide (Elt s)) := Lib.hid (by
    cases nb
    · exact (hno (fun h => by have := (HE.out.1 h).2.2.2.2; cases this)).out
    · exact (decide_eq_true (HE.out.2 ⟨k1, k3, by omega, by omega, rfl⟩)).symm)
  clear hno k1 k3
  cases nb
  all_goals
    go_enter Tryd.func77, Tryd.ntmps77
    go_wp2_with fail
    refine (C1.out _).mono ?_; rintro e w1 ⟨rfl, hb⟩
    have HB := Lib.hid hb
    clear hb
    go_wp2_with fail
    go_ret3
    exact SPT.mk HR.out HB.out

set_option maxRecDepth 100000 in
set_option maxHeartbeats 4000000 in
theorem refIsVar (s : ByteArray) (w : World) (hs : s.size ≤ 2000000) :
    Calls Tryd.prog 56 #[.string s] w fun e w' => e = .returned (.bool (varB s)) ∧ Below w.heap.size w w' := by
  have C1 := Lib.hid (fun w => refSplit s w hs)
  have C2 := Lib.hid (fun w => refName s w (by unfold maxLen; omega))
  have HV : Hid (varB s = (decide (Elt s) || nameB s)) := Lib.hid rfl
  unfold SPT at C1
  generalize varB s = r at *
  generalize decide (Elt s) = el at *
  generalize nameB s = nb at *
  cases el
  · have HR : Hid (r = nb) := Lib.hid (by rw [HV.out]; rfl)
    clear HV
    go_enter Tryd.func56, Tryd.ntmps56
    go_wp2_with fail
    refine (C1.out _).mono ?_; rintro e w1 ⟨a, i, rfl, hb⟩
    have HB := Lib.hid hb
    clear hb
    go_wp2_with fail
    refine (C2.out _).mono ?_; rintro e w2 ⟨rfl, hb⟩
    replace HB := Lib.hid (below_step HB.out hb)
    clear hb
    go_wp2_with fail
    go_ret
    exact ⟨retb (by rw [HR.out]), HB.out⟩
  · have HR : Hid (r = true) := Lib.hid (by rw [HV.out]; rfl)
    clear HV
    go_enter Tryd.func56, Tryd.ntmps56
    go_wp2_with fail
    refine (C1.out _).mono ?_; rintro e w1 ⟨a, i, rfl, hb⟩
    have HB := Lib.hid hb
    clear hb
    go_wp2_with fail
    go_ret
    exact ⟨retb (by rw [HR.out]), HB.out⟩

end Go.Proofs.YtbjcbndmafddoaaDoor
