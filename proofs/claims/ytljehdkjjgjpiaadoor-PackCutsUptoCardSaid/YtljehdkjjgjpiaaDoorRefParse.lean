/-
  The contracts of the reference's digits and Parse.
-/
import Derived.Test.YtljehdkjjgjpiaaDoorParse
namespace Go.Proofs.YtljehdkjjgjpiaaDoor
open Go.RowKit

theorem toList_one (s : ByteArray) : (s.toList == [48]) = decide (s.size = 1 ∧ byt s 0 = 48) := by
  obtain ⟨⟨l⟩⟩ := s
  have e : (ByteArray.mk ⟨l⟩).toList = l := by simp
  have e2 : (ByteArray.mk ⟨l⟩).size = l.length := rfl
  have e3 : byt (ByteArray.mk ⟨l⟩) 0 = ((l.getD 0 0).toNat : Int) := rfl
  rw [e, e2, e3]
  match l with
  | [] => simp
  | [x] =>
    simp only [List.length_singleton, List.getD_cons_zero, true_and]
    rw [Bool.eq_iff_iff]
    simp only [beq_iff_eq, List.cons.injEq, and_true, decide_eq_true_eq]
    constructor
    · rintro rfl; rfl
    · intro h
      exact UInt8.toNat_inj.1 (by simpa using (by omega : x.toNat = 48))
  | x :: y :: r => simp

end Go.Proofs.YtljehdkjjgjpiaaDoor
