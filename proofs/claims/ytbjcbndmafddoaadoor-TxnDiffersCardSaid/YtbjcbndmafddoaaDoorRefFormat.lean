/-
  The contract of the reference's Format.
-/
import Derived.Test.YtbjcbndmafddoaaDoorAwake
import Derived.Laws.IdiomStrings
import Derived.Lib.ItoaLen
namespace Go.Proofs.YtbjcbndmafddoaaDoor
open Go.RowKit

theorem bytes_eq {b c : ByteArray} (h : b.data.toList = c.data.toList) : b = c := by
  obtain ⟨⟨l⟩⟩ := b
  obtain ⟨⟨m⟩⟩ := c
  simp at h
  rw [h]
theorem fmtS_data (n : Int) : (fmtS n).data.toList = Lib.itoa n := by simp [fmtS]
theorem dec_len {u : Nat} (h : u ≤ 9223372036854775808) : (Lib.decDigits u).length ≤ 21 := by
  by_cases hz : u = 0
  · subst hz
    rw [Lib.decDigits, dif_pos (by decide)]; simp
  · have h1 := Lib.itoa_neg u (by omega)
    have h2 := Lib.itoa_length_le (-(u : Int)) (by omega) (by omega)
    rw [h1] at h2
    simp at h2; omega

end Go.Proofs.YtbjcbndmafddoaaDoor
