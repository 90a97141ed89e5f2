/-
  What a decimal form denotes: plain definitions and their laws.
-/
import Derived.Test.YtbjcbndmafddoaaDoorSpec
namespace Go.Proofs.YtbjcbndmafddoaaDoor
open Go.RowKit

/-- Byte number k of a string, as a number (0 behind the end). -/
def byt (d : ByteArray) (k : Nat) : Int := ((d.data.toList.getD k 0).toNat : Int)
theorem byt_bd (d : ByteArray) (k : Nat) : 0 ≤ byt d k ∧ byt d k ≤ 255 := by
  unfold byt
  have := (d.data.toList.getD k 0).toNat_lt
  omega
theorem byt_at (d : ByteArray) (k : Nat) (h : k < d.size) : byt d k = (d[k].toNat : Int) := by
  unfold byt
  rw [List.getD_eq_getElem?_getD, List.getElem?_eq_getElem (by simpa using h)]
  rfl
/-- The digits' value of the first k bytes. -/
def dvl (d : ByteArray) : Nat → Nat
  | 0 => 0
  | k + 1 => 10 * dvl d k + (byt d k - 48).toNat
theorem dvl_succ (d : ByteArray) (k : Nat) : dvl d (k + 1) = 10 * dvl d k + (byt d k - 48).toNat := rfl
theorem dvl_mono (d : ByteArray) {k n : Nat} (h : k ≤ n) : dvl d k ≤ dvl d n := by
  induction n with
  | zero => obtain rfl : k = 0 := by omega
            exact Nat.le_refl _
  | succ n ih =>
    by_cases e : k = n + 1
    · rw [e]; exact Nat.le_refl _
    · have := ih (by omega)
      rw [dvl_succ]; omega
/-- The first k bytes are digits. -/
def digs (d : ByteArray) (k : Nat) : Prop := ∀ j, j < k → 48 ≤ byt d j ∧ byt d j ≤ 57
theorem digs_zero (d : ByteArray) : digs d 0 := fun _ h => by omega
theorem digs_succ {d : ByteArray} {k : Nat} (h : digs d k) (h1 : 48 ≤ byt d k) (h2 : byt d k ≤ 57) : digs d (k + 1) := fun j hj => by
  by_cases e : j = k
  · rw [e]; exact ⟨h1, h2⟩
  · exact h j (by omega)

/-- Does the string begin with a minus sign? -/
def isNeg (s : ByteArray) : Bool := decide (0 < s.size ∧ byt s 0 = 45)
/-- The digits: what stands behind the sign. -/
def body (s : ByteArray) : ByteArray := if isNeg s then s.extract 1 s.size else s
/-- Is the string no decimal form? -/
def badForm (s : ByteArray) : Prop := (body s).size = 0 ∨ ¬ digs (body s) (body s).size ∨ (byt (body s) 0 = 48 ∧ (1 < (body s).size ∨ isNeg s = true))
/-- The number that a decimal form denotes. -/
def den (s : ByteArray) : Int := if isNeg s then -(dvl (body s) (body s).size : Int) else dvl (body s) (body s).size
open Classical in
noncomputable def parV (s : ByteArray) : Int := if badForm s then 0 else cV (den s)
open Classical in
noncomputable def parE (s : ByteArray) : Int := if badForm s then 5 else cE (den s)

theorem par_bad {s : ByteArray} (h : badForm s) : Ending.returned (.tuple #[.int .i64 0, .int .i64 5]) = .returned (.tuple #[.int .i64 (parV s), .int .i64 (parE s)]) := by
  unfold parV parE; rw [if_pos h, if_pos h]
theorem par_good {s : ByteArray} (h : ¬ badForm s) : parV s = cV (den s) ∧ parE s = cE (den s) := by
  unfold parV parE; rw [if_neg h, if_neg h]; exact ⟨rfl, rfl⟩
theorem par_over {s : ByteArray} (h : ¬ badForm s) (hb : 9223372036854775808 < dvl (body s) (body s).size) : Ending.returned (.tuple #[.int .i64 0, .int .i64 3]) = .returned (.tuple #[.int .i64 (parV s), .int .i64 (parE s)]) := by
  obtain ⟨h1, h2⟩ := par_good h
  rw [h1, h2]
  refine ret_c (.inr ⟨?_, rfl, rfl⟩)
  unfold den; split <;> omega
theorem body_size (s : ByteArray) : (isNeg s = true → (body s).size + 1 = s.size) ∧ (isNeg s = false → body s = s) := by
  unfold body
  constructor
  · intro h
    rw [if_pos h]
    unfold isNeg at h
    simp at h
    simp; omega
  · intro h
    rw [h]; rfl

end Go.Proofs.YtbjcbndmafddoaaDoor
