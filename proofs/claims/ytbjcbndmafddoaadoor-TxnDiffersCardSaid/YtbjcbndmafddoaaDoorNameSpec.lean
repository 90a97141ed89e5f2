/-
  Names and variable names in plain Lean. No program in sight.
-/
import Derived.Test.YtbjcbndmafddoaaDoorParseSpec
import Derived.Test.YtbjcbndmafddoaaDoorCutSpec
import Derived.Lib.SlicesS
namespace Go.Proofs.YtbjcbndmafddoaaDoor
open Go.RowKit
set_option linter.unusedVariables false

/-- A lower letter; a sign that may stand in a name. -/
def lowC (c : Int) : Bool := decide (97 ≤ c ∧ c ≤ 122)
def digC (c : Int) : Bool := decide (48 ≤ c ∧ c ≤ 57)
def innC (c : Int) : Bool := decide ((97 ≤ c ∧ c ≤ 122) ∨ (48 ≤ c ∧ c ≤ 57) ∨ (65 ≤ c ∧ c ≤ 90) ∨ c = 95)
/-- A word: it begins with a lower letter, and all its signs may stand in a name. -/
def Wrd (s : ByteArray) : Prop := 0 < s.size ∧ lowC (byt s 0) = true ∧ ∀ j, j < s.size → innC (byt s j) = true
instance (s : ByteArray) : Decidable (Wrd s) := by unfold Wrd; infer_instance
def keyWords : List ByteArray := [⟨#[99, 108, 97, 115, 115]⟩, ⟨#[101, 120, 116, 101, 110, 100, 115]⟩, ⟨#[114, 97, 110, 100]⟩, ⟨#[114, 97, 110, 100, 99]⟩, ⟨#[115, 116, 97, 116, 101]⟩, ⟨#[99, 111, 110, 115, 116, 114, 97, 105, 110, 116]⟩, ⟨#[115, 111, 102, 116]⟩, ⟨#[100, 105, 115, 116]⟩, ⟨#[105, 102]⟩, ⟨#[101, 108, 115, 101]⟩, ⟨#[101, 97, 99, 104]⟩, ⟨#[105, 110]⟩, ⟨#[115, 111, 108, 118, 101]⟩, ⟨#[98, 101, 102, 111, 114, 101]⟩, ⟨#[105, 110, 115, 105, 100, 101]⟩, ⟨#[112, 114, 111, 112, 101, 114, 116, 121]⟩, ⟨#[115, 101, 113]⟩, ⟨#[97, 110, 100]⟩, ⟨#[111, 114]⟩, ⟨#[110, 111, 116]⟩, ⟨#[115, 101, 116]⟩, ⟨#[104, 111, 108, 100]⟩, ⟨#[112, 108, 97, 105, 110]⟩, ⟨#[114, 101, 112, 101, 97, 116]⟩]
def isKey (s : ByteArray) : Bool := Lib.containsS keyWords s
def nameB (s : ByteArray) : Bool := decide (Wrd s) && decide (s.size ≤ 16) && !isKey s
theorem nameB_iff {s : ByteArray} : nameB s = true ↔ Wrd s ∧ s.size ≤ 16 ∧ isKey s = false := by
  unfold nameB; simp [and_assoc]
/-- The name of an element of an array. -/
def Elt (s : ByteArray) : Prop := 4 ≤ s.size ∧ byt s (s.size - 1) = 93 ∧ byt s (s.size - 3) = 91 ∧ 48 ≤ byt s (s.size - 2) ∧ byt s (s.size - 2) < 56 ∧ nameB (s.extract 0 (s.size - 3)) = true
instance (s : ByteArray) : Decidable (Elt s) := by unfold Elt; infer_instance
def varB (s : ByteArray) : Bool := decide (Elt s) || nameB s
theorem wrd_ne {s : ByteArray} {b : UInt8} (h : Wrd s) (hb : innC b.toNat = false) : ∀ x ∈ s.data.toList, x ≠ b := by
  intro x hx e
  obtain ⟨j, hj, rfl⟩ := List.mem_iff_getElem.1 hx
  have h1 := h.2.2 j (by rw [Lib.size_eq]; exact hj)
  unfold byt at h1
  rw [List.getD_eq_getElem?_getD, List.getElem?_eq_getElem hj] at h1
  simp only [Option.getD_some] at h1
  rw [e, hb] at h1
  cases h1
/-- The parts ahead of a byte and behind it. -/
def preB (b : UInt8) (s : ByteArray) : ByteArray := ⟨(s.data.toList.take (ix b s.data.toList)).toArray⟩
def posB (b : UInt8) (s : ByteArray) : ByteArray := ⟨(s.data.toList.drop (ix b s.data.toList + 1)).toArray⟩
def hasB (b : UInt8) (s : ByteArray) : Bool := decide (ix b s.data.toList < s.data.toList.length)
theorem preB_size (b : UInt8) (s : ByteArray) : (preB b s).size = ix b s.data.toList := by
  have := ix_le (b := b) s.data.toList
  unfold preB; rw [Lib.size_eq]; simp only [List.length_take]; omega
theorem posB_size (b : UInt8) (s : ByteArray) : (posB b s).size = s.size - (ix b s.data.toList + 1) := by
  unfold posB; rw [Lib.size_eq, Lib.size_eq]; simp
theorem ba_eq {b c : ByteArray} (h : b.data.toList = c.data.toList) : b = c := by
  obtain ⟨⟨b⟩⟩ := b; obtain ⟨⟨c⟩⟩ := c; simp only at h; rw [h]
theorem preB_extract (b : UInt8) (s : ByteArray) : s.extract 0 (ix b s.data.toList) = preB b s := ba_eq (by
  unfold preB; rw [Lib.extract_data]; simp)
theorem byt_posB (b : UInt8) (s : ByteArray) (j : Nat) : byt (posB b s) j = byt s (ix b s.data.toList + 1 + j) := by
  unfold byt posB
  simp [List.getD_eq_getElem?_getD, List.getElem?_drop]
theorem preB_no {b : UInt8} {s : ByteArray} (h : hasB b s = false) : preB b s = s := by
  unfold hasB at h
  have h2 := of_decide_eq_false h
  have h3 := ix_le (b := b) s.data.toList
  unfold preB
  rw [List.take_of_length_le (by omega)]
theorem byt_ix {b : UInt8} {s : ByteArray} (h : hasB b s = true) : byt s (ix b s.data.toList) = b.toNat := by
  unfold byt
  rw [ix_at _ (of_decide_eq_true h)]
/-- The program's form of a variable name. -/
def varP (s : ByteArray) : Bool := if hasB 91 s = true then nameB (preB 91 s) && (decide ((posB 91 s).size = 2) && (decide (48 ≤ byt (posB 91 s) 0) && (decide (byt (posB 91 s) 0 < 56) && decide (byt (posB 91 s) 1 = 93)))) else nameB s
theorem varP_eq (s : ByteArray) : varP s = varB s := by
  have hN : nameB s = true → hasB 91 s = false := fun h => by
    have hw := (nameB_iff.1 h).1
    unfold hasB
    rw [ix_none _ (wrd_ne hw (by decide))]
    simp
  have hE : Elt s → hasB 91 s = true ∧ ix 91 s.data.toList = s.size - 3 := fun h => by
    obtain ⟨h1, h2, h3, h4, h5, h6⟩ := h
    have hw := (nameB_iff.1 h6).1
    have hlen : s.data.toList.length = s.size := (Lib.size_eq s).symm
    have hx : ix 91 s.data.toList = s.size - 3 := by
      refine ix_unique _ _ (by omega) (fun j hj => ?_) (fun _ => ?_)
      · have := wrd_ne hw (b := 91) (by decide) (s.data.toList.getD j 0) (by
          rw [Lib.extract_data]
          simp only [List.drop_zero, Nat.sub_zero]
          rw [List.getD_eq_getElem?_getD, List.getElem?_eq_getElem (by omega)]
          simp only [Option.getD_some]
          rw [List.mem_take_iff_getElem]
          exact ⟨j, by omega, rfl⟩)
        exact this
      · unfold byt at h3
        exact UInt8.toNat_inj.1 (by simpa using (by omega : (s.data.toList.getD (s.size - 3) 0).toNat = 91))
    exact ⟨by unfold hasB; rw [hx]; exact decide_eq_true (by omega), hx⟩
  unfold varP varB
  by_cases hh : hasB 91 s = true
  · rw [if_pos hh]
    have hn : nameB s = false := by
      cases h : nameB s
      · rfl
      · rw [hN h] at hh; cases hh
    rw [hn, Bool.or_false, Bool.eq_iff_iff]
    simp only [Bool.and_eq_true, decide_eq_true_eq]
    have hlt : ix 91 s.data.toList < s.size := by rw [Lib.size_eq]; exact of_decide_eq_true hh
    constructor
    · rintro ⟨h1, h2, h3, h4, h5⟩
      have hw := (nameB_iff.1 h1).1.1
      rw [posB_size] at h2
      rw [preB_size] at hw
      have hx : ix 91 s.data.toList = s.size - 3 := by omega
      have hb := byt_ix hh
      rw [byt_posB] at h3 h4 h5
      refine ⟨by omega, ?_, ?_, ?_, ?_, ?_⟩
      · rw [← h5]; congr 1; omega
      · rw [← hx, hb]; rfl
      · have e : ix 91 s.data.toList + 1 + 0 = s.size - 2 := by omega
        rw [e] at h3; exact h3
      · have e : ix 91 s.data.toList + 1 + 0 = s.size - 2 := by omega
        rw [e] at h4; exact h4
      · rw [← hx, preB_extract]; exact h1
    · intro h
      obtain ⟨_, hx⟩ := hE h
      obtain ⟨h1, h2, h3, h4, h5, h6⟩ := h
      rw [posB_size, byt_posB, byt_posB, ← preB_extract, hx]
      refine ⟨h6, by omega, ?_, ?_, ?_⟩
      · rw [show s.size - 3 + 1 + 0 = s.size - 2 by omega]; exact h4
      · rw [show s.size - 3 + 1 + 0 = s.size - 2 by omega]; exact h5
      · rw [show s.size - 3 + 1 + 1 = s.size - 1 by omega]; exact h2
  · rw [if_neg hh]
    have : ¬ Elt s := fun h => hh (hE h).1
    rw [decide_eq_false this, Bool.false_or]

end Go.Proofs.YtbjcbndmafddoaaDoor
