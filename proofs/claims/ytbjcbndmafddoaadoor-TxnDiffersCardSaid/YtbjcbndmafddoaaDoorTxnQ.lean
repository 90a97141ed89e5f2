/-
  The law's examples (awake), in plain Lean.
-/
import Derived.Test.YtbjcbndmafddoaaDoorTxnP
import Derived.Test.YtbjcbndmafddoaaDoorText
namespace Go.Proofs.YtbjcbndmafddoaaDoor
open Go.RowKit
set_option linter.unusedVariables false
set_option linter.unusedSimpArgs false

def xA : ByteArray := ⟨#[97]⟩
def xB2 : ByteArray := ⟨#[98, 91, 50, 93]⟩
theorem fmt_one {i : Nat} (h : i < 10) : fmtS (i : Int) = ⟨#[UInt8.ofNat (48 + i)]⟩ := by
  unfold fmtS
  rw [Lib.itoa_nonneg, Lib.decDigits_one h]
theorem par_one {i : Nat} (h : i < 10) (d : ByteArray) (hd : d = ⟨#[UInt8.ofNat (48 + i)]⟩) : parV d = i ∧ parE d = 0 := by
  rw [hd, ← fmt_one h]
  exact par_fmt (i : Int) (by omega) (by omega)
theorem part_good {s n d : ByteArray} {i : Nat} (h : i < 10) (h1 : hasB 61 s = true) (h2 : preB 61 s = n) (h3 : posB 61 s = d) (h4 : varB n = true) (hd : d = ⟨#[UInt8.ofNat (48 + i)]⟩) : partT s = (n, (i : Int), 0) := by
  have hp := par_one h d hd
  unfold partT
  rw [h2, h3, hp.1, hp.2, if_neg (by simp [h1, h4]), if_neg (by decide), if_neg (by
    have : wordB (i : Int) = true := by unfold wordB; exact decide_eq_true (by omega)
    simp [this])]
theorem partA : partT ⟨#[97, 61, 49]⟩ = (xA, 1, 0) := part_good (d := ⟨#[49]⟩) (i := 1) (by decide) (by decide +kernel) (by decide +kernel) (by decide +kernel) (by decide +kernel) (by decide +kernel)
theorem partB2 : partT ⟨#[98, 91, 50, 93, 61, 55]⟩ = (xB2, 7, 0) := part_good (d := ⟨#[55]⟩) (i := 7) (by decide) (by decide +kernel) (by decide +kernel) (by decide +kernel) (by decide +kernel) (by decide +kernel)
theorem awkParse : parseT ⟨#[97, 61, 49, 32, 98, 91, 50, 93, 61, 55]⟩ = ([xA, xB2], [1, 7], 0) := by
  have hw : words 32 ⟨#[97, 61, 49, 32, 98, 91, 50, 93, 61, 55]⟩ = [⟨#[97, 61, 49]⟩, ⟨#[98, 91, 50, 93, 61, 55]⟩] := by decide +kernel
  have hr : prsRun (words 32 ⟨#[97, 61, 49, 32, 98, 91, 50, 93, 61, 55]⟩) [] [] = ([xA, xB2], [1, 7], 0) := by
    rw [hw, prs_go (by rw [partA]) (by rw [partA]; decide +kernel), partA, prs_go (by rw [partB2]) (by rw [partB2]; decide +kernel), partB2, prs_nil]; rfl
  unfold parseT
  rw [hr, if_neg (by decide), if_neg (by rintro ⟨_, h⟩; revert h; show ¬ 128 < 2; decide)]
theorem awkDup : parseT ⟨#[97, 61, 49, 32, 97, 61, 49]⟩ = ([], [], 8) := by
  have hw : words 32 ⟨#[97, 61, 49, 32, 97, 61, 49]⟩ = [⟨#[97, 61, 49]⟩, ⟨#[97, 61, 49]⟩] := by decide +kernel
  have hr : prsRun (words 32 ⟨#[97, 61, 49, 32, 97, 61, 49]⟩) [] [] = ([], [], 8) := by
    rw [hw, prs_go (by rw [partA]) (by rw [partA]; decide +kernel), partA, prs_dup (by rw [partA]) (by rw [partA]; decide +kernel)]
  unfold parseT
  rw [hr, if_neg (by decide), if_neg (by rintro ⟨h, _⟩; revert h; decide)]
theorem awkGet : getT [xA, xB2] [1, 7] ⟨#[98, 91, 50, 93]⟩ = (7, true) := by decide +kernel
theorem awkValid : txV [xA, xB2] [1, 7] = true := by decide +kernel
theorem awkJoin : joinP ((prs [xA, xB2] [1, 7]).map pstr) = [97, 61, 49, 32, 98, 91, 50, 93, 61, 55] := by
  have h1 : fmtS 1 = ⟨#[49]⟩ := fmt_one (i := 1) (by decide)
  have h7 : fmtS 7 = ⟨#[55]⟩ := fmt_one (i := 7) (by decide)
  have : (prs [xA, xB2] [1, 7]).map pstr = [⟨#[97, 61, 49]⟩, ⟨#[98, 91, 50, 93, 61, 55]⟩] := by
    show [pstr (xA, 1), pstr (xB2, 7)] = _
    unfold pstr
    rw [h1, h7]
    decide +kernel
  rw [this]
  decide +kernel
theorem awkPrint : printT [xA, xB2] [1, 7] = ⟨#[97, 61, 49, 32, 98, 91, 50, 93, 61, 55]⟩ := by
  unfold printT
  rw [if_pos awkValid, awkJoin]
theorem awkDiff : difT [⟨#[97]⟩, ⟨#[98]⟩] [1, 2] [⟨#[98]⟩, ⟨#[99]⟩] [3, 4] = [⟨#[97]⟩, ⟨#[98]⟩, ⟨#[99]⟩] := by decide +kernel

end Go.Proofs.YtbjcbndmafddoaaDoor
