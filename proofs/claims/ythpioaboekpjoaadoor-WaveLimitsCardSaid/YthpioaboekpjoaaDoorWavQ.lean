/-
  Texts of traces: what they denote, and the text of a trace. No program in sight.
-/
import Derived.Test.YthpioaboekpjoaaDoorWavSpec
import Derived.Test.YthpioaboekpjoaaDoorTxD
import Derived.Test.YthpioaboekpjoaaDoorTxE
namespace Go.Proofs.YthpioaboekpjoaaDoor
open Go.RowKit
set_option linter.unusedVariables false
set_option linter.unusedSimpArgs false

/-- The words of a line. -/
def lineW (s : ByteArray) : List ByteArray := if s.size = 0 then [] else words 32 s
/-- The values of words: ov tells whether one so far is no word of a signal. -/
noncomputable def rowR : List ByteArray → Bool → List Int → List Int × Int
  | [], ov, acc => if ov then ([], 3) else (acc, 0)
  | s :: l, ov, acc => if parE s = 5 then ([], 5) else rowR l (ov || decide (parE s ≠ 0) || !wordB (parV s)) (acc ++ [parV s])
noncomputable def rowT (n : Nat) (s : ByteArray) : List Int × Int := if (lineW s).length = n then rowR (lineW s) false [] else ([], 5)
noncomputable def rowsR (n : Nat) : List ByteArray → List (List Int) → List (List Int) × Int
  | [], acc => (acc, 0)
  | s :: l, acc => if 4096 ≤ acc.length then ([], 2) else if (rowT n s).2 = 0 then rowsR n l (acc ++ [(rowT n s).1]) else ([], (rowT n s).2)
def endB (s : ByteArray) : Bool := Lib.hasSuffix s.data.toList [10]
def cutS (s : ByteArray) : ByteArray := ⟨(Lib.trimSuffix s.data.toList [10]).toArray⟩
/-- What a text denotes: names, rows, the error. -/
noncomputable def parseW (s : ByteArray) : List ByteArray × List (List Int) × Int :=
  if endB s = true then
    (if hdrT (lineW ((words 10 (cutS s)).getD 0 ⟨#[]⟩)) = 0 then
      (if (rowsR (lineW ((words 10 (cutS s)).getD 0 ⟨#[]⟩)).length (words 10 (cutS s)).tail []).2 = 0 then
        (lineW ((words 10 (cutS s)).getD 0 ⟨#[]⟩), (rowsR (lineW ((words 10 (cutS s)).getD 0 ⟨#[]⟩)).length (words 10 (cutS s)).tail []).1, 0)
      else ([], [], (rowsR (lineW ((words 10 (cutS s)).getD 0 ⟨#[]⟩)).length (words 10 (cutS s)).tail []).2))
    else ([], [], hdrT (lineW ((words 10 (cutS s)).getD 0 ⟨#[]⟩))))
  else ([], [], 5)
/-- A line of words. -/
def lnW (l : List ByteArray) : List UInt8 := joinP l ++ [10]
def printL (ns : List ByteArray) (rs : List (List Int)) : List UInt8 := lnW ns ++ rs.flatMap fun r => lnW (r.map fmtS)
def printW (ns : List ByteArray) (rs : List (List Int)) : ByteArray := if wvV ns rs = true then ⟨(printL ns rs).toArray⟩ else ⟨#[]⟩
theorem rowR_drop {l : List ByteArray} {k : Nat} (hk : k < l.length) (ov : Bool) (acc : List Int) : rowR (l.drop k) ov acc = if parE (l.getD k ⟨#[]⟩) = 5 then ([], 5) else rowR (l.drop (k + 1)) (ov || decide (parE (l.getD k ⟨#[]⟩) ≠ 0) || !wordB (parV (l.getD k ⟨#[]⟩))) (acc ++ [parV (l.getD k ⟨#[]⟩)]) := by
  rw [List.drop_eq_getElem_cons hk, List.getD_eq_getElem?_getD, List.getElem?_eq_getElem hk]; rfl
theorem rowR_end (l : List ByteArray) (ov : Bool) (acc : List Int) : rowR (l.drop l.length) ov acc = if ov then ([], 3) else (acc, 0) := by rw [List.drop_length]; rfl
theorem rowsR_drop {n : Nat} {l : List ByteArray} {k : Nat} (hk : k < l.length) (acc : List (List Int)) : rowsR n (l.drop k) acc = if 4096 ≤ acc.length then ([], 2) else if (rowT n (l.getD k ⟨#[]⟩)).2 = 0 then rowsR n (l.drop (k + 1)) (acc ++ [(rowT n (l.getD k ⟨#[]⟩)).1]) else ([], (rowT n (l.getD k ⟨#[]⟩)).2) := by
  rw [List.drop_eq_getElem_cons hk, List.getD_eq_getElem?_getD, List.getElem?_eq_getElem hk]; rfl
theorem rowsR_end (n : Nat) (l : List ByteArray) (acc : List (List Int)) : rowsR n (l.drop l.length) acc = (acc, 0) := by rw [List.drop_length]; rfl
theorem rowR_len : ∀ (l : List ByteArray) (ov : Bool) (acc : List Int), (rowR l ov acc).2 = 0 → (rowR l ov acc).1.length = acc.length + l.length ∧ ((∀ z ∈ acc, wordB z = true) → ∀ z ∈ (rowR l ov acc).1, wordB z = true) ∧ ov = false
  | [], ov, acc, h => by
    unfold rowR at h ⊢
    cases ov
    · simp
    · simp at h
  | s :: l, ov, acc, h => by
    unfold rowR at h ⊢
    split at h
    · cases h
    · rename_i h5
      rw [if_neg h5]
      obtain ⟨i1, i2, i3⟩ := rowR_len l _ _ h
      simp only [Bool.or_eq_false_iff, decide_eq_false_iff_not, Bool.not_eq_false', Decidable.not_not] at i3
      refine ⟨by rw [i1]; simp; omega, fun ha => i2 fun z hz => ?_, i3.1.1⟩
      rcases List.mem_append.1 hz with hz | hz
      · exact ha z hz
      · simp only [List.mem_singleton] at hz
        rw [hz]; exact i3.2
/-- A row that was read is of words, as many as asked for. -/
theorem rowT_ok {n : Nat} {s : ByteArray} (h : (rowT n s).2 = 0) : (rowT n s).1.length = n ∧ ∀ z ∈ (rowT n s).1, wordB z = true := by
  unfold rowT at h ⊢
  split at h
  · rename_i hl
    rw [if_pos hl]
    obtain ⟨i1, i2, _⟩ := rowR_len _ _ _ h
    exact ⟨by rw [i1, ← hl]; simp, i2 (fun z hz => by simp at hz)⟩
  · cases h
theorem rowsR_ok (n : Nat) : ∀ (l : List ByteArray) (acc : List (List Int)), (rowsR n l acc).2 = 0 → acc.length ≤ 4096 → (∀ r ∈ acc, r.length = n ∧ ∀ z ∈ r, wordB z = true) → (rowsR n l acc).1.length ≤ 4096 ∧ ∀ r ∈ (rowsR n l acc).1, r.length = n ∧ ∀ z ∈ r, wordB z = true
  | [], acc, h, hl, ha => ⟨hl, ha⟩
  | s :: l, acc, h, hl, ha => by
    unfold rowsR at h ⊢
    split at h
    · cases h
    · rename_i h1
      rw [if_neg h1]
      split at h
      · rename_i h2
        rw [if_pos h2]
        refine rowsR_ok n l _ h (by simp; omega) fun r hr => ?_
        rcases List.mem_append.1 hr with hr | hr
        · exact ha r hr
        · simp only [List.mem_singleton] at hr
          rw [hr]; exact rowT_ok h2
      · rename_i h2; exact absurd h h2
/-- What was read is valid. -/
theorem parseW_valid {s : ByteArray} (h : (parseW s).2.2 = 0) : WvV (parseW s).1 (parseW s).2.1 := by
  unfold parseW at h ⊢
  split at h
  · rename_i h1
    rw [if_pos h1]
    split at h
    · rename_i h2
      rw [if_pos h2]
      split at h
      · rename_i h3
        rw [if_pos h3]
        obtain ⟨a1, a2⟩ := (hdr_zero _).1 h2
        obtain ⟨b1, b2⟩ := rowsR_ok _ _ _ h3 (by simp) (fun r hr => by simp at hr)
        exact ⟨a1, b1, a2, b2⟩
      · rename_i h3; exact absurd h h3
    · rename_i h2; exact absurd h h2
  · cases h

end Go.Proofs.YthpioaboekpjoaaDoor
