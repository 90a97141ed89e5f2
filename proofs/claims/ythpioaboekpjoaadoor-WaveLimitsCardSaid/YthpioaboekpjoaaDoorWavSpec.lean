/-
  Traces: what is valid, what is read, cut, joined and selected. No program in sight.
-/
import Derived.Test.YthpioaboekpjoaaDoorTxA
import Derived.Test.YthpioaboekpjoaaDoorRowsI
namespace Go.Proofs.YthpioaboekpjoaaDoor
section
open Go.RowKit
set_option linter.unusedVariables false
set_option linter.unusedSimpArgs false

/-- A valid trace. -/
def WvV (ns : List ByteArray) (rs : List (List Int)) : Prop := ns.length ≤ 48 ∧ rs.length ≤ 4096 ∧ Dif ns ∧ ∀ r ∈ rs, r.length = ns.length ∧ ∀ z ∈ r, wordB z = true
instance (ns : List ByteArray) (rs : List (List Int)) : Decidable (WvV ns rs) := inferInstanceAs (Decidable (_ ∧ _ ∧ _ ∧ _))
def wvV (ns : List ByteArray) (rs : List (List Int)) : Bool := decide (WvV ns rs)
/-- The error of the names of a trace. -/
def hdrT (ns : List ByteArray) : Int := if ∀ s ∈ ns, varB s = true then (if ns.Nodup then (if 48 < ns.length then 2 else 0) else 8) else 5
theorem hdr_zero (ns : List ByteArray) : hdrT ns = 0 ↔ ns.length ≤ 48 ∧ Dif ns := by
  unfold hdrT Dif
  by_cases h1 : ∀ s ∈ ns, varB s = true
  · by_cases h2 : ns.Nodup
    · by_cases h3 : 48 < ns.length
      · rw [if_pos h1, if_pos h2, if_pos h3]; exact ⟨fun h => absurd h (by decide), fun h => absurd h.1 (by omega)⟩
      · rw [if_pos h1, if_pos h2, if_neg h3]; exact ⟨fun _ => ⟨by omega, h2, h1⟩, fun _ => rfl⟩
    · rw [if_pos h1, if_neg h2]; exact ⟨fun h => absurd h (by decide), fun h => absurd h.2.1 h2⟩
  · rw [if_neg h1]; exact ⟨fun h => absurd h (by decide), fun h => absurd h.2.2 h1⟩
/-- The values of a row. -/
def wordsB (r : List Int) : Bool := decide (∀ z ∈ r, wordB z = true)
/-- The value of a name in a cycle. -/
def wgT (ns : List ByteArray) (rs : List (List Int)) (s : ByteArray) (t : Int) : Int × Bool :=
  if wvV ns rs = false ∨ Lib.idxOfS ns s < 0 ∨ t < 0 ∨ (rs.length : Int) ≤ t then (0, false) else ((rs.getD t.toNat []).getD (Lib.idxOfS ns s).toNat 0, true)
/-- The signals of a cycle. -/
def weT (ns : List ByteArray) (rs : List (List Int)) (t : Int) : List Pr × Bool :=
  if wvV ns rs = false ∨ t < 0 ∨ (rs.length : Int) ≤ t then ([], false) else (prs ns (rs.getD t.toNat []), true)
/-- The rows of some cycles. -/
def wcT (ns : List ByteArray) (rs : List (List Int)) (f t : Int) : List ByteArray × List (List Int) × Int :=
  if wvV ns rs = false ∨ f < 0 ∨ t < f ∨ (rs.length : Int) < t then ([], [], 1) else (ns, (rs.take t.toNat).drop f.toNat, 0)
/-- Two traces joined. -/
def wjT (ns : List ByteArray) (rs : List (List Int)) (ms : List ByteArray) (ts : List (List Int)) : List ByteArray × List (List Int) × Int :=
  if wvV ns rs = false ∨ wvV ms ts = false then ([], [], 1) else if ns ≠ ms then ([], [], 15) else if 4096 < rs.length + ts.length then ([], [], 2) else (ns, rs ++ ts, 0)
/-- The first fault among names that are asked for. -/
def onlyE (ns : List ByteArray) : List ByteArray → List ByteArray → Int
  | _, [] => 0
  | pre, s :: l => if Lib.idxOfS ns s < 0 then 7 else if Lib.containsS pre s = true then 8 else onlyE ns (pre ++ [s]) l
def pick (ns l : List ByteArray) (r : List Int) : List Int := l.map fun s => r.getD (Lib.idxOfS ns s).toNat 0
/-- Some names and their values. -/
def woT (ns : List ByteArray) (rs : List (List Int)) (l : List ByteArray) : List ByteArray × List (List Int) × Int :=
  if wvV ns rs = false then ([], [], 1) else if onlyE ns [] l ≠ 0 then ([], [], onlyE ns [] l) else (l, rs.map (pick ns l), 0)
/-- The cycles in which a value changes. -/
def chg (rs : List (List Int)) (i : Nat) (t : Nat) : Bool := decide (t = 0) || decide ((rs.getD t []).getD i 0 ≠ (rs.getD (t - 1) []).getD i 0)
def whT (ns : List ByteArray) (rs : List (List Int)) (s : ByteArray) : List Int :=
  if wvV ns rs = false ∨ Lib.idxOfS ns s < 0 then [] else ((List.range rs.length).filter (chg rs (Lib.idxOfS ns s).toNat)).map Int.ofNat
end

end Go.Proofs.YthpioaboekpjoaaDoor
