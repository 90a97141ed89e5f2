/-
  Records, read back field by field: what is read, and where a reader stands. No program in sight.
-/
import Derived.Test.YtbgficaboolgiaaGreatDoorStoSpec
namespace Go.Proofs.YtbgficaboolgiaaGreatDoor
open Go.RowKit
set_option linter.unusedVariables false
set_option linter.unusedSimpArgs false

/-- A reader's offset and its error. -/
abbrev St := Int × Int
def rdT (s : ByteArray) (m : St) : ByteArray × St :=
  if m.2 ≠ 0 then (⟨#[]⟩, m)
  else if (tt s m.1).2.2 ≠ 0 then (⟨#[]⟩, (m.1, (tt s m.1).2.2))
  else if 64 < (tt s m.1).1.size then (⟨#[]⟩, (m.1, 1))
  else ((tt s m.1).1, ((tt s m.1).2.1, 0))
def rdN (s : ByteArray) (t : Int) (m : St) : Int × St :=
  if m.2 ≠ 0 then (0, m)
  else if (tn s m.1).2.2 ≠ 0 then (0, (m.1, (tn s m.1).2.2))
  else if wiB (tn s m.1).1 t = false then (0, (m.1, 1))
  else ((tn s m.1).1, ((tn s m.1).2.1, 0))
def rdS (s : ByteArray) (m : St) : Nat × St :=
  if m.2 ≠ 0 then (0, m)
  else if (tt s m.1).2.2 ≠ 0 then (0, (m.1, (tt s m.1).2.2))
  else if (uxT (tt s m.1).1).2 ≠ 0 then (0, (m.1, (uxT (tt s m.1).1).2))
  else ((uxT (tt s m.1).1).1, ((tt s m.1).2.1, 0))
def rdC (s : ByteArray) (m : St) : Nat → List Int × St
  | 0 => ([], m)
  | k + 1 => ((rdC s m k).1 ++ [(rdN s 1099511627776 (rdC s m k).2).1], (rdN s 1099511627776 (rdC s m k).2).2)
def rdRow (s : ByteArray) (m : St) : List Int × St := rdC s (rdN s 256 m).2 (rdN s 256 m).1.toNat
def rdRs (s : ByteArray) (m : St) : Nat → List (List Int) × St
  | 0 => ([], m)
  | k + 1 => ((rdRs s m k).1 ++ [(rdRow s (rdRs s m k).2).1], (rdRow s (rdRs s m k).2).2)
def rdL (s : ByteArray) (m : St) : List (List Int) × St := rdRs s (rdN s 16 m).2 (rdN s 16 m).1.toNat
def st1 (s : ByteArray) : ByteArray × St := rdT s (0, 0)
def st2 (s : ByteArray) : Nat × St := rdS s (st1 s).2
def st3 (s : ByteArray) : ByteArray × St := rdT s (st2 s).2
def st4 (s : ByteArray) : ByteArray × St := rdT s (st3 s).2
def st5 (s : ByteArray) : Int × St := rdN s 4096 (st4 s).2
def st6 (s : ByteArray) : Int × St := rdN s 4096 (st5 s).2
def st7 (s : ByteArray) : Int × St := rdN s 4096 (st6 s).2
def st8 (s : ByteArray) : List (List Int) × St := rdL s (st7 s).2
def st9 (s : ByteArray) : List (List Int) × St := rdL s (st8 s).2
def stA (s : ByteArray) : Int × St := rdN s 1099511627776 (st9 s).2
def stB (s : ByteArray) : Int × St := rdN s 1099511627776 (stA s).2
def decR (s : ByteArray) : Res := ⟨(st1 s).1, (st2 s).1, (st3 s).1, (st4 s).1, (st5 s).1, (st6 s).1, (st7 s).1, (st8 s).1, (st9 s).1, (stA s).1, (stB s).1⟩
def decE (s : ByteArray) : Int := if (stB s).2.2 = 0 ∧ (stB s).2.1 < s.size then 5 else (stB s).2.2
def decB (s : ByteArray) : Res × Int := if decE s = 0 then (decR s, 0) else (res0, decE s)
def decT (s : ByteArray) : Res × Int := if (openT s).2 ≠ 0 then (res0, (openT s).2) else decB (openT s).1

/-! Bounds. -/
def StOk (s : ByteArray) (m : St) : Prop := (0 ≤ m.1 ∧ m.1 ≤ s.size) ∧ 0 ≤ m.2 ∧ m.2 ≤ 14
theorem tn_err_bd (s : ByteArray) (at_ : Int) : 0 ≤ (tn s at_).2.2 ∧ (tn s at_).2.2 ≤ 6 := by
  unfold tn tnF
  split
  · simp
  · split
    · simp
    · split
      · simp
      · split
        · split <;> simp
        · split <;> simp
theorem ux_err_bd (s : ByteArray) : 0 ≤ (uxT s).2 ∧ (uxT s).2 ≤ 5 := by unfold uxT; split <;> simp
theorem e64 : (⟨#[]⟩ : ByteArray).size ≤ 64 := by decide
theorem rdT_ok {s : ByteArray} {m : St} (h : StOk s m) : StOk s (rdT s m).2 ∧ (rdT s m).1.size ≤ 64 := by
  have h2 := tt_err_bd s m.1
  unfold rdT
  split
  · exact ⟨h, e64⟩
  · split
    · exact ⟨⟨h.1, by simp only; omega⟩, e64⟩
    · rename_i h3
      have h4 := tt_ok (s := s) (at_ := m.1) (by simpa using h3)
      split
      · exact ⟨⟨h.1, by simp⟩, e64⟩
      · exact ⟨⟨by simp only; omega, by simp⟩, by simp only; omega⟩
theorem rdN_ok {s : ByteArray} {m : St} {t : Int} (ht : 0 ≤ t) (hs : s.size ≤ 9223372036854775807) (h : StOk s m) : StOk s (rdN s t m).2 ∧ 0 ≤ (rdN s t m).1 ∧ (rdN s t m).1 ≤ t := by
  have h2 := tn_err_bd s m.1
  have h3 := tn_bd s m.1 hs
  unfold rdN
  split
  · exact ⟨h, by simp only; omega⟩
  · split
    · exact ⟨⟨h.1, by simp only; omega⟩, by simp only; omega⟩
    · split
      · exact ⟨⟨h.1, by simp⟩, by simp only; omega⟩
      · rename_i h4
        have h5 := wiB_iff.1 (by simpa using h4)
        exact ⟨⟨h3.2.2, by simp⟩, h5⟩
theorem rdS_ok {s : ByteArray} {m : St} (h : StOk s m) : StOk s (rdS s m).2 ∧ (rdS s m).1 < 18446744073709551616 := by
  have h2 := tt_err_bd s m.1
  unfold rdS
  split
  · exact ⟨h, by simp⟩
  · split
    · exact ⟨⟨h.1, by simp only; omega⟩, by simp⟩
    · rename_i h3
      have h4 := tt_ok (s := s) (at_ := m.1) (by simpa using h3)
      have h5 := ux_err_bd (tt s m.1).1
      split
      · exact ⟨⟨h.1, by simp only; omega⟩, by simp⟩
      · exact ⟨⟨by simp only; omega, by simp⟩, uxT_lt _⟩
theorem rdC_ok {s : ByteArray} (hs : s.size ≤ 9223372036854775807) {m : St} (h : StOk s m) : ∀ k, StOk s (rdC s m k).2 ∧ (rdC s m k).1.length = k ∧ ∀ n ∈ (rdC s m k).1, 0 ≤ n ∧ n ≤ 1099511627776
  | 0 => ⟨h, rfl, fun n hn => by simp [rdC] at hn⟩
  | k + 1 => by
    obtain ⟨h1, h2, h3⟩ := rdC_ok hs h k
    have h4 := rdN_ok (t := 1099511627776) (by decide) hs h1
    refine ⟨h4.1, by simp [rdC, h2], fun n hn => ?_⟩
    simp only [rdC, List.mem_append, List.mem_singleton] at hn
    rcases hn with hn | rfl
    · exact h3 n hn
    · exact h4.2
theorem rdRow_ok {s : ByteArray} (hs : s.size ≤ 9223372036854775807) {m : St} (h : StOk s m) : StOk s (rdRow s m).2 ∧ (rdRow s m).1.length ≤ 256 ∧ ∀ n ∈ (rdRow s m).1, 0 ≤ n ∧ n ≤ 1099511627776 := by
  have h1 := rdN_ok (t := 256) (by decide) hs h
  obtain ⟨h2, h3, h4⟩ := rdC_ok hs h1.1 (rdN s 256 m).1.toNat
  unfold rdRow
  exact ⟨h2, by omega, h4⟩
theorem rdRs_ok {s : ByteArray} (hs : s.size ≤ 9223372036854775807) {m : St} (h : StOk s m) : ∀ k, StOk s (rdRs s m k).2 ∧ (rdRs s m k).1.length = k ∧ ∀ c ∈ (rdRs s m k).1, c.length ≤ 256 ∧ ∀ n ∈ c, 0 ≤ n ∧ n ≤ 1099511627776
  | 0 => ⟨h, rfl, fun n hn => by simp [rdRs] at hn⟩
  | k + 1 => by
    obtain ⟨h1, h2, h3⟩ := rdRs_ok hs h k
    have h4 := rdRow_ok hs h1
    refine ⟨h4.1, by simp [rdRs, h2], fun n hn => ?_⟩
    simp only [rdRs, List.mem_append, List.mem_singleton] at hn
    rcases hn with hn | rfl
    · exact h3 n hn
    · exact h4.2
theorem rdL_ok {s : ByteArray} (hs : s.size ≤ 9223372036854775807) {m : St} (h : StOk s m) : StOk s (rdL s m).2 ∧ (rdL s m).1.length ≤ 16 ∧ ∀ c ∈ (rdL s m).1, c.length ≤ 256 ∧ ∀ n ∈ c, 0 ≤ n ∧ n ≤ 1099511627776 := by
  have h1 := rdN_ok (t := 16) (by decide) hs h
  obtain ⟨h2, h3, h4⟩ := rdRs_ok hs h1.1 (rdN s 16 m).1.toNat
  unfold rdL
  exact ⟨h2, by omega, h4⟩
/-! Once a reader has an error, it keeps it. -/
theorem rdT_err {s : ByteArray} {m : St} (h : m.2 ≠ 0) : rdT s m = (⟨#[]⟩, m) := by unfold rdT; rw [if_pos h]
theorem rdN_err {s : ByteArray} {t : Int} {m : St} (h : m.2 ≠ 0) : rdN s t m = (0, m) := by unfold rdN; rw [if_pos h]
theorem rdS_err {s : ByteArray} {m : St} (h : m.2 ≠ 0) : rdS s m = (0, m) := by unfold rdS; rw [if_pos h]
theorem rdC_err {s : ByteArray} {m : St} (h : m.2 ≠ 0) : ∀ k, (rdC s m k).2 = m
  | 0 => rfl
  | k + 1 => by simp only [rdC]; rw [rdC_err h k, rdN_err h]
theorem rdRow_err {s : ByteArray} {m : St} (h : m.2 ≠ 0) : (rdRow s m).2 = m := by unfold rdRow; rw [rdN_err h]; exact rdC_err h _
theorem rdRs_err {s : ByteArray} {m : St} (h : m.2 ≠ 0) : ∀ k, (rdRs s m k).2 = m
  | 0 => rfl
  | k + 1 => by simp only [rdRs]; rw [rdRs_err h k, rdRow_err h]
theorem rdL_err {s : ByteArray} {m : St} (h : m.2 ≠ 0) : (rdL s m).2 = m := by unfold rdL; rw [rdN_err h]; exact rdRs_err h _

end Go.Proofs.YtbgficaboolgiaaGreatDoor
