/-
  Boards in plain Lean: what is valid, expected, observed, lost. No program in sight.
-/
import Derived.Test.YtldafnjbgjagiaaDoorTxA
import Derived.Test.YtldafnjbgjagiaaDoorDec
namespace Go.Proofs.YtldafnjbgjagiaaDoor
open Go.RowKit
set_option linter.unusedVariables false
set_option linter.unusedSimpArgs false

/-- A transaction: names and values. -/
abbrev Tx := List ByteArray × List Int
def tx0 : Tx := ([], [])
def tv (t : Tx) : Bool := txV t.1 t.2
def gt (t : Tx) (s : ByteArray) : Int × Bool := getT t.1 t.2 s
/-- A board. -/
structure Bd where
  ord : Bool
  key : ByteArray
  want : List Tx
  mat : Int
  wrg : List ByteArray
deriving DecidableEq
def bd0 : Bd := ⟨false, ⟨#[]⟩, [], 0, []⟩
def kyB (b : Bd) (t : Tx) : Bool := b.ord || (gt t b.key).2
def OkB (b : Bd) : Prop := b.want.length ≤ 1024 ∧ b.wrg.length ≤ 1024 ∧ 0 ≤ b.mat ∧ b.mat ≤ 1099511627776 ∧ ∀ t ∈ b.want, tv t = true ∧ kyB b t = true
instance (b : Bd) : Decidable (OkB b) := by unfold OkB; infer_instance
def okB (b : Bd) : Bool := decide (OkB b)
/-- The error of a board and a transaction. -/
def askT (b : Bd) (t : Tx) : Int := if okB b = false ∨ tv t = false then 1 else if kyB b t = false then 7 else 0
def expT (b : Bd) (t : Tx) : Bd × Int :=
  if askT b t ≠ 0 then (bd0, askT b t) else if 1024 ≤ b.want.length then (bd0, 16) else ({ b with want := b.want ++ [t] }, 0)
def lineT (s : ByteArray) (n : Int) : ByteArray := s ++ ⟨#[32]⟩ ++ fmtS n
def sExtra : ByteArray := ⟨#[101, 120, 116, 114, 97]⟩
def sMis : ByteArray := ⟨#[109, 105, 115, 109, 97, 116, 99, 104]⟩
def sLost : ByteArray := ⟨#[108, 111, 115, 116]⟩
/-- Whether a transaction is the one that an observed one is compared with, if it is the first. -/
def hitB (b : Bd) (v : Int) (u : Tx) : Bool := b.ord || decide ((gt u b.key).1 = v)
def atN (b : Bd) (t : Tx) : Nat := b.want.findIdx (hitB b (gt t b.key).1)
/-- The place of the partner; -1 where there is none. -/
def atT (b : Bd) (t : Tx) : Int := if atN b t < b.want.length then (atN b t : Int) else -1
def numB (b : Bd) : Int := b.mat + b.wrg.length
def obsT (b : Bd) (t : Tx) : Bd × Int :=
  if askT b t ≠ 0 then (bd0, askT b t) else if 1024 ≤ b.wrg.length ∨ 1099511627776 ≤ b.mat then (bd0, 16)
  else if atN b t < b.want.length then
    (if b.want.getD (atN b t) tx0 = t then ({ b with mat := b.mat + 1, want := b.want.eraseIdx (atN b t) }, 0)
     else ({ b with wrg := b.wrg ++ [lineT sMis (numB b)], want := b.want.eraseIdx (atN b t) }, 0))
  else ({ b with wrg := b.wrg ++ [lineT sExtra (numB b)] }, 0)
def lossT (b : Bd) (j : Nat) : ByteArray := lineT sLost (if b.ord then (j : Int) else (gt (b.want.getD j tx0) b.key).1)
/-- The first k losses that find room. -/
def lossK (b : Bd) (k : Nat) : List ByteArray := b.wrg ++ ((List.range k).map (lossT b)).take (1024 - b.wrg.length)
def finT (b : Bd) : Bd := if okB b = false then b else { b with want := [], wrg := lossK b b.want.length }
def cleanB (b : Bd) : Bool := decide (b.want.length = 0) && decide (b.wrg.length = 0)
def expS (b : Bd) (t : Tx) : Bd := if (expT b t).2 = 0 then (expT b t).1 else b
def obsS (b : Bd) (t : Tx) : Bd := if (obsT b t).2 = 0 then (obsT b t).1 else b
def runT (o : Bool) (s : ByteArray) (ws gs : List Tx) : Bd := finT (gs.foldl obsS (ws.foldl expS ⟨o, s, [], 0, []⟩))
def sameBd (a b : Bd) : Bool := decide (a = b)

theorem okb_iff {b : Bd} : okB b = true ↔ OkB b := decide_eq_true_iff
theorem ask_zero {b : Bd} {t : Tx} (h : askT b t = 0) : OkB b ∧ tv t = true ∧ kyB b t = true := by
  unfold askT at h
  split at h
  · cases h
  · rename_i h1
    split at h
    · cases h
    · rename_i h2
      refine ⟨okb_iff.1 (by cases e : okB b <;> simp_all), by cases e : tv t <;> simp_all, by cases e : kyB b t <;> simp_all⟩
theorem ask_ways (b : Bd) (t : Tx) : (okB b = false ∧ askT b t = 1) ∨ (okB b = true ∧ tv t = false ∧ askT b t = 1) ∨ (okB b = true ∧ tv t = true ∧ kyB b t = false ∧ askT b t = 7) ∨ (okB b = true ∧ tv t = true ∧ kyB b t = true ∧ askT b t = 0) := by
  unfold askT
  cases okB b <;> cases tv t <;> cases kyB b t <;> simp
theorem loss_len (b : Bd) (k : Nat) : (lossK b k).length = b.wrg.length + min (1024 - b.wrg.length) k := by simp [lossK]
theorem loss_zero (b : Bd) : lossK b 0 = b.wrg := by simp [lossK]
theorem loss_step (b : Bd) (k : Nat) (h : (lossK b k).length < 1024) : lossK b (k + 1) = lossK b k ++ [lossT b k] := by
  rw [loss_len] at h
  unfold lossK
  rw [List.range_succ, List.map_append, List.take_append]
  simp only [List.length_map, List.length_range, List.map_cons, List.map_nil]
  rw [List.take_of_length_le (l := [lossT b k]) (by simp; omega), List.append_assoc]
theorem loss_full (b : Bd) (k : Nat) (h : ¬ (lossK b k).length < 1024) (hw : b.wrg.length ≤ 1024) : lossK b (k + 1) = lossK b k := by
  rw [loss_len] at h
  unfold lossK
  rw [List.range_succ, List.map_append, List.take_append]
  simp only [List.length_map, List.length_range, List.map_cons, List.map_nil]
  rw [show 1024 - b.wrg.length - k = 0 by omega, List.take_zero, List.append_nil]
/-- A list without the element at a place, if it is one. -/
def cutI {α : Type} (l : List α) (i : Int) : List α := if i < 0 then l else l.eraseIdx i.toNat
theorem cutI_step {α : Type} (l : List α) (i : Int) (k : Nat) (d : α) (hk : k < l.length) : cutI (l.take (k + 1)) i = if (k : Int) = i then cutI (l.take k) i else cutI (l.take k) i ++ [l.getD k d] := by
  unfold cutI
  have e : l.take (k + 1) = l.take k ++ [l.getD k d] := take_snocD l k d hk
  have hl : (l.take k).length = k := by rw [List.length_take]; omega
  by_cases h0 : i < 0
  · rw [if_pos h0, if_pos h0, if_neg (by omega), e]
  · rw [if_neg h0, if_neg h0, e]
    by_cases h1 : (k : Int) = i
    · rw [if_pos h1, show i.toNat = k by omega, List.eraseIdx_append_of_length_le (by omega), hl, Nat.sub_self]
      simp only [List.eraseIdx_cons_zero, List.append_nil]
      exact (List.eraseIdx_of_length_le (by omega)).symm
    · rw [if_neg h1]
      by_cases h2 : i.toNat < k
      · rw [List.eraseIdx_append_of_lt_length (by omega)]
      · rw [List.eraseIdx_of_length_le (l := l.take k) (by omega), List.eraseIdx_of_length_le (by simp; omega)]
theorem cutI_zero {α : Type} (l : List α) (i : Int) : cutI (l.take 0) i = [] := by unfold cutI; split <;> simp
theorem cutI_all {α : Type} (l : List α) : cutI (l.take l.length) (-1) = l := by simp [cutI]
theorem cutI_at {α : Type} (l : List α) (k : Nat) : cutI (l.take l.length) k = l.eraseIdx k := by
  unfold cutI; rw [if_neg (by omega), List.take_length]; rfl
theorem cutI_len {α : Type} (l : List α) (i : Int) : (cutI l i).length ≤ l.length := by
  unfold cutI; split
  · exact Nat.le_refl _
  · rw [List.length_eraseIdx]; split <;> omega

end Go.Proofs.YtldafnjbgjagiaaDoor
