/-
  Plain definitions for the contracts of num: a result that is checked for its range. No program in sight.
-/
import Derived.WalkKit
import Derived.Deep.QuietTactic
import Derived.Below
namespace Go.Proofs.YtbjcbndmafddoaaDoor
open Go.RowKit

/-- The integer fits in 64 bits, signed. -/
def fits (n : Int) : Bool := decide (-9223372036854775808 ≤ n ∧ n ≤ 9223372036854775807)
/-- The value of a checked result. -/
def cV (n : Int) : Int := if fits n then n else 0
/-- The error of a checked result. -/
def cE (n : Int) : Int := if fits n then 0 else 3
theorem cV_yes {n : Int} (h : -9223372036854775808 ≤ n) (h' : n ≤ 9223372036854775807) : cV n = n := by
  unfold cV fits; rw [if_pos (by simpa using ⟨h, h'⟩)]
theorem cE_yes {n : Int} (h : -9223372036854775808 ≤ n) (h' : n ≤ 9223372036854775807) : cE n = 0 := by
  unfold cE fits; rw [if_pos (by simpa using ⟨h, h'⟩)]
theorem cV_no {n : Int} (h : n < -9223372036854775808 ∨ 9223372036854775807 < n) : cV n = 0 := by
  unfold cV fits; rw [if_neg (by simp; omega)]
theorem cE_no {n : Int} (h : n < -9223372036854775808 ∨ 9223372036854775807 < n) : cE n = 3 := by
  unfold cE fits; rw [if_neg (by simp; omega)]
theorem cV_bd (n : Int) : -9223372036854775808 ≤ cV n ∧ cV n ≤ 9223372036854775807 := by
  by_cases h : -9223372036854775808 ≤ n ∧ n ≤ 9223372036854775807
  · rw [cV_yes h.1 h.2]; exact h
  · rw [cV_no (by omega)]; decide
theorem cE_cases (n : Int) : cE n = 0 ∨ cE n = 3 := by
  unfold cE; split <;> simp
theorem cE_zero {n : Int} (h : cE n = 0) : -9223372036854775808 ≤ n ∧ n ≤ 9223372036854775807 := by
  by_cases hn : -9223372036854775808 ≤ n ∧ n ≤ 9223372036854775807
  · exact hn
  · rw [cE_no (by omega)] at h; omega

/-! Quiet calls in a region that draws its order. -/
theorem quiet_add {P : Program} {f : FuncId} {args : Array Value} {w : World} {a n : Nat} {v : Value}
    (h : Calls P f args (w.drewN (a + n)) fun e w' => e = .returned v ∧ ∃ m, w' = (w.drewN (a + n)).drewN m) :
    Calls P f args (w.drewN (a + n)) fun e w'' => e = .returned v ∧ ∃ m, w'' = w.drewN (a + m) :=
  h.mono fun _ _ ⟨he, m, hm⟩ => ⟨he, n + m, by rw [hm, World.drewN_drewN, Nat.add_assoc]⟩
theorem quiet_add_left {P : Program} {f : FuncId} {args : Array Value} {w : World} {a n : Nat} {v : Value}
    (h : Calls P f args (w.drewN (a + n)) fun e w' => e = .returned v ∧ w.drewN (a + n) = w') :
    Calls P f args (w.drewN (a + n)) fun e w'' => e = .returned v ∧ ∃ m, w'' = w.drewN (a + m) :=
  h.mono fun _ _ ⟨he, hm⟩ => ⟨he, n, hm.symm⟩
theorem quiet_left {P : Program} {f : FuncId} {args : Array Value} {w : World} {n : Nat} {v : Value}
    (h : Calls P f args (w.drewN n) fun e w' => e = .returned v ∧ w.drewN n = w') : Calls P f args (w.drewN n) fun e w'' => e = .returned v ∧ ∃ m, w'' = w.drewN m :=
  h.mono fun _ _ ⟨he, hm⟩ => ⟨he, n, hm.symm⟩

/-- Two integers as results. -/
theorem ret2 {k l : IntKind} {a b c d : Int} (h : a = c) (h' : b = d) : Ending.returned (.tuple #[.int k a, .int l b]) = .returned (.tuple #[.int k c, .int l d]) := by rw [h, h']
theorem ret1 {k : IntKind} {a b : Int} (h : a = b) : Ending.returned (.int k a) = .returned (.int k b) := by rw [h]
theorem retb {a b : Bool} (h : a = b) : Ending.returned (.bool a) = .returned (.bool b) := by rw [h]

/-- The checked pair, from its two cases. -/
theorem ret_c {n v e : Int} (h : (-9223372036854775808 ≤ n ∧ n ≤ 9223372036854775807 ∧ v = n ∧ e = 0) ∨ ((n < -9223372036854775808 ∨ 9223372036854775807 < n) ∧ v = 0 ∧ e = 3)) :
    Ending.returned (.tuple #[.int .i64 v, .int .i64 e]) = .returned (.tuple #[.int .i64 (cV n), .int .i64 (cE n)]) := by
  rcases h with ⟨h1, h2, rfl, rfl⟩ | ⟨h, rfl, rfl⟩
  · rw [cV_yes h1 h2, cE_yes h1 h2]
  · rw [cV_no h, cE_no h]

theorem wrap64_eq (n : Int) : wrap64 n = (n + 9223372036854775808) % 18446744073709551616 - 9223372036854775808 := by
  first | rfl | (unfold wrap64; rfl)

/-- A number of 64 bits, signed. -/
def I64 (a : Int) : Prop := -9223372036854775808 ≤ a ∧ a ≤ 9223372036854775807
theorem block_of_add (a : Addr) (n : Nat) : (a.add n).block = a.block := by unfold Addr.add; split <;> rfl
theorem below_drewN {B : Nat} {a w : World} (h : Below B a w) (n : Nat) : Below B a (w.drewN n) := ⟨h.os, h.tape, h.output, h.size, h.block⟩
/-- A checked result, way by way. -/
theorem c_ways (n : Int) : (cV n = n ∧ cE n = 0 ∧ -9223372036854775808 ≤ n ∧ n ≤ 9223372036854775807) ∨ (cV n = 0 ∧ cE n = 3 ∧ (n < -9223372036854775808 ∨ 9223372036854775807 < n)) := by
  by_cases h : -9223372036854775808 ≤ n ∧ n ≤ 9223372036854775807
  · exact .inl ⟨cV_yes h.1 h.2, cE_yes h.1 h.2, h⟩
  · exact .inr ⟨cV_no (by omega), cE_no (by omega), by omega⟩

end Go.Proofs.YtbjcbndmafddoaaDoor
