/-
  Plain definitions for the contracts of num: a result that is checked for its range. No program in sight.
  What a decimal form denotes: plain definitions and their laws.
  Where a byte stands first in a text; a text cut there; a text parted at a byte. No program in sight.
  Names and variable names in plain Lean. No program in sight.
  A region that draws its order, whose operations are values (numbers, strings, loads of old cells) and whose calls leave 'Below': walked once, in the order of the text. No program in sight.
  A block that is known whole; later worlds.
  A region that draws its order: operations that are values and calls that leave 'Below', then, last and in their order, stores and the like: walked once. No program in sight.
  Rows of the call's own; slices that read as lists of integers.
  Slices that read as lists of strings.
  What the world's shape says of the library's variable MaxLen; how it stays.
-/
import Derived.WalkKit
import Derived.Deep.QuietTactic
import Derived.Below
import Derived.Lib.IndexMore
import Derived.Lib.CutLaws
import Derived.Lib.SlicesS
import Derived.BigQuiet
import Derived.Laws.Rows
import Derived.StillTail
import Derived.Laws.AppendOwn
import Derived.OwnWalk
import Derived.Test.YtbgficaboolgiaaGreatDoorProg
import Derived.Shelf.Vars
namespace Go.Proofs.YtbgficaboolgiaaGreatDoor
section
open Go.RowKit

/-- The integer fits in 64 bits, signed. -/
def fits (n : Int) : Bool := decide (-9223372036854775808 ≤ n ∧ n ≤ 9223372036854775807)
/-- The value of a checked result. -/
def cV (n : Int) : Int := if fits n then n else 0
/-- The error of a checked result. -/
def cE (n : Int) : Int := if fits n then 0 else 3
theorem cV_yes {n : Int} (h : -9223372036854775808 ≤ n) (h' : n ≤ 9223372036854775807) : cV n = n := by
  unfold cV fits; rw [if_pos (by simpa using ⟨h, h'⟩)]
theorem cE_yes {n : Int} (h : -9223372036854775808 ≤ n) (h' : n ≤ 9223372036854775807) : cE n = 0 := by
  unfold cE fits; rw [if_pos (by simpa using ⟨h, h'⟩)]
theorem cV_no {n : Int} (h : n < -9223372036854775808 ∨ 9223372036854775807 < n) : cV n = 0 := by
  unfold cV fits; rw [if_neg (by simp; omega)]
theorem cE_no {n : Int} (h : n < -9223372036854775808 ∨ 9223372036854775807 < n) : cE n = 3 := by
  unfold cE fits; rw [if_neg (by simp; omega)]
theorem cV_bd (n : Int) : -9223372036854775808 ≤ cV n ∧ cV n ≤ 9223372036854775807 := by
  by_cases h : -9223372036854775808 ≤ n ∧ n ≤ 9223372036854775807
  · rw [cV_yes h.1 h.2]; exact h
  · rw [cV_no (by omega)]; decide
theorem cE_cases (n : Int) : cE n = 0 ∨ cE n = 3 := by
  unfold cE; split <;> simp
theorem cE_zero {n : Int} (h : cE n = 0) : -9223372036854775808 ≤ n ∧ n ≤ 9223372036854775807 := by
  by_cases hn : -9223372036854775808 ≤ n ∧ n ≤ 9223372036854775807
  · exact hn
  · rw [cE_no (by omega)] at h; omega

/-! Quiet calls in a region that draws its order. -/
theorem quiet_add {P : Program} {f : FuncId} {args : Array Value} {w : World} {a n : Nat} {v : Value}
    (h : Calls P f args (w.drewN (a + n)) fun e w' => e = .returned v ∧ ∃ m, w' = (w.drewN (a + n)).drewN m) :
    Calls P f args (w.drewN (a + n)) fun e w'' => e = .returned v ∧ ∃ m, w'' = w.drewN (a + m) :=
  h.mono fun _ _ ⟨he, m, hm⟩ => ⟨he, n + m, by rw [hm, World.drewN_drewN, Nat.add_assoc]⟩
theorem quiet_add_left {P : Program} {f : FuncId} {args : Array Value} {w : World} {a n : Nat} {v : Value}
    (h : Calls P f args (w.drewN (a + n)) fun e w' => e = .returned v ∧ w.drewN (a + n) = w') :
    Calls P f args (w.drewN (a + n)) fun e w'' => e = .returned v ∧ ∃ m, w'' = w.drewN (a + m) :=
  h.mono fun _ _ ⟨he, hm⟩ => ⟨he, n, hm.symm⟩
theorem quiet_left {P : Program} {f : FuncId} {args : Array Value} {w : World} {n : Nat} {v : Value}
    (h : Calls P f args (w.drewN n) fun e w' => e = .returned v ∧ w.drewN n = w') : Calls P f args (w.drewN n) fun e w'' => e = .returned v ∧ ∃ m, w'' = w.drewN m :=
  h.mono fun _ _ ⟨he, hm⟩ => ⟨he, n, hm.symm⟩

/-- Two integers as results. -/
theorem ret2 {k l : IntKind} {a b c d : Int} (h : a = c) (h' : b = d) : Ending.returned (.tuple #[.int k a, .int l b]) = .returned (.tuple #[.int k c, .int l d]) := by rw [h, h']
theorem ret1 {k : IntKind} {a b : Int} (h : a = b) : Ending.returned (.int k a) = .returned (.int k b) := by rw [h]
theorem retb {a b : Bool} (h : a = b) : Ending.returned (.bool a) = .returned (.bool b) := by rw [h]

/-- The checked pair, from its two cases. -/
theorem ret_c {n v e : Int} (h : (-9223372036854775808 ≤ n ∧ n ≤ 9223372036854775807 ∧ v = n ∧ e = 0) ∨ ((n < -9223372036854775808 ∨ 9223372036854775807 < n) ∧ v = 0 ∧ e = 3)) :
    Ending.returned (.tuple #[.int .i64 v, .int .i64 e]) = .returned (.tuple #[.int .i64 (cV n), .int .i64 (cE n)]) := by
  rcases h with ⟨h1, h2, rfl, rfl⟩ | ⟨h, rfl, rfl⟩
  · rw [cV_yes h1 h2, cE_yes h1 h2]
  · rw [cV_no h, cE_no h]

theorem wrap64_eq (n : Int) : wrap64 n = (n + 9223372036854775808) % 18446744073709551616 - 9223372036854775808 := by
  first | rfl | (unfold wrap64; rfl)

/-- A number of 64 bits, signed. -/
def I64 (a : Int) : Prop := -9223372036854775808 ≤ a ∧ a ≤ 9223372036854775807
theorem block_of_add (a : Addr) (n : Nat) : (a.add n).block = a.block := by unfold Addr.add; split <;> rfl
theorem below_drewN {B : Nat} {a w : World} (h : Below B a w) (n : Nat) : Below B a (w.drewN n) := ⟨h.os, h.tape, h.output, h.size, h.block⟩
/-- A checked result, way by way. -/
theorem c_ways (n : Int) : (cV n = n ∧ cE n = 0 ∧ -9223372036854775808 ≤ n ∧ n ≤ 9223372036854775807) ∨ (cV n = 0 ∧ cE n = 3 ∧ (n < -9223372036854775808 ∨ 9223372036854775807 < n)) := by
  by_cases h : -9223372036854775808 ≤ n ∧ n ≤ 9223372036854775807
  · exact .inl ⟨cV_yes h.1 h.2, cE_yes h.1 h.2, h⟩
  · exact .inr ⟨cV_no (by omega), cE_no (by omega), by omega⟩
end

section
open Go.RowKit

/-- Byte number k of a string, as a number (0 behind the end). -/
def byt (d : ByteArray) (k : Nat) : Int := ((d.data.toList.getD k 0).toNat : Int)
theorem byt_bd (d : ByteArray) (k : Nat) : 0 ≤ byt d k ∧ byt d k ≤ 255 := by
  unfold byt
  have := (d.data.toList.getD k 0).toNat_lt
  omega
theorem byt_at (d : ByteArray) (k : Nat) (h : k < d.size) : byt d k = (d[k].toNat : Int) := by
  unfold byt
  rw [List.getD_eq_getElem?_getD, List.getElem?_eq_getElem (by simpa using h)]
  rfl
/-- The digits' value of the first k bytes. -/
def dvl (d : ByteArray) : Nat → Nat
  | 0 => 0
  | k + 1 => 10 * dvl d k + (byt d k - 48).toNat
theorem dvl_succ (d : ByteArray) (k : Nat) : dvl d (k + 1) = 10 * dvl d k + (byt d k - 48).toNat := rfl
theorem dvl_mono (d : ByteArray) {k n : Nat} (h : k ≤ n) : dvl d k ≤ dvl d n := by
  induction n with
  | zero => obtain rfl : k = 0 := by omega
            exact Nat.le_refl _
  | succ n ih =>
    by_cases e : k = n + 1
    · rw [e]; exact Nat.le_refl _
    · have := ih (by omega)
      rw [dvl_succ]; omega
/-- The first k bytes are digits. -/
def digs (d : ByteArray) (k : Nat) : Prop := ∀ j, j < k → 48 ≤ byt d j ∧ byt d j ≤ 57
theorem digs_zero (d : ByteArray) : digs d 0 := fun _ h => by omega
theorem digs_succ {d : ByteArray} {k : Nat} (h : digs d k) (h1 : 48 ≤ byt d k) (h2 : byt d k ≤ 57) : digs d (k + 1) := fun j hj => by
  by_cases e : j = k
  · rw [e]; exact ⟨h1, h2⟩
  · exact h j (by omega)

/-- Does the string begin with a minus sign? -/
def isNeg (s : ByteArray) : Bool := decide (0 < s.size ∧ byt s 0 = 45)
/-- The digits: what stands behind the sign. -/
def body (s : ByteArray) : ByteArray := if isNeg s then s.extract 1 s.size else s
/-- Is the string no decimal form? -/
def badForm (s : ByteArray) : Prop := (body s).size = 0 ∨ ¬ digs (body s) (body s).size ∨ (byt (body s) 0 = 48 ∧ (1 < (body s).size ∨ isNeg s = true))
/-- The number that a decimal form denotes. -/
def den (s : ByteArray) : Int := if isNeg s then -(dvl (body s) (body s).size : Int) else dvl (body s) (body s).size
open Classical in
noncomputable def parV (s : ByteArray) : Int := if badForm s then 0 else cV (den s)
open Classical in
noncomputable def parE (s : ByteArray) : Int := if badForm s then 5 else cE (den s)

theorem par_bad {s : ByteArray} (h : badForm s) : Ending.returned (.tuple #[.int .i64 0, .int .i64 5]) = .returned (.tuple #[.int .i64 (parV s), .int .i64 (parE s)]) := by
  unfold parV parE; rw [if_pos h, if_pos h]
theorem par_good {s : ByteArray} (h : ¬ badForm s) : parV s = cV (den s) ∧ parE s = cE (den s) := by
  unfold parV parE; rw [if_neg h, if_neg h]; exact ⟨rfl, rfl⟩
theorem par_over {s : ByteArray} (h : ¬ badForm s) (hb : 9223372036854775808 < dvl (body s) (body s).size) : Ending.returned (.tuple #[.int .i64 0, .int .i64 3]) = .returned (.tuple #[.int .i64 (parV s), .int .i64 (parE s)]) := by
  obtain ⟨h1, h2⟩ := par_good h
  rw [h1, h2]
  refine ret_c (.inr ⟨?_, rfl, rfl⟩)
  unfold den; split <;> omega
theorem body_size (s : ByteArray) : (isNeg s = true → (body s).size + 1 = s.size) ∧ (isNeg s = false → body s = s) := by
  unfold body
  constructor
  · intro h
    rw [if_pos h]
    unfold isNeg at h
    simp at h
    simp; omega
  · intro h
    rw [h]; rfl
end

section
open Go.RowKit
set_option linter.unusedVariables false

/-- Where the byte b stands first, or the length. -/
def ix (b : UInt8) : List UInt8 → Nat
  | [] => 0
  | x :: l => if x = b then 0 else ix b l + 1
section
variable {b : UInt8}
theorem ix_le : ∀ l, ix b l ≤ l.length
  | [] => Nat.le_refl _
  | x :: l => by unfold ix; have := ix_le l; split <;> simp <;> omega
theorem ix_at : ∀ l, ix b l < l.length → l.getD (ix b l) 0 = b
  | [], h => absurd h (by simp)
  | x :: l, h => by
    unfold ix at h ⊢
    split
    · rename_i e; simpa using e
    · rename_i e; rw [if_neg e] at h; simp only [List.getD_cons_succ]; exact ix_at l (by simp at h; omega)
theorem ix_ne : ∀ l j, j < ix b l → l.getD j 0 ≠ b
  | [], j, h => absurd h (by simp [ix])
  | x :: l, j, h => by
    unfold ix at h
    split at h
    · omega
    · rename_i e
      cases j with
      | zero => simpa using e
      | succ j => simp only [List.getD_cons_succ]; exact ix_ne l j (by omega)
theorem ix_of : ∀ (l r : List UInt8), (∀ x ∈ l, x ≠ b) → ix b (l ++ b :: r) = l.length
  | [], r, _ => by simp [ix]
  | x :: l, r, h => by
    simp only [List.cons_append, ix, if_neg (h x (by simp)), List.length_cons]
    rw [ix_of l r fun y hy => h y (by simp [hy])]
theorem ix_none : ∀ (l : List UInt8), (∀ x ∈ l, x ≠ b) → ix b l = l.length
  | [], _ => rfl
  | x :: l, h => by
    simp only [ix, if_neg (h x (by simp)), List.length_cons]
    rw [ix_none l fun y hy => h y (by simp [hy])]
theorem ix_unique (l : List UInt8) (k : Nat) (h : k ≤ l.length) (h1 : ∀ j, j < k → l.getD j 0 ≠ b) (h2 : k < l.length → l.getD k 0 = b) : ix b l = k := by
  have e1 := ix_le (b := b) l
  rcases Nat.lt_trichotomy (ix b l) k with hl | hl | hl
  · exact absurd (ix_at l (by omega)) (h1 _ hl)
  · exact hl
  · exact absurd (h2 (by omega)) (ix_ne l k hl)
theorem index_ix : ∀ l : List UInt8, Lib.index l [b] = if ix b l < l.length then (ix b l : Int) else -1
  | [] => by simp [Lib.index, ix]
  | x :: l => by
    unfold Lib.index
    by_cases e : x = b
    · subst e; simp [ix]
    · have h1 : ([b] : List UInt8).isPrefixOf (x :: l) = false := by simp [List.isPrefixOf]; exact fun h => absurd h.symm e
      rw [h1, index_ix l]
      simp only [ix, if_neg e, List.length_cons, Bool.false_eq_true, if_false]
      by_cases h : ix b l < l.length
      · have h2 : ix b l + 1 < l.length + 1 := by omega
        have h3 : ((ix b l : Int) == -1) = false := by
          have : ¬ (ix b l : Int) = -1 := by omega
          exact beq_false_of_ne this
        simp only [if_pos h, if_pos h2, h3]
        simp
      · have h2 : ¬ ix b l + 1 < l.length + 1 := by omega
        simp only [if_neg h, if_neg h2]
        rfl
theorem cut_ix (l : List UInt8) : Lib.cut l [b] = (l.take (ix b l), l.drop (ix b l + 1), decide (ix b l < l.length)) := by
  unfold Lib.cut
  rw [index_ix]
  by_cases h : ix b l < l.length
  · rw [if_pos h, if_pos (by omega), decide_eq_true h]; simp
  · have e : ix b l = l.length := by have := ix_le (b := b) l; omega
    rw [if_neg h, if_neg (by omega), decide_eq_false h, e]; simp
/-- A text that has the byte is the part ahead of it, the byte, the part behind it. -/
theorem ix_parts (l : List UInt8) (h : ix b l < l.length) : l = l.take (ix b l) ++ b :: l.drop (ix b l + 1) := by
  have e := List.take_append_drop (ix b l) l
  have e2 : l.drop (ix b l) = b :: l.drop (ix b l + 1) := by
    rw [List.drop_eq_getElem_cons h]
    congr 1
    have := ix_at l h
    rw [List.getD_eq_getElem?_getD, List.getElem?_eq_getElem h] at this
    exact this
  rw [← e2, e]
theorem ix_take_ne (l : List UInt8) : ∀ x ∈ l.take (ix b l), x ≠ b := by
  intro x hx
  obtain ⟨j, hj, rfl⟩ := List.mem_iff_getElem.1 hx
  have hj1 : j < ix b l := by rw [List.length_take] at hj; omega
  have hj2 : j < l.length := by rw [List.length_take] at hj; omega
  have := ix_ne l j hj1
  rw [List.getD_eq_getElem?_getD, List.getElem?_eq_getElem hj2] at this
  rw [List.getElem_take]
  exact this
end

/-! Texts parted at a byte. -/
/-- The parts of a text between the bytes b. -/
def partsL (b : UInt8) : List UInt8 → List (List UInt8)
  | [] => [[]]
  | x :: l => if x = b then [] :: partsL b l else match partsL b l with
    | [] => [[x]]
    | p :: r => (x :: p) :: r
theorem partsL_ne (b : UInt8) : ∀ l, partsL b l ≠ []
  | [] => by simp [partsL]
  | x :: l => by
    unfold partsL
    split
    · simp
    · split <;> simp
theorem partsL_no (b : UInt8) : ∀ l : List UInt8, (∀ x ∈ l, x ≠ b) → partsL b l = [l]
  | [], _ => rfl
  | x :: l, h => by
    unfold partsL
    rw [if_neg (h x (by simp)), partsL_no b l fun y hy => h y (by simp [hy])]
theorem partsL_cut (b : UInt8) : ∀ l r : List UInt8, (∀ x ∈ l, x ≠ b) → partsL b (l ++ b :: r) = l :: partsL b r
  | [], r, _ => by simp [partsL]
  | x :: l, r, h => by
    rw [List.cons_append, partsL, if_neg (h x (by simp)), partsL_cut b l r fun y hy => h y (by simp [hy])]
/-- The parts joined again. -/
def joinL (b : UInt8) : List (List UInt8) → List UInt8
  | [] => []
  | [p] => p
  | p :: q :: r => p ++ b :: joinL b (q :: r)
theorem join_parts (b : UInt8) : ∀ l : List UInt8, joinL b (partsL b l) = l
  | [] => rfl
  | x :: l => by
    unfold partsL
    have ih := join_parts b l
    have hne := partsL_ne b l
    split
    · rename_i e
      match hp : partsL b l, hne with
      | p :: r, _ => rw [hp] at ih; rw [joinL, ih, e]; rfl
    · match hp : partsL b l, hne with
      | [p], _ => rw [hp] at ih; simp only [joinL] at ih ⊢; rw [ih]
      | p :: q :: r, _ => rw [hp] at ih; simp only [joinL] at ih ⊢; rw [← ih]; rfl
theorem parts_free (b : UInt8) : ∀ (l : List UInt8), ∀ p ∈ partsL b l, ∀ x ∈ p, x ≠ b
  | [], p, hp, x, hx => by
    simp [partsL] at hp; rw [hp] at hx; cases hx
  | y :: l, p, hp, x, hx => by
    unfold partsL at hp
    have ih := parts_free b l
    split at hp
    · rcases List.mem_cons.1 hp with rfl | hp
      · cases hx
      · exact ih p hp x hx
    · rename_i e
      match hq : partsL b l, partsL_ne b l with
      | q :: r, _ =>
        rw [hq] at hp ih
        rcases List.mem_cons.1 hp with rfl | hp
        · rcases List.mem_cons.1 hx with rfl | hx
          · exact e
          · exact ih q (by simp) x hx
        · exact ih p (by simp [hp]) x hx
theorem parts_join (b : UInt8) : ∀ (ps : List (List UInt8)), ps ≠ [] → (∀ p ∈ ps, ∀ x ∈ p, x ≠ b) → partsL b (joinL b ps) = ps
  | [], h, _ => absurd rfl h
  | [p], _, h => partsL_no b p (h p (by simp))
  | p :: q :: r, _, h => by
    rw [joinL, partsL_cut b p _ (h p (by simp)), parts_join b (q :: r) (by simp) fun x hx => h x (by simp [hx])]
end

section
open Go.RowKit
set_option linter.unusedVariables false

/-- A lower letter; a sign that may stand in a name. -/
def lowC (c : Int) : Bool := decide (97 ≤ c ∧ c ≤ 122)
def digC (c : Int) : Bool := decide (48 ≤ c ∧ c ≤ 57)
def innC (c : Int) : Bool := decide ((97 ≤ c ∧ c ≤ 122) ∨ (48 ≤ c ∧ c ≤ 57) ∨ (65 ≤ c ∧ c ≤ 90) ∨ c = 95)
/-- A word: it begins with a lower letter, and all its signs may stand in a name. -/
def Wrd (s : ByteArray) : Prop := 0 < s.size ∧ lowC (byt s 0) = true ∧ ∀ j, j < s.size → innC (byt s j) = true
instance (s : ByteArray) : Decidable (Wrd s) := by unfold Wrd; infer_instance
def keyWords : List ByteArray := [⟨#[99, 108, 97, 115, 115]⟩, ⟨#[101, 120, 116, 101, 110, 100, 115]⟩, ⟨#[114, 97, 110, 100]⟩, ⟨#[114, 97, 110, 100, 99]⟩, ⟨#[115, 116, 97, 116, 101]⟩, ⟨#[99, 111, 110, 115, 116, 114, 97, 105, 110, 116]⟩, ⟨#[115, 111, 102, 116]⟩, ⟨#[100, 105, 115, 116]⟩, ⟨#[105, 102]⟩, ⟨#[101, 108, 115, 101]⟩, ⟨#[101, 97, 99, 104]⟩, ⟨#[105, 110]⟩, ⟨#[115, 111, 108, 118, 101]⟩, ⟨#[98, 101, 102, 111, 114, 101]⟩, ⟨#[105, 110, 115, 105, 100, 101]⟩, ⟨#[112, 114, 111, 112, 101, 114, 116, 121]⟩, ⟨#[115, 101, 113]⟩, ⟨#[97, 110, 100]⟩, ⟨#[111, 114]⟩, ⟨#[110, 111, 116]⟩, ⟨#[115, 101, 116]⟩, ⟨#[104, 111, 108, 100]⟩, ⟨#[112, 108, 97, 105, 110]⟩, ⟨#[114, 101, 112, 101, 97, 116]⟩]
def isKey (s : ByteArray) : Bool := Lib.containsS keyWords s
def nameB (s : ByteArray) : Bool := decide (Wrd s) && decide (s.size ≤ 16) && !isKey s
theorem nameB_iff {s : ByteArray} : nameB s = true ↔ Wrd s ∧ s.size ≤ 16 ∧ isKey s = false := by
  unfold nameB; simp [and_assoc]
/-- The name of an element of an array. -/
def Elt (s : ByteArray) : Prop := 4 ≤ s.size ∧ byt s (s.size - 1) = 93 ∧ byt s (s.size - 3) = 91 ∧ 48 ≤ byt s (s.size - 2) ∧ byt s (s.size - 2) < 56 ∧ nameB (s.extract 0 (s.size - 3)) = true
instance (s : ByteArray) : Decidable (Elt s) := by unfold Elt; infer_instance
def varB (s : ByteArray) : Bool := decide (Elt s) || nameB s
theorem wrd_ne {s : ByteArray} {b : UInt8} (h : Wrd s) (hb : innC b.toNat = false) : ∀ x ∈ s.data.toList, x ≠ b := by
  intro x hx e
  obtain ⟨j, hj, rfl⟩ := List.mem_iff_getElem.1 hx
  have h1 := h.2.2 j (by rw [Lib.size_eq]; exact hj)
  unfold byt at h1
  rw [List.getD_eq_getElem?_getD, List.getElem?_eq_getElem hj] at h1
  simp only [Option.getD_some] at h1
  rw [e, hb] at h1
  cases h1
/-- The parts ahead of a byte and behind it. -/
def preB (b : UInt8) (s : ByteArray) : ByteArray := ⟨(s.data.toList.take (ix b s.data.toList)).toArray⟩
def posB (b : UInt8) (s : ByteArray) : ByteArray := ⟨(s.data.toList.drop (ix b s.data.toList + 1)).toArray⟩
def hasB (b : UInt8) (s : ByteArray) : Bool := decide (ix b s.data.toList < s.data.toList.length)
theorem preB_size (b : UInt8) (s : ByteArray) : (preB b s).size = ix b s.data.toList := by
  have := ix_le (b := b) s.data.toList
  unfold preB; rw [Lib.size_eq]; simp only [List.length_take]; omega
theorem posB_size (b : UInt8) (s : ByteArray) : (posB b s).size = s.size - (ix b s.data.toList + 1) := by
  unfold posB; rw [Lib.size_eq, Lib.size_eq]; simp
theorem ba_eq {b c : ByteArray} (h : b.data.toList = c.data.toList) : b = c := by
  obtain ⟨⟨b⟩⟩ := b; obtain ⟨⟨c⟩⟩ := c; simp only at h; rw [h]
theorem preB_extract (b : UInt8) (s : ByteArray) : s.extract 0 (ix b s.data.toList) = preB b s := ba_eq (by
  unfold preB; rw [Lib.extract_data]; simp)
theorem byt_posB (b : UInt8) (s : ByteArray) (j : Nat) : byt (posB b s) j = byt s (ix b s.data.toList + 1 + j) := by
  unfold byt posB
  simp [List.getD_eq_getElem?_getD, List.getElem?_drop]
theorem preB_no {b : UInt8} {s : ByteArray} (h : hasB b s = false) : preB b s = s := by
  unfold hasB at h
  have h2 := of_decide_eq_false h
  have h3 := ix_le (b := b) s.data.toList
  unfold preB
  rw [List.take_of_length_le (by omega)]
theorem byt_ix {b : UInt8} {s : ByteArray} (h : hasB b s = true) : byt s (ix b s.data.toList) = b.toNat := by
  unfold byt
  rw [ix_at _ (of_decide_eq_true h)]
/-- The program's form of a variable name. -/
def varP (s : ByteArray) : Bool := if hasB 91 s = true then nameB (preB 91 s) && (decide ((posB 91 s).size = 2) && (decide (48 ≤ byt (posB 91 s) 0) && (decide (byt (posB 91 s) 0 < 56) && decide (byt (posB 91 s) 1 = 93)))) else nameB s
theorem varP_eq (s : ByteArray) : varP s = varB s := by
  have hN : nameB s = true → hasB 91 s = false := fun h => by
    have hw := (nameB_iff.1 h).1
    unfold hasB
    rw [ix_none _ (wrd_ne hw (by decide))]
    simp
  have hE : Elt s → hasB 91 s = true ∧ ix 91 s.data.toList = s.size - 3 := fun h => by
    obtain ⟨h1, h2, h3, h4, h5, h6⟩ := h
    have hw := (nameB_iff.1 h6).1
    have hlen : s.data.toList.length = s.size := (Lib.size_eq s).symm
    have hx : ix 91 s.data.toList = s.size - 3 := by
      refine ix_unique _ _ (by omega) (fun j hj => ?_) (fun _ => ?_)
      · have := wrd_ne hw (b := 91) (by decide) (s.data.toList.getD j 0) (by
          rw [Lib.extract_data]
          simp only [List.drop_zero, Nat.sub_zero]
          rw [List.getD_eq_getElem?_getD, List.getElem?_eq_getElem (by omega)]
          simp only [Option.getD_some]
          rw [List.mem_take_iff_getElem]
          exact ⟨j, by omega, rfl⟩)
        exact this
      · unfold byt at h3
        exact UInt8.toNat_inj.1 (by simpa using (by omega : (s.data.toList.getD (s.size - 3) 0).toNat = 91))
    exact ⟨by unfold hasB; rw [hx]; exact decide_eq_true (by omega), hx⟩
  unfold varP varB
  by_cases hh : hasB 91 s = true
  · rw [if_pos hh]
    have hn : nameB s = false := by
      cases h : nameB s
      · rfl
      · rw [hN h] at hh; cases hh
    rw [hn, Bool.or_false, Bool.eq_iff_iff]
    simp only [Bool.and_eq_true, decide_eq_true_eq]
    have hlt : ix 91 s.data.toList < s.size := by rw [Lib.size_eq]; exact of_decide_eq_true hh
    constructor
    · rintro ⟨h1, h2, h3, h4, h5⟩
      have hw := (nameB_iff.1 h1).1.1
      rw [posB_size] at h2
      rw [preB_size] at hw
      have hx : ix 91 s.data.toList = s.size - 3 := by omega
      have hb := byt_ix hh
      rw [byt_posB] at h3 h4 h5
      refine ⟨by omega, ?_, ?_, ?_, ?_, ?_⟩
      · rw [← h5]; congr 1; omega
      · rw [← hx, hb]; rfl
      · have e : ix 91 s.data.toList + 1 + 0 = s.size - 2 := by omega
        rw [e] at h3; exact h3
      · have e : ix 91 s.data.toList + 1 + 0 = s.size - 2 := by omega
        rw [e] at h4; exact h4
      · rw [← hx, preB_extract]; exact h1
    · intro h
      obtain ⟨_, hx⟩ := hE h
      obtain ⟨h1, h2, h3, h4, h5, h6⟩ := h
      rw [posB_size, byt_posB, byt_posB, ← preB_extract, hx]
      refine ⟨h6, by omega, ?_, ?_, ?_⟩
      · rw [show s.size - 3 + 1 + 0 = s.size - 2 by omega]; exact h4
      · rw [show s.size - 3 + 1 + 0 = s.size - 2 by omega]; exact h5
      · rw [show s.size - 3 + 1 + 1 = s.size - 1 by omega]; exact h2
  · rw [if_neg hh]
    have : ¬ Elt s := fun h => hh (hE h).1
    rw [decide_eq_false this, Bool.false_or]
end

section
open Go.RowKit

/-- A world that is the given one but for new blocks and draws. -/
structure Lat (w0 : World) where
  w : World
  h : Below w0.heap.size w0 w
instance (w0 : World) : Nonempty (Lat w0) := ⟨⟨w0, Below.refl _ _⟩⟩

theorem below_drawn {w0 : World} (n : Nat) : Below w0.heap.size w0 { w0 with drawn := n } := ⟨rfl, rfl, rfl, Nat.le_refl _, fun _ _ => rfl⟩
theorem lat_iff {w0 w' : World} : (∃ p : Lat w0, w' = p.w) ↔ Below w0.heap.size w0 w' := ⟨fun ⟨p, h⟩ => h ▸ p.h, fun h => ⟨⟨w', h⟩, rfl⟩⟩

/-- The region, in the order of the text; behind it the world is a later one. -/
theorem wp_region_lat {P : Program} {id : Nat} {Q : Exit → Act → World → Prop} {a : Act} {w : World} {l : List Oper} (hm : P.follows .mixedOrders = true) (hB : Region.lexB .any l.toArray = true)
    (h : wpQuiet P l.toArray (fun w' => ∃ p : Lat w, w' = p.w) (fun a' => ∀ w', Below w.heap.size w w' → Q .normal a' w') l a) : (Code.region id l.toArray true).wp P Q a w := by
  refine wp_region_quiet (C := fun w' => ∃ p : Lat w, w' = p.w) hm hB (lat_iff.2 (below_drawn _)) ?_
  have e : (fun a' => ∀ w', Below w.heap.size w w' → Q .normal a' w') = (fun a' => ∀ w', (∃ p : Lat w, w' = p.w) → Q .normal a' w') := by
    funext a'
    refine propext ⟨fun h w' hw => h w' (lat_iff.1 hw), fun h w' hw => h w' (lat_iff.2 hw)⟩
  rw [← e]
  simpa using h

/-- A callee's contract that ends in 'Below', met in a later world. -/
theorem lat_call {P : Program} {f : FuncId} {args : Array Value} {w0 : World} {p : Lat w0} {v : Value} (h : Calls P f args p.w fun e w' => e = .returned v ∧ Below p.w.heap.size p.w w') :
    Calls P f args p.w fun e w'' => e = .returned v ∧ ∃ q : Lat w0, w'' = q.w :=
  h.mono fun _ _ ⟨he, hb⟩ => ⟨he, ⟨_, p.h.trans (hb.mono p.h.size)⟩, rfl⟩
/-- .. that leaves the world as it was. -/
theorem lat_same {P : Program} {f : FuncId} {args : Array Value} {w0 : World} {p : Lat w0} {v : Value} (h : Calls P f args p.w fun e w' => e = .returned v ∧ p.w = w') :
    Calls P f args p.w fun e w'' => e = .returned v ∧ ∃ q : Lat w0, w'' = q.w :=
  h.mono fun _ _ ⟨he, hb⟩ => ⟨he, p, hb.symm⟩
/-- .. that draws. -/
theorem lat_drew {P : Program} {f : FuncId} {args : Array Value} {w0 : World} {p : Lat w0} {v : Value} (h : Calls P f args p.w fun e w' => e = .returned v ∧ ∃ n, w' = p.w.drewN n) :
    Calls P f args p.w fun e w'' => e = .returned v ∧ ∃ q : Lat w0, w'' = q.w :=
  h.mono fun _ _ ⟨he, n, hb⟩ => ⟨he, ⟨p.w.drewN n, ⟨p.h.os, p.h.tape, p.h.output, p.h.size, p.h.block⟩⟩, hb⟩
end

section
open Go.RowKit

/-- Block g is just these cells, none of them frozen. -/
def Box (w : World) (g : Nat) (cs : Array Value) (t : TypeId) : Prop := w.heap[g]? = some (.cells cs t (0, 0))
section
variable {w w' : World} {g : Nat} {t : TypeId} {cs : Array Value}
theorem Box.lt (h : Box w g cs t) : g < w.heap.size := by
  rcases Nat.lt_or_ge g w.heap.size with hlt | hge
  · exact hlt
  · unfold Box at h; rw [Array.getElem?_eq_none hge] at h; cases h
theorem Box.cell (h : Box w g cs t) (i : Nat) : w.cell? ⟨g, i, none⟩ = cs[i]? := cell_of_row w g i cs t (0, 0) h
theorem Box.frozen (h : Box w g cs t) (i : Nat) : w.frozen? ⟨g, i, none⟩ = false := by
  unfold Box at h
  simp [World.frozen?, h]
theorem Box.new (w : World) (t : TypeId) (cs : Array Value) : Box (w.alloc (.cells cs t)) w.heap.size cs t := heap_alloc_new w _
theorem Box.below (h : Box w g cs t) (hb : Below w.heap.size w w') : Box w' g cs t := (hb.block g h.lt).trans h
theorem Box.lat (h : Box w g cs t) (i : Nat) (v : Value) (hv : cs[i]? = some v) : ∀ p : Lat w, p.w.cell? ⟨g, i, none⟩ = some v := fun p => by
  rw [(h.below p.h).cell i, hv]
theorem Box.at_ (h : Box w g cs t) (i : Nat) (v : Value) (hv : cs[i]? = some v) : w.cell? ⟨g, i, none⟩ = some v := by rw [h.cell i, hv]
end
theorem Box.set_ {w : World} {g : Nat} {t : TypeId} {cs : Array Value} (h : Box w g cs t) (i : Nat) (u : Value) : Box (w.setCell ⟨g, i, none⟩ u) g (cs.setIfInBounds i u) t := by
  unfold Box at h ⊢
  simp [World.setCell, Array.getElem?_modify, h]
theorem Box.setNe {w : World} {g : Nat} {t : TypeId} {cs : Array Value} (h : Box w g cs t) {p : Addr} (hp : p.block ≠ g) (u : Value) : Box (w.setCell p u) g cs t := by
  unfold Box at h ⊢
  rw [← h]
  simp [World.setCell, Array.getElem?_modify, hp]
theorem below_alloc (w : World) (o : Obj) : Below w.heap.size w (w.alloc o) := (Below.refl _ _).alloc (Nat.le_refl _) _
theorem box_new {W : World} {g : Nat} (t : TypeId) (cs : Array Value) (h : W.heap.size = g) : Box (W.alloc (.cells cs t)) g cs t := h ▸ Box.new W t cs
theorem box1 (w : World) (o : Obj) (t : TypeId) (cs : Array Value) : Box ((w.alloc o).alloc (.cells cs t)) (w.heap.size + 1) cs t := by
  have := Box.new (w.alloc o) t cs
  rwa [show (w.alloc o).heap.size = w.heap.size + 1 by simp] at this
theorem box2 (w : World) (o o2 : Obj) (t : TypeId) (cs : Array Value) : Box (((w.alloc o).alloc o2).alloc (.cells cs t)) (w.heap.size + 1 + 1) cs t := by
  have := box1 (w.alloc o) o2 t cs
  rwa [show (w.alloc o).heap.size = w.heap.size + 1 by simp] at this
/-- A later world of a later world. -/
theorem below_step {w w1 w2 : World} (h : Below w.heap.size w w1) (h2 : Below w1.heap.size w1 w2) : Below w.heap.size w w2 := h.trans (h2.mono h.size)
end

section
open Go.RowKit

section
variable {P : Program} {ops : Array Oper} {md : Region.Mode} {C : World → Prop}

/-- Whatever order is picked: so many operations of the head come up, each a quiet one; then L holds. -/
def anyHead (P : Program) (md : Region.Mode) (ops : Array Oper) (C : World → Prop) (n : Nat) (L : Array Bool → Act → Prop) : Nat → Array Bool → Act → Prop
  | 0, listed, a => L listed a
  | f + 1, listed, a => Region.ready md ops listed ≠ [] ∧ ∀ i ∈ Region.ready md ops listed, i < n ∧ qOp P ops C i (anyHead P md ops C n L f (listed.setIfInBounds i true)) a

theorem any_of_head {n g : Nat} {L : Array Bool → Act → Prop} {Q' : Exit → Act → World → Prop} (hL : ∀ listed a w, C w → L listed a → wpAny P md ops Q' g listed a w) :
    ∀ (f : Nat) (listed : Array Bool) (a : Act) (w : World), C w → anyHead P md ops C n L f listed a → wpAny P md ops Q' (f + g) listed a w
  | 0, listed, a, w, hw, h => by rw [Nat.zero_add]; exact hL _ _ _ hw h
  | f + 1, listed, a, w, hw, h => by
    have e : f + 1 + g = (f + g) + 1 := by omega
    rw [e]
    refine ⟨fun h0 => absurd h0 h.1, fun i hi => ?_⟩
    exact wpOp_of_qOp hw (fun a' w' hw' h' => any_of_head hL f _ a' w' hw' h') (h.2 i hi).2

/-- An operation of the head that may come up may be taken first. -/
theorem head_first {n i : Nat} {oi : Oper} {v : Value} {L : Array Bool → Act → Prop} (hi : ops[i]? = some oi) (hsel : ∀ (j : Nat) (o : Oper) cs b, ops[j]? = some o → o.op ≠ .select cs b)
    (hs : Region.sinkB md ops n = true) (hc : Region.chainB md ops n = true) (hn : n < ops.size) (hin : i < n) (hdone : ∀ listed a, L listed a → ∀ j ∈ Region.ready md ops listed, n ≤ j) :
    ∀ (f : Nat) (listed : Array Bool) (a : Act), HeadInv md ops n listed →
      (∀ j oj, ops[j]? = some oj → j ≠ i → listed.getD j true = false → (∀ e ∈ oj.after, Region.binds md e = true → e.on ≠ i) → oi.apart ops oj = true) →
      i ∈ Region.ready md ops listed → YieldsIn P ops C oi v a → anyHead P md ops C n L f (listed.setIfInBounds i true) (a.put oi.dst v) → anyHead P md ops C n L (f + 1) listed a
  | f, listed, a, inv, hfree, hr, hy, H => by
    have hun := (mem_ready.1 hr).1
    have hlt : ∀ j ∈ Region.ready md ops listed, j < n := fun j hj => Classical.byContradiction fun h => tail_waits hs hc hn inv _ i rfl hin hun j (by omega) hj
    refine ⟨fun h => (by rw [h] at hr; cases hr), fun j hj => ⟨hlt j hj, ?_⟩⟩
    by_cases hji : j = i
    · subst hji; exact hy.qOp hi H
    cases f with
    | zero => have := hdone _ _ H j (ready_mono hj hji); have := hlt j hj; omega
    | succ f =>
      obtain ⟨hjun, oj, hoj, hall⟩ := mem_ready.1 hj
      have hnot : ∀ e ∈ oj.after, Region.binds md e = true → e.on ≠ i := fun e he hb heq => by
        have h1 := hall e he hb
        rw [heq, getD_both hun] at h1
        cases h1
      have h2 := qOp_put hoj (hfree j oj hoj hji hjun hnot) (fun cs b => hsel i oi cs b hi) (fun cs b => hsel j oj cs b hoj) hy (H.2 j (ready_mono hj hji)).2
      refine qOp_mono (fun a' h3 => head_first hi hsel hs hc hn hin hdone f (listed.setIfInBounds j true) a' (inv.set hj (hlt j hj)) (fun k ok hk hki hu hno => ?_) (ready_mono hr (Ne.symm hji)) h3.1 ?_) h2
      · refine hfree k ok hk hki ?_ hno
        by_cases hjk : j = k
        · subst hjk; exact hjun
        · rwa [getD_set_ne true hjk] at hu
      · rw [Array.setIfInBounds_comm _ _ hji]
        exact h3.2

/-- The lexical walk of the head serves every order. -/
theorem head_lex {n g : Nat} {Lq : Act → Prop} (hsel : Region.noSelect ops = true) (hs : Region.sinkB md ops n = true) (hc : Region.chainB md ops n = true) (hn : n < ops.size) :
    ∀ (l : List Oper) (k : Nat) (listed : Array Bool) (a : Act), (∀ j, j < l.length → l[j]? = ops[k + j]?) → k + l.length = n → HeadInv md ops n listed → Region.lexHead md ops g l.length k listed = true → wpQuiet P ops C Lq l a →
      anyHead P md ops C n (fun listed' a' => Region.seqB md ops g n listed' = true ∧ Lq a') l.length listed a
  | [], k, listed, a, _, hk, _, hB, h => by
    obtain rfl : k = n := by simpa using hk
    exact ⟨by simpa [Region.lexHead] using hB, h⟩
  | o :: l, k, listed, a, hl, hk, inv, hB, h => by
    have h0 : ops[k]? = some o := by simpa using (hl 0 (by simp)).symm
    rw [List.length_cons] at hk hB
    simp only [Region.lexHead, Bool.and_eq_true] at hB
    have hr : k ∈ Region.ready md ops listed := by simpa using hB.1.1
    have hq : qOp P ops C k (wpQuiet P ops C Lq l) a := by unfold qOp; simp only [h0]; exact h
    obtain ⟨v, hy, hK⟩ := yieldsIn_of_qOp h0 hq
    refine head_first h0 (Region.noSelect_spec hsel) hs hc hn (by omega) (fun _ _ hL => seqB_ready hL.1) l.length listed a inv (Region.free_spec h0 hB.1.2) hr hy ?_
    refine head_lex hsel hs hc hn l (k + 1) _ _ (fun j hj => ?_) (by omega) (inv.set hr (by omega)) hB.2 hK
    have := hl (j + 1) (by simp only [List.length_cons]; omega)
    rw [List.getElem?_cons_succ] at this
    rw [this]; congr 1; omega

/-- THE REGION: the head in the order of the text, in every later world; then the tail. -/
theorem wp_region_tail {id : Nat} {Q : Exit → Act → World → Prop} {a : Act} {w : World} {l : List Oper} (n : Nat) (hm : P.follows .mixedOrders = true) (hB : Region.lexTailB .any l.toArray n = true)
    (h : wpQuiet P l.toArray (fun w' => ∃ p : Lat w, w' = p.w) (fun a' => ∀ w', Below w.heap.size w w' → wpList P l.toArray Q (l.drop n) a' w') (l.take n) a) : (Code.region id l.toArray true).wp P Q a w := by
  simp only [Region.lexTailB, Bool.and_eq_true, decide_eq_true_eq] at hB
  obtain ⟨⟨⟨⟨hsel, hn⟩, hs⟩, hc⟩, hlex⟩ := hB
  have hn' : n < l.length := by simpa using hn
  have htl : (l.take n).length = n := by rw [List.length_take]; omega
  have hdl : (l.drop n).length = l.toArray.size - n := by simp
  have inv0 : HeadInv .any l.toArray n (Array.replicate l.toArray.size false) :=
    ⟨by simp, fun j oj _ hl => (by rw [getD_replicate_false] at hl; cases hl), fun t _ ht => getD_in (by simpa using ht) (getD_replicate_false _ _)⟩
  have H := head_lex (md := .any) (g := l.toArray.size - n) hsel hs hc hn (l.take n) 0 _ a (fun j hj => by
    have hj' : j < n := by rw [htl] at hj; exact hj
    simp [hj']) (by simpa using htl) inv0 (by rw [htl]; exact hlex) h
  refine wp_region_any hm ?_
  have K := fun hh => any_of_head (Q' := Q) (g := l.toArray.size - n) hh _ _ _ _ (lat_iff.2 (below_drawn (w0 := w) (w.drawn + 1))) H
  have this := K (fun listed a' w' hw hL => by
    have h1 := wpAny_of_seq (md := .any) (Q' := Q) (l.drop n) n listed a' w' (fun j => by simp [List.getElem?_drop]) (by rw [hdl]; exact hL.1) (hL.2 w' (lat_iff.1 hw))
    rwa [hdl] at h1)
  rw [htl, show n + (l.toArray.size - n) = l.toArray.size by omega] at this
  exact this
end
end

section
open Go.RowKit
set_option linter.unusedVariables false

theorem grown_of_below {a w : World} (h : Below a.heap.size a w) (row : Option Nat) : a.grownBy w row := ⟨h.os, h.tape, h.output, h.size, fun i hi _ => h.block i hi⟩
theorem own_below {w w' : World} {base : Nat} {e : TypeId} {size : Nat} {v : Value} {n : Nat} {xs : List Value} (h : w.ownsRow base e size v n xs) (hb : Below w.heap.size w w') : w'.ownsRow base e size v n xs := by
  refine h.kept (grown_of_below hb none) ?_
  exact Classical.em _
theorem own_block {w : World} {base : Nat} {e : TypeId} {size : Nat} {v : Value} {n : Nat} {xs : List Value} (h : w.ownsRow base e size v n xs) (k : Nat) (hk : v.ownBlock = some k) : base ≤ k := by
  rcases h.2 with ⟨rfl, _⟩ | ⟨g, cap, cur, rfl, hg, _⟩
  · simp [Value.ownBlock] at hk
  · simp [Value.ownBlock] at hk; omega

/-- A slice value that reads as a list of integers. -/
def IL (w : World) (v : Value) (zs : List Int) : Prop := ∃ (A : Option Addr) (c : Nat), v = .slice A zs.length c ∧ zs.length ≤ c ∧ (0 < zs.length → ∃ a, A = some a ∧ a.block < w.heap.size ∧ ∀ j, j < zs.length → w.cell? (a.add j) = some (.int .i64 (zs.getD j 0)))
theorem IL.nil (w : World) : IL w (.slice none 0 0) [] := ⟨none, 0, rfl, Nat.le_refl _, fun h => absurd h (by simp)⟩
theorem IL.below {w w' : World} {v : Value} {l : List Int} (h : IL w v l) (hb : Below w.heap.size w w') : IL w' v l := by
  obtain ⟨A, c, rfl, hc, h⟩ := h
  exact ⟨A, c, rfl, hc, fun hl => by
    obtain ⟨a, ha, hlt, hs⟩ := h hl
    exact ⟨a, ha, Nat.lt_of_lt_of_le hlt hb.size, fun j hj => by rw [hb.cell (by rw [block_of_add]; exact hlt)]; exact hs j hj⟩⟩
def icells (l : List Int) : List Value := l.map (Value.int .i64)
theorem IL.of_own {w : World} {base : Nat} {t : TypeId} {v : Value} {n : Nat} {l : List Int} (h : w.ownsRow base t 1 v n (icells l)) : IL w v l := by
  have hl : l.length = n := by have := h.1; simpa [icells] using this
  obtain ⟨_, h2⟩ := h
  have h0 := h2
  rcases h2 with ⟨rfl, h2⟩ | ⟨g, cap, cur, rfl, hg, hh, hnc, _⟩
  · have : l = [] := List.eq_nil_of_length_eq_zero (by omega)
    subst this
    exact IL.nil w
  · refine ⟨some ⟨g, 0, none⟩, cap, by rw [hl], by omega, fun hp => ⟨⟨g, 0, none⟩, rfl, ?_, fun j hj => ?_⟩⟩
    · rcases Nat.lt_or_ge g w.heap.size with hlt | hge
      · exact hlt
      · rw [Array.getElem?_eq_none hge] at hh; cases hh
    · have := World.ownsRow.cells (g := g) (w := w) (base := base) (e := t) (size := 1) (n := n) (xs := icells l) ⟨by simpa [icells] using hl, h0⟩ rfl j (.int .i64 (l.getD j 0)) (by
        simp [icells, List.getD_eq_getElem?_getD, List.getElem?_eq_getElem hj])
      exact this
/-- A row grown by an append of the call's own. -/
theorem below_grown {w w2 w3 : World} {base : Nat} {e : TypeId} {size : Nat} {v : Value} {n : Nat} {xs : List Value} {o : Obj} (h : Below base w w2) (hs : base ≤ w2.heap.size) (hown : w2.ownsRow base e size v n xs) (hg : (w2.alloc o).grownBy w3 v.ownBlock) : Below base w w3 :=
  (h.alloc hs _).grown hg (Nat.le_trans hs (by simp)) (fun q hq => own_block hown q hq)
end

section
open Go.RowKit
set_option linter.unusedVariables false

/-- The cells from a on read as strings. -/
structure RS (w : World) (a : Addr) (l : List ByteArray) : Prop where
  lt : a.block < w.heap.size
  cells : ∀ j, j < l.length → w.cell? (a.add j) = some (.string (l.getD j ⟨#[]⟩))
theorem RS.below {w w' : World} {a : Addr} {l : List ByteArray} (h : RS w a l) (hb : Below w.heap.size w w') : RS w' a l :=
  ⟨Nat.lt_of_lt_of_le h.lt hb.size, fun j hj => (hb.cell (by rw [block_of_add]; exact h.lt)).trans (h.cells j hj)⟩
/-- A slice value that reads as a list of strings. -/
def SL (w : World) (v : Value) (l : List ByteArray) : Prop := ∃ (A : Option Addr) (c : Nat), v = .slice A l.length c ∧ l.length ≤ c ∧ (0 < l.length → ∃ a, A = some a ∧ RS w a l)
theorem SL.nil (w : World) : SL w (.slice none 0 0) [] := ⟨none, 0, rfl, Nat.le_refl _, fun h => absurd h (by simp)⟩
theorem SL.below {w w' : World} {v : Value} {l : List ByteArray} (h : SL w v l) (hb : Below w.heap.size w w') : SL w' v l := by
  obtain ⟨A, c, rfl, hc, h⟩ := h
  exact ⟨A, c, rfl, hc, fun hl => by obtain ⟨a, ha, hs⟩ := h hl; exact ⟨a, ha, hs.below hb⟩⟩
def scells (l : List ByteArray) : List Value := l.map Value.string
theorem SL.of_own {w : World} {base : Nat} {v : Value} {n : Nat} {l : List ByteArray} (h : w.ownsRow base 9 1 v n (scells l)) : SL w v l := by
  have hl : l.length = n := by have := h.1; simpa [scells] using this
  obtain ⟨_, h2⟩ := h
  have h0 := h2
  rcases h2 with ⟨rfl, h2⟩ | ⟨g, cap, cur, rfl, hg, hh, hnc, _⟩
  · have : l = [] := List.eq_nil_of_length_eq_zero (by omega)
    subst this
    exact SL.nil w
  · refine ⟨some ⟨g, 0, none⟩, cap, by rw [hl], by omega, fun hp => ⟨⟨g, 0, none⟩, rfl, ⟨?_, fun j hj => ?_⟩⟩⟩
    · rcases Nat.lt_or_ge g w.heap.size with hlt | hge
      · exact hlt
      · rw [Array.getElem?_eq_none hge] at hh; cases hh
    · have := World.ownsRow.cells (g := g) (w := w) (base := base) (e := 9) (size := 1) (n := n) (xs := scells l) ⟨by simpa [scells] using hl, h0⟩ rfl j (.string (l.getD j ⟨#[]⟩)) (by
        simp [scells, List.getD_eq_getElem?_getD, List.getElem?_eq_getElem hj])
      exact this
theorem istr : (Tryz.prog.info? 9).map (fun i => (i.zero, i.size, i.bytes)) = some (some (.string ⟨#[]⟩), 1, 16) := by kernel_rfl
end

section
open Go.RowKit
end
end Go.Proofs.YtbgficaboolgiaaGreatDoor
