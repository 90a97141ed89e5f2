/-
  What the functions of pack return, in plain words: the end of digits, a text, a number.
  Contracts of the small functions of pack and of its reference.
  TakeText and TakeNumber, of pack and of its reference.
  TakeText of the reference.
  TakeNumber of pack.
  TakeNumber of the reference.
-/
import Derived.Test.YtldafnjbgjagiaaDoorBase
import Derived.Lib.Strings
import Derived.Test.YtldafnjbgjagiaaDoorDec
namespace Go.Proofs.YtldafnjbgjagiaaDoor
section
open Go.RowKit

/-- Is byte k a digit? -/
def dig (s : ByteArray) (k : Nat) : Bool := decide (48 ≤ byt s k ∧ byt s k ≤ 57)

/-- The offset behind the digits that begin at a. -/
def dEnd (s : ByteArray) : Nat → Nat → Nat
  | 0, a => a
  | n + 1, a => if a < s.size ∧ dig s a = true then dEnd s n (a + 1) else a
theorem dEnd_spec (s : ByteArray) (n a : Nat) (ha : a ≤ s.size) (hn : s.size ≤ a + n) :
    a ≤ dEnd s n a ∧ dEnd s n a ≤ s.size ∧ (∀ j, a ≤ j → j < dEnd s n a → dig s j = true) ∧ (dEnd s n a < s.size → dig s (dEnd s n a) = false) := by
  induction n generalizing a with
  | zero => exact ⟨Nat.le_refl _, ha, fun j h1 h2 => by simp [dEnd] at h2; omega, fun h => by simp [dEnd] at h; omega⟩
  | succ n ih =>
    unfold dEnd
    by_cases h : a < s.size ∧ dig s a = true
    · rw [if_pos h]
      obtain ⟨h1, h2, h3, h4⟩ := ih (a + 1) (by omega) (by omega)
      refine ⟨by omega, h2, fun j hj hj2 => ?_, h4⟩
      by_cases e : j = a
      · rw [e]; exact h.2
      · exact h3 j (by omega) hj2
    · rw [if_neg h]
      refine ⟨Nat.le_refl _, ha, fun j h1 h2 => by omega, fun h1 => ?_⟩
      cases hd : dig s a
      · rfl
      · exact absurd ⟨h1, hd⟩ h
/-- The end of the digits from a. -/
def dE1 (s : ByteArray) (a : Nat) : Nat := dEnd s s.size a
theorem dE1_spec (s : ByteArray) (a : Nat) (ha : a ≤ s.size) :
    a ≤ dE1 s a ∧ dE1 s a ≤ s.size ∧ (∀ j, a ≤ j → j < dE1 s a → dig s j = true) ∧ (dE1 s a < s.size → dig s (dE1 s a) = false) := dEnd_spec s s.size a ha (by omega)
/-- It is the only such offset. -/
theorem dE1_unique (s : ByteArray) (a e : Nat) (ha : a ≤ s.size) (h1 : a ≤ e) (h2 : e ≤ s.size) (h3 : ∀ j, a ≤ j → j < e → dig s j = true) (h4 : e < s.size → dig s e = false) : e = dE1 s a := by
  obtain ⟨g1, g2, g3, g4⟩ := dE1_spec s a ha
  rcases Nat.lt_trichotomy e (dE1 s a) with h | h | h
  · have := g3 e h1 h
    rw [h4 (by omega)] at this; cases this
  · exact h
  · have := h3 _ g1 h
    rw [g4 (by omega)] at this; cases this

theorem byt_extract (s : ByteArray) (a e j : Nat) (_he : e ≤ s.size) (hj : j < e - a) : byt (s.extract a e) j = byt s (a + j) := by
  unfold byt
  rw [Lib.extract_data, List.getD_eq_getElem?_getD, List.getD_eq_getElem?_getD, List.getElem?_take_of_lt hj, List.getElem?_drop]
theorem extract_size (s : ByteArray) (a e : Nat) (he : e ≤ s.size) : (s.extract a e).size = e - a := by
  simp; omega
theorem extract_extract (s : ByteArray) (a v : Nat) (_h : a + v ≤ s.size) : (s.extract a s.size).extract 0 v = s.extract a (a + v) := by
  have : ((s.extract a s.size).extract 0 v).data.toList = (s.extract a (a + v)).data.toList := by
    rw [Lib.extract_data, Lib.extract_data, Lib.extract_data]
    simp only [List.drop_zero, Nat.sub_zero]
    rw [List.take_take, List.take_eq_take_iff]
    simp
  generalize (s.extract a s.size).extract 0 v = b at this
  generalize s.extract a (a + v) = c at this
  obtain ⟨⟨l⟩⟩ := b
  obtain ⟨⟨m⟩⟩ := c
  simp at this
  rw [this]
theorem digs_extract (s : ByteArray) (a e : Nat) (he : e ≤ s.size) (h : ∀ j, a ≤ j → j < e → dig s j = true) : digs (s.extract a e) (s.extract a e).size := by
  intro j hj
  rw [extract_size s a e he] at hj
  rw [byt_extract s a e j he hj]
  have := h (a + j) (by omega) (by omega)
  unfold dig at this
  simpa using this

/-- The value of the digits from a to e. -/
def dval (s : ByteArray) (a e : Nat) : Nat := dvl (s.extract a e) (e - a)

/-- What TakeText returns, for an offset that is one of the string. -/
def ttN (s : ByteArray) (a : Nat) : ByteArray × Int × Int :=
  if dE1 s a = s.size then (⟨#[]⟩, 0, 6)
  else if dE1 s a = a ∨ (byt s a = 48 ∧ a + 1 < dE1 s a) ∨ byt s (dE1 s a) ≠ 58 then (⟨#[]⟩, 0, 5)
  else if 9223372036854775807 < dval s a (dE1 s a) then (⟨#[]⟩, 0, 3)
  else if s.size - dE1 s a - 1 < dval s a (dE1 s a) then (⟨#[]⟩, 0, 6)
  else (s.extract (dE1 s a + 1) (dE1 s a + 1 + dval s a (dE1 s a)), ((dE1 s a + 1 + dval s a (dE1 s a) : Nat) : Int), 0)
/-- What TakeText returns. -/
def tt (s : ByteArray) (at_ : Int) : ByteArray × Int × Int := if at_ < 0 ∨ (s.size : Int) < at_ then (⟨#[]⟩, 0, 1) else ttN s at_.toNat
/-- The three results. -/
def ret3t (r : ByteArray × Int × Int) : Ending := .returned (.tuple #[.string r.1, .int .i64 r.2.1, .int .i64 r.2.2])

/-- Where the digits of a number begin. -/
def nFirst (s : ByteArray) (a : Nat) : Nat := if a < s.size ∧ byt s a = 45 then a + 1 else a
/-- What TakeNumber returns, for an offset that is one of the string: f is where the digits begin, e where they end. -/
def tnF (s : ByteArray) (a f e : Nat) : Int × Int × Int :=
  if e = s.size then (0, 0, 6)
  else if e = f ∨ (byt s f = 48 ∧ f + 1 < e) ∨ (byt s f = 48 ∧ f ≠ a) ∨ byt s e ≠ 59 then (0, 0, 5)
  else if f ≠ a then (if 9223372036854775808 < dval s f e then (0, 0, 3) else (-(dval s f e : Int), ((e + 1 : Nat) : Int), 0))
  else (if 9223372036854775807 < dval s f e then (0, 0, 3) else (dval s f e, ((e + 1 : Nat) : Int), 0))
def tn (s : ByteArray) (at_ : Int) : Int × Int × Int :=
  if at_ < 0 ∨ (s.size : Int) < at_ then (0, 0, 1) else tnF s at_.toNat (nFirst s at_.toNat) (dE1 s (nFirst s at_.toNat))
def ret3n (r : Int × Int × Int) : Ending := .returned (.tuple #[.int .i64 r.1, .int .i64 r.2.1, .int .i64 r.2.2])
theorem nFirst_le (s : ByteArray) (a : Nat) (h : a ≤ s.size) : a ≤ nFirst s a ∧ nFirst s a ≤ s.size ∧ nFirst s a ≤ a + 1 := by
  unfold nFirst; split <;> omega

/-- Digits without a leading zero parse to their value. -/
theorem par_digits (d : ByteArray) (hg : digs d d.size) (hz : 0 < d.size) (hl : ¬ (byt d 0 = 48 ∧ 1 < d.size)) : parV d = cV (dvl d d.size) ∧ parE d = cE (dvl d d.size) := by
  have h0 := hg 0 hz
  have hn : isNeg d = false := by
    unfold isNeg; simp; intro _; omega
  have hb : body d = d := (body_size d).2 hn
  have hgood : ¬ badForm d := by
    unfold badForm
    rw [hb, hn]
    rintro (h | h | ⟨h, h2 | h2⟩)
    · omega
    · exact h hg
    · exact hl ⟨h, h2⟩
    · cases h2
  obtain ⟨p1, p2⟩ := par_good hgood
  have hd : den d = dvl d d.size := by unfold den; rw [hn, hb]; rfl
  rw [p1, p2, hd]; exact ⟨rfl, rfl⟩
/-- The same behind a minus sign. -/
theorem par_minus (s : ByteArray) (d : ByteArray) (hs : 0 < s.size) (h45 : byt s 0 = 45) (hd : s.extract 1 s.size = d) (hg : digs d d.size) (hz : 0 < d.size) (hl : byt d 0 ≠ 48) :
    parV s = cV (-(dvl d d.size : Int)) ∧ parE s = cE (-(dvl d d.size : Int)) := by
  have hn : isNeg s = true := by unfold isNeg; simp; exact ⟨hs, h45⟩
  have hb : body s = d := by unfold body; rw [if_pos hn, hd]
  have hgood : ¬ badForm s := by
    unfold badForm
    rw [hb, hn]
    rintro (h | h | ⟨h, h2⟩)
    · omega
    · exact h hg
    · exact hl h
  obtain ⟨p1, p2⟩ := par_good hgood
  have hdd : den s = -(dvl d d.size : Int) := by unfold den; rw [hn, hb]; rfl
  rw [p1, p2, hdd]; exact ⟨rfl, rfl⟩
end

section
open Go.RowKit

/-- What the reference's value returns. -/
def rvV (d : ByteArray) : Int := if dvl d d.size ≤ 9223372036854775808 then -(dvl d d.size : Int) else 0
def rvB (d : ByteArray) : Bool := decide (dvl d d.size ≤ 9223372036854775808)
end

section
open Go.RowKit

theorem str_empty (d : ByteArray) : (d.toList = []) ↔ d.size = 0 := by
  constructor
  · intro h
    have := toList_empty d
    rw [h] at this
    simpa using this.symm
  · exact toList_nil
end

section
open Go.RowKit
end

section
open Go.RowKit

theorem extract_tail (s : ByteArray) (a e : Nat) (_h : a < e) (_he : e ≤ s.size) : (s.extract a e).extract 1 (e - a) = s.extract (a + 1) e := by
  have : ((s.extract a e).extract 1 (e - a)).data.toList = (s.extract (a + 1) e).data.toList := by
    rw [Lib.extract_data, Lib.extract_data, Lib.extract_data, List.drop_take, List.drop_drop, List.take_take]
    congr 1
    omega
  generalize (s.extract a e).extract 1 (e - a) = b at this
  generalize s.extract (a + 1) e = c at this
  obtain ⟨⟨l⟩⟩ := b
  obtain ⟨⟨m⟩⟩ := c
  simp at this
  rw [this]
end

section
open Go.RowKit
end
end Go.Proofs.YtldafnjbgjagiaaDoor
