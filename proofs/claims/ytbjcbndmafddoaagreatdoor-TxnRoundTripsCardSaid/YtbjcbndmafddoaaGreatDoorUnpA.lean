/-
  The encoding of a transaction: what Unpack gives, and that Pack gives the encoding back. No walk here.
-/
import Derived.Test.YtbjcbndmafddoaaGreatDoorPkB
import Derived.Test.YtbjcbndmafddoaaGreatDoorTxA
namespace Go.Proofs.YtbjcbndmafddoaaGreatDoor
section
open Go.RowKit
set_option linter.unusedVariables false
set_option linter.unusedSimpArgs false

/-- Taking k numbers from an offset on. -/
def upRun (s : ByteArray) : Nat → Int → List Int → List Int × Int × Int
  | 0, a, acc => (acc, a, 0)
  | k + 1, a, acc => if (tn s a).2.2 = 0 then upRun s k (tn s a).2.1 (acc ++ [(tn s a).1]) else ([], 0, (tn s a).2.2)
theorem upRun_zero (s : ByteArray) (a : Int) (acc : List Int) : upRun s 0 a acc = (acc, a, 0) := rfl
theorem upRun_go {s : ByteArray} {k : Nat} {a : Int} {acc : List Int} (h : (tn s a).2.2 = 0) : upRun s (k + 1) a acc = upRun s k (tn s a).2.1 (acc ++ [(tn s a).1]) := by rw [upRun, if_pos h]
theorem upRun_err {s : ByteArray} {k : Nat} {a : Int} {acc : List Int} (h : (tn s a).2.2 ≠ 0) : upRun s (k + 1) a acc = ([], 0, (tn s a).2.2) := by rw [upRun, if_neg h]
theorem upRun_len {s : ByteArray} : ∀ (k : Nat) (a : Int) (acc : List Int), (upRun s k a acc).1.length ≤ acc.length + k
  | 0, a, acc => by simp [upRun]
  | k + 1, a, acc => by
    by_cases h : (tn s a).2.2 = 0
    · rw [upRun_go h]; have := upRun_len (s := s) k (tn s a).2.1 (acc ++ [(tn s a).1]); simp at this; omega
    · rw [upRun_err h]; simp
theorem upRun_bd {s : ByteArray} (hs : s.size ≤ 9223372036854775807) : ∀ (k : Nat) (a : Int) (acc : List Int), 0 ≤ a → a ≤ s.size → 0 ≤ (upRun s k a acc).2.1 ∧ (upRun s k a acc).2.1 ≤ s.size
  | 0, a, acc, h0, h1 => ⟨h0, h1⟩
  | k + 1, a, acc, h0, h1 => by
    by_cases h : (tn s a).2.2 = 0
    · rw [upRun_go h]; exact upRun_bd hs k _ _ (tn_bd s a hs).2.2.1 (tn_bd s a hs).2.2.2
    · rw [upRun_err h]; simp
/-- What Unpack gives behind the names. -/
def unpV (s : ByteArray) (ns : List ByteArray) (r : List Int × Int × Int) : List ByteArray × List Int × Int :=
  if r.2.2 ≠ 0 then ([], [], r.2.2) else if r.2.1 < s.size then ([], [], 5) else if txV ns r.1 = false then ([], [], 1) else (ns, r.1, 0)
/-- What Unpack gives. -/
def unpT (s : ByteArray) : List ByteArray × List Int × Int :=
  if (tl s 0 128).2.2 ≠ 0 then ([], [], (tl s 0 128).2.2) else unpV s (tl s 0 128).1 (upRun s (tl s 0 128).1.length (tl s 0 128).2.1 [])
/-- The bytes of the encoding. -/
def pkL (ns : List ByteArray) (zs : List Int) : List UInt8 := pList ns ++ (zs.map pNum).flatten
theorem upRun_canon {s : ByteArray} : ∀ (k : Nat) (a : Nat) (acc : List Int), a ≤ s.size → (upRun s k a acc).2.2 = 0 →
    ∃ (l : List Int) (m : Nat), (upRun s k a acc).1 = acc ++ l ∧ (upRun s k a acc).2.1 = m ∧ l.length = k ∧ a ≤ m ∧ m ≤ s.size ∧ bl (s.extract a m) = (l.map pNum).flatten
  | 0, a, acc, ha, _ => ⟨[], a, by simp [upRun], rfl, rfl, Nat.le_refl _, ha, by rw [bl_extract]; simp⟩
  | k + 1, a, acc, ha, h => by
    by_cases he : (tn s a).2.2 = 0
    · rw [upRun_go he] at h ⊢
      obtain ⟨i, h1, h2, h3, h4⟩ := tn_canon he
      rw [h1] at h ⊢
      obtain ⟨l, m, e1, e2, e3, e4, e5, e6⟩ := upRun_canon k i (acc ++ [(tn s a).1]) h3 h
      refine ⟨(tn s a).1 :: l, m, by rw [e1]; simp, e2, by simp [e3], by omega, e5, ?_⟩
      rw [bl_extract] at h4 e6 ⊢
      rw [show m - a = (i - a) + (m - i) by omega, take_split, show a + (i - a) = i by omega, h4, e6]
      simp
    · rw [upRun_err he] at h
      exact absurd h he
theorem upRun_list {s : ByteArray} : ∀ (zs : List Int) (p q : List UInt8) (acc : List Int), (∀ z ∈ zs, wordB z = true) → bl s = p ++ ((zs.map pNum).flatten ++ q) →
    upRun s zs.length p.length acc = (acc ++ zs, ((p.length + (zs.map pNum).flatten.length : Nat) : Int), 0)
  | [], p, q, acc, _, _ => by simp [upRun]
  | z :: zs, p, q, acc, hb, hs => by
    have h1 : bl s = p ++ (pNum z ++ ((zs.map pNum).flatten ++ q)) := by rw [hs]; simp
    have hz : 0 ≤ z ∧ z ≤ 65535 := of_decide_eq_true (hb z (by simp))
    have h2 := tn_num (by omega) (by omega) h1
    have h3 : bl s = (p ++ pNum z) ++ ((zs.map pNum).flatten ++ q) := by rw [hs]; simp
    have ih := upRun_list zs (p ++ pNum z) q (acc ++ [z]) (fun u hu => hb u (by simp [hu])) h3
    rw [List.length_cons, upRun_go (by rw [h2]), h2]
    simp only [List.length_append] at ih
    rw [ih]
    refine Prod.ext (by simp) (Prod.ext ?_ rfl)
    simp only [List.map_cons, List.flatten_cons, List.length_append]
    omega
theorem unpV_ok {s : ByteArray} {ns ms : List ByteArray} {zs : List Int} {r : List Int × Int × Int} (h : unpV s ns r = (ms, zs, 0)) : r.2.2 = 0 ∧ ¬ r.2.1 < s.size ∧ txV ns r.1 = true ∧ ms = ns ∧ zs = r.1 := by
  unfold unpV at h
  by_cases h1 : r.2.2 ≠ 0
  · rw [if_pos h1] at h; simp only [Prod.mk.injEq] at h; exact absurd h.2.2 h1
  rw [if_neg h1] at h
  by_cases h2 : r.2.1 < s.size
  · rw [if_pos h2] at h; simp at h
  rw [if_neg h2] at h
  cases h3 : txV ns r.1
  · rw [if_pos h3] at h; simp at h
  · rw [if_neg (by simp [h3])] at h
    simp only [Prod.mk.injEq, and_true] at h
    exact ⟨Classical.byContradiction h1, h2, rfl, h.1.symm, h.2.symm⟩
/-- What Unpack gives is valid, and its encoding is the string. -/
theorem unpT_back {s : ByteArray} {ns : List ByteArray} {zs : List Int} (h : unpT s = (ns, zs, 0)) : txV ns zs = true ∧ pkL ns zs = bl s := by
  unfold unpT at h
  by_cases h1 : (tl s 0 128).2.2 ≠ 0
  · rw [if_pos h1] at h; simp only [Prod.mk.injEq] at h; exact absurd h.2.2 h1
  rw [if_neg h1] at h
  obtain ⟨e1, e2, e3, rfl, rfl⟩ := unpV_ok h
  refine ⟨e3, ?_⟩
  obtain ⟨m, a1, a2, a3, a4, a5⟩ := tl_canon (s := s) (a := 0) (most := 128) (Classical.byContradiction h1)
  rw [show ((0 : Nat) : Int) = 0 from rfl] at a1 a4 a5
  rw [a1] at e1 e2 ⊢
  obtain ⟨l, m2, b1, b2, b3, b4, b5, b6⟩ := upRun_canon _ m [] a3 e1
  rw [b2] at e2
  rw [b1, List.nil_append]
  obtain rfl : m2 = s.size := by omega
  unfold pkL
  rw [← a4, ← b6, bl_extract, bl_extract]
  simp only [List.drop_zero, Nat.sub_zero]
  rw [List.take_of_length_le (l := (bl s).drop m) (by rw [List.length_drop, bl_len]; exact Nat.le_refl _), List.take_append_drop]
/-- The encoding of a valid transaction is read back. -/
theorem unpT_pack {s : ByteArray} {ns : List ByteArray} {zs : List Int} (hv : txV ns zs = true) (hb : ∀ t ∈ ns, t.size ≤ 9223372036854775807) (hs : bl s = pkL ns zs) : unpT s = (ns, zs, 0) := by
  obtain ⟨v1, v2, v3, v4, v5⟩ : TxV ns zs := of_decide_eq_true hv
  have h1 : bl s = [] ++ (pList ns ++ (zs.map pNum).flatten) := hs
  have e := tl_list (most := 128) hb (by omega) (by omega) h1
  rw [show (([] : List UInt8).length : Int) = 0 from rfl] at e
  unfold unpT
  rw [e]
  simp only [List.length_nil, Nat.zero_add]
  rw [if_neg (by simp)]
  have h2 : bl s = pList ns ++ ((zs.map pNum).flatten ++ []) := by rw [hs]; simp [pkL]
  have e2 := upRun_list zs (pList ns) [] [] v5 h2
  rw [v1, e2]
  unfold unpV
  simp only [List.nil_append]
  have hl : s.size = (pList ns).length + (zs.map pNum).flatten.length := by rw [← bl_len, hs]; simp [pkL]
  rw [if_neg (by simp), if_neg (by omega), if_neg (by simp [hv])]
end

end Go.Proofs.YtbjcbndmafddoaaGreatDoor
