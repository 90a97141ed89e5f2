/-
  Where a byte stands first in a text; a text cut there; a text parted at a byte. No program in sight.
-/
import Derived.Test.YtbjcbndmafddoaaDoorSpec
import Derived.Lib.IndexMore
import Derived.Lib.CutLaws
namespace Go.Proofs.YtbjcbndmafddoaaDoor
open Go.RowKit
set_option linter.unusedVariables false

/-- Where the byte b stands first, or the length. -/
def ix (b : UInt8) : List UInt8 → Nat
  | [] => 0
  | x :: l => if x = b then 0 else ix b l + 1
section
variable {b : UInt8}
theorem ix_le : ∀ l, ix b l ≤ l.length
  | [] => Nat.le_refl _
  | x :: l => by unfold ix; have := ix_le l; split <;> simp <;> omega
theorem ix_at : ∀ l, ix b l < l.length → l.getD (ix b l) 0 = b
  | [], h => absurd h (by simp)
  | x :: l, h => by
    unfold ix at h ⊢
    split
    · rename_i e; simpa using e
    · rename_i e; rw [if_neg e] at h; simp only [List.getD_cons_succ]; exact ix_at l (by simp at h; omega)
theorem ix_ne : ∀ l j, j < ix b l → l.getD j 0 ≠ b
  | [], j, h => absurd h (by simp [ix])
  | x :: l, j, h => by
    unfold ix at h
    split at h
    · omega
    · rename_i e
      cases j with
      | zero => simpa using e
      | succ j => simp only [List.getD_cons_succ]; exact ix_ne l j (by omega)
theorem ix_of : ∀ (l r : List UInt8), (∀ x ∈ l, x ≠ b) → ix b (l ++ b :: r) = l.length
  | [], r, _ => by simp [ix]
  | x :: l, r, h => by
    simp only [List.cons_append, ix, if_neg (h x (by simp)), List.length_cons]
    rw [ix_of l r fun y hy => h y (by simp [hy])]
theorem ix_none : ∀ (l : List UInt8), (∀ x ∈ l, x ≠ b) → ix b l = l.length
  | [], _ => rfl
  | x :: l, h => by
    simp only [ix, if_neg (h x (by simp)), List.length_cons]
    rw [ix_none l fun y hy => h y (by simp [hy])]
theorem ix_unique (l : List UInt8) (k : Nat) (h : k ≤ l.length) (h1 : ∀ j, j < k → l.getD j 0 ≠ b) (h2 : k < l.length → l.getD k 0 = b) : ix b l = k := by
  have e1 := ix_le (b := b) l
  rcases Nat.lt_trichotomy (ix b l) k with hl | hl | hl
  · exact absurd (ix_at l (by omega)) (h1 _ hl)
  · exact hl
  · exact absurd (h2 (by omega)) (ix_ne l k hl)
theorem index_ix : ∀ l : List UInt8, Lib.index l [b] = if ix b l < l.length then (ix b l : Int) else -1
  | [] => by simp [Lib.index, ix]
  | x :: l => by
    unfold Lib.index
    by_cases e : x = b
    · subst e; simp [ix]
    · have h1 : ([b] : List UInt8).isPrefixOf (x :: l) = false := by simp [List.isPrefixOf]; exact fun h => absurd h.symm e
      rw [h1, index_ix l]
      simp only [ix, if_neg e, List.length_cons, Bool.false_eq_true, if_false]
      by_cases h : ix b l < l.length
      · have h2 : ix b l + 1 < l.length + 1 := by omega
        have h3 : ((ix b l : Int) == -1) = false := by
          have : ¬ (ix b l : Int) = -1 := by omega
          exact beq_false_of_ne this
        simp only [if_pos h, if_pos h2, h3]
        simp
      · have h2 : ¬ ix b l + 1 < l.length + 1 := by omega
        simp only [if_neg h, if_neg h2]
        rfl
theorem cut_ix (l : List UInt8) : Lib.cut l [b] = (l.take (ix b l), l.drop (ix b l + 1), decide (ix b l < l.length)) := by
  unfold Lib.cut
  rw [index_ix]
  by_cases h : ix b l < l.length
  · rw [if_pos h, if_pos (by omega), decide_eq_true h]; simp
  · have e : ix b l = l.length := by have := ix_le (b := b) l; omega
    rw [if_neg h, if_neg (by omega), decide_eq_false h, e]; simp
/-- A text that has the byte is the part ahead of it, the byte, the part behind it. -/
theorem ix_parts (l : List UInt8) (h : ix b l < l.length) : l = l.take (ix b l) ++ b :: l.drop (ix b l + 1) := by
  have e := List.take_append_drop (ix b l) l
  have e2 : l.drop (ix b l) = b :: l.drop (ix b l + 1) := by
    rw [List.drop_eq_getElem_cons h]
    congr 1
    have := ix_at l h
    rw [List.getD_eq_getElem?_getD, List.getElem?_eq_getElem h] at this
    exact this
  rw [← e2, e]
theorem ix_take_ne (l : List UInt8) : ∀ x ∈ l.take (ix b l), x ≠ b := by
  intro x hx
  obtain ⟨j, hj, rfl⟩ := List.mem_iff_getElem.1 hx
  have hj1 : j < ix b l := by rw [List.length_take] at hj; omega
  have hj2 : j < l.length := by rw [List.length_take] at hj; omega
  have := ix_ne l j hj1
  rw [List.getD_eq_getElem?_getD, List.getElem?_eq_getElem hj2] at this
  rw [List.getElem_take]
  exact this
end

/-! Texts parted at a byte. -/
/-- The parts of a text between the bytes b. -/
def partsL (b : UInt8) : List UInt8 → List (List UInt8)
  | [] => [[]]
  | x :: l => if x = b then [] :: partsL b l else match partsL b l with
    | [] => [[x]]
    | p :: r => (x :: p) :: r
theorem partsL_ne (b : UInt8) : ∀ l, partsL b l ≠ []
  | [] => by simp [partsL]
  | x :: l => by
    unfold partsL
    split
    · simp
    · split <;> simp
theorem partsL_no (b : UInt8) : ∀ l : List UInt8, (∀ x ∈ l, x ≠ b) → partsL b l = [l]
  | [], _ => rfl
  | x :: l, h => by
    unfold partsL
    rw [if_neg (h x (by simp)), partsL_no b l fun y hy => h y (by simp [hy])]
theorem partsL_cut (b : UInt8) : ∀ l r : List UInt8, (∀ x ∈ l, x ≠ b) → partsL b (l ++ b :: r) = l :: partsL b r
  | [], r, _ => by simp [partsL]
  | x :: l, r, h => by
    rw [List.cons_append, partsL, if_neg (h x (by simp)), partsL_cut b l r fun y hy => h y (by simp [hy])]
/-- The parts joined again. -/
def joinL (b : UInt8) : List (List UInt8) → List UInt8
  | [] => []
  | [p] => p
  | p :: q :: r => p ++ b :: joinL b (q :: r)
theorem join_parts (b : UInt8) : ∀ l : List UInt8, joinL b (partsL b l) = l
  | [] => rfl
  | x :: l => by
    unfold partsL
    have ih := join_parts b l
    have hne := partsL_ne b l
    split
    · rename_i e
      match hp : partsL b l, hne with
      | p :: r, _ => rw [hp] at ih; rw [joinL, ih, e]; rfl
    · match hp : partsL b l, hne with
      | [p], _ => rw [hp] at ih; simp only [joinL] at ih ⊢; rw [ih]
      | p :: q :: r, _ => rw [hp] at ih; simp only [joinL] at ih ⊢; rw [← ih]; rfl
theorem parts_free (b : UInt8) : ∀ (l : List UInt8), ∀ p ∈ partsL b l, ∀ x ∈ p, x ≠ b
  | [], p, hp, x, hx => by
    simp [partsL] at hp; rw [hp] at hx; cases hx
  | y :: l, p, hp, x, hx => by
    unfold partsL at hp
    have ih := parts_free b l
    split at hp
    · rcases List.mem_cons.1 hp with rfl | hp
      · cases hx
      · exact ih p hp x hx
    · rename_i e
      match hq : partsL b l, partsL_ne b l with
      | q :: r, _ =>
        rw [hq] at hp ih
        rcases List.mem_cons.1 hp with rfl | hp
        · rcases List.mem_cons.1 hx with rfl | hx
          · exact e
          · exact ih q (by simp) x hx
        · exact ih p (by simp [hp]) x hx
theorem parts_join (b : UInt8) : ∀ (ps : List (List UInt8)), ps ≠ [] → (∀ p ∈ ps, ∀ x ∈ p, x ≠ b) → partsL b (joinL b ps) = ps
  | [], h, _ => absurd rfl h
  | [p], _, h => partsL_no b p (h p (by simp))
  | p :: q :: r, _, h => by
    rw [joinL, partsL_cut b p _ (h p (by simp)), parts_join b (q :: r) (by simp) fun x hx => h x (by simp [hx])]

end Go.Proofs.YtbjcbndmafddoaaDoor
