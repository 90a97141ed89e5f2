/-
  Rows of integers: a slice of slices of integers, read. Places.
-/
import Derived.Test.YtbgficaboolgiaaGreatDoorReads
namespace Go.Proofs.YtbgficaboolgiaaGreatDoor
open Go.RowKit
set_option linter.unusedVariables false
set_option linter.unusedSimpArgs false

theorem sl_same {w w' : World} {u : Value} {l : List ByteArray} (h : SL w u l) (hs : w.heap.size ≤ w'.heap.size) (hk : ∀ b, u.ownBlock = some b → w'.heap[b]? = w.heap[b]?) : SL w' u l := by
  obtain ⟨A, c, rfl, hc, h⟩ := h
  refine ⟨A, c, rfl, hc, fun hl => ?_⟩
  obtain ⟨a, rfl, hr⟩ := h hl
  exact ⟨a, rfl, Nat.lt_of_lt_of_le hr.lt hs, fun j hj => (World.cell?_of_block (by rw [block_of_add]; exact hk a.block rfl)).trans (hr.cells j hj)⟩
theorem il_same {w w' : World} {u : Value} {l : List Int} (h : IL w u l) (hs : w.heap.size ≤ w'.heap.size) (hk : ∀ b, u.ownBlock = some b → w'.heap[b]? = w.heap[b]?) : IL w' u l := by
  obtain ⟨A, c, rfl, hc, h⟩ := h
  refine ⟨A, c, rfl, hc, fun hl => ?_⟩
  obtain ⟨a, rfl, hlt, hcell⟩ := h hl
  exact ⟨a, rfl, Nat.lt_of_lt_of_le hlt hs, fun j hj => (World.cell?_of_block (by rw [block_of_add]; exact hk a.block rfl)).trans (hcell j hj)⟩
/-- Whether a slice's block is one of F, if it has an element. -/
def In (F : Nat → Prop) (u : Value) (n : Nat) : Prop := 0 < n → ∀ b, u.ownBlock = some b → F b
theorem il_same0 {w w' : World} {u : Value} {l : List Int} (h : IL w u l) (hs : w.heap.size ≤ w'.heap.size) (hk : 0 < l.length → ∀ b, b < w.heap.size → u.ownBlock = some b → w'.heap[b]? = w.heap[b]?) : IL w' u l := by
  by_cases hl : 0 < l.length
  · refine il_same h hs fun b hb => hk hl b ?_ hb
    obtain ⟨A, c, rfl, _, h⟩ := h
    obtain ⟨a, rfl, hlt, _⟩ := h hl
    simp only [Value.ownBlock, Option.some.injEq] at hb
    omega
  · obtain ⟨A, c, rfl, hc, _⟩ := h
    exact ⟨A, c, rfl, hc, fun h => absurd h hl⟩
theorem sl_same0 {w w' : World} {u : Value} {l : List ByteArray} (h : SL w u l) (hs : w.heap.size ≤ w'.heap.size) (hk : 0 < l.length → ∀ b, b < w.heap.size → u.ownBlock = some b → w'.heap[b]? = w.heap[b]?) : SL w' u l := by
  by_cases hl : 0 < l.length
  · refine sl_same h hs fun b hb => hk hl b ?_ hb
    obtain ⟨A, c, rfl, _, h⟩ := h
    obtain ⟨a, rfl, hr⟩ := h hl
    have := hr.lt
    simp only [Value.ownBlock, Option.some.injEq] at hb
    omega
  · obtain ⟨A, c, rfl, hc, _⟩ := h
    exact ⟨A, c, rfl, hc, fun h => absurd h hl⟩
theorem in_any (u : Value) (n : Nat) : In anyB u n := fun _ _ _ => trivial
theorem il_low {w : World} {u : Value} {l : List Int} (h : IL w u l) : In (fun b => b < w.heap.size) u l.length := fun hl b hb => by
  obtain ⟨A, c, rfl, _, h⟩ := h
  obtain ⟨a, rfl, hlt, _⟩ := h hl
  simp only [Value.ownBlock, Option.some.injEq] at hb
  omega
/-- How a row of integers reads. -/
def ilR : Rd (List Int) where
  k := 1
  ts := [3]
  pos := by decide
  R := fun w us r F => ∃ u, us = [u] ∧ IL w u r ∧ In F u r.length
  len := fun ⟨_, h, _⟩ => by rw [h]; rfl
  one := fun ⟨u, h, h1, _⟩ x hx => by
    obtain ⟨A, c, e1, _⟩ := h1
    rw [h, e1] at hx
    simp at hx
    subst hx; rfl
  mono := fun ⟨u, h, h1, h2⟩ hF => ⟨u, h, h1, fun hl b hb => hF b (h2 hl b hb)⟩
  same := fun ⟨u, h, h1, h2⟩ hs hk => ⟨u, h, il_same0 h1 hs fun hl b hlt hb => hk b hlt (h2 hl b hb), h2⟩
section
variable {w w' : World} {v : Value} {rs : List (List Int)} {F : Nat → Prop}
theorem Rs.ils (h : Rs ilR w v rs F) : ∃ (A : Option Addr) (c : Nat), v = .slice A rs.length c ∧ rs.length ≤ c ∧ ∀ k, k < rs.length → ∃ b o u, A = some ⟨b, o, none⟩ ∧ b < w.heap.size ∧ w.cell? ⟨b, o + k, none⟩ = some u ∧
    IL w u (rs.getD k []) ∧ In F u (rs.getD k []).length := by
  obtain ⟨A, c, rfl, hc, h⟩ := h
  refine ⟨A, c, rfl, hc, fun k hk => ?_⟩
  obtain ⟨b, o, rfl, hb, h⟩ := h (by omega)
  obtain ⟨us, h1, u, rfl, h2⟩ := h k _ (List.getElem?_eq_getElem hk)
  have e : rs.getD k [] = rs[k] := by rw [List.getD_eq_getElem?_getD, List.getElem?_eq_getElem hk]; rfl
  rw [e]
  have h3 := h1 0 (by decide)
  have e2 : ilR.k = 1 := rfl
  rw [e2, Nat.mul_one, Nat.add_zero] at h3
  exact ⟨b, o, u, rfl, hb, h3, h2⟩
theorem rs_lowI (h : Rs ilR w v rs anyB) : Rs ilR w v rs (fun b => b < w.heap.size) := by
  obtain ⟨A, c, rfl, hc, h⟩ := h
  refine ⟨A, c, rfl, hc, fun hl => ?_⟩
  obtain ⟨b, o, e, hlt, hx⟩ := h hl
  refine ⟨b, o, e, hlt, fun j x hj => ?_⟩
  obtain ⟨us, hu, u, e1, s1, _⟩ := hx j x hj
  exact ⟨us, hu, u, e1, s1, il_low s1⟩
theorem rs_lowIB (h : Rs ilR w v rs anyB) (hb : Below w.heap.size w w') : Rs ilR w' v rs (Ty w' w.heap.size ilR.ts) := ((rs_lowI h).below hb).mono fun _ h => .inl h
end

/-! Places. -/
def fIdx {α : Type} (p : α → Bool) (l : List α) : Int := if l.findIdx p < l.length then (l.findIdx p : Int) else -1
theorem fidx_hit {α : Type} {p : α → Bool} {l : List α} {k : Nat} (d : α) (hk : k < l.length) (hno : ∀ j, j < k → p (l.getD j d) = false) (h : p (l.getD k d) = true) : fIdx p l = k := by
  have e : l.findIdx p = k := by
    rw [List.findIdx_eq hk]
    refine ⟨by rwa [List.getD_eq_getElem?_getD, List.getElem?_eq_getElem hk] at h, fun j hj => ?_⟩
    have := hno j hj
    rwa [List.getD_eq_getElem?_getD, List.getElem?_eq_getElem (by omega)] at this
  unfold fIdx; rw [e, if_pos hk]
theorem fidx_miss {α : Type} {p : α → Bool} {l : List α} (d : α) (hno : ∀ j, j < l.length → p (l.getD j d) = false) : fIdx p l = -1 := by
  unfold fIdx
  rw [if_neg]
  intro h
  have h1 := List.findIdx_getElem (w := h)
  have h2 := hno _ h
  rw [List.getD_eq_getElem?_getD, List.getElem?_eq_getElem h] at h2
  simp only [Option.getD_some] at h2
  rw [h1] at h2; cases h2
theorem fidx_any {α : Type} (p : α → Bool) (l : List α) : decide (0 ≤ fIdx p l) = l.any p := by
  unfold fIdx
  by_cases h : l.findIdx p < l.length
  · rw [if_pos h, decide_eq_true (by omega)]
    have := List.findIdx_getElem (w := h)
    exact (List.any_eq_true.2 ⟨_, List.getElem_mem h, this⟩).symm
  · rw [if_neg h, decide_eq_false (by decide)]
    symm
    rw [List.any_eq_false]
    intro x hx hp
    exact h (List.findIdx_lt_length.2 ⟨x, hx, hp⟩)

end Go.Proofs.YtbgficaboolgiaaGreatDoor
