/-
  Append of new rows to new rows, as a fresh operation; contracts of Join.
-/
import Derived.Test.YthpioaboekpjoaaDoorWavP
import Derived.Test.YthpioaboekpjoaaDoorAppF
import Derived.Deep.AppendSrc
import Derived.Deep.Upon
import Derived.Laws.AppendOwn
namespace Go.Proofs.YthpioaboekpjoaaDoor
open Go.RowKit
set_option linter.unusedVariables false
set_option linter.unusedSimpArgs false

theorem row_flat {W : World} {g o M c : Nat} {rs : List (List Int)} {F : Nat → Prop} (h : Rs ilR W (.slice (some ⟨g, o, none⟩) M c) rs F) : ∃ us : List Value, us.length = M ∧ (∀ j, j < M → W.cell? ⟨g, o + j, none⟩ = us[j]?) ∧ ∀ j x, rs[j]? = some x → ilR.R W [us.getD j undef] x F := by
  obtain ⟨A', c', e, _, hx⟩ := h
  simp only [Value.slice.injEq] at e
  obtain ⟨rfl, rfl, rfl⟩ := e
  by_cases hp : 0 < rs.length
  · obtain ⟨b, o', e, hb, hx⟩ := hx hp
    simp only [Option.some.injEq, Addr.mk.injEq, and_true] at e
    obtain ⟨rfl, rfl⟩ := e
    have key : ∀ j, j < rs.length → ∃ u, W.cell? ⟨g, o + j, none⟩ = some u ∧ ilR.R W [u] (rs.getD j []) F := fun j hj => by
      obtain ⟨us, h1, h2⟩ := hx j _ (List.getElem?_eq_getElem hj)
      obtain ⟨u, rfl, h3⟩ := h2
      have h4 := h1 0 (by decide)
      have e2 : ilR.k = 1 := rfl
      rw [e2, Nat.mul_one, Nat.add_zero] at h4
      refine ⟨u, h4, ?_⟩
      rw [List.getD_eq_getElem?_getD, List.getElem?_eq_getElem hj]
      exact ⟨u, rfl, h3⟩
    refine ⟨(List.range rs.length).map fun j => (W.cell? ⟨g, o + j, none⟩).getD undef, by simp, fun j hj => ?_, fun j x hj => ?_⟩
    · obtain ⟨u, hu, _⟩ := key j hj
      rw [List.getElem?_map, List.getElem?_range hj]
      simp [hu]
    · have hjl := (List.getElem?_eq_some_iff.1 hj).1
      obtain ⟨u, hu, hr⟩ := key j hjl
      rw [List.getD_eq_getElem?_getD, List.getElem?_map, List.getElem?_range hjl]
      simp only [Option.map_some, hu, Option.getD_some]
      rw [List.getD_eq_getElem?_getD, hj] at hr
      exact hr
  · exact ⟨[], by simp; omega, fun j hj => by omega, fun j x hj => by have := (List.getElem?_eq_some_iff.1 hj).1; omega⟩
theorem NR.len {B : Nat} {W : World} {A : Option Addr} {M c : Nat} {rs : List (List Int)} (h : NR B W (.slice A M c) rs) : rs.length = M := by
  obtain ⟨A', c', e, _⟩ := h.1.slice
  simp only [Value.slice.injEq] at e
  exact e.2.1.symm
theorem join_run {W : World} {B g1 g2 M1 M2 : Nat} {rs ts : List (List Int)} (ty : TypeId) (h1 : NR B W (.slice (some ⟨g1, 0, none⟩) M1 M1) rs) (h2 : NR B W (.slice (some ⟨g2, 0, none⟩) M2 M2) ts) (hl : M1 + M2 ≤ 100000) (hB : B ≤ W.heap.size) :
    ∃ A c W', (Builtin.append_ #[24, 24] ty #[.slice (some ⟨g1, 0, none⟩) M1 M1, .slice (some ⟨g2, 0, none⟩) M2 M2]).run Tryd.prog W = .ok (.slice A (M1 + M2) c) W' ∧ NR B W' (.slice A (M1 + M2) c) (rs ++ ts) ∧ Below W.heap.size W W' := by
  obtain ⟨i0, hi0, hz0, hz1, hz2⟩ := info_parts ilist
  have hr1 := h1.len
  have hr2 := h2.len
  obtain ⟨us1, hu1, hc1, hx1⟩ := row_flat h1.1
  obtain ⟨us2, hu2, hc2, hx2⟩ := row_flat h2.1
  by_cases hM2 : M2 = 0
  · subst hM2
    have ht : ts = [] := List.eq_nil_of_length_eq_zero hr2
    subst ht
    have hsrc : Src Tryd.prog i0.size 24 (.slice (some ⟨g2, 0, none⟩) 0 0) 0 [] W := Src.ofSlice W Tryd.underlying24 _ 0 0 [] (by simp) (fun j u h => by simp at h) (fun u h => by simp at h)
    refine ⟨some ⟨g1, 0, none⟩, M1, W, run_append_nothing W _ _ ty _ i0 Tryd.underlying24 hi0 _ M1 M1 (Nat.le_refl _) _ hsrc, ?_, Below.refl _ _⟩
    rw [List.append_nil]
    exact h1
  · have hsz : i0.size = 1 := hz1
    have hby : i0.bytes = 24 := hz2
    have hone : ∀ u ∈ us2, u.oneCell' = true := fun u hu => by
      obtain ⟨j, hj, rfl⟩ := List.mem_iff_getElem.1 hu
      have := ilR.one (hx2 j _ (List.getElem?_eq_getElem (by omega))) us2[j] (by simp [List.getD_eq_getElem?_getD, List.getElem?_eq_getElem hj])
      exact this
    have hsrc : Src Tryd.prog i0.size 24 (.slice (some ⟨g2, 0, none⟩) M2 M2) M2 us2 W := by
      rw [hsz]
      refine Src.ofSlice W Tryd.underlying24 _ _ _ _ (by omega) (fun j u hj => ?_) hone
      have hjl := (List.getElem?_eq_some_iff.1 hj).1
      rw [add_plain]
      exact (hc2 j (by omega)).trans hj
    have hold : (Builtin.firstCells i0.size M1 (.slice (some ⟨g1, 0, none⟩) M1 M1)).run Tryd.prog W.drew = .ok us1.toArray W.drew := by
      rw [hsz]
      refine run_firstCells_some W.drew 1 M1 ⟨g1, 0, none⟩ M1 M1 us1 (by omega) fun j v hj => ?_
      have hjl := (List.getElem?_eq_some_iff.1 hj).1
      rw [add_plain, World.cell?_drew]
      exact (hc1 j (by omega)).trans hj
    have hrun := run_append_grow_src W 24 24 ty 44 i0 _ Tryd.underlying24 hi0 hz0 (some ⟨g1, 0, none⟩) M1 M1 us1 hold _ M2 us2 hsrc (by omega) (by omega) (by
      rw [hby]
      have := nextslicecap_le (need := M1 + M2) (old := M1) (by omega)
      omega)
    refine ⟨_, _, _, hrun, ?_, ?_⟩
    · generalize hZ : Builtin.zeroCells _ _ = Z
      generalize hcap : grownCap W (M1 + M2) M1 44 = cap
      have hge : M1 + M2 ≤ cap := hcap ▸ grownCap_ge W _ _ _
      have hb1 : Below W.heap.size W (W.drew.alloc (.cells ((us1 ++ us2).toArray ++ Z) 44)) := below_step (w1 := W.drew) ⟨rfl, rfl, rfl, Nat.le_refl _, fun _ _ => rfl⟩ (below_alloc W.drew _)
      have hbox : Box (W.drew.alloc (.cells ((us1 ++ us2).toArray ++ Z) 44)) W.heap.size ((us1 ++ us2).toArray ++ Z) 44 := Box.new W.drew _ _
      refine ⟨⟨some ⟨W.heap.size, 0, none⟩, cap, by rw [List.length_append, hr1, hr2], by rw [List.length_append, hr1, hr2]; exact hge, fun _ => ⟨W.heap.size, 0, rfl, hbox.lt, fun j x hj => ⟨[(us1 ++ us2).getD j undef], fun i hi => ?_, ?_⟩⟩⟩, fun b hb => ?_⟩
      · have hjl : j < M1 + M2 := by have := (List.getElem?_eq_some_iff.1 hj).1; rw [List.length_append, hr1, hr2] at this; exact this
        have hi0 : i = 0 := by have : ilR.k = 1 := rfl; omega
        subst hi0
        have e2 : ilR.k = 1 := rfl
        rw [e2, Nat.mul_one, Nat.zero_add, Nat.add_zero, hbox.cell j, Array.getElem?_append_left (by simp; omega), List.getElem?_toArray, List.getD_eq_getElem?_getD, List.getElem?_eq_getElem (by rw [List.length_append]; omega)]
        rfl
      · by_cases hjM : j < M1
        · rw [List.getElem?_append_left (by omega)] at hj
          rw [show (us1 ++ us2).getD j undef = us1.getD j undef by simp [List.getD_eq_getElem?_getD, List.getElem?_append_left (show j < us1.length by omega)]]
          exact ilR.same (hx1 j x hj) hb1.size fun b hb _ => hb1.block b hb
        · rw [List.getElem?_append_right (by omega), hr1] at hj
          rw [show (us1 ++ us2).getD j undef = us2.getD (j - M1) undef by simp [List.getD_eq_getElem?_getD, List.getElem?_append_right (show us1.length ≤ j by omega), hu1]]
          exact ilR.same (hx2 _ x hj) hb1.size fun b hb _ => hb1.block b hb
      · simp only [Value.ownBlock, Option.some.injEq] at hb
        omega
    · exact below_step (w1 := W.drew) ⟨rfl, rfl, rfl, Nat.le_refl _, fun _ _ => rfl⟩ (below_alloc W.drew _)
/-- New rows, however much room there is. -/
def gNA (j : Nat) (D : List Nat) (B : Nat) (rs : List (List Int)) (M : Nat) : FOp := ⟨j, D, fun v => ∃ A c, v = .slice A M c, fun v w => (∃ A c, v = .slice A M c) ∧ NR B w v rs⟩
theorem gNA_st (j : Nat) (D : List Nat) (B : Nat) (rs : List (List Int)) (M : Nat) : ∀ u w w', (gNA j D B rs M).Φ u w → Below w.heap.size w w' → (gNA j D B rs M).Φ u w' := fun u w w' ⟨e, h⟩ hb => ⟨e, h.below hb⟩
theorem gNA_kn (j : Nat) (D : List Nat) (B : Nat) (rs : List (List Int)) (M : Nat) : (∀ u w, (gNA j D B rs M).Φ u w → (gNA j D B rs M).S u) ∧ ∃ u, (gNA j D B rs M).S u := ⟨fun u w ⟨e, _⟩ => e, .slice none _ 0, none, 0, rfl⟩
section
variable {K : Kit} {w0 : World} {γ : Nat → Value}
theorem freshAt_join {j : Nat} {o : Oper} {a : Act} {s x : Operand} (hg : o.guard = none) (ho : o.op = .call { callee := .builtin .append, args := #[s, x], argTypes := #[24, 24] }) {B g1 g2 M1 M2 : Nat} {rs ts : List (List Int)}
    (hs : a.eval s = .slice (some ⟨g1, 0, none⟩) M1 M1) (hx : a.eval x = .slice (some ⟨g2, 0, none⟩) M2 M2) (hl : M1 + M2 ≤ 100000) (hB : B ≤ w0.heap.size)
    (h : ∀ w, Below w0.heap.size w0 w → (∀ d ∈ K.D j, K.Φ d (γ d) w) → NR B w (.slice (some ⟨g1, 0, none⟩) M1 M1) rs ∧ NR B w (.slice (some ⟨g2, 0, none⟩) M2 M2) ts)
    (hΦ : ∀ A c w, NR B w (.slice A (M1 + M2) c) (rs ++ ts) → K.Φ j (.slice A (M1 + M2) c) w) : FreshAt Tryd.prog K w0 γ j o a := by
  refine ⟨hg, fun w hb hf => ?_⟩
  obtain ⟨h1, h2⟩ := h w hb hf
  obtain ⟨A, c, W', hrun, hr, hbw⟩ := join_run o.type h1 h2 hl (Nat.le_trans hB hb.size)
  have e : (execOp a.eval o).run Tryd.prog w = Result.andThen ((Builtin.append_ #[24, 24] o.type #[.slice (some ⟨g1, 0, none⟩) M1 M1, .slice (some ⟨g2, 0, none⟩) M2 M2]).run Tryd.prog w) (fun u w' => .ok (.value u) w') := by
    simp [execOp, ho, resolve, invoke, builtin, hs, hx]
  rw [e, hrun]
  exact ⟨hΦ _ _ _ hr, hbw⟩
end

end Go.Proofs.YthpioaboekpjoaaDoor
