/-
  Append of a stream to a slice of one transaction.
-/
import Derived.Test.YtldafnjbgjagiaaDoorBrdR
import Derived.Test.YtldafnjbgjagiaaDoorBrdS
import Derived.Test.YtldafnjbgjagiaaDoorAppF
import Derived.Deep.AppendSrc
import Derived.Deep.Upon
import Derived.Laws.AppendOwn
namespace Go.Proofs.YtldafnjbgjagiaaDoor
open Go.RowKit
set_option linter.unusedVariables false
set_option linter.unusedSimpArgs false

theorem app_run {W : World} {g : Nat} {u1 u2 sv : Value} {t : Tx} {ys : List Tx} (ty : TypeId) (hx : Box W g #[u1, u2] 28) (ht : txR.R W [u1, u2] t anyB) (hs : Rs txR W sv ys anyB) (hl : ys.length ≤ 1000) :
    ∃ v W', (Builtin.append_ #[22, 22] ty #[.slice (some ⟨g, 0, none⟩) 1 1, sv]).run Tryd.prog W = .ok v W' ∧ Rs txR W' v (t :: ys) anyB ∧ Below W.heap.size W W' := by
  obtain ⟨i0, hi0, hz0, hz1, hz2⟩ := info_parts itxn
  rcases hs.form with ⟨A, c, rfl, rfl⟩ | ⟨b, o, c, rfl, hc, hpos, hlt, hcell⟩
  · have hsrc : Src Tryd.prog i0.size 22 (.slice A 0 c) 0 [] W := by
      cases A with
      | none => exact Src.ofNil W Tryd.underlying22 c
      | some a => exact Src.ofSlice W Tryd.underlying22 a 0 c [] (by simp) (fun j u h => by simp at h) (fun u h => by simp at h)
    refine ⟨_, _, run_append_nothing W _ _ ty _ i0 Tryd.underlying22 hi0 _ 1 1 (Nat.le_refl _) _ hsrc, ?_, Below.refl _ _⟩
    exact rs_of_box (uss := [[u1, u2]]) (xs := [t]) hx rfl fun j x hj => by
      match j with
      | 0 => cases hj; exact ht
  · obtain ⟨uss, hul, hur, hat⟩ := hs.rows
    obtain ⟨b', o', c', e', -, hcl⟩ := hat hpos
    simp only [Value.slice.injEq, Option.some.injEq, Addr.mk.injEq, and_true, true_and] at e'
    obtain ⟨⟨rfl, rfl⟩, rfl⟩ := e'
    have hlen : ∀ us ∈ uss, us.length = 2 := fun us hm => by
      obtain ⟨j, hj, rfl⟩ := List.mem_iff_getElem.1 hm
      have := txR.len (hur j _ (List.getElem?_eq_getElem (by omega)))
      rwa [List.getD_eq_getElem?_getD, List.getElem?_eq_getElem hj] at this
    have hsz : i0.size = 2 := hz1
    have hby : i0.bytes = 48 := hz2
    have hfl : uss.flatten.length = ys.length * 2 := by rw [flat_len hlen, hul]
    have hsrc : Src Tryd.prog i0.size 22 (.slice (some ⟨b, o, none⟩) ys.length c) ys.length uss.flatten W := by
      rw [hsz]
      refine Src.ofSlice W Tryd.underlying22 _ _ c _ hfl (fun j u hj => ?_) (fun u hu => ?_)
      · have hj2 : j < ys.length * 2 := by have := (List.getElem?_eq_some_iff.1 hj).1; omega
        have h1 := hcl (j / 2) (j % 2) (by omega) (Nat.mod_lt _ (by decide))
        have h2 := flat_get hlen (j / 2) (j % 2) (Nat.mod_lt _ (by decide))
        rw [show j / 2 * 2 + j % 2 = j by omega, hj] at h2
        rw [add_none, show o + j = o + j / 2 * 2 + j % 2 by omega]
        refine h1.trans ?_
        rw [List.getElem?_eq_getElem (show j / 2 < uss.length by omega)] at h2
        rw [List.getD_eq_getElem?_getD, List.getElem?_eq_getElem (show j / 2 < uss.length by omega)]
        exact h2.symm
      · obtain ⟨us, hm, hu2⟩ := List.mem_flatten.1 hu
        obtain ⟨j, hj, rfl⟩ := List.mem_iff_getElem.1 hm
        have := txR.one (hur j _ (List.getElem?_eq_getElem (by omega)))
        rw [List.getD_eq_getElem?_getD, List.getElem?_eq_getElem hj] at this
        exact this u hu2
    have hold : (Builtin.firstCells i0.size 1 (.slice (some ⟨g, 0, none⟩) 1 1)).run Tryd.prog W.drew = .ok ([u1, u2] : List Value).toArray W.drew := by
      rw [hsz]
      refine run_firstCells_some W.drew 2 1 ⟨g, 0, none⟩ 1 1 [u1, u2] rfl fun j v hj => ?_
      rw [add_none, Nat.zero_add, World.cell?_drew, hx.cell j]
      simpa using hj
    have hrun := run_append_grow_src W 22 22 ty 28 i0 _ Tryd.underlying22 hi0 hz0 (some ⟨g, 0, none⟩) 1 1 [u1, u2] hold _ ys.length uss.flatten hsrc (by omega) (by omega) (by
      rw [hby]
      have := nextslicecap_le (need := 1 + ys.length) (old := 1) (by omega)
      omega)
    refine ⟨_, _, hrun, ?_, ?_⟩
    · generalize hZ : Builtin.zeroCells _ _ = Z
      generalize hcap : grownCap W (1 + ys.length) 1 28 = cap
      have hge : 1 + ys.length ≤ cap := hcap ▸ grownCap_ge W _ _ _
      have hb1 : Below W.heap.size W (W.drew.alloc (.cells (([u1, u2] ++ uss.flatten).toArray ++ Z) 28)) := below_step (w1 := W.drew) ⟨rfl, rfl, rfl, Nat.le_refl _, fun _ _ => rfl⟩ (below_alloc W.drew _)
      have hbox : Box (W.drew.alloc (.cells (([u1, u2] ++ uss.flatten).toArray ++ Z) 28)) W.heap.size (([u1, u2] ++ uss.flatten).toArray ++ Z) 28 := Box.new W.drew _ _
      have hlen2 : ∀ us ∈ [u1, u2] :: uss, us.length = 2 := fun us hm => by
        rcases List.mem_cons.1 hm with rfl | hm
        · rfl
        · exact hlen us hm
      refine ⟨some ⟨W.heap.size, 0, none⟩, cap, by rw [List.length_cons, Nat.add_comm], by rw [List.length_cons]; omega, fun _ => ⟨W.heap.size, 0, rfl, hbox.lt, fun j x hj => ⟨([u1, u2] :: uss).getD j [], fun i hi => ?_, ?_⟩⟩⟩
      · have hjl : j < ys.length + 1 := by have := (List.getElem?_eq_some_iff.1 hj).1; simpa using this
        have hi2 : i < 2 := hi
        have hk : j * 2 + i < ([u1, u2] ++ uss.flatten).length := by rw [List.length_append, hfl]; simp; omega
        show World.cell? _ ⟨W.heap.size, 0 + j * 2 + i, none⟩ = _
        rw [Nat.zero_add, hbox.cell (j * 2 + i), Array.getElem?_append_left (by simpa using hk), List.getElem?_toArray]
        have h2 := flat_get hlen2 j i hi2
        rw [List.flatten_cons] at h2
        rw [h2, List.getD_eq_getElem?_getD, List.getElem?_eq_getElem (show j < ([u1, u2] :: uss).length by simp; omega)]
        rfl
      · cases j with
        | zero =>
          obtain rfl : t = x := by simpa using hj
          obtain ⟨v1, v2, e, s1, s2, i1, i2⟩ := ht
          exact ⟨v1, v2, e, s1.below hb1, s2.below hb1, i1, i2⟩
        | succ j =>
          obtain ⟨v1, v2, e, s1, s2, i1, i2⟩ := hur j x (by simpa using hj)
          exact ⟨v1, v2, by simpa using e, s1.below hb1, s2.below hb1, i1, i2⟩
    · exact below_step (w1 := W.drew) ⟨rfl, rfl, rfl, Nat.le_refl _, fun _ _ => rfl⟩ (below_alloc W.drew _)
section
variable {K : Kit} {w0 : World} {γ : Nat → Value}
/-- Append of a stream to a slice of one transaction, as a fresh operation. -/
theorem freshAt_app {j : Nat} {o : Oper} {a : Act} {s x : Operand} (hg : o.guard = none) (ho : o.op = .call { callee := .builtin .append, args := #[s, x], argTypes := #[22, 22] }) {g : Nat} {u1 u2 sv : Value} {t : Tx} {ys : List Tx}
    (hs : a.eval s = .slice (some ⟨g, 0, none⟩) 1 1) (hx : a.eval x = sv) (hl : ys.length ≤ 1000)
    (h : ∀ w, Below w0.heap.size w0 w → (∀ d ∈ K.D j, K.Φ d (γ d) w) → Box w g #[u1, u2] 28 ∧ txR.R w [u1, u2] t anyB ∧ Rs txR w sv ys anyB)
    (hΦ : ∀ v w, Rs txR w v (t :: ys) anyB → K.Φ j v w) : FreshAt Tryd.prog K w0 γ j o a := by
  refine ⟨hg, fun w hb hf => ?_⟩
  obtain ⟨h1, h2, h3⟩ := h w hb hf
  obtain ⟨v, W', hrun, hr, hbw⟩ := app_run o.type h1 h2 h3 hl
  have e : (execOp a.eval o).run Tryd.prog w = Result.andThen ((Builtin.append_ #[22, 22] o.type #[.slice (some ⟨g, 0, none⟩) 1 1, sv]).run Tryd.prog w) (fun u w' => .ok (.value u) w') := by
    simp [execOp, ho, resolve, invoke, builtin, hs, hx]
  rw [e, hrun]
  exact ⟨hΦ _ _ hr, hbw⟩
end

end Go.Proofs.YtldafnjbgjagiaaDoor
