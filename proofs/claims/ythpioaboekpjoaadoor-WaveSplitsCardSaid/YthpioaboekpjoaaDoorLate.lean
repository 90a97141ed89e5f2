/-
  A drawn region in which one extract may come behind a late store: it may be walked as if it came ahead. No program in sight.
-/
import Derived.Test.YthpioaboekpjoaaDoorGenM
namespace Go.Proofs.YthpioaboekpjoaaDoor
open Go.RowKit
set_option linter.unusedVariables false
set_option linter.unusedSimpArgs false

/-- Nothing but the plain way out. -/
def noQ (Q : Exit → Act → World → Prop) : Exit → Act → World → Prop := fun ex a w => ex = .normal ∧ Q ex a w
theorem noQ_lets {Q : Exit → Act → World → Prop} : ¬ LetsOut (noQ Q) := fun ⟨_, _, h, _⟩ => by cases h
section
variable {P : Program} {md : Region.Mode} {Q : Exit → Act → World → Prop} {ops : Array Oper}
theorem ext_run {o : Oper} {t : Operand} {ix : Nat} (ho : o.op = .extract t ix) (a : Act) : (∃ v, ∀ w, (execOp a.eval o).run P w = .ok (.value v) w) ∨ ∀ w K (Q : Exit → Act → World → Prop), ¬ o.wp P a w K Q := by
  unfold Oper.wp
  cases h : a.eval t with
  | tuple vs =>
    cases h2 : vs[ix]? with
    | some v => left; exact ⟨v, fun w => by simp [execOp, ho, h, Instr.extract, h2, Result.andThen]⟩
    | none => right; intro w K Q; simp [execOp, ho, h, Instr.extract, h2, Result.andThen, Oper.upon]
  | _ => right; intro w K Q; simp [execOp, ho, h, Instr.extract, Result.andThen, Oper.upon]
theorem ext_op {i ix : Nat} {o : Oper} {t : Operand} (hi : ops[i]? = some o) (ho : o.op = .extract t ix) (hg : o.guard = none) {K : Act → World → Prop} {a : Act} {w : World} (h : wpOp P ops (noQ Q) i K a w) : ∃ v, Yields P ops o v a ∧ K (a.put o.dst v) w := by
  unfold wpOp at h
  simp only [hi] at h
  have hw : Region.wanted o (yielded ops a.tmps) = true := by unfold Region.wanted; rw [hg]
  rw [if_pos hw] at h
  rcases h with h | ⟨_, h⟩
  · rcases ext_run (P := P) ho a with ⟨v, hv⟩ | hv
    · refine ⟨v, .inl ⟨hw, hv⟩, ?_⟩
      unfold Oper.wp at h
      rw [hv w] at h
      exact h
    · exact absurd h (hv w _ _)
  · exact absurd h noQ_lets
theorem wpOp_noQ {i : Nat} {K : Act → World → Prop} {a : Act} {w : World} (h : wpOp P ops (noQ Q) i K a w) : wpOp P ops Q i K a w := by
  unfold wpOp at *
  split
  · rename_i e; rw [e] at h; exact h
  · rename_i o e
    simp only [e] at h
    split
    · rename_i hw
      rw [if_pos hw] at h
      rcases h with h | ⟨_, h⟩
      · left
        unfold Oper.wp at *
        generalize (execOp a.eval o).run P w = r at *
        cases r with
        | ok n w' =>
          cases n <;> simp only [Oper.upon] at h ⊢ <;>
            first
              | exact h
              | exact Calls.mono h (fun e w'' he => by cases e <;> first | exact he | exact he.2 | exact absurd he noQ_lets)
        | halt x w' => cases x <;> simp only [Oper.upon] at h ⊢ <;> first | exact h | exact h.2
      · exact absurd h noQ_lets
    · rename_i hw
      rw [if_neg hw] at h
      exact h
end

/-- The region with one more edge: the store s waits on the extract e. -/
def addE (e : Nat) (o : Oper) : Oper := { o with after := o.after.push { on := e, ground := .data } }
def lateL (l : List Oper) (e s : Nat) : List Oper := l.modify s (addE e)
def lateB (md : Region.Mode) (l : List Oper) (e s : Nat) : Bool :=
  decide (e < s) && decide (s < l.length) && (match l[e]?, l[s]? with
    | some oe, some os => (match oe.op with | .extract _ _ => true | _ => false) && oe.guard.isNone && oe.apart l.toArray os && Region.noSelect l.toArray && os.dst.isNone &&
      (oe.after.all fun x => !Region.binds md x || (os.after.any fun y => Region.binds md y && y.on == x.on)) &&
      (List.range l.length).all fun i => i == e || i == s || (os.after.any fun y => Region.binds md y && y.on == i) || (match l[i]? with | some o => o.after.any fun y => Region.binds md y && y.on == e | none => false)
    | _, _ => false)
section
variable {P : Program} {md : Region.Mode} {Q : Exit → Act → World → Prop} {l : List Oper} {e s : Nat}
theorem late_get (j : Nat) : (lateL l e s).toArray[j]? = (l.toArray[j]?).map fun o => if s = j then addE e o else o := by
  rw [List.getElem?_toArray, List.getElem?_toArray, lateL, List.getElem?_modify]
  rfl
theorem late_yielded (tmps : Array Value) : yielded (lateL l e s).toArray tmps = yielded l.toArray tmps := by
  funext j
  unfold yielded
  rw [late_get]
  cases l.toArray[j]? with
  | none => rfl
  | some o => by_cases h : s = j <;> simp [h, addE]
theorem late_op (i : Nat) (K : Act → World → Prop) (a : Act) (w : World) : wpOp P (lateL l e s).toArray Q i K a w = wpOp P l.toArray Q i K a w := by
  unfold wpOp
  rw [late_get, late_yielded]
  cases l.toArray[i]? with
  | none => rfl
  | some o =>
    simp only [Option.map_some]
    split <;> rfl
theorem late_ready {i : Nat} {listed : Array Bool} (hi : i ∈ Region.ready md l.toArray listed) (h : i ≠ s ∨ listed.getD e false = true) : i ∈ Region.ready md (lateL l e s).toArray listed := by
  obtain ⟨hun, o, ho, hall⟩ := mem_ready.1 hi
  refine mem_ready.2 ⟨hun, _, by rw [late_get, ho]; rfl, fun x hx hb => ?_⟩
  split at hx
  · rename_i hs
    simp only [addE, Array.mem_push] at hx
    rcases hx with hx | rfl
    · exact hall x hx hb
    · rcases h with h | h
      · exact absurd hs.symm h
      · exact h
  · exact hall x hx hb
theorem late_back {i : Nat} {listed : Array Bool} (hi : i ∈ Region.ready md (lateL l e s).toArray listed) : i ∈ Region.ready md l.toArray listed := by
  obtain ⟨hun, o, ho, hall⟩ := mem_ready.1 hi
  rw [late_get] at ho
  cases h : l.toArray[i]? with
  | none => rw [h] at ho; cases ho
  | some o' =>
    rw [h] at ho
    simp only [Option.map_some, Option.some.injEq] at ho
    subst ho
    refine mem_ready.2 ⟨hun, o', h, fun x hx hb => hall x ?_ hb⟩
    split
    · simp only [addE, Array.mem_push]; exact .inl hx
    · exact hx
theorem late_any (hB : lateB md l e s = true) : ∀ (f : Nat) (listed : Array Bool) (a : Act) (w : World), listed.size = l.length → wpAny P md (lateL l e s).toArray (noQ Q) f listed a w → wpAny P md l.toArray Q f listed a w := by
  simp only [lateB, Bool.and_eq_true, decide_eq_true_eq] at hB
  obtain ⟨⟨hes, hsl⟩, hB⟩ := hB
  cases he0 : l[e]? with
  | none => rw [he0] at hB; cases hB
  | some oe =>
  cases hs0 : l[s]? with
  | none => rw [he0, hs0] at hB; cases hB
  | some os =>
  rw [he0, hs0] at hB
  simp only [Bool.and_eq_true] at hB
  obtain ⟨⟨⟨⟨⟨⟨hx, hg⟩, hap⟩, hsel⟩, hdst⟩, hpre⟩, hall⟩ := hB
  have he : l.toArray[e]? = some oe := by rw [List.getElem?_toArray]; exact he0
  have hs : l.toArray[s]? = some os := by rw [List.getElem?_toArray]; exact hs0
  obtain ⟨tt, ix, hop⟩ : ∃ tt ix, oe.op = .extract tt ix := by
    split at hx
    · rename_i t' ix' h; exact ⟨t', ix', h⟩
    · cases hx
  have hgn : oe.guard = none := by simpa using hg
  have hne : e ≠ s := by omega
  have eReady : ∀ listed : Array Bool, s ∈ Region.ready md l.toArray listed → listed.getD e true = false → e ∈ Region.ready md l.toArray listed := fun listed hr hun => by
    obtain ⟨_, o, ho, ha⟩ := mem_ready.1 hr
    obtain rfl := Option.some.inj (hs.symm.trans ho)
    refine mem_ready.2 ⟨hun, oe, he, fun x hx' hb => ?_⟩
    have h1 := Array.all_eq_true'.1 hpre x hx'
    rw [hb] at h1
    simp only [Bool.not_true, Bool.false_or] at h1
    obtain ⟨y, hy, hyb⟩ := Array.any_eq_true'.1 h1
    simp only [Bool.and_eq_true, beq_iff_eq] at hyb
    rw [← hyb.2]; exact ha y hy hyb.1
  have only : ∀ (listed : Array Bool), listed.size = l.length → s ∈ Region.ready md l.toArray listed → listed.getD e true = false → ∀ i ∈ Region.ready md l.toArray (listed.setIfInBounds s true), i = e := fun listed hsz hr hun i hi => by
    obtain ⟨hi1, o, ho, ha⟩ := mem_ready.1 hi
    obtain ⟨_, o', ho', hb⟩ := mem_ready.1 hr
    obtain rfl := Option.some.inj (hs.symm.trans ho')
    have hil : i < l.length := by
      have := (Array.getElem?_eq_some_iff.1 ho).1
      simpa using this
    have h1 := List.all_eq_true.1 hall i (List.mem_range.2 hil)
    simp only [Bool.or_eq_true, beq_iff_eq] at h1
    rcases h1 with ((h1 | h1) | h1) | h1
    · exact h1
    · subst h1
      rw [show (listed.setIfInBounds i true).getD i true = true by simp [hsz, hil]] at hi1
      cases hi1
    · obtain ⟨y, hy, hyb⟩ := Array.any_eq_true'.1 h1
      simp only [Bool.and_eq_true, beq_iff_eq] at hyb
      have h2 := hb y hy hyb.1
      rw [hyb.2] at h2
      have hsi : s ≠ i := fun h => by
        subst h
        rw [show (listed.setIfInBounds s true).getD s true = true by simp [hsz, hil]] at hi1
        cases hi1
      rw [getD_set_ne true hsi] at hi1
      rw [getD_both hi1] at h2
      cases h2
    · rw [List.getElem?_toArray] at ho
      rw [ho] at h1
      obtain ⟨y, hy, hyb⟩ := Array.any_eq_true'.1 h1
      simp only [Bool.and_eq_true, beq_iff_eq] at hyb
      have h2 := ha y hy hyb.1
      rw [hyb.2, getD_set_ne false (Ne.symm hne), getD_both hun] at h2
      cases h2
  have main : ∀ (n f : Nat), f ≤ n → ∀ (listed : Array Bool) (a : Act) (w : World), listed.size = l.length → wpAny P md (lateL l e s).toArray (noQ Q) f listed a w → wpAny P md l.toArray Q f listed a w := by
    intro n
    induction n with
    | zero =>
      intro f hf listed a w hsz H
      obtain rfl : f = 0 := by omega
      refine ⟨List.eq_nil_iff_forall_not_mem.2 fun i hi => ?_, H.2.2⟩
      by_cases h : i ≠ s ∨ listed.getD e true ≠ false
      · have : i ∈ Region.ready md (lateL l e s).toArray listed := late_ready hi (h.imp id fun h => by
          by_cases hl : e < listed.size
          · simpa [Array.getD, hl] using h
          · omega)
        rw [H.1] at this; cases this
      · simp only [not_or, ne_eq, Decidable.not_not] at h
        obtain ⟨rfl, hun⟩ := h
        have : e ∈ Region.ready md (lateL l e i).toArray listed := late_ready (eReady _ hi hun) (.inl hne)
        rw [H.1] at this; cases this
    | succ n ih =>
      intro f hf listed a w hsz H
      cases f with
      | zero => exact ih 0 (by omega) listed a w hsz H
      | succ f =>
        refine ⟨fun h0 => (H.1 (List.eq_nil_iff_forall_not_mem.2 fun i hi => by have := late_back hi; rw [h0] at this; cases this)).2, fun i hi => ?_⟩
        by_cases h : i ≠ s ∨ listed.getD e true ≠ false
        · have hr : i ∈ Region.ready md (lateL l e s).toArray listed := late_ready hi (h.imp id fun h => by
            by_cases hl : e < listed.size
            · simpa [Array.getD, hl] using h
            · omega)
          have h1 := H.2 i hr
          rw [late_op] at h1
          exact wpOp_mono (fun a' w' h2 => ih f (by omega) _ a' w' (by simpa using hsz) h2) (wpOp_noQ h1)
        · simp only [not_or, ne_eq, Decidable.not_not] at h
          obtain ⟨rfl, hun⟩ := h
          have hre := eReady _ hi hun
          have h1 := H.2 e (late_ready hre (.inl hne))
          rw [late_op] at h1
          obtain ⟨v, hy, h2⟩ := ext_op he hop hgn h1
          have hi2 : i ∈ Region.ready md l.toArray (listed.setIfInBounds e true) := ready_mono hi (Ne.symm hne)
          have hi3 : i ∈ Region.ready md (lateL l e i).toArray (listed.setIfInBounds e true) := late_ready hi2 (.inr (by simp [hsz]; omega))
          cases f with
          | zero => have := h2.1; rw [this] at hi3; cases hi3
          | succ f =>
            have h3 := h2.2 i hi3
            rw [late_op] at h3
            have h4 := wpOp_put hs hap (fun cs b => Region.noSelect_spec hsel e _ cs b he) (fun cs b => Region.noSelect_spec hsel i _ cs b hs) (fun c a w h => by cases h.1) hy h3
            refine wpOp_mono (fun a' w' ⟨hy', h5⟩ => ?_) (wpOp_noQ h4)
            have hre2 : e ∈ Region.ready md l.toArray (listed.setIfInBounds i true) := ready_mono hre hne
            refine ⟨fun h0 => (by rw [h0] at hre2; cases hre2), fun j hj => ?_⟩
            obtain rfl := only listed hsz hi hun j hj
            refine Yields.wpOp he hy' (ih f (by omega) _ _ _ (by simpa using hsz) ?_)
            rw [Array.setIfInBounds_comm _ _ (Ne.symm hne)]
            exact h5
  exact fun f => main f f (Nat.le_refl _)
theorem wpList_ops {ops ops' : Array Oper} (ho : ∀ tmps, yielded ops' tmps = yielded ops tmps) : ∀ (m : List Oper), wpList P ops' Q m = wpList P ops Q m
  | [] => rfl
  | o :: m => by
    funext a w
    unfold wpList
    rw [ho, wpList_ops ho m]
theorem wpList_late {ops ops' : Array Oper} (ho : ∀ tmps, yielded ops' tmps = yielded ops tmps) : ∀ (m : List Oper) (k : Nat), wpList P ops' Q (m.modify k (addE e)) = wpList P ops Q m
  | [], k => by simp only [List.modify_nil]; rfl
  | o :: m, 0 => by
    funext a w
    rw [List.modify_zero_cons]
    unfold wpList
    rw [ho, wpList_ops ho m]
    rfl
  | o :: m, k + 1 => by
    funext a w
    rw [List.modify_succ_cons]
    unfold wpList
    rw [ho, wpList_late ho m k]
theorem late_take {n : Nat} (h : n ≤ s) : (lateL l e s).take n = l.take n := by
  refine List.ext_getElem? fun j => ?_
  rw [List.getElem?_take, List.getElem?_take, lateL, List.getElem?_modify]
  split
  · rename_i hj
    have hsj : ¬ s = j := by omega
    simp only [hsj, if_false]
    cases l[j]? <;> rfl
  · rfl
theorem late_drop {n : Nat} (h : n ≤ s) : (lateL l e s).drop n = (l.drop n).modify (s - n) (addE e) := by
  refine List.ext_getElem? fun j => ?_
  rw [List.getElem?_drop, lateL, List.getElem?_modify, List.getElem?_modify, List.getElem?_drop]
  by_cases hs : s = n + j
  · have h2 : s - n = j := by omega
    simp only [hs, h2, if_true]
    simp
  · have h2 : ¬ s - n = j := by omega
    simp only [hs, h2, if_false]
/-- The walk of a drawn region with fresh operations, from its first draw on. -/
theorem gen_all {a : Act} {w : World} {l : List Oper} (n : Nat) (K : Kit) (hB : Region.lexTailB .any l.toArray n = true) (hBγ : ∀ γ, Region.lexTailB .any (genL K γ 0 l).toArray n = true)
    (hdep : depB .any l K n = true) (hK : K.Stable) (hV : K.Known)
    (h : ∀ (γ : Nat → Value) (hγ : K.Good γ) (C : World → Prop) (hC : Cond w C) (hne : Nonempty (LatC w C)), wpF P K w γ (fun w' => ∃ p : LatC w C, w' = p.w) l.toArray
      (fun a' => ∀ w', Below w.heap.size w w' → (∀ d, d < n → K.fr d = true → K.Φ d (γ d) w') → wpList P l.toArray Q (l.drop n) a' w') 0 (l.take n) a) :
    wpAny P .any l.toArray Q l.toArray.size (Array.replicate l.toArray.size false) a { w with drawn := w.drawn + 1 } := by
  simp only [Region.lexTailB, Bool.and_eq_true, decide_eq_true_eq] at hB
  obtain ⟨⟨⟨⟨b1, b2⟩, b3⟩, b4⟩, b5⟩ := hB
  have hn' : n < l.length := by simpa using b2
  have hdl : (l.drop n).length = l.toArray.size - n := by simp
  have htl : (l.take n).length = n := by rw [List.length_take]; omega
  have inv0 : HeadInv .any l.toArray n (Array.replicate l.toArray.size false) :=
    ⟨by simp, fun j oj _ hl => (by rw [getD_replicate_false] at hl; cases hl), fun t _ ht => getD_in (by simpa using ht) (getD_replicate_false _ _)⟩
  have e0 : l.toArray.size = n + (l.toArray.size - n) := by simp; omega
  have KK := gen_any (P := P) (K := K) (md := .any) (l := l) (n := n) (gg := l.toArray.size - n) (w0 := w) (Q' := Q)
    (Lq := fun γ a' => ∀ w', Below w.heap.size w w' → (∀ d, d < n → K.fr d = true → K.Φ d (γ d) w') → wpList P l.toArray Q (l.drop n) a' w')
    hK hV hn' b3 b4 (by simp; omega) hdep (fun γ listed a' w' inv hb hmd hseq hLq => ?_) n (Array.replicate l.toArray.size false) a { w with drawn := w.drawn + 1 } (fun j => Classical.choose (hV.ne j)) (fun j _ => Classical.choose_spec (hV.ne j)) inv0 (below_drawn _)
    (fun d _ _ hl => (by rw [getD_replicate_false] at hl; cases hl)) (fun γ C hgγ hC _ => ?_)
  · rw [← e0] at KK; exact KK
  · have h1 := wpAny_of_seq (P := P) (md := .any) (ops := l.toArray) (Q' := Q) (l.drop n) n listed a' w' (fun j => by simp [List.getElem?_drop]) (by rw [hdl]; exact hseq) (hLq w' hb hmd)
    rwa [hdl] at h1
  · have hBg := hBγ γ
    simp only [Region.lexTailB, Bool.and_eq_true, decide_eq_true_eq] at hBg
    obtain ⟨⟨⟨⟨g1, g2⟩, g3⟩, g4⟩, g5⟩ := hBg
    have hsz : (genL K γ 0 l).toArray.size = l.toArray.size := by rw [List.size_toArray, List.size_toArray, genL_len]
    have hC' : (fun w' => ∃ p : LatC w C, w' = p.w) = C := by funext w'; exact propext (latC_iff hC w')
    have hq := h γ hgγ C hC (by obtain ⟨wC, hwC⟩ := hC.ne; exact ⟨⟨wC, hC.sub _ hwC, hwC⟩⟩)
    rw [hC'] at hq
    replace hq := wpF_ops (ops' := (genL K γ 0 l).toArray) (fun tmps => (gen_yielded K γ l tmps).symm) _ _ _ hq
    have H := head_lexF (P := P) (K := K) (w0 := w) (γ := γ) (md := .any) (l := l) (C := C) (n := n) (gg := l.toArray.size - n) g1 b1 b3 b4 b2 (l.take n) 0 (Array.replicate l.toArray.size false) a (fun j hj => by
      have hj' : j < n := by rw [htl] at hj; exact hj
      simp [hj']) (by simpa using htl) inv0 (by rw [htl]; rw [hsz] at g5; exact g5) (by rw [htl]; exact b5) hq
    rw [htl] at H
    exact H
/-- The law: as wp_region_gen, the extract e taken as if it came ahead of the store s; behind the region only the plain way out. -/
theorem wp_region_late {id : Nat} {a : Act} {w : World} (e s n : Nat) (K : Kit) (hm : P.follows .mixedOrders = true) (hL : lateB .any l e s = true) (hn : n ≤ s) (hB : Region.lexTailB .any (lateL l e s).toArray n = true) (hBγ : ∀ γ, Region.lexTailB .any (genL K γ 0 (lateL l e s)).toArray n = true)
    (hdep : depB .any (lateL l e s) K n = true) (hK : K.Stable) (hV : K.Known)
    (h : ∀ (γ : Nat → Value) (hγ : K.Good γ) (C : World → Prop) (hC : Cond w C) (hne : Nonempty (LatC w C)), wpF P K w γ (fun w' => ∃ p : LatC w C, w' = p.w) l.toArray
      (fun a' => ∀ w', Below w.heap.size w w' → (∀ d, d < n → K.fr d = true → K.Φ d (γ d) w') → wpList P l.toArray (noQ Q) (l.drop n) a' w') 0 (l.take n) a) :
    (Code.region id l.toArray true).wp P Q a w := by
  refine wp_region_any hm ?_
  refine late_any (e := e) (s := s) hL _ _ _ _ (by simp) ?_
  have hsz : (lateL l e s).toArray.size = l.toArray.size := by simp [lateL]
  have KK := gen_all (P := P) (Q := noQ Q) (a := a) (w := w) (l := lateL l e s) n K hB hBγ hdep hK hV (fun γ hγ C hC hne => by
    rw [late_take hn, late_drop hn, wpList_late late_yielded]
    exact wpF_ops (fun tmps => (late_yielded tmps).symm) _ _ _ (h γ hγ C hC hne))
  rw [hsz] at KK
  exact KK
end

end Go.Proofs.YthpioaboekpjoaaDoor
