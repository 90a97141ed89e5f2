/-
  A region that draws its order and makes variables (alloc) among operations that are values and calls that leave 'Below'; then, last and in their order, stores and the like: walked once, whatever blocks the variables get. No program in sight.
  A region that draws its order and holds operations whose values hang on the order: variables that are made, calls that hand back new memory. Such an operation is known by a property of its value that later worlds keep. Then, last and in their order, stores and the like. Walked once. No program in sight.
  A slice of one element that a region makes, as a fresh operation of the region's law (Gen).
-/
import Derived.Test.YtbgficaboolgiaaGreatDoorBase
namespace Go.Proofs.YtbgficaboolgiaaGreatDoor
section
open Go.RowKit
set_option linter.unusedVariables false
set_option linter.unusedSimpArgs false

/-! A call hands back one value. -/
/-- A caller that stops at once. -/
def deadFrame : Frame := { fn := 0, tmps := #[], todo := [.code (.exit 0)], defers := [], mode := .run, kind := .normal }
theorem dead_finish (v : Value) : deadFrame.finish v = deadFrame := rfl
theorem dead_step (P : Program) (w : World) : ∃ o w', step P (lone deadFrame [] w) = .ended o w' := by
  refine ⟨_, _, step_lone_ended (P := P) (o := .stuck "exit, goto: no such block or label" (deadFrame.pos P)) (w' := w) ?_⟩
  simp [stepG, stepG.exec, deadFrame, exitTo, Frame.roundOf]
theorem runN_add (P : Program) : ∀ (n k : Nat) (m m' : Machine), runN P n m = .next m' → runN P (n + k) m = runN P k m'
  | 0, k, m, m', h => by
    simp only [runN] at h
    injection h with h
    subst h
    rw [Nat.zero_add]
  | n + 1, k, m, m', h => by
    rw [show n + 1 + k = (n + k) + 1 by omega]
    simp only [runN] at h ⊢
    cases hs : step P m with
    | next m1 => rw [hs] at h; simp only at h ⊢; exact runN_add P n k m1 m' h
    | ended o w => rw [hs] at h; cases h
theorem left_once {P : Program} {m : Machine} {fr1 fr2 : Frame} {w1 w2 : World} {v1 v2 : Value} {n k : Nat} (h1 : runN P n m = .next (lone fr1 [deadFrame] w1)) (h2 : runN P (n + k) m = .next (lone fr2 [deadFrame] w2))
    (l1 : fr1.leaving P w1 (.returned v1)) (l2 : fr2.leaving P w2 (.returned v2)) : v1 = v2 := by
  rw [runN_add P n k _ _ h1] at h2
  match k, h2 with
  | 0, h2 =>
    simp only [runN] at h2
    injection h2 with h2
    have e1 : fr1 = fr2 := by have := congrArg (fun m : Machine => m.gs[0]?.map (·.frame)) h2; simpa [lone] using this
    have e2 : w1 = w2 := congrArg (fun m : Machine => m.world) h2
    subst e1 e2
    obtain ⟨_, _, _, fn, hf, hr⟩ := l1
    obtain ⟨_, _, _, fn', hf', hr'⟩ := l2
    have : fn = fn' := Option.some.inj (hf.symm.trans hf')
    subst this
    have := hr.symm.trans hr'
    injection this
  | 1, h2 =>
    simp only [runN, step_leave_returned l1, dead_finish] at h2
    injection h2 with h2
    have := congrArg (fun m : Machine => m.gs[0]?.map (·.callers)) h2
    simp [lone] at this
  | k + 2, h2 =>
    obtain ⟨o, w', hd⟩ := dead_step P w1
    simp only [runN, step_leave_returned l1, dead_finish, hd] at h2
    cases h2
theorem calls_det {P : Program} {f : FuncId} {args : Array Value} {w : World} {v v' : Value} {A B : World → Prop} (h : Calls P f args w fun e w' => e = .returned v ∧ A w') (h' : Calls P f args w fun e w' => e = .returned v' ∧ B w') : v = v' := by
  obtain ⟨e1, w1, fr1, ⟨rfl, _⟩, ⟨n, c1⟩, _, l1⟩ := h [deadFrame]
  obtain ⟨e2, w2, fr2, ⟨rfl, _⟩, ⟨k, c2⟩, _, l2⟩ := h' [deadFrame]
  rcases Nat.le_total n k with hle | hle
  · obtain ⟨d, rfl⟩ := Nat.exists_eq_add_of_le hle
    exact left_once c1 c2 l1 l2
  · obtain ⟨d, rfl⟩ := Nat.exists_eq_add_of_le hle
    exact (left_once c2 c1 l2 l1).symm
theorem quietAt_det {P : Program} {o : Oper} {a : Act} {C C' : World → Prop} {w : World} {v v' : Value} (h : o.quietAt P a C w v) (h' : o.quietAt P a C' w v') : v = v' := by
  unfold Oper.quietAt at h h'
  generalize (execOp a.eval o).run P w = r at *
  cases r with
  | ok n w' =>
    cases n <;> simp only [Oper.quietUpon] at h h'
    case value u => exact h.2.symm.trans h'.2
    case skip => exact h.2.trans h'.2.symm
    case enter f args => exact calls_det h.2 h'.2
  | halt x w' => simp only [Oper.quietUpon] at h
theorem yields_det {P : Program} {ops : Array Oper} {C C' : World → Prop} {o : Oper} {v v' : Value} {a : Act} (h : YieldsIn P ops C o v a) (h' : YieldsIn P ops C' o v' a) {w : World} (hw : C w) (hw' : C' w) : v = v' := by
  rcases h with ⟨_, h⟩ | ⟨h0, rfl⟩
  · rcases h' with ⟨_, h'⟩ | ⟨h1, _⟩
    · exact quietAt_det (h w hw) (h' w hw')
    · simp_all
  · rcases h' with ⟨h1, _⟩ | ⟨_, rfl⟩
    · simp_all
    · rfl

/-! The region with each alloc replaced by the pointer that it will get. -/
def pseO (g : Nat) (o : Oper) : Oper := match o.op with
  | .alloc _ => { o with op := .assign (.const (.pointer (some ⟨g, 0, none⟩))) }
  | _ => o
def pseL (γ : Nat → Nat) : Nat → List Oper → List Oper
  | _, [] => []
  | i, o :: l => pseO (γ i) o :: pseL γ (i + 1) l
theorem pseO_after (g : Nat) (o : Oper) : (pseO g o).after = o.after := by unfold pseO; split <;> rfl
theorem pseO_dst (g : Nat) (o : Oper) : (pseO g o).dst = o.dst := by unfold pseO; split <;> rfl
theorem pseO_guard (g : Nat) (o : Oper) : (pseO g o).guard = o.guard := by unfold pseO; split <;> rfl
theorem pseL_get (γ : Nat → Nat) : ∀ (l : List Oper) (i j : Nat), (pseL γ i l)[j]? = (l[j]?).map (pseO (γ (i + j)))
  | [], i, j => by simp [pseL]
  | o :: l, i, 0 => by simp [pseL]
  | o :: l, i, j + 1 => by
    rw [pseL, List.getElem?_cons_succ, List.getElem?_cons_succ, pseL_get γ l (i + 1) j, show i + 1 + j = i + (j + 1) by omega]
theorem pseL_len (γ : Nat → Nat) : ∀ (l : List Oper) (i : Nat), (pseL γ i l).length = l.length
  | [], i => rfl
  | o :: l, i => by rw [pseL, List.length_cons, List.length_cons, pseL_len γ l]
theorem pse_arr (γ : Nat → Nat) (l : List Oper) (j : Nat) : (pseL γ 0 l).toArray[j]? = (l.toArray[j]?).map (pseO (γ j)) := by
  rw [List.getElem?_toArray, List.getElem?_toArray, pseL_get, Nat.zero_add]
theorem pse_ready (γ : Nat → Nat) (l : List Oper) (md : Region.Mode) (listed : Array Bool) : Region.ready md (pseL γ 0 l).toArray listed = Region.ready md l.toArray listed := by
  unfold Region.ready
  rw [List.size_toArray, List.size_toArray, pseL_len]
  congr 1
  funext i
  rw [pse_arr]
  cases l.toArray[i]? with
  | none => rfl
  | some o => simp only [Option.map_some, pseO_after]
theorem pse_yielded (γ : Nat → Nat) (l : List Oper) (tmps : Array Value) : yielded (pseL γ 0 l).toArray tmps = yielded l.toArray tmps := by
  funext j
  unfold yielded
  rw [pse_arr]
  cases l.toArray[j]? with
  | none => rfl
  | some o => simp only [Option.map_some, Option.bind_some, pseO_dst]

theorem pse_seq (γ : Nat → Nat) (l : List Oper) (md : Region.Mode) : ∀ (g k : Nat) (listed : Array Bool), Region.seqB md (pseL γ 0 l).toArray g k listed = Region.seqB md l.toArray g k listed
  | 0, k, listed => by simp only [Region.seqB, pse_ready]
  | g + 1, k, listed => by simp only [Region.seqB, pse_ready, pse_seq γ l md g]
/-- Operation i makes a variable of type T. -/
def Makes (l : List Oper) (i : Nat) (T : TypeId) : Prop := ∃ o, l[i]? = some o ∧ o.op = .alloc T
theorem pseO_other {g : Nat} {o : Oper} (h : ∀ T, o.op ≠ .alloc T) : pseO g o = o := by
  unfold pseO
  split
  · rename_i T hT; exact absurd hT (h T)
  · rfl

/-- A class of worlds later than w0. -/
structure Cond (w0 : World) (C : World → Prop) : Prop where
  sub : ∀ w, C w → Below w0.heap.size w0 w
  step : ∀ w w', C w → Below w.heap.size w w' → C w'
  ne : ∃ w, C w
theorem Cond.of (w0 w : World) (h : Below w0.heap.size w0 w) : Cond w0 (fun w' => Below w.heap.size w w') :=
  ⟨fun w' h' => h.trans (h'.mono h.size), fun w1 w2 h1 h2 => below_step h1 h2, ⟨w, Below.refl _ _⟩⟩

section
variable {P : Program} {md : Region.Mode} {l : List Oper} {n gg : Nat} {w0 : World} {Z : TypeId → Array Value} {Q' : Exit → Act → World → Prop} {Lq : (Nat → Nat) → Act → Prop}

/-- What is known of the variables made so far. -/
structure Made (l : List Oper) (n : Nat) (Z : TypeId → Array Value) (w0 : World) (γ : Nat → Nat) (listed : Array Bool) (w : World) : Prop where
  box : ∀ i T, i < n → Makes l i T → listed.getD i false = true → Box w (γ i) (Z T) T ∧ w0.heap.size ≤ γ i
  ne : ∀ i j T U, i < n → j < n → Makes l i T → Makes l j U → listed.getD i false = true → listed.getD j false = true → i ≠ j → γ i ≠ γ j

theorem fresh_any (hn : n < l.length) (hs : Region.sinkB md l.toArray n = true) (hc : Region.chainB md l.toArray n = true) (hgg : 0 < gg)
    (hz : ∀ (i : Nat) (T : TypeId) (o : Oper), l[i]? = some o → o.op = .alloc T → o.guard = none ∧ ∀ (a : Act) (w : World), (execOp a.eval o).run P w = .ok (.value (.pointer (some ⟨w.heap.size, 0, none⟩))) (w.alloc (.cells (Z T) T)))
    (hL : ∀ γ listed a w, HeadInv md l.toArray n listed → Below w0.heap.size w0 w → (∀ i T, i < n → Makes l i T → listed.getD i false = true) → Made l n Z w0 γ listed w → Region.seqB md (pseL γ 0 l).toArray gg n listed = true → Lq γ a → wpAny P md l.toArray Q' gg listed a w) :
    ∀ (f : Nat) (listed : Array Bool) (a : Act) (w : World) (γ0 : Nat → Nat), HeadInv md l.toArray n listed → Below w0.heap.size w0 w → Made l n Z w0 γ0 listed w →
      (∀ γ C, Cond w0 C → (∀ i T, i < n → Makes l i T → listed.getD i false = true → γ i = γ0 i) →
        anyHead P md (pseL γ 0 l).toArray C n (fun listed' a' => Region.seqB md (pseL γ 0 l).toArray gg n listed' = true ∧ Lq γ a') f listed a) →
      wpAny P md l.toArray Q' (f + gg) listed a w
  | 0, listed, a, w, γ0, inv, hb, hm, H => by
    have h1 := H γ0 _ (Cond.of w0 w0 (Below.refl _ _)) (fun _ _ _ _ _ => rfl)
    obtain ⟨h1, h2⟩ := h1
    rw [Nat.zero_add]
    refine hL γ0 listed a w inv hb (fun i T hi hi2 => ?_) hm h1 h2
    refine Classical.byContradiction fun hno => ?_
    have hun : listed.getD i true = false := by
      have : listed.getD i false = false := by simpa using hno
      exact getD_in (by rw [inv.size]; simp; omega) this
    obtain ⟨g', rfl⟩ : ∃ g', gg = g' + 1 := ⟨gg - 1, by omega⟩
    simp only [Region.seqB, Bool.and_eq_true, decide_eq_true_eq] at h1
    have hr : n ∈ Region.ready md l.toArray listed := by
      rw [← pse_ready γ0 l md listed, h1.1]; simp
    exact tail_waits hs hc (by simpa using hn) inv _ i rfl hi hun n (Nat.le_refl _) hr
  | f + 1, listed, a, w, γ0, inv, hb, hm, H => by
    have e : f + 1 + gg = (f + gg) + 1 := by omega
    rw [e]
    have H0 := H γ0 _ (Cond.of w0 w0 (Below.refl _ _)) (fun _ _ _ _ _ => rfl)
    refine ⟨fun h0 => absurd h0 (by have := H0.1; rwa [pse_ready] at this), fun i hi => ?_⟩
    have hi' : ∀ γ, i ∈ Region.ready md (pseL γ 0 l).toArray listed := fun γ => by rw [pse_ready]; exact hi
    have hin : i < n := (H0.2 i (hi' γ0)).1
    obtain ⟨hun, o, ho, hall⟩ := mem_ready.1 hi
    have hol : l[i]? = some o := by simpa using ho
    have hsz : i < listed.size := by
      rcases Nat.lt_or_ge i listed.size with h | h
      · exact h
      · rw [inv.size] at h; simp at h; omega
    have hnl : listed.getD i false = false := getD_both hun
    have inv' := inv.set hi hin
    have hset : ∀ j, (listed.setIfInBounds i true).getD j false = true ↔ j = i ∨ listed.getD j false = true := fun j => by
      by_cases hj : i = j
      · subst hj; simp [hsz]
      · rw [getD_set_ne false hj]
        exact ⟨.inr, fun h => h.resolve_left (Ne.symm hj)⟩
    have hpo : ∀ γ, (pseL γ 0 l).toArray[i]? = some (pseO (γ i) o) := fun γ => by rw [pse_arr, ho]; rfl
    by_cases hal : ∃ T, o.op = .alloc T
    · obtain ⟨T, hT⟩ := hal
      obtain ⟨hgd, hrun⟩ := hz i T o hol hT
      have hmk : Makes l i T := ⟨o, hol, hT⟩
      have huniq : ∀ U, Makes l i U → U = T := fun U ⟨o', ho', hU⟩ => by
        have : o' = o := Option.some.inj (ho'.symm.trans hol)
        subst this
        rw [hT] at hU
        injection hU with hU
        exact hU.symm
      unfold wpOp
      simp only [ho]
      rw [if_pos (by unfold Region.wanted; rw [hgd])]
      left
      unfold Oper.wp
      rw [hrun, Oper.upon_value]
      refine fresh_any hn hs hc hgg hz hL f _ _ _ (fun j => if j = i then w.heap.size else γ0 j) inv' (hb.alloc hb.size _) ⟨fun j U hj hU hl => ?_, fun j k U V hj hk hU hV hlj hlk hjk => ?_⟩ (fun γ C hC hγ => ?_)
      · rcases (hset j).1 hl with rfl | hl'
        · rw [if_pos rfl, huniq U hU]
          exact ⟨Box.new _ _ _, hb.size⟩
        · have hji : j ≠ i := fun h => by rw [h, hnl] at hl'; cases hl'
          rw [if_neg hji]
          obtain ⟨b1, b2⟩ := hm.box j U hj hU hl'
          exact ⟨b1.below (below_alloc _ _), b2⟩
      · have key : ∀ m U, m < n → Makes l m U → (listed.setIfInBounds i true).getD m false = true → m ≠ i → γ0 m < w.heap.size := fun m U hm1 hm2 hm3 hm4 =>
          ((hm.box m U hm1 hm2 (((hset m).1 hm3).resolve_left hm4)).1).lt
        by_cases h1 : j = i
        · by_cases h2 : k = i
          · exact absurd (h1.trans h2.symm) hjk
          · rw [if_pos h1, if_neg h2]; exact Nat.ne_of_gt (key k V hk hV hlk h2)
        · by_cases h2 : k = i
          · rw [if_neg h1, if_pos h2]; exact Nat.ne_of_lt (key j U hj hU hlj h1)
          · rw [if_neg h1, if_neg h2]
            exact hm.ne j k U V hj hk hU hV (((hset j).1 hlj).resolve_left h1) (((hset k).1 hlk).resolve_left h2) hjk
      · have hγ1 : γ i = w.heap.size := by rw [hγ i T hin hmk ((hset i).2 (.inl rfl)), if_pos rfl]
        have H1 := H γ C hC (fun j U hj hU hl => by
          have hji : j ≠ i := fun h => by rw [h, hnl] at hl; cases hl
          rw [hγ j U hj hU ((hset j).2 (.inr hl)), if_neg hji])
        obtain ⟨_, hq⟩ := H1.2 i (hi' γ)
        obtain ⟨v, hy, hK⟩ := yieldsIn_of_qOp (hpo γ) hq
        have hv : v = .pointer (some ⟨w.heap.size, 0, none⟩) := by
          obtain ⟨wC, hwC⟩ := hC.ne
          rcases hy with ⟨_, hy⟩ | ⟨h0, _⟩
          · have h2 := hy wC hwC
            unfold Oper.quietAt at h2
            have e1 : (pseO (γ i) o).op = .assign (.const (.pointer (some ⟨γ i, 0, none⟩))) := by unfold pseO; rw [hT]
            rw [show (execOp a.eval (pseO (γ i) o)).run P wC = .ok (.value (.pointer (some ⟨γ i, 0, none⟩))) wC from by simp [execOp, e1, Act.eval]] at h2
            simp only [Oper.quietUpon] at h2
            rw [← h2.2, hγ1]
          · unfold Region.wanted at h0; rw [pseO_guard, hgd] at h0; cases h0
        rw [hv, pseO_dst] at hK
        exact hK
    · have hno : ∀ T, o.op ≠ .alloc T := fun T h => hal ⟨T, h⟩
      have hpo' : ∀ γ, (pseL γ 0 l).toArray[i]? = some o := fun γ => by rw [hpo, pseO_other hno]
      have hnm : ∀ U, ¬ Makes l i U := fun U ⟨o', ho', hU⟩ => by
        have : o' = o := Option.some.inj (ho'.symm.trans hol)
        subst this
        exact hno U hU
      have HW := H γ0 _ (Cond.of w0 w hb) (fun _ _ _ _ _ => rfl)
      obtain ⟨_, hqw⟩ := HW.2 i (hi' γ0)
      obtain ⟨v, hyw, hKw⟩ := yieldsIn_of_qOp (hpo' γ0) hqw
      obtain ⟨_, hq0⟩ := H0.2 i (hi' γ0)
      obtain ⟨v0, hy0, hK0⟩ := yieldsIn_of_qOp (hpo' γ0) hq0
      have ev : v = v0 := yields_det hyw hy0 (Below.refl _ _) hb
      have hyr : YieldsIn P l.toArray (fun w' => Below w.heap.size w w') o v a := by
        rcases hyw with ⟨h1, h2⟩ | ⟨h1, h2⟩
        · exact .inl ⟨by rw [pse_yielded] at h1; exact h1, h2⟩
        · exact .inr ⟨by rw [pse_yielded] at h1; exact h1, h2⟩
      have hqr : qOp P l.toArray (fun w' => Below w.heap.size w w') i (fun a' => a' = a.put o.dst v) a := hyr.qOp ho rfl
      refine wpOp_of_qOp (Below.refl _ _) (fun a' w' hw' ha' => ?_) hqr
      subst ha'
      refine fresh_any hn hs hc hgg hz hL f _ _ _ γ0 inv' (hb.trans (hw'.mono hb.size)) ⟨fun j U hj hU hl => ?_, fun j k U V hj hk hU hV hlj hlk hjk => ?_⟩ (fun γ C hC hγ => ?_)
      · have hji : j ≠ i := fun h => hnm U (h ▸ hU)
        obtain ⟨b1, b2⟩ := hm.box j U hj hU (((hset j).1 hl).resolve_left hji)
        exact ⟨b1.below hw', b2⟩
      · have hji : j ≠ i := fun h => hnm U (h ▸ hU)
        have hki : k ≠ i := fun h => hnm V (h ▸ hV)
        exact hm.ne j k U V hj hk hU hV (((hset j).1 hlj).resolve_left hji) (((hset k).1 hlk).resolve_left hki) hjk
      · have H1 := H γ C hC (fun j U hj hU hl => hγ j U hj hU ((hset j).2 (.inr hl)))
        obtain ⟨_, hq⟩ := H1.2 i (hi' γ)
        obtain ⟨v', hy', hK'⟩ := yieldsIn_of_qOp (hpo' γ) hq
        obtain ⟨wC, hwC⟩ := hC.ne
        have hy0' : YieldsIn P (pseL γ 0 l).toArray (fun w' => Below w0.heap.size w0 w') o v0 a := by
          rcases hy0 with ⟨h1, h2⟩ | ⟨h1, h2⟩
          · exact .inl ⟨by rw [pse_yielded] at h1 ⊢; exact h1, h2⟩
          · exact .inr ⟨by rw [pse_yielded] at h1 ⊢; exact h1, h2⟩
        have ev' : v' = v0 := yields_det hy' hy0' hwC (hC.sub _ hwC)
        rw [ev', ← ev] at hK'
        exact hK'

/-- How a variable of type T is made. -/
def AllocRun (P : Program) (T : TypeId) (zs : Array Value) : Prop := ∀ (o : Oper), o.op = .alloc T → ∀ (a : Act) (w : World), (execOp a.eval o).run P w = .ok (.value (.pointer (some ⟨w.heap.size, 0, none⟩))) (w.alloc (.cells zs T))
def AllocOk (P : Program) (Z : TypeId → Array Value) (o : Oper) : Prop := match o.op with
  | .alloc T => o.guard = none ∧ AllocRun P T (Z T)
  | _ => True
theorem allocs_ok {P : Program} {Z : TypeId → Array Value} {l : List Oper} (h : ∀ o ∈ l, AllocOk P Z o) (i : Nat) (T : TypeId) (o : Oper) (ho : l[i]? = some o) (hT : o.op = .alloc T) :
    o.guard = none ∧ ∀ (a : Act) (w : World), (execOp a.eval o).run P w = .ok (.value (.pointer (some ⟨w.heap.size, 0, none⟩))) (w.alloc (.cells (Z T) T)) := by
  have h1 := h o (List.mem_of_getElem? ho)
  unfold AllocOk at h1
  rw [hT] at h1
  exact ⟨h1.1, h1.2 o hT⟩
/-- A world of a class. -/
structure LatC (w0 : World) (C : World → Prop) where
  w : World
  h : Below w0.heap.size w0 w
  c : C w
theorem latC_iff {w0 : World} {C : World → Prop} (hC : Cond w0 C) (w' : World) : (∃ p : LatC w0 C, w' = p.w) ↔ C w' := ⟨fun ⟨p, h⟩ => h ▸ p.c, fun h => ⟨⟨w', hC.sub _ h, h⟩, rfl⟩⟩
theorem latC_call {P : Program} {f : FuncId} {args : Array Value} {w0 : World} {C : World → Prop} (hC : Cond w0 C) {p : LatC w0 C} {v : Value} (h : Calls P f args p.w fun e w' => e = .returned v ∧ Below p.w.heap.size p.w w') :
    Calls P f args p.w fun e w'' => e = .returned v ∧ ∃ q : LatC w0 C, w'' = q.w :=
  h.mono fun _ _ ⟨he, hb⟩ => ⟨he, ⟨_, p.h.trans (hb.mono p.h.size), hC.step _ _ p.c hb⟩, rfl⟩
theorem latC_same {P : Program} {f : FuncId} {args : Array Value} {w0 : World} {C : World → Prop} {p : LatC w0 C} {v : Value} (h : Calls P f args p.w fun e w' => e = .returned v ∧ p.w = w') :
    Calls P f args p.w fun e w'' => e = .returned v ∧ ∃ q : LatC w0 C, w'' = q.w :=
  h.mono fun _ _ ⟨he, hb⟩ => ⟨he, p, hb.symm⟩
theorem latC_drew {P : Program} {f : FuncId} {args : Array Value} {w0 : World} {C : World → Prop} (hC : Cond w0 C) {p : LatC w0 C} {v : Value} (h : Calls P f args p.w fun e w' => e = .returned v ∧ ∃ n, w' = p.w.drewN n) :
    Calls P f args p.w fun e w'' => e = .returned v ∧ ∃ q : LatC w0 C, w'' = q.w :=
  latC_call hC (h.mono fun _ _ ⟨he, n, hb⟩ => ⟨he, hb ▸ below_drewN (Below.refl _ _) n⟩)
theorem Box.latC {w : World} {C : World → Prop} {g : Nat} {t : TypeId} {cs : Array Value} (h : Box w g cs t) (i : Nat) (v : Value) (hv : cs[i]? = some v) : ∀ p : LatC w C, p.w.cell? ⟨g, i, none⟩ = some v := fun p => by
  rw [(h.below p.h).cell i, hv]

/-- THE REGION: the head in the order of the text, in every later world; each variable that it makes is a block of its own; then the tail. -/
theorem wp_region_fresh {id : Nat} {Q : Exit → Act → World → Prop} {a : Act} {w : World} {l : List Oper} (n : Nat) (Z : TypeId → Array Value) (hm : P.follows .mixedOrders = true) (hB : ∀ γ, Region.lexTailB .any (pseL γ 0 l).toArray n = true)
    (hs : Region.sinkB .any l.toArray n = true) (hc : Region.chainB .any l.toArray n = true)
    (hz : ∀ (i : Nat) (T : TypeId) (o : Oper), l[i]? = some o → o.op = .alloc T → o.guard = none ∧ ∀ (a : Act) (w : World), (execOp a.eval o).run P w = .ok (.value (.pointer (some ⟨w.heap.size, 0, none⟩))) (w.alloc (.cells (Z T) T)))
    (h : ∀ (γ : Nat → Nat) (C : World → Prop) (hC : Cond w C) (hne : Nonempty (LatC w C)), wpQuiet P (pseL γ 0 l).toArray (fun w' => ∃ p : LatC w C, w' = p.w)
      (fun a' => ∀ w', Below w.heap.size w w' → (∀ (i : Nat) (T : TypeId), i < n → Makes l i T → Box w' (γ i) (Z T) T ∧ w.heap.size ≤ γ i) → (∀ (i j : Nat) (T U : TypeId), i < n → j < n → Makes l i T → Makes l j U → i ≠ j → γ i ≠ γ j) → wpList P l.toArray Q (l.drop n) a' w') ((pseL γ 0 l).take n) a) :
    (Code.region id l.toArray true).wp P Q a w := by
  have hB0 := hB (fun _ => 0)
  simp only [Region.lexTailB, Bool.and_eq_true, decide_eq_true_eq] at hB0
  have hn' : n < l.length := by have := hB0.1.1.1.2; rw [List.size_toArray, pseL_len] at this; exact this
  have hdl : (l.drop n).length = l.toArray.size - n := by simp
  have inv0 : HeadInv .any l.toArray n (Array.replicate l.toArray.size false) :=
    ⟨by simp, fun j oj _ hl => (by rw [getD_replicate_false] at hl; cases hl), fun t _ ht => getD_in (by simpa using ht) (getD_replicate_false _ _)⟩
  refine wp_region_any hm ?_
  have e0 : l.toArray.size = n + (l.toArray.size - n) := by simp; omega
  have K := fresh_any (P := P) (md := .any) (l := l) (n := n) (gg := l.toArray.size - n) (w0 := w) (Z := Z) (Q' := Q)
    (Lq := fun γ a' => ∀ w', Below w.heap.size w w' → (∀ (i : Nat) (T : TypeId), i < n → Makes l i T → Box w' (γ i) (Z T) T ∧ w.heap.size ≤ γ i) → (∀ (i j : Nat) (T U : TypeId), i < n → j < n → Makes l i T → Makes l j U → i ≠ j → γ i ≠ γ j) → wpList P l.toArray Q (l.drop n) a' w')
    hn' hs hc (by simp; omega) hz (fun γ listed a' w' inv hb hall hmd hseq hLq => ?_) n (Array.replicate l.toArray.size false) a { w with drawn := w.drawn + 1 } (fun _ => 0) inv0 (below_drawn _)
    ⟨fun i T _ _ hl => (by rw [getD_replicate_false] at hl; cases hl), fun i j T U _ _ _ _ hl _ _ => (by rw [getD_replicate_false] at hl; cases hl)⟩ (fun γ C hC _ => ?_)
  · rw [← e0] at K; exact K
  · rw [pse_seq] at hseq
    have h1 := wpAny_of_seq (P := P) (md := .any) (ops := l.toArray) (Q' := Q) (l.drop n) n listed a' w' (fun j => by simp [List.getElem?_drop]) (by rw [hdl]; exact hseq)
      (hLq w' hb (fun i T hi hT => hmd.box i T hi hT (hall i T hi hT)) (fun i j T U hi hj hT hU hij => hmd.ne i j T U hi hj hT hU (hall i T hi hT) (hall j U hj hU) hij))
    rwa [hdl] at h1
  · have hBγ := hB γ
    simp only [Region.lexTailB, Bool.and_eq_true, decide_eq_true_eq] at hBγ
    obtain ⟨⟨⟨⟨g1, g2⟩, g3⟩, g4⟩, g5⟩ := hBγ
    have hsz : (pseL γ 0 l).toArray.size = l.toArray.size := by rw [List.size_toArray, List.size_toArray, pseL_len]
    have htl : ((pseL γ 0 l).take n).length = n := by rw [List.length_take, pseL_len]; omega
    have invγ : HeadInv .any (pseL γ 0 l).toArray n (Array.replicate l.toArray.size false) :=
      ⟨by rw [hsz]; simp, fun j oj _ hl => (by rw [getD_replicate_false] at hl; cases hl), fun t _ ht => getD_in (by rw [hsz] at ht; simpa using ht) (getD_replicate_false _ _)⟩
    have hC' : (fun w' => ∃ p : LatC w C, w' = p.w) = C := by funext w'; exact propext (latC_iff hC w')
    have hq := h γ C hC (by obtain ⟨wC, hwC⟩ := hC.ne; exact ⟨⟨wC, hC.sub _ hwC, hwC⟩⟩)
    rw [hC'] at hq
    have H := head_lex (P := P) (md := .any) (ops := (pseL γ 0 l).toArray) (C := C) (n := n) (g := l.toArray.size - n) g1 g3 g4 (by rw [hsz]; simpa using hn') ((pseL γ 0 l).take n) 0 (Array.replicate l.toArray.size false) a (fun j hj => by
      have hj' : j < n := by rw [htl] at hj; exact hj
      simp [hj']) (by simpa using htl) invγ (by rw [htl]; rw [hsz] at g5; exact g5) hq
    rw [htl] at H
    exact H
end
end

section
open Go.RowKit
set_option linter.unusedVariables false
set_option linter.unusedSimpArgs false

/-- The fresh operations of a region: which; what is known of each one's value; on which of the others each rests. -/
structure Kit where
  fr : Nat → Bool
  Φ : Nat → Value → World → Prop
  D : Nat → List Nat
  S : Nat → Value → Prop
/-- The shape of a value is known. -/
structure Kit.Known (K : Kit) : Prop where
  of : ∀ j u w, K.Φ j u w → K.S j u
  ne : ∀ j, ∃ u, K.S j u
def Kit.Good (K : Kit) (γ : Nat → Value) : Prop := ∀ j, K.fr j = true → K.S j (γ j)
def Kit.Stable (K : Kit) : Prop := ∀ j v w w', K.Φ j v w → Below w.heap.size w w' → K.Φ j v w'
def genO (v : Value) (o : Oper) : Oper := { o with op := .assign (.const v) }
def genL (K : Kit) (γ : Nat → Value) : Nat → List Oper → List Oper
  | _, [] => []
  | i, o :: l => (if K.fr i = true then genO (γ i) o else o) :: genL K γ (i + 1) l
section
variable (K : Kit) (γ : Nat → Value)
def genI (i : Nat) (o : Oper) : Oper := if K.fr i = true then genO (γ i) o else o
theorem genI_after (i : Nat) (o : Oper) : (genI K γ i o).after = o.after := by unfold genI; split <;> rfl
theorem genI_dst (i : Nat) (o : Oper) : (genI K γ i o).dst = o.dst := by unfold genI; split <;> rfl
theorem genI_guard (i : Nat) (o : Oper) : (genI K γ i o).guard = o.guard := by unfold genI; split <;> rfl
theorem genL_get : ∀ (l : List Oper) (i j : Nat), (genL K γ i l)[j]? = (l[j]?).map (genI K γ (i + j))
  | [], i, j => by simp [genL]
  | o :: l, i, 0 => by simp [genL, genI]
  | o :: l, i, j + 1 => by
    rw [genL, List.getElem?_cons_succ, List.getElem?_cons_succ, genL_get l (i + 1) j, show i + 1 + j = i + (j + 1) by omega]
theorem genL_len : ∀ (l : List Oper) (i : Nat), (genL K γ i l).length = l.length
  | [], i => rfl
  | o :: l, i => by rw [genL, List.length_cons, List.length_cons, genL_len l]
theorem gen_arr (l : List Oper) (j : Nat) : (genL K γ 0 l).toArray[j]? = (l.toArray[j]?).map (genI K γ j) := by
  rw [List.getElem?_toArray, List.getElem?_toArray, genL_get, Nat.zero_add]
theorem gen_ready (l : List Oper) (md : Region.Mode) (listed : Array Bool) : Region.ready md (genL K γ 0 l).toArray listed = Region.ready md l.toArray listed := by
  unfold Region.ready
  rw [List.size_toArray, List.size_toArray, genL_len]
  congr 1
  funext i
  rw [gen_arr]
  cases l.toArray[i]? with
  | none => rfl
  | some o => simp only [Option.map_some, genI_after]
theorem gen_yielded (l : List Oper) (tmps : Array Value) : yielded (genL K γ 0 l).toArray tmps = yielded l.toArray tmps := by
  funext j
  unfold yielded
  rw [gen_arr]
  cases l.toArray[j]? with
  | none => rfl
  | some o => simp only [Option.map_some, Option.bind_some, genI_dst]
theorem gen_seq (l : List Oper) (md : Region.Mode) : ∀ (g k : Nat) (listed : Array Bool), Region.seqB md (genL K γ 0 l).toArray g k listed = Region.seqB md l.toArray g k listed
  | 0, k, listed => by simp only [Region.seqB, gen_ready]
  | g + 1, k, listed => by simp only [Region.seqB, gen_ready, gen_seq l md g]
end

/-- A fresh operation, carried out in the world w. -/
def FreshUpon (P : Program) (Φ : Value → World → Prop) (w : World) : Result Next → Prop
  | .ok (.value u) w' => Φ u w' ∧ Below w.heap.size w w'
  | .ok (.enter f args) w' => w' = w ∧ Calls P f args w (fun e w'' => ∃ v, e = .returned v ∧ (Φ v w'' ∧ Below w.heap.size w w''))
  | _ => False
def FreshAt (P : Program) (K : Kit) (w0 : World) (γ : Nat → Value) (j : Nat) (o : Oper) (a : Act) : Prop :=
  o.guard = none ∧ ∀ w, Below w0.heap.size w0 w → (∀ d ∈ K.D j, K.Φ d (γ d) w) → FreshUpon P (K.Φ j) w ((execOp a.eval o).run P w)
/-- The same of an operation with a guard that is met. -/
def FreshA (ops : Array Oper) (P : Program) (K : Kit) (w0 : World) (γ : Nat → Value) (j : Nat) (o : Oper) (a : Act) : Prop :=
  Region.wanted o (yielded ops a.tmps) = true ∧ ∀ w, Below w0.heap.size w0 w → (∀ d ∈ K.D j, K.Φ d (γ d) w) → FreshUpon P (K.Φ j) w ((execOp a.eval o).run P w)
theorem FreshAt.met {P : Program} {K : Kit} {w0 : World} {γ : Nat → Value} {j : Nat} {o : Oper} {a : Act} (ops : Array Oper) (h : FreshAt P K w0 γ j o a) : FreshA ops P K w0 γ j o a :=
  ⟨by unfold Region.wanted; rw [h.1], h.2⟩
theorem FreshA.of_same {ops : Array Oper} {P : Program} {K : Kit} {w0 : World} {γ : Nat → Value} {j : Nat} {o : Oper} {a a' : Act} (h : FreshA ops P K w0 γ j o a) (he : execOp a'.eval o = execOp a.eval o) (hw : Region.wanted o (yielded ops a'.tmps) = Region.wanted o (yielded ops a.tmps)) : FreshA ops P K w0 γ j o a' := by
  unfold FreshA at *; rw [he, hw]; exact h
theorem FreshAt.of_same {P : Program} {K : Kit} {w0 : World} {γ : Nat → Value} {j : Nat} {o : Oper} {a a' : Act} (h : FreshAt P K w0 γ j o a) (he : execOp a'.eval o = execOp a.eval o) : FreshAt P K w0 γ j o a' := by
  unfold FreshAt at *; rw [he]; exact h

section
variable {P : Program} {K : Kit} {w0 : World} {γ : Nat → Value} {md : Region.Mode} {l : List Oper} {C : World → Prop} {n gg : Nat}

def anyHeadF (P : Program) (K : Kit) (w0 : World) (γ : Nat → Value) (md : Region.Mode) (l : List Oper) (C : World → Prop) (n : Nat) (L : Array Bool → Act → Prop) : Nat → Array Bool → Act → Prop
  | 0, listed, a => L listed a
  | f + 1, listed, a => Region.ready md l.toArray listed ≠ [] ∧ ∀ i ∈ Region.ready md l.toArray listed, i < n ∧ (K.fr i = true → ∀ o, l[i]? = some o → FreshA l.toArray P K w0 γ i o a) ∧
      qOp P (genL K γ 0 l).toArray C i (anyHeadF P K w0 γ md l C n L f (listed.setIfInBounds i true)) a

theorem qOp_which {P : Program} {ops : Array Oper} {C : World → Prop} {i : Nat} {o : Oper} {a : Act} {K : Act → Prop} (hi : ops[i]? = some o) (h : qOp P ops C i K a) : qOp P ops C i (fun a' => K a' ∧ ∃ u, a' = a.put o.dst u) a := by
  unfold qOp at *
  simp only [hi] at *
  split
  · rename_i hw
    simp only [hw, if_true] at h
    obtain ⟨v, h1, h2⟩ := h
    exact ⟨v, h1, h2, v, rfl⟩
  · rename_i hw
    simp only [hw] at h
    exact ⟨h, undef, rfl⟩

theorem head_firstF {i : Nat} {oi : Oper} {v : Value} {L : Array Bool → Act → Prop} (hi : l[i]? = some oi) (hsel : ∀ (j : Nat) (o : Oper) cs b, (genL K γ 0 l).toArray[j]? = some o → o.op ≠ .select cs b) (hselL : ∀ (j : Nat) (o : Oper) cs b, l.toArray[j]? = some o → o.op ≠ .select cs b)
    (hs : Region.sinkB md l.toArray n = true) (hc : Region.chainB md l.toArray n = true) (hn : n < l.toArray.size) (hin : i < n) (hdone : ∀ listed a, L listed a → ∀ j ∈ Region.ready md l.toArray listed, n ≤ j) :
    ∀ (f : Nat) (listed : Array Bool) (a : Act), HeadInv md l.toArray n listed →
      (∀ j oj, (genL K γ 0 l).toArray[j]? = some oj → j ≠ i → listed.getD j true = false → (∀ e ∈ oj.after, Region.binds md e = true → e.on ≠ i) → (genI K γ i oi).apart (genL K γ 0 l).toArray oj = true) →
      (∀ j oj, l.toArray[j]? = some oj → j ≠ i → listed.getD j true = false → (∀ e ∈ oj.after, Region.binds md e = true → e.on ≠ i) → oi.apart l.toArray oj = true) →
      i ∈ Region.ready md l.toArray listed → YieldsIn P (genL K γ 0 l).toArray C (genI K γ i oi) v a → (K.fr i = true → FreshA l.toArray P K w0 γ i oi a) → anyHeadF P K w0 γ md l C n L f (listed.setIfInBounds i true) (a.put oi.dst v) →
      anyHeadF P K w0 γ md l C n L (f + 1) listed a
  | f, listed, a, inv, hfree, hfreeL, hr, hy, hfr, H => by
    have hun := (mem_ready.1 hr).1
    have hgi : (genL K γ 0 l).toArray[i]? = some (genI K γ i oi) := by rw [gen_arr, List.getElem?_toArray, hi]; rfl
    have hlt : ∀ j ∈ Region.ready md l.toArray listed, j < n := fun j hj => Classical.byContradiction fun h => tail_waits hs hc hn inv _ i rfl hin hun j (by omega) hj
    refine ⟨fun h => (by rw [h] at hr; cases hr), fun j hj => ⟨hlt j hj, ?_⟩⟩
    by_cases hji : j = i
    · subst hji
      refine ⟨fun h o ho => ?_, ?_⟩
      · have : o = oi := Option.some.inj (ho.symm.trans hi)
        subst this
        exact hfr h
      · have := hy.qOp (K := anyHeadF P K w0 γ md l C n L f (listed.setIfInBounds j true)) hgi (by rw [genI_dst]; exact H)
        exact this
    cases f with
    | zero => have := hdone _ _ H j (ready_mono hj hji); have := hlt j hj; omega
    | succ f =>
      obtain ⟨hjun, oj, hoj, hall⟩ := mem_ready.1 hj
      have hgj : (genL K γ 0 l).toArray[j]? = some (genI K γ j oj) := by rw [gen_arr, hoj]; rfl
      have hnot : ∀ e ∈ oj.after, Region.binds md e = true → e.on ≠ i := fun e he hb heq => by
        have h1 := hall e he hb
        rw [heq, getD_both hun] at h1
        cases h1
      obtain ⟨ap1, ap2, ap3⟩ := Oper.apart_spec (hfreeL j oj hoj hji hjun hnot)
      obtain ⟨_, hfj, hqj⟩ := H.2 j (ready_mono hj hji)
      refine ⟨fun h o ho => ?_, ?_⟩
      · have e1 := execOp_put (ops := l.toArray) o (hselL j o · · (by rw [List.getElem?_toArray]; exact ho)) a oi.dst v (fun d hd => by
          have : o = oj := by rw [List.getElem?_toArray] at hoj; exact Option.some.inj (ho.symm.trans hoj)
          subst this
          exact ap1 d hd)
        have hoe : o = oj := by rw [List.getElem?_toArray] at hoj; exact Option.some.inj (ho.symm.trans hoj)
        exact (hfj h o ho).of_same e1.symm (by rw [hoe]; exact (wanted_put oj a oi.dst v ap1).symm)
      · have h2 := qOp_put (P := P) (C := C) hgj (hfree j _ hgj hji hjun (by rw [genI_after]; exact hnot)) (fun cs b => hsel i _ cs b hgi) (fun cs b => hsel j _ cs b hgj) hy (by rw [genI_dst]; exact hqj)
        have h3 := qOp_which hgj h2
        refine qOp_mono (fun a' h4 => ?_) h3
        obtain ⟨⟨h5, h6⟩, u, hu⟩ := h4
        refine head_firstF hi hsel hselL hs hc hn hin hdone f (listed.setIfInBounds j true) a' (inv.set hj (hlt j hj)) (fun k ok hk hki hu' hno => ?_) (fun k ok hk hki hu' hno => ?_) (ready_mono hr (Ne.symm hji)) h5 (fun h => ?_) ?_
        · refine hfree k ok hk hki ?_ hno
          by_cases hjk : j = k
          · subst hjk; exact hjun
          · rwa [getD_set_ne true hjk] at hu'
        · refine hfreeL k ok hk hki ?_ hno
          by_cases hjk : j = k
          · subst hjk; exact hjun
          · rwa [getD_set_ne true hjk] at hu'
        · rw [hu, genI_dst]
          exact (hfr h).of_same (execOp_put (ops := l.toArray) oi (hselL i oi · · (by rw [List.getElem?_toArray]; exact hi)) a oj.dst u ap3) (wanted_put oi a oj.dst u ap3)
        · rw [Array.setIfInBounds_comm _ _ hji]
          rw [genI_dst] at h6
          exact h6

/-- The walk of the head in the order of the text. -/
def wpF (P : Program) (K : Kit) (w0 : World) (γ : Nat → Value) (C : World → Prop) (ops : Array Oper) (Lq : Act → Prop) : Nat → List Oper → Act → Prop
  | _, [], a => Lq a
  | j, o :: rest, a => if K.fr j = true then FreshA ops P K w0 γ j o a ∧ wpF P K w0 γ C ops Lq (j + 1) rest (a.put o.dst (γ j)) else ∃ v, YieldsIn P ops C o v a ∧ wpF P K w0 γ C ops Lq (j + 1) rest (a.put o.dst v)
theorem wpF_fresh {ops : Array Oper} {Lq : Act → Prop} {j : Nat} {o : Oper} {rest : List Oper} {a : Act} (hf : K.fr j = true) (h : FreshAt P K w0 γ j o a) (h2 : wpF P K w0 γ C ops Lq (j + 1) rest (a.put o.dst (γ j))) : wpF P K w0 γ C ops Lq j (o :: rest) a := by
  rw [wpF, if_pos hf]; exact ⟨h.met ops, h2⟩
theorem wpF_freshG {ops : Array Oper} {Lq : Act → Prop} {j : Nat} {o : Oper} {rest : List Oper} {a : Act} (hf : K.fr j = true) (h : FreshA ops P K w0 γ j o a) (h2 : wpF P K w0 γ C ops Lq (j + 1) rest (a.put o.dst (γ j))) : wpF P K w0 γ C ops Lq j (o :: rest) a := by
  rw [wpF, if_pos hf]; exact ⟨h, h2⟩
theorem wpF_quiet {ops : Array Oper} {Lq : Act → Prop} {j : Nat} {o : Oper} {rest : List Oper} {a : Act} (hf : K.fr j = false) (h : wpQuiet P ops C (wpF P K w0 γ C ops Lq (j + 1) rest) [o] a) : wpF P K w0 γ C ops Lq j (o :: rest) a := by
  rw [wpF, if_neg (by rw [hf]; decide)]
  unfold wpQuiet at h
  split at h
  · rename_i hw
    obtain ⟨v, h1, h2⟩ := h
    exact ⟨v, .inl ⟨hw, h1⟩, h2⟩
  · rename_i hw
    exact ⟨undef, .inr ⟨by simpa using hw, rfl⟩, h⟩

theorem head_lexF {Lq : Act → Prop} (hsel : Region.noSelect (genL K γ 0 l).toArray = true) (hselL : Region.noSelect l.toArray = true) (hs : Region.sinkB md l.toArray n = true) (hc : Region.chainB md l.toArray n = true) (hn : n < l.toArray.size) :
    ∀ (m : List Oper) (k : Nat) (listed : Array Bool) (a : Act), (∀ j, j < m.length → m[j]? = l[k + j]?) → k + m.length = n → HeadInv md l.toArray n listed →
      Region.lexHead md (genL K γ 0 l).toArray gg m.length k listed = true → Region.lexHead md l.toArray gg m.length k listed = true → wpF P K w0 γ C (genL K γ 0 l).toArray Lq k m a →
      anyHeadF P K w0 γ md l C n (fun listed' a' => Region.seqB md l.toArray gg n listed' = true ∧ Lq a') m.length listed a
  | [], k, listed, a, _, hk, _, hB, _, h => by
    obtain rfl : k = n := by simpa using hk
    exact ⟨by simp only [List.length_nil, Region.lexHead] at hB; rw [gen_seq] at hB; exact hB, h⟩
  | o :: m, k, listed, a, hl, hk, inv, hB, hBL, h => by
    have h0 : l[k]? = some o := by simpa using (hl 0 (by simp)).symm
    rw [List.length_cons] at hk hB hBL
    simp only [Region.lexHead, Bool.and_eq_true] at hB hBL
    have hr : k ∈ Region.ready md l.toArray listed := by simpa using hBL.1.1
    have hg0 : (genL K γ 0 l).toArray[k]? = some (genI K γ k o) := by rw [gen_arr, List.getElem?_toArray, h0]; rfl
    have hL0 : l.toArray[k]? = some o := by rw [List.getElem?_toArray]; exact h0
    have key : ∃ v, YieldsIn P (genL K γ 0 l).toArray C (genI K γ k o) v a ∧ (K.fr k = true → FreshA l.toArray P K w0 γ k o a) ∧ wpF P K w0 γ C (genL K γ 0 l).toArray Lq (k + 1) m (a.put o.dst v) := by
      rw [wpF] at h
      by_cases hf : K.fr k = true
      · rw [if_pos hf] at h
        refine ⟨γ k, .inl ⟨?_, fun w _ => ?_⟩, fun _ => (by have := h.1; unfold FreshA at this ⊢; rw [gen_yielded] at this; exact this), h.2⟩
        · have h3 := h.1.1; unfold Region.wanted at h3 ⊢; rw [genI_guard]; exact h3
        · have e1 : (genI K γ k o).op = .assign (.const (γ k)) := by unfold genI; rw [if_pos hf]; rfl
          unfold Oper.quietAt
          rw [show (execOp a.eval (genI K γ k o)).run P w = .ok (.value (γ k)) w from by simp [execOp, e1, Act.eval]]
          exact ⟨rfl, rfl⟩
      · rw [if_neg hf] at h
        obtain ⟨v, h1, h2⟩ := h
        refine ⟨v, ?_, fun hh => absurd hh hf, h2⟩
        have : genI K γ k o = o := by unfold genI; rw [if_neg hf]
        rw [this]; exact h1
    obtain ⟨v, hy, hfr, hK⟩ := key
    refine head_firstF h0 (Region.noSelect_spec hsel) (Region.noSelect_spec hselL) hs hc hn (by omega) (fun _ _ hL => seqB_ready hL.1) m.length listed a inv (Region.free_spec hg0 hB.1.2) (Region.free_spec hL0 hBL.1.2) hr hy hfr ?_
    refine head_lexF hsel hselL hs hc hn m (k + 1) _ _ (fun j hj => ?_) (by omega) (inv.set hr (by omega)) hB.2 hBL.2 hK
    have := hl (j + 1) (by simp only [List.length_cons]; omega)
    rw [List.getElem?_cons_succ] at this
    rw [this]; congr 1; omega

variable {Q' : Exit → Act → World → Prop} {Lq : (Nat → Value) → Act → Prop}
/-- Each fresh operation rests on fresh ones that the region's edges put before it. -/
def depB (md : Region.Mode) (l : List Oper) (K : Kit) (n : Nat) : Bool :=
  (List.range l.length).all fun j => !K.fr j || ((K.D j).all fun d => K.fr d && decide (d < n) && match l[j]? with
    | some o => o.after.any fun e => Region.binds md e && e.on == d
    | none => false)
theorem depB_spec {j d : Nat} {o : Oper} (h : depB md l K n = true) (hj : l[j]? = some o) (hf : K.fr j = true) (hd : d ∈ K.D j) : K.fr d = true ∧ d < n ∧ ∃ e ∈ o.after, Region.binds md e = true ∧ e.on = d := by
  unfold depB at h
  have h1 := List.all_eq_true.1 h j (List.mem_range.2 (List.getElem?_eq_some_iff.1 hj).1)
  rw [hf] at h1
  simp only [Bool.not_true, Bool.false_or] at h1
  have h2 := List.all_eq_true.1 h1 d hd
  rw [hj] at h2
  simp only [Bool.and_eq_true, decide_eq_true_eq] at h2
  obtain ⟨⟨h3, h4⟩, h5⟩ := h2
  obtain ⟨e, he, hb⟩ := Array.any_eq_true'.1 h5
  simp only [Bool.and_eq_true, beq_iff_eq] at hb
  exact ⟨h3, h4, e, he, hb.1, hb.2⟩

theorem gen_any (hK : K.Stable) (hV : K.Known) (hn : n < l.length) (hs : Region.sinkB md l.toArray n = true) (hc : Region.chainB md l.toArray n = true) (hgg : 0 < gg) (hdep : depB md l K n = true)
    (hL : ∀ γ listed a w, HeadInv md l.toArray n listed → Below w0.heap.size w0 w → (∀ d, d < n → K.fr d = true → K.Φ d (γ d) w) → Region.seqB md l.toArray gg n listed = true → Lq γ a → wpAny P md l.toArray Q' gg listed a w) :
    ∀ (f : Nat) (listed : Array Bool) (a : Act) (w : World) (γ0 : Nat → Value), K.Good γ0 → HeadInv md l.toArray n listed → Below w0.heap.size w0 w → (∀ d, d < n → K.fr d = true → listed.getD d false = true → K.Φ d (γ0 d) w) →
      (∀ γ C, K.Good γ → Cond w0 C → (∀ d, d < n → K.fr d = true → listed.getD d false = true → γ d = γ0 d) →
        anyHeadF P K w0 γ md l C n (fun listed' a' => Region.seqB md l.toArray gg n listed' = true ∧ Lq γ a') f listed a) →
      wpAny P md l.toArray Q' (f + gg) listed a w
  | 0, listed, a, w, γ0, hgd, inv, hb, hm, H => by
    obtain ⟨h1, h2⟩ := H γ0 _ hgd (Cond.of w0 w0 (Below.refl _ _)) (fun _ _ _ _ => rfl)
    rw [Nat.zero_add]
    refine hL γ0 listed a w inv hb (fun d hd hfd => hm d hd hfd ?_) h1 h2
    refine Classical.byContradiction fun hno => ?_
    have hun : listed.getD d true = false := by
      have : listed.getD d false = false := by simpa using hno
      exact getD_in (by rw [inv.size]; simp; omega) this
    obtain ⟨g', rfl⟩ : ∃ g', gg = g' + 1 := ⟨gg - 1, by omega⟩
    simp only [Region.seqB, Bool.and_eq_true, decide_eq_true_eq] at h1
    have hr : n ∈ Region.ready md l.toArray listed := by rw [h1.1]; simp
    exact tail_waits hs hc (by simpa using hn) inv _ d rfl hd hun n (Nat.le_refl _) hr
  | f + 1, listed, a, w, γ0, hgd, inv, hb, hm, H => by
    have e : f + 1 + gg = (f + gg) + 1 := by omega
    rw [e]
    have H0 := H γ0 _ hgd (Cond.of w0 w0 (Below.refl _ _)) (fun _ _ _ _ => rfl)
    refine ⟨fun h0 => absurd h0 H0.1, fun i hi => ?_⟩
    obtain ⟨hin, hf0, hq0⟩ := H0.2 i hi
    obtain ⟨hun, o, ho, hall⟩ := mem_ready.1 hi
    have hol : l[i]? = some o := by simpa using ho
    have hsz : i < listed.size := by
      rcases Nat.lt_or_ge i listed.size with h | h
      · exact h
      · rw [inv.size] at h; simp at h; omega
    have hnl : listed.getD i false = false := getD_both hun
    have inv' := inv.set hi hin
    have hset : ∀ j, (listed.setIfInBounds i true).getD j false = true ↔ j = i ∨ listed.getD j false = true := fun j => by
      by_cases hj : i = j
      · subst hj; simp [hsz]
      · rw [getD_set_ne false hj]
        exact ⟨.inr, fun h => h.resolve_left (Ne.symm hj)⟩
    have hpo : ∀ γ, (genL K γ 0 l).toArray[i]? = some (genI K γ i o) := fun γ => by rw [gen_arr, ho]; rfl
    by_cases hfr : K.fr i = true
    · have hFA := hf0 hfr o hol
      have hdf : ∀ d ∈ K.D i, K.Φ d (γ0 d) w := fun d hd => by
        obtain ⟨h1, h2, e, he, hb', heq⟩ := depB_spec hdep hol hfr hd
        have h3 := hall e he hb'
        rw [heq] at h3
        exact hm d h2 h1 h3
      have hU := hFA.2 w hb hdf
      have hnext : ∀ (u : Value) (w' : World), K.Φ i u w' → Below w.heap.size w w' → wpAny P md l.toArray Q' (f + gg) (listed.setIfInBounds i true) (a.put o.dst u) w' := fun u w' hΦ hb' => by
        refine gen_any hK hV hn hs hc hgg hdep hL f _ _ _ (fun j => if j = i then u else γ0 j) (fun j hj => ?_) inv' (hb.trans (hb'.mono hb.size)) (fun d hd hfd hl => ?_) (fun γ C hgγ hC hγ => ?_)
        · by_cases hji : j = i
          · subst hji; show K.S j (if j = j then u else γ0 j); rw [if_pos rfl]; exact hV.of _ _ _ hΦ
          · show K.S j (if j = i then u else γ0 j); rw [if_neg hji]; exact hgd j hj
        · rcases (hset d).1 hl with rfl | hl'
          · rw [if_pos rfl]; exact hΦ
          · have hji : d ≠ i := fun h => by rw [h, hnl] at hl'; cases hl'
            rw [if_neg hji]
            exact hK d _ _ _ (hm d hd hfd hl') hb'
        · have hγ1 : γ i = u := by rw [hγ i hin hfr ((hset i).2 (.inl rfl)), if_pos rfl]
          have H1 := H γ C hgγ hC (fun d hd hfd hl => by
            have hji : d ≠ i := fun h => by rw [h, hnl] at hl; cases hl
            rw [hγ d hd hfd ((hset d).2 (.inr hl)), if_neg hji])
          obtain ⟨_, _, hq⟩ := H1.2 i hi
          obtain ⟨v, hy, hKK⟩ := yieldsIn_of_qOp (hpo γ) hq
          have hv : v = u := by
            obtain ⟨wC, hwC⟩ := hC.ne
            rcases hy with ⟨_, hy⟩ | ⟨h0, _⟩
            · have h2 := hy wC hwC
              unfold Oper.quietAt at h2
              have e1 : (genI K γ i o).op = .assign (.const (γ i)) := by unfold genI; rw [if_pos hfr]; rfl
              rw [show (execOp a.eval (genI K γ i o)).run P wC = .ok (.value (γ i)) wC from by simp [execOp, e1, Act.eval]] at h2
              simp only [Oper.quietUpon] at h2
              rw [← h2.2, hγ1]
            · have h3 := hFA.1; rw [gen_yielded] at h0; unfold Region.wanted at h0 h3; rw [genI_guard, h3] at h0; cases h0
          rw [hv, genI_dst] at hKK
          exact hKK
      unfold wpOp
      simp only [ho]
      rw [if_pos hFA.1]
      left
      unfold Oper.wp
      generalize (execOp a.eval o).run P w = r at hU ⊢
      cases r with
      | ok nx w' =>
        cases nx <;> simp only [FreshUpon] at hU <;> simp only [Oper.upon]
        case value u => exact hnext u w' hU.1 hU.2
        case enter f' args =>
          obtain ⟨e1, hcl⟩ := hU
          subst e1
          refine hcl.mono fun e w'' ⟨v, he, h1, h2⟩ => ?_
          subst he
          exact hnext v w'' h1 h2
      | halt x w' => simp only [FreshUpon] at hU
    · have hpo' : ∀ γ, genI K γ i o = o := fun γ => by unfold genI; rw [if_neg hfr]
      have HW := H γ0 _ hgd (Cond.of w0 w hb) (fun _ _ _ _ => rfl)
      obtain ⟨_, _, hqw⟩ := HW.2 i hi
      obtain ⟨v, hyw, hKw⟩ := yieldsIn_of_qOp (hpo γ0) hqw
      obtain ⟨v0, hy0, hK0⟩ := yieldsIn_of_qOp (hpo γ0) hq0
      rw [hpo'] at hyw hy0
      have ev : v = v0 := yields_det hyw hy0 (Below.refl _ _) hb
      have hyr : YieldsIn P l.toArray (fun w' => Below w.heap.size w w') o v a := by
        rcases hyw with ⟨h1, h2⟩ | ⟨h1, h2⟩
        · exact .inl ⟨by rw [gen_yielded] at h1; exact h1, h2⟩
        · exact .inr ⟨by rw [gen_yielded] at h1; exact h1, h2⟩
      have hqr : qOp P l.toArray (fun w' => Below w.heap.size w w') i (fun a' => a' = a.put o.dst v) a := hyr.qOp ho rfl
      refine wpOp_of_qOp (Below.refl _ _) (fun a' w' hw' ha' => ?_) hqr
      subst ha'
      refine gen_any hK hV hn hs hc hgg hdep hL f _ _ _ γ0 hgd inv' (hb.trans (hw'.mono hb.size)) (fun d hd hfd hl => ?_) (fun γ C hgγ hC hγ => ?_)
      · have hji : d ≠ i := fun h => hfr (h ▸ hfd)
        exact hK d _ _ _ (hm d hd hfd (((hset d).1 hl).resolve_left hji)) hw'
      · have H1 := H γ C hgγ hC (fun d hd hfd hl => hγ d hd hfd ((hset d).2 (.inr hl)))
        obtain ⟨_, _, hq⟩ := H1.2 i hi
        obtain ⟨v', hy', hK'⟩ := yieldsIn_of_qOp (hpo γ) hq
        obtain ⟨wC, hwC⟩ := hC.ne
        rw [hpo'] at hy'
        have hy0' : YieldsIn P (genL K γ 0 l).toArray (fun w' => Below w0.heap.size w0 w') o v0 a := by
          rcases hy0 with ⟨h1, h2⟩ | ⟨h1, h2⟩
          · exact .inl ⟨by rw [gen_yielded] at h1 ⊢; exact h1, h2⟩
          · exact .inr ⟨by rw [gen_yielded] at h1 ⊢; exact h1, h2⟩
        have ev' : v' = v0 := yields_det hy' hy0' hwC (hC.sub _ hwC)
        rw [ev', ← ev, genI_dst] at hK'
        exact hK'

theorem wpF_ops {ops ops' : Array Oper} (ho : ∀ tmps, yielded ops tmps = yielded ops' tmps) {Lq : Act → Prop} : ∀ (m : List Oper) (j : Nat) (a : Act), wpF P K w0 γ C ops Lq j m a → wpF P K w0 γ C ops' Lq j m a
  | [], j, a, h => h
  | o :: m, j, a, h => by
    rw [wpF] at h ⊢
    split at h
    · rename_i hf; rw [if_pos hf]; exact ⟨by have h1 := h.1; unfold FreshA at h1 ⊢; rw [← ho]; exact h1, wpF_ops ho m _ _ h.2⟩
    · rename_i hf
      rw [if_neg hf]
      obtain ⟨v, h1, h2⟩ := h
      refine ⟨v, ?_, wpF_ops ho m _ _ h2⟩
      unfold YieldsIn at h1 ⊢
      rw [← ho]; exact h1
/-- THE REGION: the head in the order of the text, in every later world; the fresh values are letters; then the tail. -/
theorem wp_region_gen {id : Nat} {Q : Exit → Act → World → Prop} {a : Act} {w : World} {l : List Oper} (n : Nat) (K : Kit) (hm : P.follows .mixedOrders = true) (hB : Region.lexTailB .any l.toArray n = true) (hBγ : ∀ γ, Region.lexTailB .any (genL K γ 0 l).toArray n = true)
    (hdep : depB .any l K n = true) (hK : K.Stable) (hV : K.Known)
    (h : ∀ (γ : Nat → Value) (hγ : K.Good γ) (C : World → Prop) (hC : Cond w C) (hne : Nonempty (LatC w C)), wpF P K w γ (fun w' => ∃ p : LatC w C, w' = p.w) l.toArray
      (fun a' => ∀ w', Below w.heap.size w w' → (∀ d, d < n → K.fr d = true → K.Φ d (γ d) w') → wpList P l.toArray Q (l.drop n) a' w') 0 (l.take n) a) :
    (Code.region id l.toArray true).wp P Q a w := by
  simp only [Region.lexTailB, Bool.and_eq_true, decide_eq_true_eq] at hB
  obtain ⟨⟨⟨⟨b1, b2⟩, b3⟩, b4⟩, b5⟩ := hB
  have hn' : n < l.length := by simpa using b2
  have hdl : (l.drop n).length = l.toArray.size - n := by simp
  have htl : (l.take n).length = n := by rw [List.length_take]; omega
  have inv0 : HeadInv .any l.toArray n (Array.replicate l.toArray.size false) :=
    ⟨by simp, fun j oj _ hl => (by rw [getD_replicate_false] at hl; cases hl), fun t _ ht => getD_in (by simpa using ht) (getD_replicate_false _ _)⟩
  refine wp_region_any hm ?_
  have e0 : l.toArray.size = n + (l.toArray.size - n) := by simp; omega
  have KK := gen_any (P := P) (K := K) (md := .any) (l := l) (n := n) (gg := l.toArray.size - n) (w0 := w) (Q' := Q)
    (Lq := fun γ a' => ∀ w', Below w.heap.size w w' → (∀ d, d < n → K.fr d = true → K.Φ d (γ d) w') → wpList P l.toArray Q (l.drop n) a' w')
    hK hV hn' b3 b4 (by simp; omega) hdep (fun γ listed a' w' inv hb hmd hseq hLq => ?_) n (Array.replicate l.toArray.size false) a { w with drawn := w.drawn + 1 } (fun j => Classical.choose (hV.ne j)) (fun j _ => Classical.choose_spec (hV.ne j)) inv0 (below_drawn _)
    (fun d _ _ hl => (by rw [getD_replicate_false] at hl; cases hl)) (fun γ C hgγ hC _ => ?_)
  · rw [← e0] at KK; exact KK
  · have h1 := wpAny_of_seq (P := P) (md := .any) (ops := l.toArray) (Q' := Q) (l.drop n) n listed a' w' (fun j => by simp [List.getElem?_drop]) (by rw [hdl]; exact hseq) (hLq w' hb hmd)
    rwa [hdl] at h1
  · have hBg := hBγ γ
    simp only [Region.lexTailB, Bool.and_eq_true, decide_eq_true_eq] at hBg
    obtain ⟨⟨⟨⟨g1, g2⟩, g3⟩, g4⟩, g5⟩ := hBg
    have hsz : (genL K γ 0 l).toArray.size = l.toArray.size := by rw [List.size_toArray, List.size_toArray, genL_len]
    have hC' : (fun w' => ∃ p : LatC w C, w' = p.w) = C := by funext w'; exact propext (latC_iff hC w')
    have hq := h γ hgγ C hC (by obtain ⟨wC, hwC⟩ := hC.ne; exact ⟨⟨wC, hC.sub _ hwC, hwC⟩⟩)
    rw [hC'] at hq
    replace hq := wpF_ops (ops' := (genL K γ 0 l).toArray) (fun tmps => (gen_yielded K γ l tmps).symm) _ _ _ hq
    have H := head_lexF (P := P) (K := K) (w0 := w) (γ := γ) (md := .any) (l := l) (C := C) (n := n) (gg := l.toArray.size - n) g1 b1 b3 b4 b2 (l.take n) 0 (Array.replicate l.toArray.size false) a (fun j hj => by
      have hj' : j < n := by rw [htl] at hj; exact hj
      simp [hj']) (by simpa using htl) inv0 (by rw [htl]; rw [hsz] at g5; exact g5) (by rw [htl]; exact b5) hq
    rw [htl] at H
    exact H

/-! A kit out of a list. -/
structure FOp where
  j : Nat
  D : List Nat
  S : Value → Prop
  Φ : Value → World → Prop
def Kit.of (L : List FOp) : Kit where
  fr j := L.any fun x => x.j == j
  Φ j := match L.find? (fun x => x.j == j) with
    | some x => x.Φ
    | none => fun _ _ => True
  D j := match L.find? (fun x => x.j == j) with
    | some x => x.D
    | none => []
  S j := match L.find? (fun x => x.j == j) with
    | some x => x.S
    | none => fun _ => True
theorem Kit.of_stable {L : List FOp} (h : ∀ x ∈ L, ∀ v w w', x.Φ v w → Below w.heap.size w w' → x.Φ v w') : (Kit.of L).Stable := fun j v w w' h1 hb => by
  unfold Kit.of at h1 ⊢
  cases hx : L.find? (fun x => x.j == j) with
  | none => simp only [hx]
  | some x =>
    simp only [hx] at h1 ⊢
    exact h x (List.mem_of_find?_eq_some hx) v w w' h1 hb
theorem Kit.of_known {L : List FOp} (h : ∀ x ∈ L, (∀ u w, x.Φ u w → x.S u) ∧ ∃ u, x.S u) : (Kit.of L).Known := by
  refine ⟨fun j u w h1 => ?_, fun j => ?_⟩
  · unfold Kit.of at h1 ⊢
    cases hx : L.find? (fun x => x.j == j) with
    | none => simp only [hx]
    | some x =>
      simp only [hx] at h1 ⊢
      exact (h x (List.mem_of_find?_eq_some hx)).1 u w h1
  · unfold Kit.of
    cases hx : L.find? (fun x => x.j == j) with
    | none => simp only [hx]; exact ⟨undef, trivial⟩
    | some x =>
      simp only [hx]
      exact (h x (List.mem_of_find?_eq_some hx)).2
theorem run_go {P : Program} {f : FuncId} {fn : Func} (hf : P.funcs[f]? = some fn) (hname : (fn.name == "runtime.NumGoroutine") = false) (hb : fn.body.isNone = false) (args : Array Value) (w : World) : (callFunc f args).run P w = .ok (.enter f args) w := by
  have h1 : fn.name ≠ "runtime.NumGoroutine" := by simpa using hname
  have h2 : ¬ fn.body = none := by intro h; rw [h] at hb; cases hb
  simp [callFunc, hf, h1, h2]
/-- A fresh call behind a guard that is met. -/
theorem freshA_call {ops : Array Oper} {j : Nat} {o : Oper} {a : Act} (hg : Region.wanted o (yielded ops a.tmps) = true) (f : FuncId) (xs : Array Operand) (ts : Array TypeId) (hcf : ∀ args w, (callFunc f args).run P w = .ok (.enter f args) w) (ho : o.op = .call { callee := .value (.func f), args := xs, argTypes := ts }) {args : Array Value} (hargs : xs.map a.eval = args)
    (h : ∀ w, Below w0.heap.size w0 w → (∀ d ∈ K.D j, K.Φ d (γ d) w) → Calls P f args w (fun e w' => ∃ v, e = .returned v ∧ (K.Φ j v w' ∧ Below w.heap.size w w'))) : FreshA ops P K w0 γ j o a := by
  subst hargs
  refine ⟨hg, fun w hb hf => ?_⟩
  have : (execOp a.eval o).run P w = .ok (.enter f (xs.map a.eval)) w := by
    simp [execOp, ho, resolve, invoke, Act.eval, Deferred.ofValue, hcf, Result.andThen]
  rw [this]
  exact ⟨rfl, h w hb hf⟩
/-- A fresh call. -/
theorem freshAt_call {j : Nat} {o : Oper} {a : Act} (hg : o.guard = none) (f : FuncId) (xs : Array Operand) (ts : Array TypeId) (hcf : ∀ args w, (callFunc f args).run P w = .ok (.enter f args) w) (ho : o.op = .call { callee := .value (.func f), args := xs, argTypes := ts }) {args : Array Value} (hargs : xs.map a.eval = args)
    (h : ∀ w, Below w0.heap.size w0 w → (∀ d ∈ K.D j, K.Φ d (γ d) w) → Calls P f args w (fun e w' => ∃ v, e = .returned v ∧ (K.Φ j v w' ∧ Below w.heap.size w w'))) : FreshAt P K w0 γ j o a := by
  subst hargs
  refine ⟨hg, fun w hb hf => ?_⟩
  have : (execOp a.eval o).run P w = .ok (.enter f (xs.map a.eval)) w := by
    simp [execOp, ho, resolve, invoke, Act.eval, Deferred.ofValue, hcf, Result.andThen]
  rw [this]
  exact ⟨rfl, h w hb hf⟩
theorem freshAt_alloc {j : Nat} {o : Oper} {a : Act} {T : TypeId} {zs : Array Value} (hg : o.guard = none) (ho : o.op = .alloc T) (hr : AllocRun P T zs) (h : ∀ w g, w0.heap.size ≤ g → Box w g zs T → K.Φ j (.pointer (some ⟨g, 0, none⟩)) w) : FreshAt P K w0 γ j o a := by
  refine ⟨hg, fun w hb hf => ?_⟩
  rw [hr o ho]
  exact ⟨h _ _ hb.size (Box.new _ _ _), below_alloc _ _⟩
end
end

section
open Go.RowKit
set_option linter.unusedVariables false

def fSlice (j : Nat) (D : List Nat) (B : Nat) (cs : Array Value) (T : TypeId) : FOp := ⟨j, D, fun v => ∃ g, v = .slice (some ⟨g, 0, none⟩) 1 1, fun v w => ∃ g, v = .slice (some ⟨g, 0, none⟩) 1 1 ∧ Box w g cs T ∧ B ≤ g⟩
theorem fSlice_st (j : Nat) (D : List Nat) (B : Nat) (cs : Array Value) (T : TypeId) : ∀ u w w', (fSlice j D B cs T).Φ u w → Below w.heap.size w w' → (fSlice j D B cs T).Φ u w' := fun u w w' ⟨g, e, h, hB⟩ hb => ⟨g, e, h.below hb, hB⟩
theorem fSlice_kn (j : Nat) (D : List Nat) (B : Nat) (cs : Array Value) (T : TypeId) : (∀ u w, (fSlice j D B cs T).Φ u w → (fSlice j D B cs T).S u) ∧ ∃ u, (fSlice j D B cs T).S u := ⟨fun u w ⟨g, e, _⟩ => ⟨g, e⟩, _, 0, rfl⟩
section
variable {P : Program} {K : Kit} {w0 : World} {γ : Nat → Value}
theorem freshAt_slice {j : Nat} {o : Oper} {a : Act} {T : TypeId} {cs : Array Value} (hg : o.guard = none) (hr : ∀ w, (execOp a.eval o).run P w = .ok (.value (.slice (some ⟨w.heap.size, 0, none⟩) 1 1)) (w.alloc (.cells cs T)))
    (h : ∀ w g, w0.heap.size ≤ g → Box w g cs T → K.Φ j (.slice (some ⟨g, 0, none⟩) 1 1) w) : FreshAt P K w0 γ j o a := by
  refine ⟨hg, fun w hb hf => ?_⟩
  rw [hr]
  exact ⟨h _ _ hb.size (Box.new _ _ _), below_alloc _ _⟩
end
theorem slice_at {v : Value} {g : Nat} {w : World} {cs : Array Value} {T : TypeId} {B : Nat} (e : v = .slice (some ⟨g, 0, none⟩) 1 1) (h : ∃ g', v = .slice (some ⟨g', 0, none⟩) 1 1 ∧ Box w g' cs T ∧ B ≤ g') : Box w g cs T ∧ B ≤ g := by
  obtain ⟨g', e', h⟩ := h
  rw [e] at e'
  simp at e'
  rw [e']; exact h
theorem newsB {w : World} {g : Nat} {cs : Array Value} {t : TypeId} (h : Box w g cs t) : ∀ j u, cs.toList[j]? = some u → w.cell? ((⟨g, 0, none⟩ : Addr).add j) = some u := by
  intro j u hj
  have hadd : (⟨g, 0, none⟩ : Addr).add j = ⟨g, j, none⟩ := by unfold Addr.add; split <;> simp_all
  rw [hadd]
  exact h.at_ j u (by simpa using hj)
theorem below_grown0 {w w2 w3 : World} {b0 base : Nat} {e : TypeId} {size : Nat} {v : Value} {n : Nat} {xs : List Value} (h : Below b0 w w2) (hs : b0 ≤ w2.heap.size) (hbb : b0 ≤ base) (hown : w2.ownsRow base e size v n xs) (hg : w2.grownBy w3 v.ownBlock) : Below b0 w w3 :=
  h.grown hg hs (fun q hq => Nat.le_trans hbb (own_block hown q hq))
theorem Box.grown0 {w w2 : World} {g base : Nat} {e : TypeId} {size : Nat} {v : Value} {n : Nat} {xs : List Value} {cs : Array Value} {t : TypeId} (h : Box w g cs t) (hown : w.ownsRow base e size v n xs) (hlt : g < base) (hg : w.grownBy w2 v.ownBlock) : Box w2 g cs t :=
  (hg.block g h.lt (fun hq => by have := own_block hown g hq.symm; omega)).trans h
end
end Go.Proofs.YtbgficaboolgiaaGreatDoor
