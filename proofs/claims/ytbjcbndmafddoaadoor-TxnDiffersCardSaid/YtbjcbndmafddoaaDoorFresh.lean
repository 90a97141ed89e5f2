/-
  A region that draws its order and makes variables (alloc) among operations that are values and calls that leave 'Below'; then, last and in their order, stores and the like: walked once, whatever blocks the variables get. No program in sight.
-/
import Derived.Test.YtbjcbndmafddoaaDoorTail
import Derived.Test.YtbjcbndmafddoaaDoorBox
namespace Go.Proofs.YtbjcbndmafddoaaDoor
open Go.RowKit
set_option linter.unusedVariables false
set_option linter.unusedSimpArgs false

/-! A call hands back one value. -/
/-- A caller that stops at once. -/
def deadFrame : Frame := { fn := 0, tmps := #[], todo := [.code (.exit 0)], defers := [], mode := .run, kind := .normal }
theorem dead_finish (v : Value) : deadFrame.finish v = deadFrame := rfl
theorem dead_step (P : Program) (w : World) : ∃ o w', step P (lone deadFrame [] w) = .ended o w' := by
  refine ⟨_, _, step_lone_ended (P := P) (o := .stuck "exit, goto: no such block or label" (deadFrame.pos P)) (w' := w) ?_⟩
  simp [stepG, stepG.exec, deadFrame, exitTo, Frame.roundOf]
theorem runN_add (P : Program) : ∀ (n k : Nat) (m m' : Machine), runN P n m = .next m' → runN P (n + k) m = runN P k m'
  | 0, k, m, m', h => by
    simp only [runN] at h
    injection h with h
    subst h
    rw [Nat.zero_add]
  | n + 1, k, m, m', h => by
    rw [show n + 1 + k = (n + k) + 1 by omega]
    simp only [runN] at h ⊢
    cases hs : step P m with
    | next m1 => rw [hs] at h; simp only at h ⊢; exact runN_add P n k m1 m' h
    | ended o w => rw [hs] at h; cases h
theorem left_once {P : Program} {m : Machine} {fr1 fr2 : Frame} {w1 w2 : World} {v1 v2 : Value} {n k : Nat} (h1 : runN P n m = .next (lone fr1 [deadFrame] w1)) (h2 : runN P (n + k) m = .next (lone fr2 [deadFrame] w2))
    (l1 : fr1.leaving P w1 (.returned v1)) (l2 : fr2.leaving P w2 (.returned v2)) : v1 = v2 := by
  rw [runN_add P n k _ _ h1] at h2
  match k, h2 with
  | 0, h2 =>
    simp only [runN] at h2
    injection h2 with h2
    have e1 : fr1 = fr2 := by have := congrArg (fun m : Machine => m.gs[0]?.map (·.frame)) h2; simpa [lone] using this
    have e2 : w1 = w2 := congrArg (fun m : Machine => m.world) h2
    subst e1 e2
    obtain ⟨_, _, _, fn, hf, hr⟩ := l1
    obtain ⟨_, _, _, fn', hf', hr'⟩ := l2
    have : fn = fn' := Option.some.inj (hf.symm.trans hf')
    subst this
    have := hr.symm.trans hr'
    injection this
  | 1, h2 =>
    simp only [runN, step_leave_returned l1, dead_finish] at h2
    injection h2 with h2
    have := congrArg (fun m : Machine => m.gs[0]?.map (·.callers)) h2
    simp [lone] at this
  | k + 2, h2 =>
    obtain ⟨o, w', hd⟩ := dead_step P w1
    simp only [runN, step_leave_returned l1, dead_finish, hd] at h2
    cases h2
theorem calls_det {P : Program} {f : FuncId} {args : Array Value} {w : World} {v v' : Value} {A B : World → Prop} (h : Calls P f args w fun e w' => e = .returned v ∧ A w') (h' : Calls P f args w fun e w' => e = .returned v' ∧ B w') : v = v' := by
  obtain ⟨e1, w1, fr1, ⟨rfl, _⟩, ⟨n, c1⟩, _, l1⟩ := h [deadFrame]
  obtain ⟨e2, w2, fr2, ⟨rfl, _⟩, ⟨k, c2⟩, _, l2⟩ := h' [deadFrame]
  rcases Nat.le_total n k with hle | hle
  · obtain ⟨d, rfl⟩ := Nat.exists_eq_add_of_le hle
    exact left_once c1 c2 l1 l2
  · obtain ⟨d, rfl⟩ := Nat.exists_eq_add_of_le hle
    exact (left_once c2 c1 l2 l1).symm
theorem quietAt_det {P : Program} {o : Oper} {a : Act} {C C' : World → Prop} {w : World} {v v' : Value} (h : o.quietAt P a C w v) (h' : o.quietAt P a C' w v') : v = v' := by
  unfold Oper.quietAt at h h'
  generalize (execOp a.eval o).run P w = r at *
  cases r with
  | ok n w' =>
    cases n <;> simp only [Oper.quietUpon] at h h'
    case value u => exact h.2.symm.trans h'.2
    case skip => exact h.2.trans h'.2.symm
    case enter f args => exact calls_det h.2 h'.2
  | halt x w' => simp only [Oper.quietUpon] at h
theorem yields_det {P : Program} {ops : Array Oper} {C C' : World → Prop} {o : Oper} {v v' : Value} {a : Act} (h : YieldsIn P ops C o v a) (h' : YieldsIn P ops C' o v' a) {w : World} (hw : C w) (hw' : C' w) : v = v' := by
  rcases h with ⟨_, h⟩ | ⟨h0, rfl⟩
  · rcases h' with ⟨_, h'⟩ | ⟨h1, _⟩
    · exact quietAt_det (h w hw) (h' w hw')
    · simp_all
  · rcases h' with ⟨h1, _⟩ | ⟨_, rfl⟩
    · simp_all
    · rfl

/-! The region with each alloc replaced by the pointer that it will get. -/
def pseO (g : Nat) (o : Oper) : Oper := match o.op with
  | .alloc _ => { o with op := .assign (.const (.pointer (some ⟨g, 0, none⟩))) }
  | _ => o
def pseL (γ : Nat → Nat) : Nat → List Oper → List Oper
  | _, [] => []
  | i, o :: l => pseO (γ i) o :: pseL γ (i + 1) l
theorem pseO_after (g : Nat) (o : Oper) : (pseO g o).after = o.after := by unfold pseO; split <;> rfl
theorem pseO_dst (g : Nat) (o : Oper) : (pseO g o).dst = o.dst := by unfold pseO; split <;> rfl
theorem pseO_guard (g : Nat) (o : Oper) : (pseO g o).guard = o.guard := by unfold pseO; split <;> rfl
theorem pseL_get (γ : Nat → Nat) : ∀ (l : List Oper) (i j : Nat), (pseL γ i l)[j]? = (l[j]?).map (pseO (γ (i + j)))
  | [], i, j => by simp [pseL]
  | o :: l, i, 0 => by simp [pseL]
  | o :: l, i, j + 1 => by
    rw [pseL, List.getElem?_cons_succ, List.getElem?_cons_succ, pseL_get γ l (i + 1) j, show i + 1 + j = i + (j + 1) by omega]
theorem pseL_len (γ : Nat → Nat) : ∀ (l : List Oper) (i : Nat), (pseL γ i l).length = l.length
  | [], i => rfl
  | o :: l, i => by rw [pseL, List.length_cons, List.length_cons, pseL_len γ l]
theorem pse_arr (γ : Nat → Nat) (l : List Oper) (j : Nat) : (pseL γ 0 l).toArray[j]? = (l.toArray[j]?).map (pseO (γ j)) := by
  rw [List.getElem?_toArray, List.getElem?_toArray, pseL_get, Nat.zero_add]
theorem pse_ready (γ : Nat → Nat) (l : List Oper) (md : Region.Mode) (listed : Array Bool) : Region.ready md (pseL γ 0 l).toArray listed = Region.ready md l.toArray listed := by
  unfold Region.ready
  rw [List.size_toArray, List.size_toArray, pseL_len]
  congr 1
  funext i
  rw [pse_arr]
  cases l.toArray[i]? with
  | none => rfl
  | some o => simp only [Option.map_some, pseO_after]
theorem pse_yielded (γ : Nat → Nat) (l : List Oper) (tmps : Array Value) : yielded (pseL γ 0 l).toArray tmps = yielded l.toArray tmps := by
  funext j
  unfold yielded
  rw [pse_arr]
  cases l.toArray[j]? with
  | none => rfl
  | some o => simp only [Option.map_some, Option.bind_some, pseO_dst]

theorem pse_seq (γ : Nat → Nat) (l : List Oper) (md : Region.Mode) : ∀ (g k : Nat) (listed : Array Bool), Region.seqB md (pseL γ 0 l).toArray g k listed = Region.seqB md l.toArray g k listed
  | 0, k, listed => by simp only [Region.seqB, pse_ready]
  | g + 1, k, listed => by simp only [Region.seqB, pse_ready, pse_seq γ l md g]
/-- Operation i makes a variable of type T. -/
def Makes (l : List Oper) (i : Nat) (T : TypeId) : Prop := ∃ o, l[i]? = some o ∧ o.op = .alloc T
theorem pseO_other {g : Nat} {o : Oper} (h : ∀ T, o.op ≠ .alloc T) : pseO g o = o := by
  unfold pseO
  split
  · rename_i T hT; exact absurd hT (h T)
  · rfl

/-- A class of worlds later than w0. -/
structure Cond (w0 : World) (C : World → Prop) : Prop where
  sub : ∀ w, C w → Below w0.heap.size w0 w
  step : ∀ w w', C w → Below w.heap.size w w' → C w'
  ne : ∃ w, C w
theorem Cond.of (w0 w : World) (h : Below w0.heap.size w0 w) : Cond w0 (fun w' => Below w.heap.size w w') :=
  ⟨fun w' h' => h.trans (h'.mono h.size), fun w1 w2 h1 h2 => below_step h1 h2, ⟨w, Below.refl _ _⟩⟩

section
variable {P : Program} {md : Region.Mode} {l : List Oper} {n gg : Nat} {w0 : World} {Z : TypeId → Array Value} {Q' : Exit → Act → World → Prop} {Lq : (Nat → Nat) → Act → Prop}

/-- What is known of the variables made so far. -/
structure Made (l : List Oper) (n : Nat) (Z : TypeId → Array Value) (w0 : World) (γ : Nat → Nat) (listed : Array Bool) (w : World) : Prop where
  box : ∀ i T, i < n → Makes l i T → listed.getD i false = true → Box w (γ i) (Z T) T ∧ w0.heap.size ≤ γ i
  ne : ∀ i j T U, i < n → j < n → Makes l i T → Makes l j U → listed.getD i false = true → listed.getD j false = true → i ≠ j → γ i ≠ γ j

theorem fresh_any (hn : n < l.length) (hs : Region.sinkB md l.toArray n = true) (hc : Region.chainB md l.toArray n = true) (hgg : 0 < gg)
    (hz : ∀ (i : Nat) (T : TypeId) (o : Oper), l[i]? = some o → o.op = .alloc T → o.guard = none ∧ ∀ (a : Act) (w : World), (execOp a.eval o).run P w = .ok (.value (.pointer (some ⟨w.heap.size, 0, none⟩))) (w.alloc (.cells (Z T) T)))
    (hL : ∀ γ listed a w, HeadInv md l.toArray n listed → Below w0.heap.size w0 w → (∀ i T, i < n → Makes l i T → listed.getD i false = true) → Made l n Z w0 γ listed w → Region.seqB md (pseL γ 0 l).toArray gg n listed = true → Lq γ a → wpAny P md l.toArray Q' gg listed a w) :
    ∀ (f : Nat) (listed : Array Bool) (a : Act) (w : World) (γ0 : Nat → Nat), HeadInv md l.toArray n listed → Below w0.heap.size w0 w → Made l n Z w0 γ0 listed w →
      (∀ γ C, Cond w0 C → (∀ i T, i < n → Makes l i T → listed.getD i false = true → γ i = γ0 i) →
        anyHead P md (pseL γ 0 l).toArray C n (fun listed' a' => Region.seqB md (pseL γ 0 l).toArray gg n listed' = true ∧ Lq γ a') f listed a) →
      wpAny P md l.toArray Q' (f + gg) listed a w
  | 0, listed, a, w, γ0, inv, hb, hm, H => by
    have h1 := H γ0 _ (Cond.of w0 w0 (Below.refl _ _)) (fun _ _ _ _ _ => rfl)
    obtain ⟨h1, h2⟩ := h1
    rw [Nat.zero_add]
    refine hL γ0 listed a w inv hb (fun i T hi hi2 => ?_) hm h1 h2
    refine Classical.byContradiction fun hno => ?_
    have hun : listed.getD i true = false := by
      have : listed.getD i false = false := by simpa using hno
      exact getD_in (by rw [inv.size]; simp; omega) this
    obtain ⟨g', rfl⟩ : ∃ g', gg = g' + 1 := ⟨gg - 1, by omega⟩
    simp only [Region.seqB, Bool.and_eq_true, decide_eq_true_eq] at h1
    have hr : n ∈ Region.ready md l.toArray listed := by
      rw [← pse_ready γ0 l md listed, h1.1]; simp
    exact tail_waits hs hc (by simpa using hn) inv _ i rfl hi hun n (Nat.le_refl _) hr
  | f + 1, listed, a, w, γ0, inv, hb, hm, H => by
    have e : f + 1 + gg = (f + gg) + 1 := by omega
    rw [e]
    have H0 := H γ0 _ (Cond.of w0 w0 (Below.refl _ _)) (fun _ _ _ _ _ => rfl)
    refine ⟨fun h0 => absurd h0 (by have := H0.1; rwa [pse_ready] at this), fun i hi => ?_⟩
    have hi' : ∀ γ, i ∈ Region.ready md (pseL γ 0 l).toArray listed := fun γ => by rw [pse_ready]; exact hi
    have hin : i < n := (H0.2 i (hi' γ0)).1
    obtain ⟨hun, o, ho, hall⟩ := mem_ready.1 hi
    have hol : l[i]? = some o := by simpa using ho
    have hsz : i < listed.size := by
      rcases Nat.lt_or_ge i listed.size with h | h
      · exact h
      · rw [inv.size] at h; simp at h; omega
    have hnl : listed.getD i false = false := getD_both hun
    have inv' := inv.set hi hin
    have hset : ∀ j, (listed.setIfInBounds i true).getD j false = true ↔ j = i ∨ listed.getD j false = true := fun j => by
      by_cases hj : i = j
      · subst hj; simp [hsz]
      · rw [getD_set_ne false hj]
        exact ⟨.inr, fun h => h.resolve_left (Ne.symm hj)⟩
    have hpo : ∀ γ, (pseL γ 0 l).toArray[i]? = some (pseO (γ i) o) := fun γ => by rw [pse_arr, ho]; rfl
    by_cases hal : ∃ T, o.op = .alloc T
    · obtain ⟨T, hT⟩ := hal
      obtain ⟨hgd, hrun⟩ := hz i T o hol hT
      have hmk : Makes l i T := ⟨o, hol, hT⟩
      have huniq : ∀ U, Makes l i U → U = T := fun U ⟨o', ho', hU⟩ => by
        have : o' = o := Option.some.inj (ho'.symm.trans hol)
        subst this
        rw [hT] at hU
        injection hU with hU
        exact hU.symm
      unfold wpOp
      simp only [ho]
      rw [if_pos (by unfold Region.wanted; rw [hgd])]
      left
      unfold Oper.wp
      rw [hrun, Oper.upon_value]
      refine fresh_any hn hs hc hgg hz hL f _ _ _ (fun j => if j = i then w.heap.size else γ0 j) inv' (hb.alloc hb.size _) ⟨fun j U hj hU hl => ?_, fun j k U V hj hk hU hV hlj hlk hjk => ?_⟩ (fun γ C hC hγ => ?_)
      · rcases (hset j).1 hl with rfl | hl'
        · rw [if_pos rfl, huniq U hU]
          exact ⟨Box.new _ _ _, hb.size⟩
        · have hji : j ≠ i := fun h => by rw [h, hnl] at hl'; cases hl'
          rw [if_neg hji]
          obtain ⟨b1, b2⟩ := hm.box j U hj hU hl'
          exact ⟨b1.below (below_alloc _ _), b2⟩
      · have key : ∀ m U, m < n → Makes l m U → (listed.setIfInBounds i true).getD m false = true → m ≠ i → γ0 m < w.heap.size := fun m U hm1 hm2 hm3 hm4 =>
          ((hm.box m U hm1 hm2 (((hset m).1 hm3).resolve_left hm4)).1).lt
        by_cases h1 : j = i
        · by_cases h2 : k = i
          · exact absurd (h1.trans h2.symm) hjk
          · rw [if_pos h1, if_neg h2]; exact Nat.ne_of_gt (key k V hk hV hlk h2)
        · by_cases h2 : k = i
          · rw [if_neg h1, if_pos h2]; exact Nat.ne_of_lt (key j U hj hU hlj h1)
          · rw [if_neg h1, if_neg h2]
            exact hm.ne j k U V hj hk hU hV (((hset j).1 hlj).resolve_left h1) (((hset k).1 hlk).resolve_left h2) hjk
      · have hγ1 : γ i = w.heap.size := by rw [hγ i T hin hmk ((hset i).2 (.inl rfl)), if_pos rfl]
        have H1 := H γ C hC (fun j U hj hU hl => by
          have hji : j ≠ i := fun h => by rw [h, hnl] at hl; cases hl
          rw [hγ j U hj hU ((hset j).2 (.inr hl)), if_neg hji])
        obtain ⟨_, hq⟩ := H1.2 i (hi' γ)
        obtain ⟨v, hy, hK⟩ := yieldsIn_of_qOp (hpo γ) hq
        have hv : v = .pointer (some ⟨w.heap.size, 0, none⟩) := by
          obtain ⟨wC, hwC⟩ := hC.ne
          rcases hy with ⟨_, hy⟩ | ⟨h0, _⟩
          · have h2 := hy wC hwC
            unfold Oper.quietAt at h2
            have e1 : (pseO (γ i) o).op = .assign (.const (.pointer (some ⟨γ i, 0, none⟩))) := by unfold pseO; rw [hT]
            rw [show (execOp a.eval (pseO (γ i) o)).run P wC = .ok (.value (.pointer (some ⟨γ i, 0, none⟩))) wC from by simp [execOp, e1, Act.eval]] at h2
            simp only [Oper.quietUpon] at h2
            rw [← h2.2, hγ1]
          · unfold Region.wanted at h0; rw [pseO_guard, hgd] at h0; cases h0
        rw [hv, pseO_dst] at hK
        exact hK
    · have hno : ∀ T, o.op ≠ .alloc T := fun T h => hal ⟨T, h⟩
      have hpo' : ∀ γ, (pseL γ 0 l).toArray[i]? = some o := fun γ => by rw [hpo, pseO_other hno]
      have hnm : ∀ U, ¬ Makes l i U := fun U ⟨o', ho', hU⟩ => by
        have : o' = o := Option.some.inj (ho'.symm.trans hol)
        subst this
        exact hno U hU
      have HW := H γ0 _ (Cond.of w0 w hb) (fun _ _ _ _ _ => rfl)
      obtain ⟨_, hqw⟩ := HW.2 i (hi' γ0)
      obtain ⟨v, hyw, hKw⟩ := yieldsIn_of_qOp (hpo' γ0) hqw
      obtain ⟨_, hq0⟩ := H0.2 i (hi' γ0)
      obtain ⟨v0, hy0, hK0⟩ := yieldsIn_of_qOp (hpo' γ0) hq0
      have ev : v = v0 := yields_det hyw hy0 (Below.refl _ _) hb
      have hyr : YieldsIn P l.toArray (fun w' => Below w.heap.size w w') o v a := by
        rcases hyw with ⟨h1, h2⟩ | ⟨h1, h2⟩
        · exact .inl ⟨by rw [pse_yielded] at h1; exact h1, h2⟩
        · exact .inr ⟨by rw [pse_yielded] at h1; exact h1, h2⟩
      have hqr : qOp P l.toArray (fun w' => Below w.heap.size w w') i (fun a' => a' = a.put o.dst v) a := hyr.qOp ho rfl
      refine wpOp_of_qOp (Below.refl _ _) (fun a' w' hw' ha' => ?_) hqr
      subst ha'
      refine fresh_any hn hs hc hgg hz hL f _ _ _ γ0 inv' (hb.trans (hw'.mono hb.size)) ⟨fun j U hj hU hl => ?_, fun j k U V hj hk hU hV hlj hlk hjk => ?_⟩ (fun γ C hC hγ => ?_)
      · have hji : j ≠ i := fun h => hnm U (h ▸ hU)
        obtain ⟨b1, b2⟩ := hm.box j U hj hU (((hset j).1 hl).resolve_left hji)
        exact ⟨b1.below hw', b2⟩
      · have hji : j ≠ i := fun h => hnm U (h ▸ hU)
        have hki : k ≠ i := fun h => hnm V (h ▸ hV)
        exact hm.ne j k U V hj hk hU hV (((hset j).1 hlj).resolve_left hji) (((hset k).1 hlk).resolve_left hki) hjk
      · have H1 := H γ C hC (fun j U hj hU hl => hγ j U hj hU ((hset j).2 (.inr hl)))
        obtain ⟨_, hq⟩ := H1.2 i (hi' γ)
        obtain ⟨v', hy', hK'⟩ := yieldsIn_of_qOp (hpo' γ) hq
        obtain ⟨wC, hwC⟩ := hC.ne
        have hy0' : YieldsIn P (pseL γ 0 l).toArray (fun w' => Below w0.heap.size w0 w') o v0 a := by
          rcases hy0 with ⟨h1, h2⟩ | ⟨h1, h2⟩
          · exact .inl ⟨by rw [pse_yielded] at h1 ⊢; exact h1, h2⟩
          · exact .inr ⟨by rw [pse_yielded] at h1 ⊢; exact h1, h2⟩
        have ev' : v' = v0 := yields_det hy' hy0' hwC (hC.sub _ hwC)
        rw [ev', ← ev] at hK'
        exact hK'

/-- How a variable of type T is made. -/
def AllocRun (P : Program) (T : TypeId) (zs : Array Value) : Prop := ∀ (o : Oper), o.op = .alloc T → ∀ (a : Act) (w : World), (execOp a.eval o).run P w = .ok (.value (.pointer (some ⟨w.heap.size, 0, none⟩))) (w.alloc (.cells zs T))
def AllocOk (P : Program) (Z : TypeId → Array Value) (o : Oper) : Prop := match o.op with
  | .alloc T => o.guard = none ∧ AllocRun P T (Z T)
  | _ => True
theorem allocs_ok {P : Program} {Z : TypeId → Array Value} {l : List Oper} (h : ∀ o ∈ l, AllocOk P Z o) (i : Nat) (T : TypeId) (o : Oper) (ho : l[i]? = some o) (hT : o.op = .alloc T) :
    o.guard = none ∧ ∀ (a : Act) (w : World), (execOp a.eval o).run P w = .ok (.value (.pointer (some ⟨w.heap.size, 0, none⟩))) (w.alloc (.cells (Z T) T)) := by
  have h1 := h o (List.mem_of_getElem? ho)
  unfold AllocOk at h1
  rw [hT] at h1
  exact ⟨h1.1, h1.2 o hT⟩
/-- A world of a class. -/
structure LatC (w0 : World) (C : World → Prop) where
  w : World
  h : Below w0.heap.size w0 w
  c : C w
theorem latC_iff {w0 : World} {C : World → Prop} (hC : Cond w0 C) (w' : World) : (∃ p : LatC w0 C, w' = p.w) ↔ C w' := ⟨fun ⟨p, h⟩ => h ▸ p.c, fun h => ⟨⟨w', hC.sub _ h, h⟩, rfl⟩⟩
theorem latC_call {P : Program} {f : FuncId} {args : Array Value} {w0 : World} {C : World → Prop} (hC : Cond w0 C) {p : LatC w0 C} {v : Value} (h : Calls P f args p.w fun e w' => e = .returned v ∧ Below p.w.heap.size p.w w') :
    Calls P f args p.w fun e w'' => e = .returned v ∧ ∃ q : LatC w0 C, w'' = q.w :=
  h.mono fun _ _ ⟨he, hb⟩ => ⟨he, ⟨_, p.h.trans (hb.mono p.h.size), hC.step _ _ p.c hb⟩, rfl⟩
theorem latC_same {P : Program} {f : FuncId} {args : Array Value} {w0 : World} {C : World → Prop} {p : LatC w0 C} {v : Value} (h : Calls P f args p.w fun e w' => e = .returned v ∧ p.w = w') :
    Calls P f args p.w fun e w'' => e = .returned v ∧ ∃ q : LatC w0 C, w'' = q.w :=
  h.mono fun _ _ ⟨he, hb⟩ => ⟨he, p, hb.symm⟩
theorem latC_drew {P : Program} {f : FuncId} {args : Array Value} {w0 : World} {C : World → Prop} (hC : Cond w0 C) {p : LatC w0 C} {v : Value} (h : Calls P f args p.w fun e w' => e = .returned v ∧ ∃ n, w' = p.w.drewN n) :
    Calls P f args p.w fun e w'' => e = .returned v ∧ ∃ q : LatC w0 C, w'' = q.w :=
  latC_call hC (h.mono fun _ _ ⟨he, n, hb⟩ => ⟨he, hb ▸ below_drewN (Below.refl _ _) n⟩)
theorem Box.latC {w : World} {C : World → Prop} {g : Nat} {t : TypeId} {cs : Array Value} (h : Box w g cs t) (i : Nat) (v : Value) (hv : cs[i]? = some v) : ∀ p : LatC w C, p.w.cell? ⟨g, i, none⟩ = some v := fun p => by
  rw [(h.below p.h).cell i, hv]

/-- THE REGION: the head in the order of the text, in every later world; each variable that it makes is a block of its own; then the tail. -/
theorem wp_region_fresh {id : Nat} {Q : Exit → Act → World → Prop} {a : Act} {w : World} {l : List Oper} (n : Nat) (Z : TypeId → Array Value) (hm : P.follows .mixedOrders = true) (hB : ∀ γ, Region.lexTailB .any (pseL γ 0 l).toArray n = true)
    (hs : Region.sinkB .any l.toArray n = true) (hc : Region.chainB .any l.toArray n = true)
    (hz : ∀ (i : Nat) (T : TypeId) (o : Oper), l[i]? = some o → o.op = .alloc T → o.guard = none ∧ ∀ (a : Act) (w : World), (execOp a.eval o).run P w = .ok (.value (.pointer (some ⟨w.heap.size, 0, none⟩))) (w.alloc (.cells (Z T) T)))
    (h : ∀ (γ : Nat → Nat) (C : World → Prop) (hC : Cond w C) (hne : Nonempty (LatC w C)), wpQuiet P (pseL γ 0 l).toArray (fun w' => ∃ p : LatC w C, w' = p.w)
      (fun a' => ∀ w', Below w.heap.size w w' → (∀ (i : Nat) (T : TypeId), i < n → Makes l i T → Box w' (γ i) (Z T) T ∧ w.heap.size ≤ γ i) → (∀ (i j : Nat) (T U : TypeId), i < n → j < n → Makes l i T → Makes l j U → i ≠ j → γ i ≠ γ j) → wpList P l.toArray Q (l.drop n) a' w') ((pseL γ 0 l).take n) a) :
    (Code.region id l.toArray true).wp P Q a w := by
  have hB0 := hB (fun _ => 0)
  simp only [Region.lexTailB, Bool.and_eq_true, decide_eq_true_eq] at hB0
  have hn' : n < l.length := by have := hB0.1.1.1.2; rw [List.size_toArray, pseL_len] at this; exact this
  have hdl : (l.drop n).length = l.toArray.size - n := by simp
  have inv0 : HeadInv .any l.toArray n (Array.replicate l.toArray.size false) :=
    ⟨by simp, fun j oj _ hl => (by rw [getD_replicate_false] at hl; cases hl), fun t _ ht => getD_in (by simpa using ht) (getD_replicate_false _ _)⟩
  refine wp_region_any hm ?_
  have e0 : l.toArray.size = n + (l.toArray.size - n) := by simp; omega
  have K := fresh_any (P := P) (md := .any) (l := l) (n := n) (gg := l.toArray.size - n) (w0 := w) (Z := Z) (Q' := Q)
    (Lq := fun γ a' => ∀ w', Below w.heap.size w w' → (∀ (i : Nat) (T : TypeId), i < n → Makes l i T → Box w' (γ i) (Z T) T ∧ w.heap.size ≤ γ i) → (∀ (i j : Nat) (T U : TypeId), i < n → j < n → Makes l i T → Makes l j U → i ≠ j → γ i ≠ γ j) → wpList P l.toArray Q (l.drop n) a' w')
    hn' hs hc (by simp; omega) hz (fun γ listed a' w' inv hb hall hmd hseq hLq => ?_) n (Array.replicate l.toArray.size false) a { w with drawn := w.drawn + 1 } (fun _ => 0) inv0 (below_drawn _)
    ⟨fun i T _ _ hl => (by rw [getD_replicate_false] at hl; cases hl), fun i j T U _ _ _ _ hl _ _ => (by rw [getD_replicate_false] at hl; cases hl)⟩ (fun γ C hC _ => ?_)
  · rw [← e0] at K; exact K
  · rw [pse_seq] at hseq
    have h1 := wpAny_of_seq (P := P) (md := .any) (ops := l.toArray) (Q' := Q) (l.drop n) n listed a' w' (fun j => by simp [List.getElem?_drop]) (by rw [hdl]; exact hseq)
      (hLq w' hb (fun i T hi hT => hmd.box i T hi hT (hall i T hi hT)) (fun i j T U hi hj hT hU hij => hmd.ne i j T U hi hj hT hU (hall i T hi hT) (hall j U hj hU) hij))
    rwa [hdl] at h1
  · have hBγ := hB γ
    simp only [Region.lexTailB, Bool.and_eq_true, decide_eq_true_eq] at hBγ
    obtain ⟨⟨⟨⟨g1, g2⟩, g3⟩, g4⟩, g5⟩ := hBγ
    have hsz : (pseL γ 0 l).toArray.size = l.toArray.size := by rw [List.size_toArray, List.size_toArray, pseL_len]
    have htl : ((pseL γ 0 l).take n).length = n := by rw [List.length_take, pseL_len]; omega
    have invγ : HeadInv .any (pseL γ 0 l).toArray n (Array.replicate l.toArray.size false) :=
      ⟨by rw [hsz]; simp, fun j oj _ hl => (by rw [getD_replicate_false] at hl; cases hl), fun t _ ht => getD_in (by rw [hsz] at ht; simpa using ht) (getD_replicate_false _ _)⟩
    have hC' : (fun w' => ∃ p : LatC w C, w' = p.w) = C := by funext w'; exact propext (latC_iff hC w')
    have hq := h γ C hC (by obtain ⟨wC, hwC⟩ := hC.ne; exact ⟨⟨wC, hC.sub _ hwC, hwC⟩⟩)
    rw [hC'] at hq
    have H := head_lex (P := P) (md := .any) (ops := (pseL γ 0 l).toArray) (C := C) (n := n) (g := l.toArray.size - n) g1 g3 g4 (by rw [hsz]; simpa using hn') ((pseL γ 0 l).take n) 0 (Array.replicate l.toArray.size false) a (fun j hj => by
      have hj' : j < n := by rw [htl] at hj; exact hj
      simp [hj']) (by simpa using htl) invγ (by rw [htl]; rw [hsz] at g5; exact g5) hq
    rw [htl] at H
    exact H
end

end Go.Proofs.YtbjcbndmafddoaaDoor
