/-
  A run of valid transactions with the key is clean exactly if the streams agree. No program in sight.
-/
import Derived.Test.YtldafnjbgjagiaaDoorBrdS
namespace Go.Proofs.YtldafnjbgjagiaaDoor
open Go.RowKit
set_option linter.unusedVariables false
set_option linter.unusedSimpArgs false

theorem ask_fine {b : Bd} {u : Tx} (hok : OkB b) (hv : tv u = true) (hk : kyB b u = true) : askT b u = 0 := by
  unfold askT; rw [okb_iff.2 hok, hv, hk]; simp
theorem exp_oneK {b : Bd} {u : Tx} (hok : OkB b) (hv : tv u = true) (hk : kyB b u = true) (hl : b.want.length < 1024) : expS b u = { b with want := b.want ++ [u] } := by
  unfold expS expT
  rw [ask_fine hok hv hk]; simp [show ¬ 1024 ≤ b.want.length by omega]
theorem exp_foldK : ∀ (ws : List Tx) (b : Bd), OkB b → (∀ t ∈ ws, tv t = true ∧ kyB b t = true) → b.want.length + ws.length ≤ 1024 → ws.foldl expS b = { b with want := b.want ++ ws }
  | [], b, hok, ht, hl => by simp
  | u :: ws, b, hok, ht, hl => by
    simp only [List.length_cons] at hl
    have h1 := exp_oneK hok (ht u List.mem_cons_self).1 (ht u List.mem_cons_self).2 (by omega)
    have hok2 := exp_ok (t := u) hok
    rw [List.foldl_cons, h1]
    rw [h1] at hok2
    rw [exp_foldK ws _ hok2 (fun t h => ht t (List.mem_cons_of_mem _ h)) (by simp; omega)]
    simp
theorem obs_two {b : Bd} {u : Tx} (hok : OkB b) (hv : tv u = true) (hk : kyB b u = true) (hl : b.wrg.length < 1024) (hm : b.mat < 1099511627776) : obsS b u = if atN b u < b.want.length then
    (if b.want.getD (atN b u) tx0 = u then { b with mat := b.mat + 1, want := b.want.eraseIdx (atN b u) } else { b with wrg := b.wrg ++ [lineT sMis (numB b)], want := b.want.eraseIdx (atN b u) })
    else { b with wrg := b.wrg ++ [lineT sExtra (numB b)] } := by
  have ha := ask_fine hok hv hk
  have hT : obsT b u = ((if atN b u < b.want.length then
    (if b.want.getD (atN b u) tx0 = u then { b with mat := b.mat + 1, want := b.want.eraseIdx (atN b u) } else { b with wrg := b.wrg ++ [lineT sMis (numB b)], want := b.want.eraseIdx (atN b u) })
    else { b with wrg := b.wrg ++ [lineT sExtra (numB b)] }), 0) := by
    unfold obsT
    rw [if_neg (fun h => h ha), if_neg (by omega)]
    split
    · split <;> rfl
    · rfl
  unfold obsS
  rw [hT]
  exact if_pos rfl
theorem cut_hit {α : Type} (p : α → Bool) (d : α) : ∀ l : List α, l.findIdx p < l.length → l.filter p = l.getD (l.findIdx p) d :: (l.eraseIdx (l.findIdx p)).filter p ∧ p (l.getD (l.findIdx p) d) = true ∧ ∀ q : α → Bool, (∀ x, p x = true → q x = false) → l.filter q = (l.eraseIdx (l.findIdx p)).filter q
  | [], h => by simp at h
  | x :: l, h => by
    rw [List.findIdx_cons] at h ⊢
    cases hx : p x
    · rw [hx] at h
      simp only [cond_false, List.length_cons, Nat.add_lt_add_iff_right] at h
      obtain ⟨i1, i2, i3⟩ := cut_hit p d l h
      simp only [cond_false, List.eraseIdx_cons_succ, List.getD_cons_succ, List.filter_cons, hx, Bool.false_eq_true, if_false]
      refine ⟨i1, i2, fun q hq => ?_⟩
      rw [← i3 q hq]
    · simp only [cond_true, List.eraseIdx_cons_zero, List.getD_cons_zero, List.filter_cons, hx, if_true]
      refine ⟨trivial, trivial, fun q hq => ?_⟩
      rw [hq x hx]; simp
theorem no_hit {α : Type} (p : α → Bool) (l : List α) (h : ¬ l.findIdx p < l.length) : l.filter p = [] := by
  rw [List.filter_eq_nil_iff]
  intro x hx hp
  exact h (List.findIdx_lt_length_of_exists ⟨x, hx, hp⟩)
theorem wrg_grow (b : Bd) (u : Tx) : b.wrg.length ≤ (obsS b u).wrg.length := by
  unfold obsS
  split
  · rename_i h
    unfold obsT at h ⊢
    split
    · rename_i h1; rw [if_pos h1] at h; exact absurd h h1
    · split
      · rename_i h1 h2; rw [if_neg h1, if_pos h2] at h; cases h
      · split
        · split <;> simp
        · simp
  · exact Nat.le_refl _
theorem wrg_fold : ∀ (gs : List Tx) (b : Bd), b.wrg.length ≤ (gs.foldl obsS b).wrg.length
  | [], b => Nat.le_refl _
  | u :: gs, b => Nat.le_trans (wrg_grow b u) (wrg_fold gs (obsS b u))
theorem wrg_stays (gs : List Tx) (b : Bd) (h : 0 < b.wrg.length) : (gs.foldl obsS b).wrg ≠ [] := fun e => by
  have := wrg_fold gs b
  rw [e] at this
  simp at this
  rw [this] at h
  simp at h
theorem hit_self (b : Bd) (u : Tx) : hitB b (gt u b.key).1 u = true := by unfold hitB; simp
/-- The values of two transactions that hit the same place. -/
theorem hit_eq {b : Bd} {u : Tx} {v : Int} (h : hitB b v u = true) : hitB b v = hitB b (gt u b.key).1 := by
  funext x
  unfold hitB at h ⊢
  cases ho : b.ord
  · rw [ho] at h
    have : (gt u b.key).1 = v := by simpa using h
    rw [this]
  · rfl
theorem hit_ne {b : Bd} {u : Tx} {v : Int} (h : hitB b v u = false) : ∀ x, hitB b (gt u b.key).1 x = true → hitB b v x = false := fun x hx => by
  unfold hitB at h hx ⊢
  simp only [Bool.or_eq_false_iff, decide_eq_false_iff_not, Bool.or_eq_true, decide_eq_true_eq] at h hx ⊢
  rcases hx with hx | hx
  · rw [h.1] at hx; cases hx
  · exact ⟨h.1, by rw [hx]; exact h.2⟩
theorem run_clean : ∀ (gs : List Tx) (b : Bd), OkB b → (∀ t ∈ gs, tv t = true ∧ kyB b t = true) → b.wrg = [] → b.mat + gs.length ≤ 1000 →
    (((gs.foldl obsS b).wrg = [] ∧ (gs.foldl obsS b).want = []) ↔ ∀ v, b.want.filter (hitB b v) = gs.filter (hitB b v)) ∧
    ((gs.foldl obsS b).wrg = [] → (gs.foldl obsS b).want = [] → (gs.foldl obsS b).mat = b.mat + b.want.length)
  | [], b, hok, ht, hw, hm => by
    simp only [List.foldl_nil, List.filter_nil]
    refine ⟨⟨fun h v => by rw [h.2]; rfl, fun h => ⟨hw, ?_⟩⟩, fun _ h => by rw [h]; simp⟩
    cases hx : b.want with
    | nil => rfl
    | cons x l =>
      have := h (gt x b.key).1
      rw [hx, List.filter_cons, hit_self] at this
      simp at this
  | u :: gs, b, hok, ht, hw, hm => by
    simp only [List.length_cons] at hm
    have e1 := obs_two (u := u) hok (ht u List.mem_cons_self).1 (ht u List.mem_cons_self).2 (by rw [hw]; simp) (by omega)
    have ok1 := obs_ok (t := u) hok
    rw [List.foldl_cons]
    have hbad : 0 < (obsS b u).wrg.length → (∃ v, b.want.filter (hitB b v) ≠ (u :: gs).filter (hitB b v)) → ((((gs.foldl obsS (obsS b u)).wrg = [] ∧ (gs.foldl obsS (obsS b u)).want = []) ↔ ∀ v, b.want.filter (hitB b v) = (u :: gs).filter (hitB b v)) ∧
      ((gs.foldl obsS (obsS b u)).wrg = [] → (gs.foldl obsS (obsS b u)).want = [] → (gs.foldl obsS (obsS b u)).mat = b.mat + b.want.length)) := fun h0 ⟨v, hv⟩ =>
      ⟨⟨fun h => absurd h.1 (wrg_stays gs _ h0), fun h => absurd (h v) hv⟩, fun h _ => absurd h (wrg_stays gs _ h0)⟩
    by_cases hi : atN b u < b.want.length
    · rw [if_pos hi] at e1
      obtain ⟨c1, c2, c3⟩ := cut_hit (hitB b (gt u b.key).1) tx0 b.want hi
      change b.want.filter _ = b.want.getD (atN b u) tx0 :: (b.want.eraseIdx (atN b u)).filter _ at c1
      change ∀ q : Tx → Bool, _ → b.want.filter q = (b.want.eraseIdx (atN b u)).filter q at c3
      by_cases hx : b.want.getD (atN b u) tx0 = u
      · rw [if_pos hx] at e1
        rw [e1] at ok1 ⊢
        obtain ⟨i1, i2⟩ := run_clean gs _ ok1 (fun t h => ht t (List.mem_cons_of_mem _ h)) hw (by simp; omega)
        refine ⟨i1.trans ⟨fun h v => ?_, fun h v => ?_⟩, fun h1 h2 => ?_⟩
        · have hv := h v
          change (b.want.eraseIdx (atN b u)).filter (hitB b v) = gs.filter (hitB b v) at hv
          cases hu : hitB b v u
          · rw [List.filter_cons, hu, c3 _ (hit_ne hu), hv]; simp
          · rw [List.filter_cons, hu, ← hv, hit_eq hu, c1, hx]; simp
        · have hv := h v
          change (b.want.eraseIdx (atN b u)).filter (hitB b v) = gs.filter (hitB b v)
          cases hu : hitB b v u
          · rw [List.filter_cons, hu, c3 _ (hit_ne hu)] at hv; simpa using hv
          · rw [List.filter_cons, hu, hit_eq hu, c1, hx] at hv
            rw [hit_eq hu]
            simpa using hv
        · rw [i2 h1 h2]
          simp only [List.length_eraseIdx, if_pos hi]
          omega
      · rw [if_neg hx] at e1
        refine hbad (by rw [e1]; simp) ⟨(gt u b.key).1, ?_⟩
        rw [c1, List.filter_cons, hit_self]
        intro h
        simp only [if_true, List.cons.injEq] at h
        exact hx h.1
    · rw [if_neg hi] at e1
      refine hbad (by rw [e1]; simp) ⟨(gt u b.key).1, ?_⟩
      rw [no_hit _ _ hi, List.filter_cons, hit_self]
      simp
def withT (l : List Tx) (s : ByteArray) (v : Int) : List Tx := l.filter fun t => decide ((gt t s).1 = v)
def likeT (s : ByteArray) (ws gs : List Tx) (t : Tx) : Bool := decide (withT ws s (gt t s).1 = withT gs s (gt t s).1)
def sameW (o : Bool) (s : ByteArray) (ws gs : List Tx) : Bool := if o then decide (ws = gs) else (ws ++ gs).all (likeT s ws gs)
/-- Whether a transaction is valid and has the key, if it is asked for. -/
def fitT (o : Bool) (s : ByteArray) (t : Tx) : Bool := tv t && ((gt t s).2 || o)
theorem like_all (s : ByteArray) (ws gs : List Tx) : (ws ++ gs).all (likeT s ws gs) = true ↔ ∀ v, withT ws s v = withT gs s v := by
  rw [List.all_eq_true]
  refine ⟨fun h v => ?_, fun h t _ => by unfold likeT; exact decide_eq_true (h _)⟩
  have hne : ∀ l : List Tx, (∀ x ∈ l, x ∈ ws ++ gs) → withT l s v ≠ [] → withT ws s v = withT gs s v := fun l hl hn => by
    obtain ⟨x, hx⟩ := List.exists_mem_of_ne_nil _ hn
    obtain ⟨hx1, hx2⟩ := List.mem_filter.1 hx
    have hx3 : (gt x s).1 = v := by simpa using hx2
    have := h x (hl x hx1)
    unfold likeT at this
    rw [hx3] at this
    simpa using this
  by_cases h1 : withT ws s v = []
  · by_cases h2 : withT gs s v = []
    · rw [h1, h2]
    · exact hne gs (fun x hx => List.mem_append_right _ hx) h2
  · exact hne ws (fun x hx => List.mem_append_left _ hx) h1
/-- The plain law of BoardExact. -/
theorem exact_law (o : Bool) (s : ByteArray) (ws gs : List Tx) (hw : ws.length ≤ 40) (hg : gs.length ≤ 40) (hf : ∀ t ∈ ws ++ gs, fitT o s t = true) :
    cleanB (runT o s ws gs) = sameW o s ws gs ∧ (sameW o s ws gs = true → (runT o s ws gs).mat = ws.length) := by
  have hf2 : ∀ t ∈ ws ++ gs, tv t = true ∧ kyB ⟨o, s, ws, 0, []⟩ t = true := fun t h => by
    have := hf t h
    unfold fitT at this
    unfold kyB
    simp only [Bool.and_eq_true, Bool.or_eq_true] at this ⊢
    exact ⟨this.1, this.2.symm⟩
  have e1 := exp_foldK ws ⟨o, s, [], 0, []⟩ (new_ok _ _) (fun t h => hf2 t (List.mem_append_left _ h)) (by simp; omega)
  have ok1 := fold_exp_ok (l := ws) (new_ok o s)
  simp only [List.nil_append] at e1
  rw [e1] at ok1
  obtain ⟨i1, i2⟩ := run_clean gs _ ok1 (fun t h => hf2 t (List.mem_append_right _ h)) rfl (by simp; omega)
  have ok2 := fold_obs_ok (l := gs) ok1
  have key : (∀ v, ws.filter (hitB ⟨o, s, ws, 0, []⟩ v) = gs.filter (hitB ⟨o, s, ws, 0, []⟩ v)) ↔ sameW o s ws gs = true := by
    unfold sameW
    cases o
    · rw [if_neg (by decide), like_all]
      have e : ∀ (v : Int) (l : List Tx), l.filter (hitB ⟨false, s, ws, 0, []⟩ v) = withT l s v := fun v l => by
        unfold withT
        congr 1
      exact ⟨fun h v => by have := h v; rwa [e, e] at this, fun h v => by rw [e, e]; exact h v⟩
    · rw [if_pos rfl, decide_eq_true_iff]
      have e : ∀ (v : Int) (l : List Tx), l.filter (hitB ⟨true, s, ws, 0, []⟩ v) = l := fun v l => by
        rw [List.filter_eq_self]; intro x _; rfl
      exact ⟨fun h => by have := h 0; rwa [e, e] at this, fun h v => by rw [e, e, h]⟩
  unfold runT
  rw [e1]
  generalize gs.foldl obsS ⟨o, s, ws, 0, []⟩ = fb at *
  have f1 : finT fb = { fb with want := [], wrg := lossK fb fb.want.length } := by unfold finT; rw [if_neg (by rw [okb_iff.2 ok2]; decide)]
  have hcl : cleanB (finT fb) = true ↔ (fb.wrg = [] ∧ fb.want = []) := by
    unfold cleanB
    rw [f1]
    simp only [List.length_nil, decide_true, Bool.true_and, decide_eq_true_eq, loss_len]
    constructor
    · intro h
      exact ⟨List.length_eq_zero_iff.1 (by omega), List.length_eq_zero_iff.1 (by omega)⟩
    · rintro ⟨h1, h2⟩
      rw [h1, h2]; rfl
  have hiff := hcl.trans (i1.trans key)
  refine ⟨?_, fun h => ?_⟩
  · cases hc : cleanB (finT fb) <;> cases hs : sameW o s ws gs <;> simp_all
  · obtain ⟨a1, a2⟩ := hcl.1 (hiff.2 h)
    have := i2 a1 a2
    rw [f1]
    simpa using this

end Go.Proofs.YtldafnjbgjagiaaDoor
