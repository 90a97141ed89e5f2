/-
  Two ordered runs side by side: the same transaction in front of both streams. No program in sight.
-/
import Derived.Test.YtldafnjbgjagiaaDoorBrdG
namespace Go.Proofs.YtldafnjbgjagiaaDoor
open Go.RowKit
set_option linter.unusedVariables false
set_option linter.unusedSimpArgs false

theorem exp_one {b : Bd} {u : Tx} (hok : OkB b) (ho : b.ord = true) (hl : b.want.length < 1024) : expS b u = if tv u then { b with want := b.want ++ [u] } else b := by
  unfold expS expT
  rcases ask_ways b u with ⟨h, ha⟩ | ⟨h, h2, ha⟩ | ⟨h, h2, h3, ha⟩ | ⟨h, h2, h3, ha⟩
  · rw [okb_iff.2 hok] at h; cases h
  · rw [ha, h2]; simp
  · unfold kyB at h3; rw [ho] at h3; simp at h3
  · rw [ha, h2]; simp [show ¬ 1024 ≤ b.want.length by omega]
theorem exp_fold : ∀ (ws : List Tx) (b : Bd), OkB b → b.ord = true → b.want.length + ws.length ≤ 1024 → ws.foldl expS b = { b with want := b.want ++ ws.filter tv }
  | [], b, hok, ho, hl => by simp
  | u :: ws, b, hok, ho, hl => by
    simp only [List.length_cons] at hl
    have h1 := exp_one (u := u) hok ho (by omega)
    have hok2 := exp_ok (t := u) hok
    rw [List.foldl_cons, h1]
    rw [h1] at hok2
    cases hv : tv u
    · simp only [hv, Bool.false_eq_true, if_false] at hok2 ⊢
      rw [exp_fold ws b hok2 ho (by omega), List.filter_cons, hv]
      simp
    · simp only [hv, if_true] at hok2 ⊢
      rw [exp_fold ws _ hok2 ho (by simp; omega), List.filter_cons, hv]
      simp
theorem at_zero {b : Bd} {u : Tx} (ho : b.ord = true) : atN b u = 0 := by
  unfold atN
  cases h : b.want with
  | nil => rfl
  | cons x l => simp [List.findIdx_cons, hitB, ho]
/-- What one ordered observation does. -/
theorem obs_one {b : Bd} {u : Tx} (hok : OkB b) (ho : b.ord = true) (hl : b.wrg.length < 1024) (hm : b.mat < 1099511627776) : obsS b u = if tv u then
    (match b.want with
    | [] => { b with wrg := b.wrg ++ [lineT sExtra (numB b)] }
    | x :: l => if x = u then { b with mat := b.mat + 1, want := l } else { b with wrg := b.wrg ++ [lineT sMis (numB b)], want := l }) else b := by
  unfold obsS
  have hn : ¬ (1024 ≤ b.wrg.length ∨ 1099511627776 ≤ b.mat) := by omega
  rcases ask_ways b u with ⟨h, ha⟩ | ⟨h, h2, ha⟩ | ⟨h, h2, h3, ha⟩ | ⟨h, h2, h3, ha⟩
  · rw [okb_iff.2 hok] at h; cases h
  · have hT : obsT b u = (bd0, 1) := by unfold obsT; rw [if_pos (by rw [ha]; decide), ha]
    rw [hT, h2]; simp
  · unfold kyB at h3; rw [ho] at h3; simp at h3
  · cases hw : b.want with
    | nil =>
      have hT : obsT b u = ({ b with wrg := b.wrg ++ [lineT sExtra (numB b)] }, 0) := by unfold obsT; rw [if_neg (fun h => h ha), if_neg hn, at_zero ho, hw]; rfl
      rw [hT, h2]; simp [hw]
    | cons x l =>
      by_cases hx : x = u
      · have hT : obsT b u = ({ b with mat := b.mat + 1, want := l }, 0) := by unfold obsT; rw [if_neg (fun h => h ha), if_neg hn, at_zero ho, hw, if_pos (by simp), if_pos (by simpa using hx)]; rfl
        rw [hT, h2]; simp [hx]
      · have hT : obsT b u = ({ b with wrg := b.wrg ++ [lineT sMis (numB b)], want := l }, 0) := by unfold obsT; rw [if_neg (fun h => h ha), if_neg hn, at_zero ho, hw, if_pos (by simp), if_neg (by simpa using hx)]; rfl
        rw [hT, h2]; simp [hx]
/-- A text and the same with the next number. -/
def Up (x y : ByteArray) : Prop := ∃ (c : Bool) (n : Nat), n < 200 ∧ x = lineT (if c then sMis else sExtra) n ∧ y = lineT (if c then sMis else sExtra) ((n + 1 : Nat) : Int)
/-- Two boards side by side. -/
structure Side (m : Nat) (b b' : Bd) : Prop where
  ok : OkB b
  ok' : OkB b'
  o : b.ord = true
  o' : b'.ord = true
  k : b'.key = b.key
  w : b'.want = b.want
  mt : b'.mat = b.mat + 1
  l : b'.wrg.length = b.wrg.length
  up : ∀ i, i < b.wrg.length → Up (b.wrg.getD i ⟨#[]⟩) (b'.wrg.getD i ⟨#[]⟩)
  bd : numB b + m ≤ 199
theorem up_snoc {xs ys : List ByteArray} {x y : ByteArray} (hl : ys.length = xs.length) (h : ∀ i, i < xs.length → Up (xs.getD i ⟨#[]⟩) (ys.getD i ⟨#[]⟩)) (hu : Up x y) : ∀ i, i < (xs ++ [x]).length → Up ((xs ++ [x]).getD i ⟨#[]⟩) ((ys ++ [y]).getD i ⟨#[]⟩) := fun i hi => by
  simp only [List.length_append, List.length_cons, List.length_nil] at hi
  simp only [List.getD_eq_getElem?_getD] at *
  by_cases h1 : i < xs.length
  · rw [List.getElem?_append_left h1, List.getElem?_append_left (by omega)]; exact h i h1
  · have h2 : i = xs.length := by omega
    subst h2
    rw [List.getElem?_append_right (Nat.le_refl _), List.getElem?_append_right (by omega), hl, Nat.sub_self]
    exact hu
theorem side_step {m : Nat} {b b' : Bd} (u : Tx) (h : Side (m + 1) b b') : Side m (obsS b u) (obsS b' u) := by
  have k1 := h.ok.2.2.1
  have hbd := h.bd
  have hmt := h.mt
  have hl := h.l
  unfold numB at hbd
  have ok1 := obs_ok (t := u) h.ok
  have ok2 := obs_ok (t := u) h.ok'
  have e1 := obs_one (u := u) h.ok h.o (by omega) (by omega)
  have e2 := obs_one (u := u) h.ok' h.o' (by omega) (by omega)
  have hn : numB b' = numB b + 1 := by unfold numB; omega
  obtain ⟨n, hnn⟩ : ∃ n : Nat, numB b = n := ⟨(numB b).toNat, by unfold numB; omega⟩
  have hn2 : n < 200 := by unfold numB at hnn; omega
  have upx : Up (lineT sExtra (numB b)) (lineT sExtra (numB b')) := ⟨false, n, hn2, by rw [hnn]; rfl, by rw [hn, hnn]; rfl⟩
  have upm : Up (lineT sMis (numB b)) (lineT sMis (numB b')) := ⟨true, n, hn2, by rw [hnn]; rfl, by rw [hn, hnn]; rfl⟩
  rw [h.w] at e2
  have hbd2 : ∀ (x : Int) (k : Nat), x + k + (m + 1 : Nat) ≤ 199 + 1 → x + k + m ≤ 199 := fun x k hx => by omega
  rw [e1, e2]
  rw [e1] at ok1
  rw [e2] at ok2
  cases hv : tv u
  · simp only [hv, Bool.false_eq_true, if_false] at ok1 ok2 ⊢
    exact ⟨ok1, ok2, h.o, h.o', h.k, h.w, h.mt, h.l, h.up, by unfold numB; omega⟩
  · simp only [hv, if_true] at ok1 ok2 ⊢
    cases hw : b.want with
    | nil =>
      simp only [hw] at ok1 ok2 ⊢
      exact ⟨ok1, ok2, h.o, h.o', h.k, rfl, h.mt, by simp [hl], up_snoc hl h.up upx, by unfold numB; simp; omega⟩
    | cons x l =>
      simp only [hw] at ok1 ok2 ⊢
      by_cases hx : x = u
      · rw [if_pos hx] at ok1 ok2 ⊢
        rw [if_pos hx]
        exact ⟨ok1, ok2, h.o, h.o', h.k, rfl, by simp [hmt], hl, h.up, by unfold numB; simp; omega⟩
      · rw [if_neg hx] at ok1 ok2 ⊢
        rw [if_neg hx]
        exact ⟨ok1, ok2, h.o, h.o', h.k, rfl, h.mt, by simp [hl], up_snoc hl h.up upm, by unfold numB; simp; omega⟩
theorem side_fold : ∀ (gs : List Tx) {b b' : Bd}, Side gs.length b b' → Side 0 (gs.foldl obsS b) (gs.foldl obsS b')
  | [], b, b', h => h
  | u :: gs, b, b', h => side_fold gs (side_step u h)
/-- Whether a text begins as a lost one. -/
def lostB (x : ByteArray) : Bool := decide (4 < x.size) && ((x.extract 0 4).toList == [108, 111, 115, 116])
theorem up_tab : ∀ n : Fin 200, (lostB (lineT sMis (n.val : Int)) = false ∧ lineT sMis (n.val : Int) ≠ lineT sMis ((n.val + 1 : Nat) : Int)) ∧ (lostB (lineT sExtra (n.val : Int)) = false ∧ lineT sExtra (n.val : Int) ≠ lineT sExtra ((n.val + 1 : Nat) : Int)) := by decide +kernel
theorem lost_tab : ∀ n : Fin 200, lostB (lineT sLost (n.val : Int)) = true := by decide +kernel
theorem up_lost {x y : ByteArray} (h : Up x y) : lostB x = decide (x = y) := by
  obtain ⟨c, n, hn, rfl, rfl⟩ := h
  have := up_tab ⟨n, hn⟩
  cases c
  · rw [decide_eq_false (by simpa using this.2.2)]; simpa using this.2.1
  · rw [decide_eq_false (by simpa using this.1.2)]; simpa using this.1.1
theorem want_len : ∀ (gs : List Tx) (b : Bd), ((gs.foldl obsS b).want.length ≤ b.want.length)
  | [], b => Nat.le_refl _
  | u :: gs, b => Nat.le_trans (want_len gs (obsS b u)) (by
    unfold obsS
    split
    · rename_i h
      unfold obsT at h ⊢
      split
      · rename_i h1; rw [if_pos h1] at h; exact absurd h h1
      · split
        · rename_i h1 h2; rw [if_neg h1, if_pos h2] at h; cases h
        · split
          · split <;> (simp only [List.length_eraseIdx]; split <;> omega)
          · exact Nat.le_refl _
    · exact Nat.le_refl _)
theorem side_fin {b b' : Bd} (h : Side 0 b b') (hw : b.want.length ≤ 100) : (finT b').mat = (finT b).mat + 1 ∧ (finT b').wrg.length = (finT b).wrg.length ∧ (finT b).wrg.length ≤ 1024 ∧ (finT b).mat ≤ 199 ∧ 0 ≤ (finT b).mat ∧ ∀ i, i < (finT b).wrg.length → lostB ((finT b).wrg.getD i ⟨#[]⟩) = decide ((finT b).wrg.getD i ⟨#[]⟩ = (finT b').wrg.getD i ⟨#[]⟩) := by
  have f1 : finT b = { b with want := [], wrg := lossK b b.want.length } := by unfold finT; rw [if_neg (by rw [okb_iff.2 h.ok]; decide)]
  have f2 : finT b' = { b' with want := [], wrg := lossK b' b'.want.length } := by unfold finT; rw [if_neg (by rw [okb_iff.2 h.ok']; decide)]
  have hbd := h.bd
  unfold numB at hbd
  have k1 := h.ok.2.2.1
  have hls : ∀ j, lossT b' j = lossT b j ∧ lossT b j = lineT sLost (j : Int) := fun j => by
    unfold lossT
    rw [h.o, h.o']
    simp
  have hf : lossT b' = lossT b := funext fun j => (hls j).1
  rw [f1, f2]
  simp only
  have hl := h.l
  have hlen : (lossK b' b'.want.length).length = (lossK b b.want.length).length := by rw [loss_len, loss_len, h.w, hl]
  refine ⟨h.mt, hlen, by rw [loss_len]; omega, by omega, k1, fun i hi => ?_⟩
  rw [loss_len] at hi
  unfold lossK
  rw [hf, h.w, hl]
  simp only [List.getD_eq_getElem?_getD]
  by_cases h1 : i < b.wrg.length
  · rw [List.getElem?_append_left h1, List.getElem?_append_left (by omega)]
    have := h.up i h1
    simp only [List.getD_eq_getElem?_getD] at this
    exact up_lost this
  · rw [List.getElem?_append_right (by omega), List.getElem?_append_right (by omega), hl]
    rw [decide_eq_true rfl]
    have h2 : i - b.wrg.length < 200 := by omega
    have h3 : (((List.range b.want.length).map (lossT b)).take (1024 - b.wrg.length))[i - b.wrg.length]? = some (lossT b (i - b.wrg.length)) := by
      rw [List.getElem?_take_of_lt (by omega), List.getElem?_map, List.getElem?_range (by omega)]
      rfl
    rw [h3]
    simp only [Option.getD_some]
    rw [(hls _).2]
    exact lost_tab ⟨_, h2⟩
/-- The plain law of BoardShifts. -/
theorem shift_runs (s : ByteArray) (t : Tx) (ws gs : List Tx) (ht : tv t = true) (hw : ws.length ≤ 40) (hg : gs.length ≤ 40) :
    (runT true s (t :: ws) (t :: gs)).mat = (runT true s ws gs).mat + 1 ∧ (runT true s (t :: ws) (t :: gs)).wrg.length = (runT true s ws gs).wrg.length ∧ (runT true s ws gs).wrg.length ≤ 1024 ∧ (runT true s ws gs).mat ≤ 199 ∧ 0 ≤ (runT true s ws gs).mat ∧
    ∀ i, i < (runT true s ws gs).wrg.length → lostB ((runT true s ws gs).wrg.getD i ⟨#[]⟩) = decide ((runT true s ws gs).wrg.getD i ⟨#[]⟩ = (runT true s (t :: ws) (t :: gs)).wrg.getD i ⟨#[]⟩) := by
  have e1 := exp_fold ws ⟨true, s, [], 0, []⟩ (new_ok _ _) rfl (by simp; omega)
  have e2 := exp_fold (t :: ws) ⟨true, s, [], 0, []⟩ (new_ok _ _) rfl (by simp; omega)
  rw [List.filter_cons, if_pos ht] at e2
  have ok1 := fold_exp_ok (l := ws) (new_ok true s)
  have ok2 := fold_exp_ok (l := t :: ws) (new_ok true s)
  simp only [List.nil_append] at e1 e2
  rw [e1] at ok1
  rw [e2] at ok2
  have o1 := obs_one (u := t) ok2 rfl (by simp) (by simp)
  have ok3 := obs_ok (t := t) ok2
  simp only [ht, if_true] at o1
  rw [o1] at ok3
  have hfl : (ws.filter tv).length ≤ 40 := Nat.le_trans (List.length_filter_le _ _) hw
  have sd : Side gs.length ⟨true, s, ws.filter tv, 0, []⟩ ⟨true, s, ws.filter tv, 0 + 1, []⟩ := ⟨ok1, ok3, rfl, rfl, rfl, rfl, rfl, rfl, fun i hi => by simp at hi, by unfold numB; simp; omega⟩
  have sf := side_fold gs sd
  have hlen := want_len gs ⟨true, s, ws.filter tv, 0, []⟩
  have := side_fin sf (Nat.le_trans hlen (by simpa using Nat.le_trans hfl (by decide)))
  unfold runT
  rw [e1, e2, List.foldl_cons, o1]
  exact this

end Go.Proofs.YtldafnjbgjagiaaDoor
