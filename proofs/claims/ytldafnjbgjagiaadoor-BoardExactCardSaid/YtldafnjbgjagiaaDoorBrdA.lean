/-
  Boards as values; contracts of board.key, keyed, valid, and of the library's IndexFunc and ContainsFunc over transactions.
-/
import Derived.Test.YtldafnjbgjagiaaDoorBrdSpec
import Derived.Test.YtldafnjbgjagiaaDoorReads
import Derived.Test.YtldafnjbgjagiaaDoorTxB
namespace Go.Proofs.YtldafnjbgjagiaaDoor
open Go.RowKit
set_option linter.unusedVariables false
set_option linter.unusedSimpArgs false

theorem sl_same {w w' : World} {u : Value} {l : List ByteArray} (h : SL w u l) (hs : w.heap.size ≤ w'.heap.size) (hk : ∀ b, u.ownBlock = some b → w'.heap[b]? = w.heap[b]?) : SL w' u l := by
  obtain ⟨A, c, rfl, hc, h⟩ := h
  refine ⟨A, c, rfl, hc, fun hl => ?_⟩
  obtain ⟨a, rfl, hr⟩ := h hl
  exact ⟨a, rfl, Nat.lt_of_lt_of_le hr.lt hs, fun j hj => (World.cell?_of_block (by rw [block_of_add]; exact hk a.block rfl)).trans (hr.cells j hj)⟩
theorem il_same {w w' : World} {u : Value} {l : List Int} (h : IL w u l) (hs : w.heap.size ≤ w'.heap.size) (hk : ∀ b, u.ownBlock = some b → w'.heap[b]? = w.heap[b]?) : IL w' u l := by
  obtain ⟨A, c, rfl, hc, h⟩ := h
  refine ⟨A, c, rfl, hc, fun hl => ?_⟩
  obtain ⟨a, rfl, hlt, hcell⟩ := h hl
  exact ⟨a, rfl, Nat.lt_of_lt_of_le hlt hs, fun j hj => (World.cell?_of_block (by rw [block_of_add]; exact hk a.block rfl)).trans (hcell j hj)⟩
/-- Whether a slice's block is one of F, if it has an element. -/
def In (F : Nat → Prop) (u : Value) (n : Nat) : Prop := 0 < n → ∀ b, u.ownBlock = some b → F b
theorem il_same0 {w w' : World} {u : Value} {l : List Int} (h : IL w u l) (hs : w.heap.size ≤ w'.heap.size) (hk : 0 < l.length → ∀ b, b < w.heap.size → u.ownBlock = some b → w'.heap[b]? = w.heap[b]?) : IL w' u l := by
  by_cases hl : 0 < l.length
  · refine il_same h hs fun b hb => hk hl b ?_ hb
    obtain ⟨A, c, rfl, _, h⟩ := h
    obtain ⟨a, rfl, hlt, _⟩ := h hl
    simp only [Value.ownBlock, Option.some.injEq] at hb
    omega
  · obtain ⟨A, c, rfl, hc, _⟩ := h
    exact ⟨A, c, rfl, hc, fun h => absurd h hl⟩
theorem sl_same0 {w w' : World} {u : Value} {l : List ByteArray} (h : SL w u l) (hs : w.heap.size ≤ w'.heap.size) (hk : 0 < l.length → ∀ b, b < w.heap.size → u.ownBlock = some b → w'.heap[b]? = w.heap[b]?) : SL w' u l := by
  by_cases hl : 0 < l.length
  · refine sl_same h hs fun b hb => hk hl b ?_ hb
    obtain ⟨A, c, rfl, _, h⟩ := h
    obtain ⟨a, rfl, hr⟩ := h hl
    have := hr.lt
    simp only [Value.ownBlock, Option.some.injEq] at hb
    omega
  · obtain ⟨A, c, rfl, hc, _⟩ := h
    exact ⟨A, c, rfl, hc, fun h => absurd h hl⟩
/-- How a transaction reads. -/
def txR : Rd Tx where
  k := 2
  ts := [9, 3]
  pos := by decide
  R := fun w us t F => ∃ u1 u2, us = [u1, u2] ∧ SL w u1 t.1 ∧ IL w u2 t.2 ∧ In F u1 t.1.length ∧ In F u2 t.2.length
  len := fun ⟨_, _, h, _⟩ => by rw [h]; rfl
  one := fun ⟨u1, u2, h, h1, h2, _⟩ u hu => by
    obtain ⟨A, c, e1, _⟩ := h1
    obtain ⟨A', c', e2, _⟩ := h2
    rw [h, e1, e2] at hu
    simp at hu
    rcases hu with rfl | rfl <;> rfl
  mono := fun ⟨u1, u2, h, h1, h2, h3, h4⟩ hF => ⟨u1, u2, h, h1, h2, fun hl b hb => hF b (h3 hl b hb), fun hl b hb => hF b (h4 hl b hb)⟩
  same := fun ⟨u1, u2, h, h1, h2, h3, h4⟩ hs hk => ⟨u1, u2, h, sl_same0 h1 hs fun hl b hlt hb => hk b hlt (h3 hl b hb), il_same0 h2 hs fun hl b hlt hb => hk b hlt (h4 hl b hb), h3, h4⟩
theorem in_any (u : Value) (n : Nat) : In anyB u n := fun _ _ _ => trivial
section
variable {w w' : World} {v : Value} {ts : List Tx} {F : Nat → Prop}
theorem Rs.txs (h : Rs txR w v ts F) : ∃ (A : Option Addr) (c : Nat), v = .slice A ts.length c ∧ ts.length ≤ c ∧ ∀ k, k < ts.length → ∃ b o u1 u2, A = some ⟨b, o, none⟩ ∧ b < w.heap.size ∧ w.cell? ⟨b, o + k * 2, none⟩ = some u1 ∧ w.cell? ⟨b, o + k * 2 + 1, none⟩ = some u2 ∧
    SL w u1 (ts.getD k tx0).1 ∧ IL w u2 (ts.getD k tx0).2 ∧ In F u1 (ts.getD k tx0).1.length ∧ In F u2 (ts.getD k tx0).2.length := by
  obtain ⟨A, c, rfl, hc, h⟩ := h
  refine ⟨A, c, rfl, hc, fun k hk => ?_⟩
  obtain ⟨b, o, rfl, hb, h⟩ := h (by omega)
  obtain ⟨us, h1, u1, u2, rfl, h2⟩ := h k _ (List.getElem?_eq_getElem hk)
  have e : ts.getD k tx0 = ts[k] := by rw [List.getD_eq_getElem?_getD, List.getElem?_eq_getElem hk]; rfl
  rw [e]
  exact ⟨b, o, u1, u2, rfl, hb, h1 0 (by decide), h1 1 (by decide), h2⟩
end

/-! Places. -/
def fIdx {α : Type} (p : α → Bool) (l : List α) : Int := if l.findIdx p < l.length then (l.findIdx p : Int) else -1
theorem fidx_hit {α : Type} {p : α → Bool} {l : List α} {k : Nat} (d : α) (hk : k < l.length) (hno : ∀ j, j < k → p (l.getD j d) = false) (h : p (l.getD k d) = true) : fIdx p l = k := by
  have e : l.findIdx p = k := by
    rw [List.findIdx_eq hk]
    refine ⟨by rwa [List.getD_eq_getElem?_getD, List.getElem?_eq_getElem hk] at h, fun j hj => ?_⟩
    have := hno j hj
    rwa [List.getD_eq_getElem?_getD, List.getElem?_eq_getElem (by omega)] at this
  unfold fIdx; rw [e, if_pos hk]
theorem fidx_miss {α : Type} {p : α → Bool} {l : List α} (d : α) (hno : ∀ j, j < l.length → p (l.getD j d) = false) : fIdx p l = -1 := by
  unfold fIdx
  rw [if_neg]
  intro h
  have h1 := List.findIdx_getElem (w := h)
  have h2 := hno _ h
  rw [List.getD_eq_getElem?_getD, List.getElem?_eq_getElem h] at h2
  simp only [Option.getD_some] at h2
  rw [h1] at h2; cases h2
theorem fidx_any {α : Type} (p : α → Bool) (l : List α) : decide (0 ≤ fIdx p l) = l.any p := by
  unfold fIdx
  by_cases h : l.findIdx p < l.length
  · rw [if_pos h, decide_eq_true (by omega)]
    have := List.findIdx_getElem (w := h)
    exact (List.any_eq_true.2 ⟨_, List.getElem_mem h, this⟩).symm
  · rw [if_neg h, decide_eq_false (by decide)]
    symm
    rw [List.any_eq_false]
    intro x hx hp
    exact h (List.findIdx_lt_length.2 ⟨x, hx, hp⟩)

set_option maxRecDepth 100000 in
set_option maxHeartbeats 8000000 in
theorem idxFunc (w : World) (v : Value) (ts : List Tx) (hv : Rs txR w v ts anyB) (hn : ts.length ≤ 9223372036854775807) (g : Nat) (lb : Array Value) (p : Tx → Bool) (eg : ∀ args W, (callFunc g args).run Tryd.prog W = .ok (.enter g args) W)
    (hp : ∀ W v1 v2 t, Below w.heap.size w W → t ∈ ts → SL W v1 t.1 → IL W v2 t.2 → Calls Tryd.prog g (#[.agg #[v1, v2]] ++ lb) W fun e w' => e = .returned (.bool (p t)) ∧ Below W.heap.size W w') :
    Calls Tryd.prog 50 #[v, .func (.func g) #[] lb] w fun e w' => e = .returned (.int .i64 (fIdx p ts)) ∧ Below w.heap.size w w' := by
  obtain ⟨A, c, rfl, hc, hcl⟩ := hv.txs
  have HC := Lib.hid hcl
  have HP := Lib.hid hp
  have HH := Lib.hid (fun k h1 h2 h3 => fidx_hit (p := p) (l := ts) (k := k) tx0 h1 h2 h3)
  have HM := Lib.hid (fidx_miss (p := p) (l := ts) tx0)
  obtain ⟨N, hN⟩ : ∃ N, N = ts.length := ⟨_, rfl⟩
  have HN := Lib.hid hN
  rw [← hN] at hc hn ⊢
  generalize fIdx p ts = r at *
  clear hcl hp hv hN
  go_enter Tryd.func50, Tryd.ntmps50
  go_wp2_with fail
  go_loopw [5, 8] (fun _ i wr => ∃ k : Nat, k ≤ N ∧ i = .int .i64 k ∧ Hid (∀ j, j < k → p (ts.getD j tx0) = false) ∧ Below w.heap.size w wr) (fun _ i _ => N - (intOf i).toNat)
  case atStart => exact ⟨0, Nat.zero_le _, rfl, (fun j h => by omega), Below.refl _ _⟩
  case round =>
    obtain ⟨k, hk, rfl, hno, hb⟩ := hrel
    have HB := Lib.hid hb
    by_cases hlt : k < N
    · have hlt2 : (k : Int) < N := by omega
      have hk0 : (0 : Int) ≤ (k : Int) := by omega
      have hkt : k < ts.length := by rw [← HN.out]; exact hlt
      obtain ⟨b, o, u1, u2, rfl, hbl, q1, q2, s1, s2, _⟩ := HC.out k hkt
      rw [← hb.cell (p := ⟨b, o + k * 2, none⟩) hbl] at q1
      rw [← hb.cell (p := ⟨b, o + k * 2 + 1, none⟩) hbl] at q2
      have CC := Lib.hid (fun W hW => HP.out W u1 u2 (ts.getD k tx0) hW (getD_mem tx0 hkt) (s1.below hW) (s2.below hW))
      have H1 := Lib.hid (HH.out k hkt hno.out)
      have H2 : Hid (p (ts.getD k tx0) = false → ∀ j, j < k + 1 → p (ts.getD j tx0) = false) := Lib.hid fun h j hj => by
        by_cases e : j = k
        · rw [e]; exact h
        · exact hno.out j (by omega)
      cases hq : p (ts.getD k tx0)
      · rw [hq] at CC
        have H3 := Lib.hid (H2.out hq)
        clear H1 H2 hq hkt s1 s2 hbl hb hno
        go_wp2_with fail
        refine (CC.out _ HB.out).mono ?_; rintro e w2 ⟨rfl, hb⟩
        have HB2 := Lib.hid (below_step HB.out hb)
        clear hb
        go_wp2_with fail
        go_roundw
        case rel => exact ⟨k + 1, by omega, by go_num, H3, HB2.out⟩
        case measure => simp [intOf]; omega
      · rw [hq] at CC
        have H3 := Lib.hid (H1.out hq)
        clear H1 H2 hq hkt s1 s2 hbl hb hno
        go_wp2_with fail
        refine (CC.out _ HB.out).mono ?_; rintro e w2 ⟨rfl, hb⟩
        have HB2 := Lib.hid (below_step HB.out hb)
        clear hb
        go_wp2_with fail
        go_ret
        exact ⟨ret1 H3.out.symm, HB2.out⟩
    · have hlt2 : ¬ (k : Int) < N := by omega
      have hkN : k = N := by omega
      have H3 := Lib.hid (HM.out fun j hj => hno.out j (by rw [hkN, HN.out]; exact hj))
      clear hb hno hkN
      go_wp2_with fail
      go_ret
      exact ⟨ret1 H3.out.symm, HB.out⟩

set_option maxHeartbeats 2000000 in
theorem hasFunc (w : World) (v : Value) (ts : List Tx) (hv : Rs txR w v ts anyB) (hn : ts.length ≤ 9223372036854775807) (g : Nat) (lb : Array Value) (p : Tx → Bool) (eg : ∀ args W, (callFunc g args).run Tryd.prog W = .ok (.enter g args) W)
    (hp : ∀ W v1 v2 t, Below w.heap.size w W → t ∈ ts → SL W v1 t.1 → IL W v2 t.2 → Calls Tryd.prog g (#[.agg #[v1, v2]] ++ lb) W fun e w' => e = .returned (.bool (p t)) ∧ Below W.heap.size W w') :
    Calls Tryd.prog 57 #[v, .func (.func g) #[] lb] w fun e w' => e = .returned (.bool (ts.any p)) ∧ Below w.heap.size w w' := by
  have CC := Lib.hid (idxFunc w v ts hv hn g lb p eg hp)
  rw [← fidx_any]
  generalize fIdx p ts = r at *
  obtain ⟨A, c, rfl, hc, _⟩ := hv
  clear hp eg
  go_enter Tryd.func57, Tryd.ntmps57
  go_wp2_with fail
  refine CC.out.mono ?_; rintro e w2 ⟨rfl, hb⟩
  have HB := Lib.hid hb
  clear hb
  go_wp2_with fail
  go_ret
  exact ⟨rfl, HB.out⟩

/-! The board's own. -/
set_option maxRecDepth 100000 in
set_option maxHeartbeats 4000000 in
theorem brdKey (w : World) (o : Bool) (s : ByteArray) (m : Int) (wv gv v1 v2 : Value) (ns : List ByteArray) (zs : List Int) (h1 : SL w v1 ns) (h2 : IL w v2 zs) (n1 : ns.length ≤ 9223372036854775807) (n2 : zs.length ≤ 9223372036854775807) :
    Calls Tryd.prog 49 #[.agg #[.bool o, .string s, wv, .int .i64 m, gv], .agg #[v1, v2]] w fun e w' => e = ret2b (getT ns zs s) ∧ Below w.heap.size w w' := by
  have HQ1 := Lib.hid h1
  have HQ2 := Lib.hid h2
  have CG := Lib.hid (fun W h1 h2 => txnGet W v1 v2 ns zs s h1 h2 n1 n2)
  generalize getT ns zs s = r at *
  obtain ⟨rv, rb⟩ := r
  simp only [ret2b] at CG ⊢
  clear h1 h2 n1 n2
  go_enter Tryd.func49, Tryd.ntmps49
  go_wp2_with fail
  have XA := Lib.hid ((box_new (W := w) (g := w.heap.size) 25 #[.bool o, .string s, wv, .int .i64 m, gv] (by simp)).below (below_alloc _ (.cells #[v1, v2] 28)))
  have XB := Lib.hid (box_new (W := (w.alloc (.cells #[.bool o, .string s, wv, .int .i64 m, gv] 25))) (g := w.heap.size + 1) 28 #[v1, v2] (by simp))
  have HB := Lib.hid (below_step (below_alloc w (.cells #[.bool o, .string s, wv, .int .i64 m, gv] 25)) (below_alloc (w.alloc (.cells #[.bool o, .string s, wv, .int .i64 m, gv] 25)) (.cells #[v1, v2] 28)))
  generalize (w.alloc (.cells #[.bool o, .string s, wv, .int .i64 m, gv] 25)).alloc (.cells #[v1, v2] 28) = w1 at *
  have XA_1 := XA.out.at_ 1 _ rfl
  have XB_0 := XB.out.at_ 0 _ rfl
  have XB_1 := XB.out.at_ 1 _ rfl
  go_wp2_with fail
  clear XA_1 XB_0 XB_1
  refine (CG.out _ (HQ1.out.below HB.out) (HQ2.out.below HB.out)).mono ?_; rintro e w2 ⟨rfl, hb⟩
  replace XA := Lib.hid (XA.out.below hb)
  replace XB := Lib.hid (XB.out.below hb)
  replace HB := Lib.hid (below_step HB.out hb)
  clear hb
  go_wp2_with fail
  go_ret2
  exact ⟨rfl, HB.out⟩

set_option maxRecDepth 100000 in
set_option maxHeartbeats 4000000 in
theorem brdKeyed (w : World) (o : Bool) (s : ByteArray) (m : Int) (wv gv v1 v2 : Value) (ns : List ByteArray) (zs : List Int) (h1 : SL w v1 ns) (h2 : IL w v2 zs) (n1 : ns.length ≤ 9223372036854775807) (n2 : zs.length ≤ 9223372036854775807) :
    Calls Tryd.prog 48 #[.agg #[.bool o, .string s, wv, .int .i64 m, gv], .agg #[v1, v2]] w fun e w' => e = .returned (.bool (o || (getT ns zs s).2)) ∧ Below w.heap.size w w' := by
  have HQ1 := Lib.hid h1
  have HQ2 := Lib.hid h2
  have CG := Lib.hid (fun W h1 h2 => brdKey W o s m wv gv v1 v2 ns zs h1 h2 n1 n2)
  generalize getT ns zs s = r at *
  obtain ⟨rv, rb⟩ := r
  simp only [ret2b] at CG ⊢
  clear h1 h2 n1 n2
  cases o
  case false =>
    go_enter Tryd.func48, Tryd.ntmps48
    go_wp2_with fail
    have XA := Lib.hid ((box_new (W := w) (g := w.heap.size) 25 #[.bool false, .string s, wv, .int .i64 m, gv] (by simp)).below (below_alloc _ (.cells #[v1, v2] 28)))
    have XB := Lib.hid (box_new (W := (w.alloc (.cells #[.bool false, .string s, wv, .int .i64 m, gv] 25))) (g := w.heap.size + 1) 28 #[v1, v2] (by simp))
    have HB := Lib.hid (below_step (below_alloc w (.cells #[.bool false, .string s, wv, .int .i64 m, gv] 25)) (below_alloc (w.alloc (.cells #[.bool false, .string s, wv, .int .i64 m, gv] 25)) (.cells #[v1, v2] 28)))
    generalize (w.alloc (.cells #[.bool false, .string s, wv, .int .i64 m, gv] 25)).alloc (.cells #[v1, v2] 28) = w1 at *
    refine (CG.out _ (HQ1.out.below HB.out) (HQ2.out.below HB.out)).mono ?_; rintro e w2 ⟨rfl, hb⟩
    replace XA := Lib.hid (XA.out.below hb)
    replace XB := Lib.hid (XB.out.below hb)
    replace HB := Lib.hid (below_step HB.out hb)
    clear hb
    have XA_0 := XA.out.at_ 0 _ rfl
    go_wp2_with fail
    go_ret
    exact ⟨rfl, HB.out⟩
  case true =>
    go_enter Tryd.func48, Tryd.ntmps48
    go_wp2_with fail
    have XA := Lib.hid ((box_new (W := w) (g := w.heap.size) 25 #[.bool true, .string s, wv, .int .i64 m, gv] (by simp)).below (below_alloc _ (.cells #[v1, v2] 28)))
    have XB := Lib.hid (box_new (W := (w.alloc (.cells #[.bool true, .string s, wv, .int .i64 m, gv] 25))) (g := w.heap.size + 1) 28 #[v1, v2] (by simp))
    have HB := Lib.hid (below_step (below_alloc w (.cells #[.bool true, .string s, wv, .int .i64 m, gv] 25)) (below_alloc (w.alloc (.cells #[.bool true, .string s, wv, .int .i64 m, gv] 25)) (.cells #[v1, v2] 28)))
    generalize (w.alloc (.cells #[.bool true, .string s, wv, .int .i64 m, gv] 25)).alloc (.cells #[v1, v2] 28) = w1 at *
    refine (CG.out _ (HQ1.out.below HB.out) (HQ2.out.below HB.out)).mono ?_; rintro e w2 ⟨rfl, hb⟩
    replace XA := Lib.hid (XA.out.below hb)
    replace XB := Lib.hid (XB.out.below hb)
    replace HB := Lib.hid (below_step HB.out hb)
    clear hb
    have XA_0 := XA.out.at_ 0 _ rfl
    go_wp2_with fail
    go_ret
    exact ⟨rfl, HB.out⟩

set_option maxRecDepth 100000 in
set_option maxHeartbeats 4000000 in
/-- The closure of board.valid. -/
theorem brdValid1 (w : World) (g : Nat) (o : Bool) (s : ByteArray) (m : Int) (wv gv v1 v2 : Value) (ns : List ByteArray) (zs : List Int) (hx : Box w g #[.bool o, .string s, wv, .int .i64 m, gv] 25) (h1 : SL w v1 ns) (h2 : IL w v2 zs)
    (hsz : ∀ s ∈ ns, s.size ≤ 9223372036854775807) (n1 : ns.length ≤ 9223372036854775807) (n2 : zs.length ≤ 9223372036854775807) (hk : KW w) (hm : MLen w) :
    Calls Tryd.prog 58 #[.agg #[v1, v2], .pointer (some ⟨g, 0, none⟩)] w fun e w' => e = .returned (.bool (!txV ns zs || !(o || (getT ns zs s).2))) ∧ Below w.heap.size w w' := by
  have HK := Lib.hid hk
  have HM := Lib.hid hm
  have HQ1 := Lib.hid h1
  have HQ2 := Lib.hid h2
  have XG := Lib.hid hx
  have CV := Lib.hid (fun W h1 h2 hk hm => txnValid W v1 v2 ns zs h1 h2 hsz n1 n2 hk hm)
  have CG := Lib.hid (fun W h1 h2 => brdKeyed W o s m wv gv v1 v2 ns zs h1 h2 n1 n2)
  generalize (o || (getT ns zs s).2) = r at *
  generalize txV ns zs = q at *
  clear h1 h2 n1 n2 hk hm hx hsz
  cases q
  case false =>
    go_enter Tryd.func58, Tryd.ntmps58
    go_wp2_with fail
    have XB := Lib.hid (box_new (W := w) (g := w.heap.size) 28 #[v1, v2] (by simp))
    have HB := Lib.hid (below_alloc w (.cells #[v1, v2] 28))
    generalize w.alloc (.cells #[v1, v2] 28) = w1 at *
    refine (CV.out _ (HQ1.out.below HB.out) (HQ2.out.below HB.out) (HK.out.below HB.out) (HM.out.below HB.out)).mono ?_; rintro e w2 ⟨rfl, hb⟩
    replace XB := Lib.hid (XB.out.below hb)
    replace HB := Lib.hid (below_step HB.out hb)
    clear hb
    go_wp2_with fail
    go_ret
    exact ⟨rfl, HB.out⟩
  case true =>
    go_enter Tryd.func58, Tryd.ntmps58
    go_wp2_with fail
    have XB := Lib.hid (box_new (W := w) (g := w.heap.size) 28 #[v1, v2] (by simp))
    have HB := Lib.hid (below_alloc w (.cells #[v1, v2] 28))
    generalize w.alloc (.cells #[v1, v2] 28) = w1 at *
    refine (CV.out _ (HQ1.out.below HB.out) (HQ2.out.below HB.out) (HK.out.below HB.out) (HM.out.below HB.out)).mono ?_; rintro e w2 ⟨rfl, hb⟩
    replace XB := Lib.hid (XB.out.below hb)
    replace HB := Lib.hid (below_step HB.out hb)
    clear hb
    have XA := Lib.hid (XG.out.below HB.out)
    have XA_0 := XA.out.at_ 0 _ rfl
    have XA_1 := XA.out.at_ 1 _ rfl
    have XA_2 := XA.out.at_ 2 _ rfl
    have XA_3 := XA.out.at_ 3 _ rfl
    have XA_4 := XA.out.at_ 4 _ rfl
    have XB_0 := XB.out.at_ 0 _ rfl
    have XB_1 := XB.out.at_ 1 _ rfl
    go_wp2_with fail
    clear XA_0 XA_1 XA_2 XA_3 XA_4 XB_0 XB_1
    refine (CG.out _ (HQ1.out.below HB.out) (HQ2.out.below HB.out)).mono ?_; rintro e w3 ⟨rfl, hb⟩
    replace XB := Lib.hid (XB.out.below hb)
    replace HB := Lib.hid (below_step HB.out hb)
    clear hb
    clear XA
    go_wp2_with fail
    go_ret
    exact ⟨rfl, HB.out⟩

/-- Sizes of a board's parts. -/
def TZ (t : Tx) : Prop := t.1.length ≤ 9223372036854775807 ∧ t.2.length ≤ 9223372036854775807 ∧ ∀ s ∈ t.1, s.size ≤ 9223372036854775807
theorem okB_any (b : Bd) (h1 : b.want.length ≤ 1024) (h2 : b.wrg.length ≤ 1024) (h3 : 0 ≤ b.mat) (h4 : b.mat ≤ 1099511627776) : okB b = !(b.want.any fun t => !txV t.1 t.2 || !(b.ord || (getT t.1 t.2 b.key).2)) := by
  unfold okB
  cases e : b.want.any fun t => !txV t.1 t.2 || !(b.ord || (getT t.1 t.2 b.key).2)
  · rw [List.any_eq_false] at e
    refine decide_eq_true ⟨h1, h2, h3, h4, fun t ht => ?_⟩
    have := e t ht
    unfold tv kyB gt
    cases e1 : txV t.1 t.2 <;> cases e2 : (b.ord || (getT t.1 t.2 b.key).2) <;> simp_all
  · rw [List.any_eq_true] at e
    obtain ⟨t, ht, h⟩ := e
    refine decide_eq_false fun hok => ?_
    have := hok.2.2.2.2 t ht
    unfold tv kyB gt at this
    rw [this.1, this.2] at h
    cases h
set_option maxRecDepth 100000 in
set_option maxHeartbeats 8000000 in
theorem brdValid (w : World) (b : Bd) (wv gv : Value) (h1 : Rs txR w wv b.want anyB) (h2 : SL w gv b.wrg) (n1 : b.want.length ≤ 9223372036854775807) (n2 : b.wrg.length ≤ 9223372036854775807) (hz : ∀ t ∈ b.want, TZ t) (hk : KW w) (hm : MLen w) :
    Calls Tryd.prog 41 #[.agg #[.bool b.ord, .string b.key, wv, .int .i64 b.mat, gv]] w fun e w' => e = .returned (.bool (okB b)) ∧ Below w.heap.size w w' := by
  have HK := Lib.hid hk
  have HM := Lib.hid hm
  have HQ1 := Lib.hid h1
  have hno : ¬ OkB b → Hid (okB b = false) := fun h => Lib.hid (decide_eq_false h)
  have hany := okB_any b
  obtain ⟨A1, c1, rfl, hc1⟩ := h1.slice
  obtain ⟨A2, c2, rfl, hc2, _⟩ := h2
  obtain ⟨N, hN⟩ : ∃ N, N = b.want.length := ⟨_, rfl⟩
  obtain ⟨G, hG⟩ : ∃ G, G = b.wrg.length := ⟨_, rfl⟩
  obtain ⟨M, hM⟩ : ∃ M, M = b.mat := ⟨_, rfl⟩
  have k1 : ¬ N ≤ 1024 → Hid (okB b = false) := fun h => hno fun hk => h (by rw [hN]; exact hk.1)
  have k2 : ¬ G ≤ 1024 → Hid (okB b = false) := fun h => hno fun hk => h (by rw [hG]; exact hk.2.1)
  have k3 : ¬ 0 ≤ M → Hid (okB b = false) := fun h => hno fun hk => h (by rw [hM]; exact hk.2.2.1)
  have k4 : ¬ M ≤ 1099511627776 → Hid (okB b = false) := fun h => hno fun hk => h (by rw [hM]; exact hk.2.2.2.1)
  rw [← hN, ← hG, ← hM] at hany
  have hf : ∀ g, Hid (∀ W, Below w.heap.size w W → Box W g #[.bool b.ord, .string b.key, .slice A1 N c1, .int .i64 M, .slice A2 G c2] 25 → Calls Tryd.prog 57 #[.slice A1 N c1, .func (.func 58) #[] #[.pointer (some ⟨g, 0, none⟩)]] W fun e w' => e = .returned (.bool (b.want.any fun t => !txV t.1 t.2 || !(b.ord || (getT t.1 t.2 b.key).2))) ∧ Below W.heap.size W w') := fun g => Lib.hid fun W hW hx => by
    have := hasFunc W (.slice A1 N c1) b.want (by rw [hN]; exact HQ1.out.below hW) n1 58 #[.pointer (some ⟨g, 0, none⟩)] (fun t => !txV t.1 t.2 || !(b.ord || (getT t.1 t.2 b.key).2)) (run_go Tryd.func58 (by kernel_rfl) (by kernel_rfl))
      (fun W' v1 v2 t hb' ht s1 s2 => brdValid1 W' g b.ord b.key M (.slice A1 N c1) (.slice A2 G c2) v1 v2 t.1 t.2 (hx.below hb') s1 s2 (hz t ht).2.2 (hz t ht).1 (hz t ht).2.1 ((HK.out.below hW).below hb') ((HM.out.below hW).below hb'))
    exact this
  rw [← hN, ← hG, ← hM]
  rw [← hN] at n1 hc1
  rw [← hG] at n2 hc2
  have HF : Hid (∀ g, Hid (∀ W, Below w.heap.size w W → Box W g #[.bool b.ord, .string b.key, .slice A1 N c1, .int .i64 M, .slice A2 G c2] 25 → Calls Tryd.prog 57 #[.slice A1 N c1, .func (.func 58) #[] #[.pointer (some ⟨g, 0, none⟩)]] W fun e w' => e = .returned (.bool (b.want.any fun t => !txV t.1 t.2 || !(b.ord || (getT t.1 t.2 b.key).2))) ∧ Below W.heap.size W w')) := Lib.hid hf
  generalize (b.want.any fun t => !txV t.1 t.2 || !(b.ord || (getT t.1 t.2 b.key).2)) = an at *
  generalize okB b = r at *
  generalize b.ord = o at *
  generalize b.key = s at *
  clear hno hf HQ1 h1 hz hk hm hN hG hM
  by_cases e1 : N ≤ 1024
  case neg =>
    have HR := k1 e1
    have f1 : (1024 : Int) < (N : Int) := by omega
    clear k1 k2 k3 k4 e1 hany HF
    go_enter Tryd.func41, Tryd.ntmps41
    go_wp2_with fail
    go_ret
    exact ⟨retb HR.out.symm, below_alloc _ _⟩
  by_cases e2 : G ≤ 1024
  case neg =>
    have HR := k2 e2
    have f1 : ¬ (1024 : Int) < (N : Int) := by omega
    have f2 : (1024 : Int) < (G : Int) := by omega
    clear k1 k2 k3 k4 e1 e2 hany HF
    go_enter Tryd.func41, Tryd.ntmps41
    go_wp2_with fail
    go_ret
    exact ⟨retb HR.out.symm, below_alloc _ _⟩
  by_cases e3 : 0 ≤ M
  case neg =>
    have HR := k3 e3
    have f1 : ¬ (1024 : Int) < (N : Int) := by omega
    have f2 : ¬ (1024 : Int) < (G : Int) := by omega
    have f3 : M < 0 := by omega
    clear k1 k2 k3 k4 e1 e2 e3 hany HF
    go_enter Tryd.func41, Tryd.ntmps41
    go_wp2_with fail
    go_ret
    exact ⟨retb HR.out.symm, below_alloc _ _⟩
  by_cases e4 : M ≤ 1099511627776
  case neg =>
    have HR := k4 e4
    have f1 : ¬ (1024 : Int) < (N : Int) := by omega
    have f2 : ¬ (1024 : Int) < (G : Int) := by omega
    have f3 : ¬ M < 0 := by omega
    have f4 : 1099511627776 < M := by omega
    clear k1 k2 k3 k4 e1 e2 e3 e4 hany HF
    go_enter Tryd.func41, Tryd.ntmps41
    go_wp2_with fail
    go_ret
    exact ⟨retb HR.out.symm, below_alloc _ _⟩
  have HR := Lib.hid (hany e1 e2 e3 e4)
  have f1 : ¬ (1024 : Int) < (N : Int) := by omega
  have f2 : ¬ (1024 : Int) < (G : Int) := by omega
  have f3 : ¬ M < 0 := by omega
  have f4 : ¬ 1099511627776 < M := by omega
  have hmf : ∀ (fn : Fn) (first cap : Array Value) (w : World), (Instr.makeFunc fn first cap).run Tryd.prog w = .ok (.func fn first cap) w := fun _ _ _ _ => rfl
  clear k1 k2 k3 k4 e1 e2 e3 e4 hany
  go_enter Tryd.func41, Tryd.ntmps41
  go_wp2_with fail
  have XA := Lib.hid (box_new (W := w) (g := w.heap.size) 25 #[.bool o, .string s, .slice A1 N c1, .int .i64 M, .slice A2 G c2] (by simp))
  have HB := Lib.hid (below_alloc w (.cells #[.bool o, .string s, .slice A1 N c1, .int .i64 M, .slice A2 G c2] 25))
  generalize w.alloc (.cells #[.bool o, .string s, .slice A1 N c1, .int .i64 M, .slice A2 G c2] 25) = w1 at *
  refine ((HF.out _).out _ HB.out XA.out).mono ?_; rintro e w2 ⟨rfl, hb⟩
  replace XA := Lib.hid (XA.out.below hb)
  replace HB := Lib.hid (below_step HB.out hb)
  clear hb
  go_wp2_with fail
  go_ret
  exact ⟨retb HR.out.symm, HB.out⟩

end Go.Proofs.YtldafnjbgjagiaaDoor
