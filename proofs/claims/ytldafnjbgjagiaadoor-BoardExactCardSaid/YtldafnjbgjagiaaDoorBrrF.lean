/-
  Contracts of SameAll, of the reference's Same.
-/
import Derived.Test.YtldafnjbgjagiaaDoorBrrE
namespace Go.Proofs.YtldafnjbgjagiaaDoor
open Go.RowKit
set_option linter.unusedVariables false
set_option linter.unusedSimpArgs false

theorem strNe {x y : ByteArray} (h : x ≠ y) : (x.toList == y.toList) = false ∧ (x.toList != y.toList) = true := by
  have e : (x.toList == y.toList) = false := by
    rw [beq_eq_false_iff_ne]
    intro h2
    rw [Lib.toList_data, Lib.toList_data] at h2
    exact h (ba_eq h2)
  exact ⟨e, by simp [bne, e]⟩
theorem list_diff {α : Type} (d : α) {l m : List α} {k : Nat} (hk : k < l.length) (h : l.getD k d ≠ m.getD k d) : l ≠ m := fun e => h (by rw [e])
/-- Sizes of a transaction's lists. -/
def TxL (t : Tx) : Prop := t.1.length ≤ 9223372036854775807 ∧ t.2.length ≤ 9223372036854775807
set_option maxRecDepth 100000 in
set_option maxHeartbeats 8000000 in
theorem refSameAll (w : World) (v1 v2 : Value) (ts us : List Tx) (h1 : Rs txR w v1 ts anyB) (h2 : Rs txR w v2 us anyB) (n1 : ts.length ≤ 9223372036854775807) (n2 : us.length ≤ 9223372036854775807) (z1 : ∀ t ∈ ts, TxL t) (z2 : ∀ t ∈ us, TxL t) :
    Calls Tryd.prog 26 #[v1, v2] w fun e w' => e = .returned (.bool (decide (ts = us))) ∧ Below w.heap.size w w' := by
  obtain ⟨A1, c1, rfl, -, hx1⟩ := h1.txs
  obtain ⟨A2, c2, rfl, -, hx2⟩ := h2.txs
  have HX1 := Lib.hid hx1
  have HX2 := Lib.hid hx2
  have CS : Hid (∀ k, k < ts.length → k < us.length → ∀ W u1 u2 u3 u4, SL W u1 (ts.getD k tx0).1 → IL W u2 (ts.getD k tx0).2 → SL W u3 (us.getD k tx0).1 → IL W u4 (us.getD k tx0).2 → Calls Tryd.prog 29 #[.agg #[u1, u2], .agg #[u3, u4]] W fun e w' => e = .returned (.bool (sameT (ts.getD k tx0).1 (ts.getD k tx0).2 (us.getD k tx0).1 (us.getD k tx0).2)) ∧ Below W.heap.size W w') := Lib.hid fun k k1 k2 W u1 u2 u3 u4 a1 a2 a3 a4 => by
    have e1 := z1 _ (getD_mem tx0 k1); have e2 := z2 _ (getD_mem tx0 k2)
    exact refSame W u1 u2 u3 u4 _ _ _ _ a1 a2 a3 a4 e1.1 e1.2 e2.1 e2.2
  have HD := Lib.hid (fun k => list_diff tx0 (l := ts) (m := us) (k := k))
  have HE := Lib.hid (fun h h' => list_eq_of tx0 (l := ts) (m := us) h h')
  have HST : Hid (∀ a b : Tx, sameT a.1 a.2 b.1 b.2 = decide (a = b)) := Lib.hid fun a b => by
    unfold sameT
    rw [Bool.eq_iff_iff]
    simp only [Bool.and_eq_true, decide_eq_true_eq]
    exact ⟨fun h => Prod.ext h.1 h.2, fun h => by rw [h]; exact ⟨rfl, rfl⟩⟩
  have HNe : Hid (ts ≠ us → decide (ts = us) = false) := Lib.hid fun h => decide_eq_false h
  have HEq : Hid (ts = us → decide (ts = us) = true) := Lib.hid fun h => decide_eq_true h
  generalize decide (ts = us) = r at *
  obtain ⟨N, hN⟩ : ∃ N, N = ts.length := ⟨_, rfl⟩
  obtain ⟨M, hM⟩ : ∃ M, M = us.length := ⟨_, rfl⟩
  have HN := Lib.hid hN
  have HM := Lib.hid hM
  rw [← hN] at n1 ⊢
  rw [← hM] at n2 ⊢
  clear h1 h2 hx1 hx2 z1 z2 hN hM
  by_cases hlen : N = M
  case neg =>
    have HR := Lib.hid (HNe.out fun e => hlen (by rw [HN.out, HM.out, e]))
    have f1 : ((N : Int) != (M : Int)) = true := by have : ¬ (N : Int) = M := by omega
                                                    simpa using this
    have f2 : (N == M) = false := by simpa using hlen
    have f3 : (N != M) = true := by simpa using hlen
    clear hlen HE HD
    go_enter Tryd.func26, Tryd.ntmps26
    go_wp2_with fail
    go_ret
    exact ⟨retb HR.out.symm, Below.refl _ _⟩
  subst hlen
  have f1 : ((N : Int) != (N : Int)) = false := by simp
  have f3 : (N != N) = false := by simp
  go_enter Tryd.func26, Tryd.ntmps26
  go_wp2_with fail
  clear f1 f3
  go_loopw [5] (fun i wr => ∃ k : Nat, k ≤ N ∧ i = .int .i64 k ∧ Hid (∀ j, j < k → ts.getD j tx0 = us.getD j tx0) ∧ Below w.heap.size w wr) (fun i _ => N - (intOf i).toNat)
  case atStart => exact ⟨0, Nat.zero_le _, rfl, (fun j h => by omega), Below.refl _ _⟩
  case round =>
    obtain ⟨k, hk, rfl, hall, hb⟩ := hrel
    have HB := Lib.hid hb
    clear hb
    by_cases hlt : k < N
    · have hlt2 : (k : Int) < N := by omega
      have hk0 : (0 : Int) ≤ (k : Int) := by omega
      have hk1 : k < ts.length := by rw [← HN.out]; exact hlt
      have hk3 : k < us.length := by rw [← HM.out]; exact hlt
      obtain ⟨q, y, u1, u2, rfl, hql, q1, q2, x1, x2, -⟩ := HX1.out k hk1
      obtain ⟨q', y', u3, u4, rfl, hql', q3, q4, x3, x4, -⟩ := HX2.out k hk3
      have CS2 := Lib.hid (fun W (hW : Below w.heap.size w W) => CS.out k hk1 hk3 W u1 u2 u3 u4 (x1.below hW) (x2.below hW) (x3.below hW) (x4.below hW))
      have m1 : ∀ x : Lat wr, x.w.cell? ⟨q, y + k * 2, none⟩ = _ := fun x => ((below_step HB.out x.h).cell (p := ⟨q, y + k * 2, none⟩) hql).trans q1
      have m2 : ∀ x : Lat wr, x.w.cell? ⟨q, y + k * 2 + 1, none⟩ = _ := fun x => ((below_step HB.out x.h).cell (p := ⟨q, y + k * 2 + 1, none⟩) hql).trans q2
      have m3 : ∀ x : Lat wr, x.w.cell? ⟨q', y' + k * 2, none⟩ = _ := fun x => ((below_step HB.out x.h).cell (p := ⟨q', y' + k * 2, none⟩) hql').trans q3
      have m4 : ∀ x : Lat wr, x.w.cell? ⟨q', y' + k * 2 + 1, none⟩ = _ := fun x => ((below_step HB.out x.h).cell (p := ⟨q', y' + k * 2 + 1, none⟩) hql').trans q4
      obtain ⟨E1, e1, rfl, -⟩ := id x1
      obtain ⟨E2, e2, rfl, -⟩ := id x2
      obtain ⟨E3, e3, rfl, -⟩ := id x3
      obtain ⟨E4, e4, rfl, -⟩ := id x4
      have HD2 := Lib.hid (HD.out k hk1)
      have HA2 : Hid (ts.getD k tx0 = us.getD k tx0 → ∀ j, j < k + 1 → ts.getD j tx0 = us.getD j tx0) := Lib.hid fun h j hj => by
        by_cases e : j = k
        · rw [e]; exact h
        · exact hall.out j (by omega)
      have hst := HST.out (ts.getD k tx0) (us.getD k tx0)
      rw [hst] at CS2
      generalize (ts.getD k tx0).1.length = L1 at *
      generalize (ts.getD k tx0).2.length = L2 at *
      generalize (us.getD k tx0).1.length = L3 at *
      generalize (us.getD k tx0).2.length = L4 at *
      have VS := Lib.hid (fun x : Lat wr => CS2.out x.w (below_step HB.out x.h))
      clear q1 q2 q3 q4 x1 x2 x3 x4 hql hql' CS2 hall hst hk1 hk3
      go_wp2_with fail
      by_cases heq : ts.getD k tx0 = us.getD k tx0
      · rw [decide_eq_true heq] at VS
        have HA3 := Lib.hid (HA2.out heq)
        clear heq HA2 HD2
        refine wp_region_lat (by kernel_rfl) (by kernel_rfl) ?_
        repeat (go_big_quiet_step (with_reducible exact lat_call (VS.out _)))
        refine wpQuiet_nil ?_; intro w3 hb
        replace HB := Lib.hid (below_step HB.out hb)
        clear m1 m2 m3 m4 VS hb
        go_wp2_with fail
        go_roundw
        case rel => exact ⟨k + 1, by omega, by go_num, HA3, HB.out⟩
        case measure => simp [intOf]; omega
      · rw [decide_eq_false heq] at VS
        have HR := Lib.hid (HNe.out (HD2.out heq))
        clear heq HA2 HD2
        refine wp_region_lat (by kernel_rfl) (by kernel_rfl) ?_
        repeat (go_big_quiet_step (with_reducible exact lat_call (VS.out _)))
        refine wpQuiet_nil ?_; intro w3 hb
        replace HB := Lib.hid (below_step HB.out hb)
        clear m1 m2 m3 m4 VS hb
        go_wp2_with fail
        go_ret
        exact ⟨retb HR.out.symm, HB.out⟩
    · have hlt2 : ¬ (k : Int) < N := by omega
      have hkN : k = N := by omega
      have HR := Lib.hid (HEq.out (HE.out (by rw [← HN.out, ← HM.out]) fun j hj => hall.out j (by rw [hkN, HN.out]; exact hj)))
      clear hall hkN
      go_wp2_with fail
      go_ret
      exact ⟨retb HR.out.symm, HB.out⟩

/-- Sizes of a board. -/
def BZ (b : Bd) : Prop := b.want.length ≤ 9223372036854775807 ∧ b.wrg.length ≤ 9223372036854775807 ∧ ∀ t ∈ b.want, TxL t
set_option maxRecDepth 100000 in
set_option maxHeartbeats 8000000 in
theorem brrSame (w : World) (a b : Bd) (A1 A2 A3 A4 : Option Addr) (c1 c2 c3 c4 : Nat) (h1 : Rs txR w (.slice A1 a.want.length c1) a.want anyB) (h2 : SL w (.slice A2 a.wrg.length c2) a.wrg) (h3 : Rs txR w (.slice A3 b.want.length c3) b.want anyB) (h4 : SL w (.slice A4 b.wrg.length c4) b.wrg) (za : BZ a) (zb : BZ b) :
    Calls Tryd.prog 11 #[.agg #[.bool a.ord, .string a.key, .slice A1 a.want.length c1, .int .i64 a.mat, .slice A2 a.wrg.length c2], .agg #[.bool b.ord, .string b.key, .slice A3 b.want.length c3, .int .i64 b.mat, .slice A4 b.wrg.length c4]] w fun e w' => e = .returned (.bool (sameBd a b)) ∧ Below w.heap.size w w' := by
  have CA : Hid (∀ W, Below w.heap.size w W → Calls Tryd.prog 26 #[.slice A1 a.want.length c1, .slice A3 b.want.length c3] W fun e w' => e = .returned (.bool (decide (a.want = b.want))) ∧ Below W.heap.size W w') := Lib.hid fun W hW => refSameAll W _ _ _ _ (h1.below hW) (h3.below hW) za.1 zb.1 za.2.2 zb.2.2
  obtain ⟨A2', c2', e2, _, hs2⟩ := h2
  simp only [Value.slice.injEq] at e2
  obtain ⟨rfl, -, rfl⟩ := e2
  obtain ⟨A4', c4', e4, _, hs4⟩ := h4
  simp only [Value.slice.injEq] at e4
  obtain ⟨rfl, -, rfl⟩ := e4
  have HS2 := Lib.hid hs2
  have HS4 := Lib.hid hs4
  have hno : a ≠ b → Hid (sameBd a b = false) := fun h => Lib.hid (decide_eq_false h)
  have hyes : a = b → Hid (sameBd a b = true) := fun h => Lib.hid (decide_eq_true h)
  obtain ⟨o1, s1, ws1, m1, gs1⟩ := a
  obtain ⟨o2, s2, ws2, m2, gs2⟩ := b
  simp only [Bd.mk.injEq, ne_eq] at *
  have z1 := za.1
  have z2 := za.2.1
  have z3 := zb.1
  have z4 := zb.2.1
  simp only at z1 z2 z3 z4
  generalize sameBd ⟨o1, s1, ws1, m1, gs1⟩ ⟨o2, s2, ws2, m2, gs2⟩ = r at *
  generalize ws1.length = N1 at *
  generalize ws2.length = N2 at *
  obtain ⟨G1, hG1⟩ : ∃ G, G = gs1.length := ⟨_, rfl⟩
  obtain ⟨G2, hG2⟩ : ∃ G, G = gs2.length := ⟨_, rfl⟩
  have K1 := Lib.hid hG1
  have K2 := Lib.hid hG2
  rw [← hG1] at HS2 z2 ⊢
  rw [← hG2] at HS4 z4 ⊢
  have HNO : Hid (¬(o1 = o2 ∧ s1 = s2 ∧ ws1 = ws2 ∧ m1 = m2 ∧ gs1 = gs2) → r = false) := Lib.hid fun h => (hno h).out
  have HYES : Hid (o1 = o2 → s1 = s2 → ws1 = ws2 → m1 = m2 → gs1 = gs2 → r = true) := Lib.hid fun a1 a2 a3 a4 a5 => (hyes ⟨a1, a2, a3, a4, a5⟩).out
  have HGN : Hid (gs1 = gs2 → G1 = G2) := Lib.hid fun h => by rw [hG1, hG2, h]
  clear h1 h3 hs2 hs4 za zb hno hyes hG1 hG2
  by_cases e1 : o1 = o2
  case neg =>
    have HR := Lib.hid (HNO.out fun h => e1 h.1)
    have hoo : (o1 = true ∧ o2 = false) ∨ (o1 = false ∧ o2 = true) := by cases o1 <;> cases o2 <;> simp_all
    clear e1
    rcases hoo with ⟨rfl, rfl⟩ | ⟨rfl, rfl⟩
    all_goals
      go_enter Tryd.func11, Tryd.ntmps11
      go_wp2_with fail
      go_ret
      exact ⟨retb HR.out.symm, below_step (below_alloc _ _) (below_alloc _ _)⟩
  subst e1
  have f1 : (o1 != o1) = false := by simp
  by_cases e2 : s1 = s2
  case neg =>
    have HR := Lib.hid (HNO.out fun h => e2 h.2.1)
    obtain ⟨f2, f3⟩ := strNe e2
    clear e2
    go_enter Tryd.func11, Tryd.ntmps11
    go_wp2_with fail
    go_ret
    exact ⟨retb HR.out.symm, below_step (below_alloc _ _) (below_alloc _ _)⟩
  subst e2
  have f2 : (s1.toList != s1.toList) = false := by simp
  by_cases e3 : m1 = m2
  case neg =>
    have HR := Lib.hid (HNO.out fun h => e3 h.2.2.2.1)
    have f3 : (m1 != m2) = true := by simpa using e3
    clear e3
    go_enter Tryd.func11, Tryd.ntmps11
    go_wp2_with fail
    go_ret
    exact ⟨retb HR.out.symm, below_step (below_alloc _ _) (below_alloc _ _)⟩
  subst e3
  have f3 : (m1 != m1) = false := by simp
  by_cases e4 : ws1 = ws2
  case neg =>
    have HR := Lib.hid (HNO.out fun h => e4 h.2.2.1)
    rw [decide_eq_false e4] at CA
    clear e4
    go_enter Tryd.func11, Tryd.ntmps11
    go_wp2_with fail
    have XA := Lib.hid ((box_new (W := w) (g := w.heap.size) 25 #[.bool o1, .string s1, .slice A1 N1 c1, .int .i64 m1, .slice A2 G1 c2] (by simp)).below (below_alloc _ (.cells #[.bool o1, .string s1, .slice A3 N2 c3, .int .i64 m1, .slice A4 G2 c4] 25)))
    have XB := Lib.hid (box_new (W := (w.alloc (.cells #[.bool o1, .string s1, .slice A1 N1 c1, .int .i64 m1, .slice A2 G1 c2] 25))) (g := w.heap.size + 1) 25 #[.bool o1, .string s1, .slice A3 N2 c3, .int .i64 m1, .slice A4 G2 c4] (by simp))
    have HB := Lib.hid (below_step (below_alloc w (.cells #[.bool o1, .string s1, .slice A1 N1 c1, .int .i64 m1, .slice A2 G1 c2] 25)) (below_alloc (w.alloc (.cells #[.bool o1, .string s1, .slice A1 N1 c1, .int .i64 m1, .slice A2 G1 c2] 25)) (.cells #[.bool o1, .string s1, .slice A3 N2 c3, .int .i64 m1, .slice A4 G2 c4] 25)))
    generalize (w.alloc (.cells #[.bool o1, .string s1, .slice A1 N1 c1, .int .i64 m1, .slice A2 G1 c2] 25)).alloc (.cells #[.bool o1, .string s1, .slice A3 N2 c3, .int .i64 m1, .slice A4 G2 c4] 25) = w1 at *
    refine (CA.out _ HB.out).mono ?_; rintro e w2 ⟨rfl, hb⟩
    replace XA := Lib.hid (XA.out.below hb)
    replace XB := Lib.hid (XB.out.below hb)
    replace HB := Lib.hid (below_step HB.out hb)
    clear hb
    go_wp2_with fail
    go_ret
    exact ⟨retb HR.out.symm, HB.out⟩
  rw [decide_eq_true e4] at CA
  by_cases e5 : G1 = G2
  case neg =>
    have HR := Lib.hid (HNO.out fun h => e5 (HGN.out h.2.2.2.2))
    have f5 : ((G1 : Int) != (G2 : Int)) = true := by have : ¬ (G1 : Int) = G2 := by omega
                                                      simpa using this
    have f6 : (G1 == G2) = false := by simpa using e5
    have f7 : (G1 != G2) = true := by simpa using e5
    clear e5 e4
    go_enter Tryd.func11, Tryd.ntmps11
    go_wp2_with fail
    have XA := Lib.hid ((box_new (W := w) (g := w.heap.size) 25 #[.bool o1, .string s1, .slice A1 N1 c1, .int .i64 m1, .slice A2 G1 c2] (by simp)).below (below_alloc _ (.cells #[.bool o1, .string s1, .slice A3 N2 c3, .int .i64 m1, .slice A4 G2 c4] 25)))
    have XB := Lib.hid (box_new (W := (w.alloc (.cells #[.bool o1, .string s1, .slice A1 N1 c1, .int .i64 m1, .slice A2 G1 c2] 25))) (g := w.heap.size + 1) 25 #[.bool o1, .string s1, .slice A3 N2 c3, .int .i64 m1, .slice A4 G2 c4] (by simp))
    have HB := Lib.hid (below_step (below_alloc w (.cells #[.bool o1, .string s1, .slice A1 N1 c1, .int .i64 m1, .slice A2 G1 c2] 25)) (below_alloc (w.alloc (.cells #[.bool o1, .string s1, .slice A1 N1 c1, .int .i64 m1, .slice A2 G1 c2] 25)) (.cells #[.bool o1, .string s1, .slice A3 N2 c3, .int .i64 m1, .slice A4 G2 c4] 25)))
    generalize (w.alloc (.cells #[.bool o1, .string s1, .slice A1 N1 c1, .int .i64 m1, .slice A2 G1 c2] 25)).alloc (.cells #[.bool o1, .string s1, .slice A3 N2 c3, .int .i64 m1, .slice A4 G2 c4] 25) = w1 at *
    refine (CA.out _ HB.out).mono ?_; rintro e w2 ⟨rfl, hb⟩
    replace XA := Lib.hid (XA.out.below hb)
    replace XB := Lib.hid (XB.out.below hb)
    replace HB := Lib.hid (below_step HB.out hb)
    clear hb
    have XA_4 := XA.out.at_ 4 _ rfl
    have XB_4 := XB.out.at_ 4 _ rfl
    go_wp2_with fail
    go_ret
    exact ⟨retb HR.out.symm, HB.out⟩
  subst e5
  have f5 : ((G1 : Int) != (G1 : Int)) = false := by simp
  have f7 : (G1 != G1) = false := by simp
  have HYE2 := Lib.hid (HYES.out rfl rfl e4 rfl)
  have HD : Hid (∀ k, k < gs1.length → gs1.getD k ⟨#[]⟩ ≠ gs2.getD k ⟨#[]⟩ → r = false) := Lib.hid fun k hk h => HNO.out fun h' => list_diff _ hk h h'.2.2.2.2
  have HE : Hid ((∀ j, j < gs1.length → gs1.getD j ⟨#[]⟩ = gs2.getD j ⟨#[]⟩) → r = true) := Lib.hid fun h => HYE2.out (list_eq_of _ (by rw [← K1.out, ← K2.out]) h)
  clear e4 HYES HNO HYE2 HGN
  go_enter Tryd.func11, Tryd.ntmps11
  go_wp2_with fail
  have XA := Lib.hid ((box_new (W := w) (g := w.heap.size) 25 #[.bool o1, .string s1, .slice A1 N1 c1, .int .i64 m1, .slice A2 G1 c2] (by simp)).below (below_alloc _ (.cells #[.bool o1, .string s1, .slice A3 N2 c3, .int .i64 m1, .slice A4 G1 c4] 25)))
  have XB := Lib.hid (box_new (W := (w.alloc (.cells #[.bool o1, .string s1, .slice A1 N1 c1, .int .i64 m1, .slice A2 G1 c2] 25))) (g := w.heap.size + 1) 25 #[.bool o1, .string s1, .slice A3 N2 c3, .int .i64 m1, .slice A4 G1 c4] (by simp))
  have HB := Lib.hid (below_step (below_alloc w (.cells #[.bool o1, .string s1, .slice A1 N1 c1, .int .i64 m1, .slice A2 G1 c2] 25)) (below_alloc (w.alloc (.cells #[.bool o1, .string s1, .slice A1 N1 c1, .int .i64 m1, .slice A2 G1 c2] 25)) (.cells #[.bool o1, .string s1, .slice A3 N2 c3, .int .i64 m1, .slice A4 G1 c4] 25)))
  generalize (w.alloc (.cells #[.bool o1, .string s1, .slice A1 N1 c1, .int .i64 m1, .slice A2 G1 c2] 25)).alloc (.cells #[.bool o1, .string s1, .slice A3 N2 c3, .int .i64 m1, .slice A4 G1 c4] 25) = w1 at *
  refine (CA.out _ HB.out).mono ?_; rintro e w2 ⟨rfl, hb⟩
  replace XA := Lib.hid (XA.out.below hb)
  replace XB := Lib.hid (XB.out.below hb)
  replace HB := Lib.hid (below_step HB.out hb)
  clear hb
  have XA_4 := XA.out.at_ 4 _ rfl
  have XB_4 := XB.out.at_ 4 _ rfl
  go_wp2_with fail
  clear XA_4 XB_4
  clear f1 f2 f3 f5 f7
  go_loopw [5] (fun i wr => ∃ k : Nat, k ≤ G1 ∧ i = .int .i64 k ∧ Hid (∀ j, j < k → gs1.getD j ⟨#[]⟩ = gs2.getD j ⟨#[]⟩) ∧ Box wr w.heap.size #[.bool o1, .string s1, .slice A1 N1 c1, .int .i64 m1, .slice A2 G1 c2] 25 ∧ Box wr (w.heap.size + 1) #[.bool o1, .string s1, .slice A3 N2 c3, .int .i64 m1, .slice A4 G1 c4] 25 ∧ Below w.heap.size w wr) (fun i _ => G1 - (intOf i).toNat)
  case atStart => exact ⟨0, Nat.zero_le _, rfl, (fun j h => by omega), XA.out, XB.out, HB.out⟩
  case round =>
    clear XA XB HB
    obtain ⟨k, hk, rfl, hall, hxa, hxb, hb⟩ := hrel
    have XA := Lib.hid hxa
    have XB := Lib.hid hxb
    have HB := Lib.hid hb
    clear hxa hxb hb
    by_cases hlt : k < G1
    · have hlt2 : (k : Int) < G1 := by omega
      have hk0 : (0 : Int) ≤ (k : Int) := by omega
      have hk1 : k < gs1.length := by rw [← K1.out]; exact hlt
      have hk3 : k < gs2.length := by rw [← K2.out]; exact hlt
      obtain ⟨a2, rfl, hr2⟩ := HS2.out (by omega)
      obtain ⟨a4, rfl, hr4⟩ := HS4.out (by omega)
      have m1 : ∀ x : Lat wr, x.w.cell? (a2.add k) = some (.string (gs1.getD k ⟨#[]⟩)) := fun x => (hr2.below (below_step HB.out x.h)).cells k hk1
      have m2 : ∀ x : Lat wr, x.w.cell? (a4.add k) = some (.string (gs2.getD k ⟨#[]⟩)) := fun x => (hr4.below (below_step HB.out x.h)).cells k hk3
      have HD2 := Lib.hid (HD.out k hk1)
      have HA2 : Hid (gs1.getD k ⟨#[]⟩ = gs2.getD k ⟨#[]⟩ → ∀ j, j < k + 1 → gs1.getD j ⟨#[]⟩ = gs2.getD j ⟨#[]⟩) := Lib.hid fun h j hj => by
        by_cases e : j = k
        · rw [e]; exact h
        · exact hall.out j (by omega)
      generalize gs1.getD k ⟨#[]⟩ = x at *
      generalize gs2.getD k ⟨#[]⟩ = y at *
      clear hr2 hr4 hk1 hk3 hall
      have XA_4 := XA.out.at_ 4 _ rfl
      go_wp2_with fail
      clear XA_4
      have l0 := XA.out.lat 4 _ rfl
      have l1 := XB.out.lat 4 _ rfl
      by_cases hxy : x = y
      · have HA3 := Lib.hid (HA2.out hxy)
        subst hxy
        have g1 : (x.toList != x.toList) = false := by simp
        clear HA2 HD2
        refine wp_region_lat (by kernel_rfl) (by kernel_rfl) ?_
        repeat (go_big_quiet_step (fail))
        refine wpQuiet_nil ?_; intro w3 hb
        clear m1 m2 l0 l1
        replace XA := Lib.hid (XA.out.below hb)
        replace XB := Lib.hid (XB.out.below hb)
        replace HB := Lib.hid (below_step HB.out hb)
        clear hb
        go_wp2_with fail
        go_roundw
        case rel => exact ⟨k + 1, by omega, by go_num, HA3, XA.out, XB.out, HB.out⟩
        case measure => simp [intOf]; omega
      · have HR := Lib.hid (HD2.out hxy)
        obtain ⟨g1, g2⟩ := strNe hxy
        clear HA2 HD2 hxy
        refine wp_region_lat (by kernel_rfl) (by kernel_rfl) ?_
        repeat (go_big_quiet_step (fail))
        refine wpQuiet_nil ?_; intro w3 hb
        clear m1 m2 l0 l1
        replace XA := Lib.hid (XA.out.below hb)
        replace XB := Lib.hid (XB.out.below hb)
        replace HB := Lib.hid (below_step HB.out hb)
        clear hb
        go_wp2_with fail
        go_ret
        exact ⟨retb HR.out.symm, HB.out⟩
    · have hlt2 : ¬ (k : Int) < G1 := by omega
      have hkN : k = G1 := by omega
      have HR := Lib.hid (HE.out fun j hj => hall.out j (by rw [hkN, K1.out]; exact hj))
      clear hall hkN
      have XA_4 := XA.out.at_ 4 _ rfl
      go_wp2_with fail
      go_ret
      exact ⟨retb HR.out.symm, HB.out⟩

end Go.Proofs.YtldafnjbgjagiaaDoor
