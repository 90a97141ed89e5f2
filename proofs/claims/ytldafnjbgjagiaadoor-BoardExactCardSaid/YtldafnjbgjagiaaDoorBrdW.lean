/-
  The transactions whose key has a value; one operation of a drawn region as a list.
-/
import Derived.Test.YtldafnjbgjagiaaDoorBrdT
import Derived.Test.YtldafnjbgjagiaaDoorBrdV
import Derived.Deep.RegionHeld3
namespace Go.Proofs.YtldafnjbgjagiaaDoor
open Go.RowKit
set_option linter.unusedVariables false
set_option linter.unusedSimpArgs false

section
variable {P : Program} {md : Region.Mode} {Q : Exit → Act → World → Prop} {ops : Array Oper} {S : World → Prop}
/-- The one operation of a drawn region that may come up, walked as a list of its own. -/
theorem held_one {i : Nat} {o : Oper} {fuel : Nat} {listed : Array Bool} {a : Act} {w : World} (hr : Region.ready md ops listed = [i]) (ho : ops[i]? = some o)
    (h : wpList P ops (noQ fun _ a' w' => S w' ∧ wpAnyH P md ops Q S fuel (listed.setIfInBounds i true) a' w') [o] a w) : wpAnyH P md ops Q S (fuel + 1) listed a w := by
  refine wpAnyH_all hr (by simp) (fun j hj => ?_)
  obtain rfl : j = i := by simpa using hj
  unfold wpOp
  simp only [ho]
  unfold wpList at h
  by_cases hw : Region.wanted o (yielded ops a.tmps) = true
  · rw [if_pos hw] at h ⊢
    rcases h with h | ⟨_, h⟩
    · left
      unfold Oper.wp at *
      generalize (execOp a.eval o).run P w = r at *
      cases r with
      | ok n w' =>
        cases n <;> simp only [Oper.upon, wpList] at h ⊢ <;>
          first
            | exact h.2
            | exact Calls.mono h (fun e w'' he => by cases e <;> first | exact he.2 | exact absurd he.1 (by intro h; cases h) | exact absurd he noQ_lets)
            | exact Rows.mono h (fun _ _ he => he.2)
      | halt x w' => cases x <;> simp only [Oper.upon] at h ⊢ <;> first | exact h | exact absurd h.1 (by intro h; cases h)
    · exact absurd h noQ_lets
  · rw [if_neg hw] at h ⊢
    exact h.2
end
theorem with_step (ts : List Tx) (s : ByteArray) (z : Int) (k : Nat) (hk : k < ts.length) : withT (ts.take (k + 1)) s z = if (getT (ts.getD k tx0).1 (ts.getD k tx0).2 s).1 = z then withT (ts.take k) s z ++ [ts.getD k tx0] else withT (ts.take k) s z := by
  unfold withT
  rw [take_snocD ts k tx0 hk, List.filter_append, List.filter_cons]
  have e : gt (ts.getD k tx0) s = getT (ts.getD k tx0).1 (ts.getD k tx0).2 s := rfl
  by_cases h : (getT (ts.getD k tx0).1 (ts.getD k tx0).2 s).1 = z
  · rw [if_pos h, if_pos (by rw [e]; exact decide_eq_true h)]; rfl
  · rw [if_neg h, if_neg (by rw [e]; simpa using h)]; simp
theorem with_len (ts : List Tx) (s : ByteArray) (z : Int) : (withT ts s z).length ≤ ts.length := List.length_filter_le _ _
set_option maxRecDepth 100000 in
set_option maxHeartbeats 8000000 in
theorem lawWith (w : World) (sv : Value) (ts : List Tx) (s : ByteArray) (z : Int) (h : Rs txR w sv ts anyB) (n : ts.length ≤ 1000) (hz : ∀ t ∈ ts, TxL t) :
    Calls Tryd.prog 27 #[sv, .string s, .int .i64 z] w fun e w' => ∃ v, e = .returned v ∧ Rs txR w' v (withT ts s z) anyB ∧ Below w.heap.size w w' := by
  obtain ⟨A1, c1, rfl, -, hx⟩ := h.txs
  have HX := Lib.hid hx
  have CU : Hid (∀ k, k < ts.length → ∀ W v1 v2, SL W v1 (ts.getD k tx0).1 → IL W v2 (ts.getD k tx0).2 → Calls Tryd.prog 24 #[.agg #[v1, v2], .string s] W fun e w' => e = ret2b (getT (ts.getD k tx0).1 (ts.getD k tx0).2 s) ∧ Below W.heap.size W w') := Lib.hid fun k hk W v1 v2 a1 a2 => refGet W v1 v2 _ _ s a1 a2 (hz _ (getD_mem tx0 hk)).1 (hz _ (getD_mem tx0 hk)).2
  obtain ⟨WK, hWK⟩ : ∃ f : Nat → List Tx, f = fun k => withT (ts.take k) s z := ⟨_, rfl⟩
  have WS := Lib.hid (with_step ts s z)
  have WL : Hid (∀ k, (WK k).length ≤ 1000) := Lib.hid fun k => by
    rw [hWK]
    exact Nat.le_trans (with_len _ _ _) (by rw [List.length_take]; omega)
  have W0 : Hid (WK 0 = []) := Lib.hid (by rw [hWK]; rfl)
  have WA : Hid (WK ts.length = withT ts s z) := Lib.hid (by rw [hWK]; simp only [List.take_length])
  have WS : Hid (∀ k, k < ts.length → WK (k + 1) = if (getT (ts.getD k tx0).1 (ts.getD k tx0).2 s).1 = z then WK k ++ [ts.getD k tx0] else WK k) := Lib.hid fun k hk => by
    rw [hWK]; exact with_step ts s z k hk
  clear hWK
  generalize withT ts s z = r at *
  obtain ⟨i0, hi, hz0, hz1, hz2⟩ := info_parts itxn
  have HI := Lib.hid hi
  have HZ0 := Lib.hid hz0
  have HZ1 := Lib.hid hz1
  have HZ2 := Lib.hid hz2
  obtain ⟨N, hN⟩ : ∃ N, N = ts.length := ⟨_, rfl⟩
  have HN := Lib.hid hN
  rw [← hN] at n WA ⊢
  clear h hx hz hi hz0 hz1 hz2 hN
  go_enter Tryd.func27, Tryd.ntmps27
  go_wp2_with fail
  go_loopw [7, 14] (fun ov i wr => ∃ k : Nat, k ≤ N ∧ i = .int .i64 k ∧ OG txR wr w.heap.size w.heap.size 28 ov (WK k) ∧ Below w.heap.size w wr) (fun _ i _ => N - (intOf i).toNat)
  case atStart => exact ⟨0, Nat.zero_le _, rfl, by rw [W0.out]; exact OG.nil txR w _ _ _ (by decide) (Nat.le_refl _), Below.refl _ _⟩
  case round =>
    obtain ⟨k, hk, rfl, hog, hb⟩ := hrel
    have HB := Lib.hid hb
    have HOG := Lib.hid hog
    obtain ⟨OA, oc, rfl⟩ := hog.slice
    clear hb hog
    by_cases hlt : k < N
    · have hlt2 : (k : Int) < N := by omega
      have hk0 : (0 : Int) ≤ (k : Int) := by omega
      have hk1 : k < ts.length := by rw [← HN.out]; exact hlt
      obtain ⟨q, y, u1, u2, rfl, hql, q1, q2, x1, x2, -⟩ := HX.out k hk1
      have m1 : wr.cell? ⟨q, y + k * 2, none⟩ = _ := (HB.out.cell (p := ⟨q, y + k * 2, none⟩) hql).trans q1
      have m2 : wr.cell? ⟨q, y + k * 2 + 1, none⟩ = _ := (HB.out.cell (p := ⟨q, y + k * 2 + 1, none⟩) hql).trans q2
      have CS := Lib.hid (fun W (hW : Below w.heap.size w W) => CU.out k hk1 W u1 u2 (x1.below hW) (x2.below hW))
      have ST := Lib.hid (fun W (hW : Below w.heap.size w W) => tx_lowB (t := ts.getD k tx0) x1 x2 hW)
      have WSK := Lib.hid (WS.out k hk1)
      have WLK := Lib.hid (WL.out k)
      obtain ⟨E1, e1, rfl, -⟩ := id x1
      obtain ⟨E2, e2, rfl, -⟩ := id x2
      generalize ts.getD k tx0 = t at *
      obtain ⟨L1, hL1⟩ : ∃ n, n = t.1.length := ⟨_, rfl⟩
      obtain ⟨L2, hL2⟩ : ∃ n, n = t.2.length := ⟨_, rfl⟩
      rw [← hL1] at CS ST m1
      rw [← hL2] at CS ST m2
      obtain ⟨⟨rz, rb⟩, hr⟩ : ∃ q, q = getT t.1 t.2 s := ⟨_, rfl⟩
      rw [← hr] at CS WSK
      simp only [ret2b] at CS WSK
      obtain ⟨L, hL⟩ : ∃ L, L = (WK k).length := ⟨_, rfl⟩
      have HLL := Lib.hid hL
      rw [← hL] at HOG WLK ⊢
      clear q1 q2 x1 x2 hql hL1 hL2 hr hL hk1 HX CU WS WL
      go_wp2_with fail
      have XP := Lib.hid (box_new (W := wr) (g := wr.heap.size) 28 #[.slice E1 L1 e1, .slice E2 L2 e2] (by simp))
      have hba := (below_alloc wr (.cells #[.slice E1 L1 e1, .slice E2 L2 e2] 28))
      replace HOG := Lib.hid (HOG.out.below hba)
      replace HB := Lib.hid (below_step HB.out hba)
      clear hba
      generalize wr.alloc (.cells #[.slice E1 L1 e1, .slice E2 L2 e2] 28) = w3 at *
      have XP_0 := XP.out.at_ 0 _ rfl
      have XP_1 := XP.out.at_ 1 _ rfl
      go_wp2_with fail
      refine (CS.out _ HB.out).mono ?_; rintro e w4 ⟨rfl, hb⟩
      clear XP_0 XP_1
      replace HOG := Lib.hid (HOG.out.below hb)
      replace XP := Lib.hid (XP.out.below hb)
      replace HB := Lib.hid (below_step HB.out hb)
      clear hb
      by_cases heq : rz = z
      · rw [if_pos heq] at WSK
        have HW2 := WSK
        have f1 : (rz == z) = true := by simpa using heq
        subst heq
        clear WSK
        have XP_0 := XP.out.at_ 0 _ rfl
        have XP_1 := XP.out.at_ 1 _ rfl
        have hbl := below_alloc w4 (.cells #[.slice E1 L1 e1, .slice E2 L2 e2] 28)
        have HR4 : Hid (Rs txR (w4.alloc (.cells #[.slice E1 L1 e1, .slice E2 L2 e2] 28)) (.slice (some ⟨w4.heap.size, 0, none⟩) 1 1) [t] (Ty (w4.alloc (.cells #[.slice E1 L1 e1, .slice E2 L2 e2] 28)) w.heap.size txR.ts)) :=
          Lib.hid ((Rs.one (ST.out _ HB.out) 28).mono fun q hq => hq.below hbl)
        have HOGa := Lib.hid (HOG.out.below hbl)
        have HBa := Lib.hid (below_step HB.out hbl)
        clear hbl
        go_wp2_with (at_builtin; refine wpList_append_og (φ := txR) (T := 28) (B := w.heap.size) (C := w.heap.size) (xs := WK k) (ys := [t]) rfl _ _ 22 rfl i0 (.agg #[.slice none 0 0, .slice none 0 0]) 48 Tryd.underlying22 HI.out HZ0.out HZ1.out HZ2.out rfl rfl HOGa.out (.slice (some ⟨w4.heap.size, 0, none⟩) 1 1) rfl HR4.out ?c1 ?c2 ?c3 ?_)
        case c1 => simp only [List.length_cons, List.length_nil]; rw [← HLL.out]; have := WLK.out; omega
        case c2 => simp only [List.length_cons, List.length_nil]; rw [← HLL.out]; have := WLK.out; unfold maxLen; omega
        case c3 => exact HBa.out.size
        intro v' w7 hog7 hg7
        clear XP_0 XP_1
        clear HB HOG XP
        have HB := Lib.hid (HOGa.out.belowG hg7.out HBa.out HBa.out.size (Nat.le_refl _))
        rw [← HW2.out] at hog7
        clear HOGa HBa hg7 HR4 HW2 ST
        go_wp2_with fail
        go_roundw
        case rel => exact ⟨k + 1, by omega, by go_num, hog7.out, HB.out⟩
        case measure => simp [intOf]; omega
      · rw [if_neg heq] at WSK
        have f1 : (rz == z) = false := by simpa using heq
        clear heq
        go_wp2_with fail
        go_roundw
        case rel => exact ⟨k + 1, by omega, by go_num, by rw [WSK.out]; exact HOG.out, HB.out⟩
        case measure => simp [intOf]; omega
    · have hlt2 : ¬ (k : Int) < N := by omega
      have hkN : k = N := by omega
      have HR : Hid (Rs txR wr (.slice OA (WK k).length oc) r anyB) := Lib.hid (by have := HOG.out.any; rw [hkN, WA.out] at this ⊢; exact this)
      generalize (WK k).length = L at *
      clear hkN HOG
      go_wp2_with fail
      go_ret
      exact ⟨_, rfl, HR.out, HB.out⟩

end Go.Proofs.YtldafnjbgjagiaaDoor
