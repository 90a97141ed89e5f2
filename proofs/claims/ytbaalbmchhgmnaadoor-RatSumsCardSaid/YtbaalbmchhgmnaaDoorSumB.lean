/-
  Contract of the reference's Sum.
-/
import Derived.Test.YtbaalbmchhgmnaaDoorSumA
import Derived.LoopTactic
import Derived.Deep.RegionHeld3
import Derived.Deep.DeepCutAuto
namespace Go.Proofs.YtbaalbmchhgmnaaDoor
open Go.RowKit
set_option linter.unusedVariables false
set_option linter.unusedSimpArgs false

set_option maxRecDepth 100000 in
set_option maxHeartbeats 8000000 in
theorem allocRat : AllocRun Tryd.prog 23 #[.int .i64 0, .int .i64 0] := fun o ho a w => by
  unfold execOp; rw [ho]; kernel_rfl
theorem rat_new {w w1 : World} {t : TypeId} {u v : Value} (h : Below (w.alloc (.cells #[u, v] t)).drew.heap.size (w.alloc (.cells #[u, v] t)).drew w1) :
    w1.cell? ⟨w.heap.size, 0, none⟩ = some u ∧ w1.cell? ⟨w.heap.size, 1, none⟩ = some v ∧ w.heap.size < w1.heap.size ∧ w1.frozen? ⟨w.heap.size, 0, none⟩ = false ∧ w1.frozen? ⟨w.heap.size, 1, none⟩ = false := by
  have hb := below_step (below_drawn (w0 := w.alloc (.cells #[u, v] t)) (w.alloc (.cells #[u, v] t)).drew.drawn) h
  have B := (Box.new w t #[u, v]).below hb
  exact ⟨B.at_ 0 _ rfl, B.at_ 1 _ rfl, B.lt, B.frozen 0, B.frozen 1⟩
set_option maxRecDepth 100000 in
set_option maxHeartbeats 8000000 in
theorem refSums (w : World) (v : Value) (l : List (Int × Int)) (h : QL w v l) (hf : QF l) :
    Calls Tryd.prog 27 #[v] w fun e w' => e = ret3r (sumR l) ∧ Below w.heap.size w w' := by
  obtain ⟨A, c, rfl, hc, hm, hs⟩ := h
  obtain ⟨N, hN⟩ : ∃ N, N = l.length := ⟨_, rfl⟩
  have HN := Lib.hid hN
  rw [← hN] at hc ⊢
  have HS := Lib.hid hs
  have HF := Lib.hid hf
  obtain ⟨R, hR⟩ : ∃ R, R = sumR l := ⟨_, rfl⟩
  have HR := Lib.hid hR
  rw [← hR]
  clear hs hN hf hR
  go_enter Tryd.func27, Tryd.ntmps27
  go_wp2_with fail
  go_loopw [5] (fun c wr => ∃ (k : Nat) (n d : Int), k ≤ N ∧ c = .int .i64 k ∧ I64 n ∧ I64 d ∧ sumF n d (l.drop k) = R ∧ Box wr w.heap.size #[.int .i64 0, .int .i64 0] 23 ∧ Box wr (w.heap.size + 1) #[.int .i64 n, .int .i64 d] 23 ∧ Below w.heap.size w wr) (fun c _ => N - (intOf c).toNat)
  case atStart =>
    refine ⟨0, 0, 1, Nat.zero_le _, rfl, by unfold I64; omega, by unfold I64; omega, HR.out.symm, (Box.new w _ _).below (below_alloc _ _), box1 w _ _ _, below_step (below_alloc w _) (below_alloc _ _)⟩
  case round =>
    obtain ⟨k, n, d, hk, rfl, hn, hd, hsum, hx, ha, hb⟩ := hrel
    have XR := Lib.hid hx
    have XA := Lib.hid ha
    have HB := Lib.hid hb
    have HSM := Lib.hid hsum
    clear hx ha hb hsum
    by_cases hlt : k < N
    · have hlt2 : (k : Int) < N := by omega
      obtain ⟨a, rfl, hq⟩ := HS.out (by rw [← HN.out]; omega)
      obtain ⟨c0, c1⟩ := (hq.below HB.out).cells k (by rw [← HN.out]; exact hlt)
      obtain ⟨f1, f2⟩ := HF.out k (by rw [← HN.out]; exact hlt)
      have hst := sumF_step (n := n) (d := d) (l := l) (k := k) (by rw [← HN.out]; exact hlt)
      rw [HSM.out] at hst
      have hbl : (a.add (k * 2)).block < w.heap.size := by rw [block_of_add]; exact hq.lt
      clear HSM hq
      generalize (l.getD k (0, 0)).1 = bn at *
      generalize (l.getD k (0, 0)).2 = bd at *
      have C1 := Lib.hid (fun w => refAdd05 n d bn bd w hn hd f1 f2)
      obtain ⟨⟨x, y, er⟩, hxy⟩ : ∃ r, r = addR n d bn bd := ⟨_, rfl⟩
      obtain ⟨i1, i2⟩ := addR_I64 hxy.symm
      rw [← hxy] at hst C1
      simp only [ret3r] at C1 hst
      have HST := Lib.hid hst
      have HI1 := Lib.hid i1
      have HI2 := Lib.hid i2
      have a0 := XA.out.at_ 0 _ rfl
      have a1 := XA.out.at_ 1 _ rfl
      have a2 := XA.out.lt
      clear hst hxy hn hd f1 f2 i1 i2
      go_wp2_with fail
      have s1 : (a.add (k * 2)).block < wr.heap.size := Nat.lt_of_lt_of_le hbl HB.out.size
      go_cut [6, 7] from 9 to 28 (fun s6 s7 wx => ∃ gy, s6 = .pointer (some ⟨gy, 0, none⟩) ∧ s7 = .int .i64 er ∧ Box wx gy #[.int .i64 x, .int .i64 y] 23 ∧ wr.heap.size ≤ gy ∧ Below wr.heap.size wr wx)
      case first =>
        have hcell : ∀ W, Below wr.heap.size wr W → W.cell? ⟨w.heap.size + 1, 0, none⟩ = some (.int .i64 n) ∧ W.cell? ⟨w.heap.size + 1, 1, none⟩ = some (.int .i64 d) ∧ W.cell? (a.add (k * 2)) = some (.int .i64 bn) ∧ W.cell? ⟨(a.add (k * 2)).block, (a.add (k * 2)).off + 1, none⟩ = some (.int .i64 bd) := fun W hW => by
          rw [hW.cell (p := ⟨w.heap.size + 1, 0, none⟩) XA.out.lt, hW.cell (p := ⟨w.heap.size + 1, 1, none⟩) XA.out.lt, hW.cell (p := a.add (k * 2)) s1, hW.cell (p := ⟨(a.add (k * 2)).block, (a.add (k * 2)).off + 1, none⟩) s1]
          exact ⟨XA.out.at_ 0 _ rfl, XA.out.at_ 1 _ rfl, c0, c1⟩
        have HC := Lib.hid hcell
        clear hcell
        go_region_held3 (fun w' => w'.cell? ⟨w.heap.size + 1, 0, none⟩ = some (.int .i64 n) ∧ w'.cell? ⟨w.heap.size + 1, 1, none⟩ = some (.int .i64 d) ∧ w'.cell? (a.add (k * 2)) = some (.int .i64 bn) ∧ w'.cell? ⟨(a.add (k * 2)).block, (a.add (k * 2)).off + 1, none⟩ = some (.int .i64 bd)) ((first | exact HC.out _ (below_drawn _) | exact HC.out _ (below_step (below_drawn _) hb) | exact HC.out _ (below_step (below_alloc _ _) (below_drawn _)) | exact HC.out _ (below_step (below_step (below_drawn _) hb) (below_alloc _ _)) | exact HC.out _ (below_step (below_step (below_alloc _ _) (below_drawn _)) hb) | exact HC.out _ (((below_step (below_step (below_drawn _) hb) (below_alloc _ _)).setCell hb.size _).setCell hb.size _) | exact HC.out _ (((below_step (below_step (below_alloc _ _) (below_drawn _)) hb).setCell (Nat.le_refl _) _).setCell (Nat.le_refl _) _))) (first | (go_at_call 18; refine (C1.out _).mono ?_; rintro e w1 ⟨rfl, hb⟩; try (have nn := rat_new hb; obtain ⟨n0, n1, n2, n3, n4⟩ := nn)))
        all_goals
          go_wp2_with fail
          go_meet
          first
            | exact ⟨_, rfl, rfl, Box.new w1 23 #[.int .i64 x, .int .i64 y], hb.size, below_step (below_step (below_drawn _) hb) (below_alloc _ _)⟩
            | exact ⟨_, rfl, rfl, ((((Box.new wr 23 #[.int .i64 0, .int .i64 0]).below (below_drawn _)).below hb).set_ 0 (.int .i64 x)).set_ 1 (.int .i64 y), Nat.le_refl _, ((below_step (below_step (below_alloc _ _) (below_drawn _)) hb).setCell (p := ⟨wr.heap.size, 0, none⟩) (Nat.le_refl _) _).setCell (p := ⟨wr.heap.size, 1, none⟩) (Nat.le_refl _) _⟩
      obtain ⟨gy, rfl, rfl, Y, hgy, hb⟩ := hcut
      have HG : Hid (w.heap.size + 1 + 1 ≤ gy) := Lib.hid (by have := XA.out.lt; omega)
      replace XR := Lib.hid (XR.out.below hb)
      replace XA := Lib.hid (XA.out.below hb)
      replace HB := Lib.hid (below_step HB.out hb)
      clear hb C1 c0 c1 hbl s1 a0 a1 a2
      have y0 := Y.at_ 0 _ rfl
      have y1 := Y.at_ 1 _ rfl
      have y2 := Y.lt
      have y3 := Y.frozen 0
      have y4 := Y.frozen 1
      have g1 : gy ≠ w.heap.size := by have := HG.out; omega
      have g2 : gy ≠ w.heap.size + 1 := by have := HG.out; omega
      have g3 := Ne.symm g1
      have g4 := Ne.symm g2
      have g5 : w.heap.size ≤ gy := by have := HG.out; omega
      by_cases h0 : er = 0
      · subst h0
        replace HST := Lib.hid (HST.out.trans (if_pos rfl))
        have a0 := XA.out.at_ 0 _ rfl
        have a1 := XA.out.at_ 1 _ rfl
        have a2 := XA.out.lt
        have a3 := XA.out.frozen 0
        have a4 := XA.out.frozen 1
        go_wp2_with fail
        clear a0 a1 a2 a3 a4
        go_roundw
        case rel =>
          refine ⟨k + 1, x, y, by omega, by go_num, HI1.out, HI2.out, HST.out.symm, ?_, ?_, ?_⟩
          · exact (XR.out.setNe (p := ⟨w.heap.size + 1, 0, none⟩) (by simp) _).setNe (p := ⟨w.heap.size + 1, 1, none⟩) (by simp) _
          · exact (XA.out.set_ 0 (.int .i64 x)).set_ 1 (.int .i64 y)
          · exact (HB.out.setCell (p := ⟨w.heap.size + 1, 0, none⟩) (Nat.le_succ _) _).setCell (p := ⟨w.heap.size + 1, 1, none⟩) (Nat.le_succ _) _
        case measure => simp [intOf]; omega
      · have f0 : (er == 0) = false := by simpa using h0
        replace HST := Lib.hid (HST.out.trans (if_neg h0))
        clear h0
        have a0 := XR.out.at_ 0 _ rfl
        have a1 := XR.out.at_ 1 _ rfl
        have a2 := XR.out.lt
        have a3 := XR.out.frozen 0
        have a4 := XR.out.frozen 1
        go_wp2_with fail
        have XF : Box ((wc.setCell ⟨w.heap.size, 0, none⟩ (.int .i64 0)).setCell ⟨w.heap.size, 1, none⟩ (.int .i64 0)) w.heap.size #[.int .i64 0, .int .i64 0] 23 := (XR.out.set_ 0 (.int .i64 0)).set_ 1 (.int .i64 0)
        have q0 := XF.at_ 0 _ rfl
        have q1 := XF.at_ 1 _ rfl
        refine bodyPost_ret (v := .tuple #[.agg #[.int .i64 0, .int .i64 0], .int .i64 er]) (by simp [results, Tryd.results27, go_sem, q0, q1]) rfl ⟨by rw [HST.out]; rfl, ?_⟩
        exact (HB.out.setCell (p := ⟨w.heap.size, 0, none⟩) (Nat.le_refl _) _).setCell (p := ⟨w.heap.size, 1, none⟩) (Nat.le_refl _) _
    · have hlt2 : ¬ (k : Int) < N := by omega
      have hst := sumF_end (n := n) (d := d) (l := l) (k := k) (by rw [← HN.out]; omega)
      rw [HSM.out] at hst
      have HST := Lib.hid hst
      clear hst
      have a0 := XA.out.at_ 0 _ rfl
      have a1 := XA.out.at_ 1 _ rfl
      have a2 := XA.out.lt
      have b0 := XR.out.at_ 0 _ rfl
      have b1 := XR.out.at_ 1 _ rfl
      have b2 := XR.out.lt
      have b3 := XR.out.frozen 0
      have b4 := XR.out.frozen 1
      go_wp2_with fail
      refine bodyPost_ret (v := .tuple #[.agg #[.int .i64 n, .int .i64 d], .int .i64 0]) (by simp [results, Tryd.results27, go_sem, b0, b1]) rfl ⟨by rw [HST.out]; rfl, ?_⟩
      exact (HB.out.setCell (p := ⟨w.heap.size, 0, none⟩) (Nat.le_refl _) _).setCell (p := ⟨w.heap.size, 1, none⟩) (Nat.le_refl _) _

end Go.Proofs.YtbaalbmchhgmnaaDoor
