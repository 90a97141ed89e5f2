/-
  Contract of rat.Sum.
-/
import Derived.Test.YtbaalbmchhgmnaaDoorSumSpec
import Derived.LoopTactic
namespace Go.Proofs.YtbaalbmchhgmnaaDoor
open Go.RowKit
set_option linter.unusedVariables false
set_option linter.unusedSimpArgs false

set_option maxRecDepth 100000 in
set_option maxHeartbeats 8000000 in
theorem ratSum (w : World) (v : Value) (l : List (Int × Int)) (h : QL w v l) (hf : QF l) :
    Calls Tryd.prog 26 #[v] w fun e w' => e = ret3r (sumR l) ∧ Below w.heap.size w w' := by
  obtain ⟨A, c, rfl, hc, hm, hs⟩ := h
  obtain ⟨N, hN⟩ : ∃ N, N = l.length := ⟨_, rfl⟩
  have HN := Lib.hid hN
  rw [← hN] at hc ⊢
  have HS := Lib.hid hs
  have HF := Lib.hid hf
  obtain ⟨R, hR⟩ : ∃ R, R = sumR l := ⟨_, rfl⟩
  have HR := Lib.hid hR
  rw [← hR]
  clear hs hN hf hR
  go_enter Tryd.func26, Tryd.ntmps26
  go_wp2_with fail
  go_loopw [12] (fun c wr => ∃ (k : Nat) (n d : Int), k ≤ N ∧ c = .int .i64 k ∧ I64 n ∧ I64 d ∧ sumF n d (l.drop k) = R ∧ Box wr w.heap.size #[.int .i64 0, .int .i64 0] 23 ∧ Box wr (w.heap.size + 1) #[.int .i64 n, .int .i64 d] 23 ∧ Below w.heap.size w wr) (fun c _ => N - (intOf c).toNat)
  case atStart =>
    refine ⟨0, 0, 1, Nat.zero_le _, rfl, by unfold I64; omega, by unfold I64; omega, HR.out.symm, (Box.new w _ _).below (below_alloc _ _), box1 w _ _ _, below_step (below_alloc w _) (below_alloc _ _)⟩
  case round =>
    obtain ⟨k, n, d, hk, rfl, hn, hd, hsum, hx, ha, hb⟩ := hrel
    have XR := Lib.hid hx
    have XA := Lib.hid ha
    have HB := Lib.hid hb
    have HSM := Lib.hid hsum
    clear hx ha hb hsum
    by_cases hlt : k < N
    · have hlt2 : (k : Int) < N := by omega
      obtain ⟨a, rfl, hq⟩ := HS.out (by rw [← HN.out]; omega)
      obtain ⟨c0, c1⟩ := (hq.below HB.out).cells k (by rw [← HN.out]; exact hlt)
      obtain ⟨f1, f2⟩ := HF.out k (by rw [← HN.out]; exact hlt)
      have hst := sumF_step (n := n) (d := d) (l := l) (k := k) (by rw [← HN.out]; exact hlt)
      rw [HSM.out] at hst
      have hbl : (a.add (k * 2)).block < w.heap.size := by rw [block_of_add]; exact hq.lt
      clear HSM hq
      generalize (l.getD k (0, 0)).1 = bn at *
      generalize (l.getD k (0, 0)).2 = bd at *
      have C1 := Lib.hid (fun w => ratAdd n d bn bd w hn hd f1 f2)
      obtain ⟨⟨x, y, er⟩, hxy⟩ : ∃ r, r = addR n d bn bd := ⟨_, rfl⟩
      obtain ⟨i1, i2⟩ := addR_I64 hxy.symm
      rw [← hxy] at hst C1
      simp only [ret3r] at C1 hst
      have HST := Lib.hid hst
      have HI1 := Lib.hid i1
      have HI2 := Lib.hid i2
      have a0 := XA.out.at_ 0 _ rfl
      have a1 := XA.out.at_ 1 _ rfl
      have a2 := XA.out.lt
      clear hst hxy hn hd f1 f2 i1 i2
      go_wp2_with fail
      refine (C1.out _).mono ?_; rintro e w1 ⟨rfl, hb⟩
      replace hb := below_step (below_alloc wr (.cells #[.int .i64 bn, .int .i64 bd] 23)) hb
      replace XR := Lib.hid (XR.out.below hb)
      replace XA := Lib.hid (XA.out.below hb)
      replace HB := Lib.hid (below_step HB.out hb)
      clear hb a0 a1 a2 C1 c0 c1 hbl
      by_cases h0 : er = 0
      · subst h0
        replace HST := Lib.hid (HST.out.trans (if_pos rfl))
        have a0 := XA.out.at_ 0 _ rfl
        have a1 := XA.out.at_ 1 _ rfl
        have a2 := XA.out.lt
        have a3 := XA.out.frozen 0
        have a4 := XA.out.frozen 1
        go_wp2_with fail
        clear a0 a1 a2 a3 a4
        go_roundw
        case rel =>
          refine ⟨k + 1, x, y, by omega, by go_num, HI1.out, HI2.out, HST.out.symm, ?_, ?_, ?_⟩
          · exact ((XR.out.setNe (p := ⟨w.heap.size + 1, 0, none⟩) (by simp) _).setNe (p := ⟨w.heap.size + 1, 1, none⟩) (by simp) _).below (below_alloc _ _)
          · exact Box.below (cs := #[.int .i64 x, .int .i64 y]) ((XA.out.set_ 0 (.int .i64 x)).set_ 1 (.int .i64 y)) (below_alloc _ _)
          · exact below_step ((HB.out.setCell (p := ⟨w.heap.size + 1, 0, none⟩) (Nat.le_succ _) _).setCell (p := ⟨w.heap.size + 1, 1, none⟩) (Nat.le_succ _) _) (below_alloc _ _)
        case measure => simp [intOf]; omega
      · have f0 : (er == 0) = false := by simpa using h0
        replace HST := Lib.hid (HST.out.trans (if_neg h0))
        clear h0
        have a0 := XR.out.at_ 0 _ rfl
        have a1 := XR.out.at_ 1 _ rfl
        have a2 := XR.out.lt
        have a3 := XR.out.frozen 0
        have a4 := XR.out.frozen 1
        go_wp2_with fail
        have XF := Box.below (cs := #[.int .i64 0, .int .i64 0]) ((XR.out.set_ 0 (.int .i64 0)).set_ 1 (.int .i64 0)) (below_alloc _ (.cells #[.int .i64 x, .int .i64 y] 23))
        have q0 := XF.at_ 0 _ rfl
        have q1 := XF.at_ 1 _ rfl
        refine bodyPost_ret (v := .tuple #[.agg #[.int .i64 0, .int .i64 0], .int .i64 er]) (by simp [results, Tryd.results26, go_sem, q0, q1]) rfl ⟨by rw [HST.out]; rfl, ?_⟩
        exact below_step ((HB.out.setCell (p := ⟨w.heap.size, 0, none⟩) (Nat.le_refl _) _).setCell (p := ⟨w.heap.size, 1, none⟩) (Nat.le_refl _) _) (below_alloc _ _)
    · have hlt2 : ¬ (k : Int) < N := by omega
      have hst := sumF_end (n := n) (d := d) (l := l) (k := k) (by rw [← HN.out]; omega)
      rw [HSM.out] at hst
      have HST := Lib.hid hst
      clear hst
      have a0 := XA.out.at_ 0 _ rfl
      have a1 := XA.out.at_ 1 _ rfl
      have a2 := XA.out.lt
      have b0 := XR.out.at_ 0 _ rfl
      have b1 := XR.out.at_ 1 _ rfl
      have b2 := XR.out.lt
      have b3 := XR.out.frozen 0
      have b4 := XR.out.frozen 1
      go_wp2_with fail
      refine bodyPost_ret (v := .tuple #[.agg #[.int .i64 n, .int .i64 d], .int .i64 0]) (by simp [results, Tryd.results26, go_sem, b0, b1]) rfl ⟨by rw [HST.out]; rfl, ?_⟩
      exact (HB.out.setCell (p := ⟨w.heap.size, 0, none⟩) (Nat.le_refl _) _).setCell (p := ⟨w.heap.size, 1, none⟩) (Nat.le_refl _) _

end Go.Proofs.YtbaalbmchhgmnaaDoor
