/-
  Contracts of the reference's Valid; of Get, of txn and of its reference.
-/
import Derived.Test.YtbjcbndmafddoaaDoorTxnB
namespace Go.Proofs.YtbjcbndmafddoaaDoor
open Go.RowKit
set_option linter.unusedVariables false
set_option linter.unusedSimpArgs false

set_option maxRecDepth 100000 in
set_option maxHeartbeats 8000000 in
theorem refValidT (w : World) (v1 v2 : Value) (ns : List ByteArray) (zs : List Int) (h1 : SL w v1 ns) (h2 : IL w v2 zs) (hsz : ∀ s ∈ ns, s.size ≤ 2000000) (hn : ns.length ≤ 9223372036854775807) (hz : zs.length ≤ 9223372036854775807) :
    Calls Tryd.prog 10 #[.agg #[v1, v2]] w fun e w' => e = .returned (.bool (txV ns zs)) ∧ Below w.heap.size w w' := by
  have HQ := Lib.hid h1
  obtain ⟨A1, c1, rfl, hc1, hs1⟩ := h1
  obtain ⟨A2, c2, rfl, hc2, hs2⟩ := h2
  have HS2 := Lib.hid hs2
  have HI := Lib.hid (txv_iff (ns := ns) (zs := zs))
  have CD : Hid (∀ W, SL W (.slice A1 ns.length c1) ns → Calls Tryd.prog 31 #[.slice A1 ns.length c1] W fun e w' => e = .returned (.bool (decide (Dif ns))) ∧ Below W.heap.size W w') := Lib.hid fun W h => refDifferent W _ ns h hsz hn
  have HDD : Hid (Dif ns ↔ decide (Dif ns) = true) := Lib.hid (by simp)
  obtain ⟨N, hN⟩ : ∃ N, N = ns.length := ⟨_, rfl⟩
  obtain ⟨M, hM⟩ : ∃ M, M = zs.length := ⟨_, rfl⟩
  rw [← hN, ← hM] at HI
  have HMM := Lib.hid hM
  rw [← hN] at hn hc1 HQ CD ⊢
  rw [← hM] at hz hc2 ⊢
  have HNo : Hid (¬ TxV ns zs → txV ns zs = false) := Lib.hid txv_no
  have HYes : Hid (TxV ns zs → txV ns zs = true) := Lib.hid fun h => decide_eq_true h
  generalize txV ns zs = r at *
  generalize decide (Dif ns) = df at *
  clear hs1 hs2 hsz hN hM
  by_cases hlen : N = M
  case neg =>
    have HR := Lib.hid (HNo.out fun h => hlen (HI.out.1 h).1)
    have f1 : ((N : Int) != (M : Int)) = true := by
      have : ¬ (N : Int) = M := by omega
      simpa using this
    have f2 : (N == M) = false := by simpa using hlen
    have f3 : (N != M) = true := by simpa using hlen
    clear hlen
    go_enter Tryd.func10, Tryd.ntmps10
    go_wp2_with fail
    have XA := Lib.hid (box_new (W := w) (g := w.heap.size) 25 #[.slice A1 N c1, .slice A2 M c2] (by simp))
    have HB := Lib.hid (below_alloc w (.cells #[.slice A1 N c1, .slice A2 M c2] 25))
    generalize w.alloc (.cells #[.slice A1 N c1, .slice A2 M c2] 25) = w1 at *
    have l0 := XA.out.lat 0 _ rfl
    have l1 := XA.out.lat 1 _ rfl
    refine wp_region_lat (by kernel_rfl) (by kernel_rfl) ?_
    repeat (go_big_quiet_step (fail))
    refine wpQuiet_nil ?_; intro w2 hb
    clear l0 l1
    replace XA := Lib.hid (XA.out.below hb)
    replace HB := Lib.hid (below_step HB.out hb)
    clear hb
    go_wp2_with fail
    go_ret
    exact ⟨retb HR.out.symm, HB.out⟩
  subst hlen
  have f1 : ((N : Int) != (N : Int)) = false := by simp
  have f1' : (N != N) = false := by simp
  by_cases h128 : 128 < N
  · have HR := Lib.hid (HNo.out fun h => by have := (HI.out.1 h).2.1; omega)
    have f2 : (128 : Int) < N := by omega
    have f3 : decide ((128 : Int) < N) = true := by simpa using f2
    clear h128
    go_enter Tryd.func10, Tryd.ntmps10
    go_wp2_with fail
    have XA := Lib.hid (box_new (W := w) (g := w.heap.size) 25 #[.slice A1 N c1, .slice A2 N c2] (by simp))
    have HB := Lib.hid (below_alloc w (.cells #[.slice A1 N c1, .slice A2 N c2] 25))
    generalize w.alloc (.cells #[.slice A1 N c1, .slice A2 N c2] 25) = w1 at *
    have l0 := XA.out.lat 0 _ rfl
    have l1 := XA.out.lat 1 _ rfl
    refine wp_region_lat (by kernel_rfl) (by kernel_rfl) ?_
    repeat (go_big_quiet_step (first | (with_reducible exact lat_same (refMost _))))
    refine wpQuiet_nil ?_; intro w2 hb
    clear l0 l1
    replace XA := Lib.hid (XA.out.below hb)
    replace HB := Lib.hid (below_step HB.out hb)
    clear hb
    go_wp2_with fail
    go_ret
    exact ⟨retb HR.out.symm, HB.out⟩
  have f2 : ¬ (128 : Int) < N := by omega
  have f3 : decide ((128 : Int) < N) = false := by simpa using f2
  cases df
  · have HR := Lib.hid (HNo.out fun h => by have := HDD.out.1 (HI.out.1 h).2.2.1; cases this)
    clear h128
    go_enter Tryd.func10, Tryd.ntmps10
    go_wp2_with fail
    have XA := Lib.hid (box_new (W := w) (g := w.heap.size) 25 #[.slice A1 N c1, .slice A2 N c2] (by simp))
    have HB := Lib.hid (below_alloc w (.cells #[.slice A1 N c1, .slice A2 N c2] 25))
    generalize w.alloc (.cells #[.slice A1 N c1, .slice A2 N c2] 25) = w1 at *
    have l0 := XA.out.lat 0 _ rfl
    have l1 := XA.out.lat 1 _ rfl
    have HQ1 := Lib.hid (HQ.out.below HB.out)
    have G := Lib.hid (fun p : Lat w1 => CD.out p.w (HQ1.out.below p.h))
    refine wp_region_lat (by kernel_rfl) (by kernel_rfl) ?_
    repeat (go_big_quiet_step (first | (with_reducible exact lat_same (refMost _)) | (with_reducible exact lat_call (G.out _))))
    refine wpQuiet_nil ?_; intro w2 hb
    clear l0 l1
    replace XA := Lib.hid (XA.out.below hb)
    replace HB := Lib.hid (below_step HB.out hb)
    clear hb
    go_wp2_with fail
    go_ret
    exact ⟨retb HR.out.symm, HB.out⟩
  go_enter Tryd.func10, Tryd.ntmps10
  go_wp2_with fail
  have XA := Lib.hid (box_new (W := w) (g := w.heap.size) 25 #[.slice A1 N c1, .slice A2 N c2] (by simp))
  have HB := Lib.hid (below_alloc w (.cells #[.slice A1 N c1, .slice A2 N c2] 25))
  generalize w.alloc (.cells #[.slice A1 N c1, .slice A2 N c2] 25) = w1 at *
  have l0 := XA.out.lat 0 _ rfl
  have l1 := XA.out.lat 1 _ rfl
  have HQ1 := Lib.hid (HQ.out.below HB.out)
  have G := Lib.hid (fun p : Lat w1 => CD.out p.w (HQ1.out.below p.h))
  refine wp_region_lat (by kernel_rfl) (by kernel_rfl) ?_
  repeat (go_big_quiet_step (first | (with_reducible exact lat_same (refMost _)) | (with_reducible exact lat_call (G.out _))))
  refine wpQuiet_nil ?_; intro w2 hb
  clear l0 l1
  replace XA := Lib.hid (XA.out.below hb)
  replace HB := Lib.hid (below_step HB.out hb)
  clear hb
  go_wp2_with fail
  go_loop [3] (fun i => ∃ k : Nat, k ≤ N ∧ i = .int .i64 k ∧ Hid (∀ j, j < k → wordB (zs.getD j 0) = true)) (fun i => N - (intOf i).toNat)
  case atStart => exact ⟨0, Nat.zero_le _, rfl, Lib.hid (fun j h => by omega)⟩
  case round =>
    obtain ⟨k, hk, rfl, hf⟩ := hrel
    by_cases hlt : k < N
    · have hlt2 : (k : Int) < N := by omega
      have hkz : k < zs.length := by rw [← HMM.out]; exact hlt
      obtain ⟨a2, rfl, hl2, hr2⟩ := HS2.out (by omega)
      have q2 : w2.cell? (a2.add k) = some (.int .i64 (zs.getD k 0)) := by rw [HB.out.cell (by rw [block_of_add]; exact hl2)]; exact hr2 k hkz
      have HW : Hid (wordB (zs.getD k 0) = true → ∀ j, j < k + 1 → wordB (zs.getD j 0) = true) := Lib.hid fun h j hj => by
        by_cases e : j = k
        · rw [e]; exact h
        · exact hf.out j (by omega)
      have D3 := Lib.hid (word_bad hkz)
      have hwb : wordB (zs.getD k 0) = decide (0 ≤ zs.getD k 0 ∧ zs.getD k 0 ≤ 65535) := rfl
      generalize zs.getD k 0 = z at *
      clear hr2 hl2 hf hkz
      by_cases hw : 0 ≤ z ∧ z ≤ 65535
      · have HW2 := Lib.hid (HW.out (by rw [hwb]; exact decide_eq_true hw))
        obtain ⟨w5, w6⟩ := hw
        have w7 : ¬ z < 0 := by omega
        have w8 : ¬ 65535 < z := by omega
        clear hwb
        have XA_0 := XA.out.at_ 0 _ rfl
        have XA_1 := XA.out.at_ 1 _ rfl
        go_wp2_with fail
        go_round
        case rel => exact ⟨k + 1, by omega, by go_num, HW2⟩
        case measure => simp [intOf]; omega
      · have HR := Lib.hid (HNo.out fun h => D3.out (by rw [hwb]; exact decide_eq_false hw) (HI.out.1 h).2.2.2)
        clear hwb
        by_cases w7 : z < 0
        · clear hw
          have XA_0 := XA.out.at_ 0 _ rfl
          have XA_1 := XA.out.at_ 1 _ rfl
          go_wp2_with fail
          go_ret
          exact ⟨retb HR.out.symm, HB.out⟩
        · have w8 : 65535 < z := by omega
          clear hw
          have XA_0 := XA.out.at_ 0 _ rfl
          have XA_1 := XA.out.at_ 1 _ rfl
          go_wp2_with fail
          go_ret
          exact ⟨retb HR.out.symm, HB.out⟩
    · have hkn : k = N := by omega
      have hlt2 : ¬ (k : Int) < N := by omega
      have HR := Lib.hid (HYes.out (HI.out.2 ⟨by first | trivial | rfl, by omega, HDD.out.2 (by first | trivial | rfl), all_getD fun j hj => hf.out j (by rw [hkn, HMM.out]; exact hj)⟩))
      clear hf hkn
      have XA_0 := XA.out.at_ 0 _ rfl
      have XA_1 := XA.out.at_ 1 _ rfl
      go_wp2_with fail
      go_ret
      exact ⟨retb HR.out.symm, HB.out⟩

def ret2b (r : Int × Bool) : Ending := .returned (.tuple #[.int .i64 r.1, .bool r.2])
set_option maxRecDepth 100000 in
set_option maxHeartbeats 8000000 in
theorem txnGet (w : World) (v1 v2 : Value) (ns : List ByteArray) (zs : List Int) (s : ByteArray) (h1 : SL w v1 ns) (h2 : IL w v2 zs) (hn : ns.length ≤ 9223372036854775807) (hz : zs.length ≤ 9223372036854775807) :
    Calls Tryd.prog 12 #[.agg #[v1, v2], .string s] w fun e w' => e = ret2b (getT ns zs s) ∧ Below w.heap.size w w' := by
  have HQ := Lib.hid h1
  obtain ⟨A1, c1, rfl, hc1, _⟩ := h1
  obtain ⟨A2, c2, rfl, hc2, hs2⟩ := h2
  have HS2 := Lib.hid hs2
  have CI := Lib.hid (fun W h => slIndex W (.slice A1 ns.length c1) ns s h hn)
  have HG : Hid (getT ns zs s = if Lib.idxOfS ns s < 0 ∨ (zs.length : Int) ≤ Lib.idxOfS ns s then (0, false) else (zs.getD (Lib.idxOfS ns s).toNat 0, true)) := Lib.hid rfl
  generalize getT ns zs s = r at *
  generalize Lib.idxOfS ns s = ix at *
  generalize ns.length = N at *
  obtain ⟨M, hM⟩ : ∃ M, M = zs.length := ⟨_, rfl⟩
  have HM := Lib.hid hM
  rw [← hM] at HG hz hc2 ⊢
  clear hM hs2
  by_cases k1 : ix < 0
  · have HR : Hid (r = (0, false)) := Lib.hid (by rw [HG.out, if_pos (.inl k1)])
    clear HG
    go_enter Tryd.func12, Tryd.ntmps12
    go_wp2_with fail
    have XA := Lib.hid (box_new (W := w) (g := w.heap.size) 25 #[.slice A1 N c1, .slice A2 M c2] (by simp))
    have HB := Lib.hid (below_alloc w (.cells #[.slice A1 N c1, .slice A2 M c2] 25))
    generalize w.alloc (.cells #[.slice A1 N c1, .slice A2 M c2] 25) = w1 at *
    refine (CI.out _ (HQ.out.below HB.out)).mono ?_; rintro e w' ⟨rfl, rfl⟩
    have XA_0 := XA.out.at_ 0 _ rfl
    have XA_1 := XA.out.at_ 1 _ rfl
    go_wp2_with fail
    go_ret2
    exact ⟨by rw [HR.out]; rfl, HB.out⟩
  obtain ⟨k, rfl⟩ := Int.eq_ofNat_of_zero_le (show 0 ≤ ix by omega)
  by_cases k2 : M ≤ k
  · have HR : Hid (r = (0, false)) := Lib.hid (by rw [HG.out, if_pos (.inr (by omega))])
    have f1 : ¬ (k : Int) < 0 := by omega
    have f2 : (M : Int) ≤ k := by omega
    clear HG k1
    go_enter Tryd.func12, Tryd.ntmps12
    go_wp2_with fail
    have XA := Lib.hid (box_new (W := w) (g := w.heap.size) 25 #[.slice A1 N c1, .slice A2 M c2] (by simp))
    have HB := Lib.hid (below_alloc w (.cells #[.slice A1 N c1, .slice A2 M c2] 25))
    generalize w.alloc (.cells #[.slice A1 N c1, .slice A2 M c2] 25) = w1 at *
    refine (CI.out _ (HQ.out.below HB.out)).mono ?_; rintro e w' ⟨rfl, rfl⟩
    have XA_0 := XA.out.at_ 0 _ rfl
    have XA_1 := XA.out.at_ 1 _ rfl
    go_wp2_with fail
    go_ret2
    exact ⟨by rw [HR.out]; rfl, HB.out⟩
  · have HR : Hid (r = (zs.getD k 0, true)) := Lib.hid (by rw [HG.out, if_neg (by omega)]; rfl)
    have f1 : ¬ (k : Int) < 0 := by omega
    have f2 : ¬ (M : Int) ≤ k := by omega
    have f3 : (k : Int) < M := by omega
    have f4 : k < M := by omega
    obtain ⟨a2, rfl, hl2, hr2⟩ := HS2.out (by rw [← HM.out]; omega)
    have Q := Lib.hid (fun (W : World) (hW : Below w.heap.size w W) => (show W.cell? (a2.add k) = some (.int .i64 (zs.getD k 0)) by rw [hW.cell (by rw [block_of_add]; exact hl2)]; exact hr2 k (by rw [← HM.out]; exact f4)))
    generalize zs.getD k 0 = z at *
    clear HG k1 hl2 hr2 k2
    go_enter Tryd.func12, Tryd.ntmps12
    go_wp2_with fail
    have XA := Lib.hid (box_new (W := w) (g := w.heap.size) 25 #[.slice A1 N c1, .slice (some a2) M c2] (by simp))
    have HB := Lib.hid (below_alloc w (.cells #[.slice A1 N c1, .slice (some a2) M c2] 25))
    generalize w.alloc (.cells #[.slice A1 N c1, .slice (some a2) M c2] 25) = w1 at *
    refine (CI.out _ (HQ.out.below HB.out)).mono ?_; rintro e w' ⟨rfl, rfl⟩
    have q := Q.out _ HB.out
    have XA_0 := XA.out.at_ 0 _ rfl
    have XA_1 := XA.out.at_ 1 _ rfl
    go_wp2_with fail
    go_ret2
    exact ⟨by rw [HR.out]; rfl, HB.out⟩

set_option maxRecDepth 100000 in
set_option maxHeartbeats 8000000 in
theorem refGet (w : World) (v1 v2 : Value) (ns : List ByteArray) (zs : List Int) (s : ByteArray) (h1 : SL w v1 ns) (h2 : IL w v2 zs) (hn : ns.length ≤ 9223372036854775807) (hz : zs.length ≤ 9223372036854775807) :
    Calls Tryd.prog 18 #[.agg #[v1, v2], .string s] w fun e w' => e = ret2b (getT ns zs s) ∧ Below w.heap.size w w' := by
  have HQ := Lib.hid h1
  obtain ⟨A1, c1, rfl, hc1, _⟩ := h1
  obtain ⟨A2, c2, rfl, hc2, hs2⟩ := h2
  have HS2 := Lib.hid hs2
  have CI := Lib.hid (fun W h => refPlace W (.slice A1 ns.length c1) ns s h hn)
  have HG : Hid (getT ns zs s = if Lib.idxOfS ns s < 0 ∨ (zs.length : Int) ≤ Lib.idxOfS ns s then (0, false) else (zs.getD (Lib.idxOfS ns s).toNat 0, true)) := Lib.hid rfl
  generalize getT ns zs s = r at *
  generalize Lib.idxOfS ns s = ix at *
  generalize ns.length = N at *
  obtain ⟨M, hM⟩ : ∃ M, M = zs.length := ⟨_, rfl⟩
  have HM := Lib.hid hM
  rw [← hM] at HG hz hc2 ⊢
  clear hM hs2
  by_cases k1 : ix < 0
  · have HR : Hid (r = (0, false)) := Lib.hid (by rw [HG.out, if_pos (.inl k1)])
    clear HG
    go_enter Tryd.func18, Tryd.ntmps18
    go_wp2_with fail
    have XA := Lib.hid (box_new (W := w) (g := w.heap.size) 25 #[.slice A1 N c1, .slice A2 M c2] (by simp))
    have HB := Lib.hid (below_alloc w (.cells #[.slice A1 N c1, .slice A2 M c2] 25))
    generalize w.alloc (.cells #[.slice A1 N c1, .slice A2 M c2] 25) = w1 at *
    refine (CI.out _ (HQ.out.below HB.out)).mono ?_; rintro e w' ⟨rfl, rfl⟩
    have XA_0 := XA.out.at_ 0 _ rfl
    have XA_1 := XA.out.at_ 1 _ rfl
    go_wp2_with fail
    go_ret2
    exact ⟨by rw [HR.out]; rfl, HB.out⟩
  obtain ⟨k, rfl⟩ := Int.eq_ofNat_of_zero_le (show 0 ≤ ix by omega)
  by_cases k2 : M ≤ k
  · have HR : Hid (r = (0, false)) := Lib.hid (by rw [HG.out, if_pos (.inr (by omega))])
    have f1 : ¬ (k : Int) < 0 := by omega
    have f2 : (M : Int) ≤ k := by omega
    clear HG k1
    go_enter Tryd.func18, Tryd.ntmps18
    go_wp2_with fail
    have XA := Lib.hid (box_new (W := w) (g := w.heap.size) 25 #[.slice A1 N c1, .slice A2 M c2] (by simp))
    have HB := Lib.hid (below_alloc w (.cells #[.slice A1 N c1, .slice A2 M c2] 25))
    generalize w.alloc (.cells #[.slice A1 N c1, .slice A2 M c2] 25) = w1 at *
    refine (CI.out _ (HQ.out.below HB.out)).mono ?_; rintro e w' ⟨rfl, rfl⟩
    have XA_0 := XA.out.at_ 0 _ rfl
    have XA_1 := XA.out.at_ 1 _ rfl
    go_wp2_with fail
    go_ret2
    exact ⟨by rw [HR.out]; rfl, HB.out⟩
  · have HR : Hid (r = (zs.getD k 0, true)) := Lib.hid (by rw [HG.out, if_neg (by omega)]; rfl)
    have f1 : ¬ (k : Int) < 0 := by omega
    have f2 : ¬ (M : Int) ≤ k := by omega
    have f3 : (k : Int) < M := by omega
    have f4 : k < M := by omega
    obtain ⟨a2, rfl, hl2, hr2⟩ := HS2.out (by rw [← HM.out]; omega)
    have Q := Lib.hid (fun (W : World) (hW : Below w.heap.size w W) => (show W.cell? (a2.add k) = some (.int .i64 (zs.getD k 0)) by rw [hW.cell (by rw [block_of_add]; exact hl2)]; exact hr2 k (by rw [← HM.out]; exact f4)))
    generalize zs.getD k 0 = z at *
    clear HG k1 hl2 hr2 k2
    go_enter Tryd.func18, Tryd.ntmps18
    go_wp2_with fail
    have XA := Lib.hid (box_new (W := w) (g := w.heap.size) 25 #[.slice A1 N c1, .slice (some a2) M c2] (by simp))
    have HB := Lib.hid (below_alloc w (.cells #[.slice A1 N c1, .slice (some a2) M c2] 25))
    generalize w.alloc (.cells #[.slice A1 N c1, .slice (some a2) M c2] 25) = w1 at *
    refine (CI.out _ (HQ.out.below HB.out)).mono ?_; rintro e w' ⟨rfl, rfl⟩
    have q := Q.out _ HB.out
    have XA_0 := XA.out.at_ 0 _ rfl
    have XA_1 := XA.out.at_ 1 _ rfl
    go_wp2_with fail
    go_ret2
    exact ⟨by rw [HR.out]; rfl, HB.out⟩

end Go.Proofs.YtbjcbndmafddoaaDoor
