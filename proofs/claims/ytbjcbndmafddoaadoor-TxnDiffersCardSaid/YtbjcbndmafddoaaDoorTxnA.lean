/-
  Contracts of txn: Valid.
-/
import Derived.Test.YtbjcbndmafddoaaDoorSeen
import Derived.Test.YtbjcbndmafddoaaDoorTxnSpec
import Derived.Test.YtbjcbndmafddoaaDoorNameC
import Derived.LoopTactic
namespace Go.Proofs.YtbjcbndmafddoaaDoor
open Go.RowKit
set_option linter.unusedVariables false
set_option linter.unusedSimpArgs false

theorem txnIsWord (z : Int) (w : World) :
    Calls Tryd.prog 44 #[.int .i64 z] w fun e w' => e = .returned (.bool (wordB z)) ∧ w = w' := by
  go_enter Tryd.func44, Tryd.ntmps44
  go_wp2
  all_goals
    go_ret
    refine ⟨retb ?_, rfl⟩
    unfold wordB
    first | (rw [eq_comm]; exact decide_eq_true (by omega)) | (rw [eq_comm]; exact decide_eq_false (by omega)) | (simp; omega)
theorem txv_no {ns : List ByteArray} {zs : List Int} (h : ¬ TxV ns zs) : txV ns zs = false := decide_eq_false h
theorem below_up {w w2 w3 : World} {b : Nat} (h : Below w.heap.size w w2) (hg : w2.grownBy w3 (some b)) (hb : w.heap.size ≤ b) : Below w.heap.size w w3 :=
  h.grown hg h.size (fun k hk => by simp at hk; omega)

set_option maxRecDepth 100000 in
set_option maxHeartbeats 8000000 in
theorem txnValid (w : World) (v1 v2 : Value) (ns : List ByteArray) (zs : List Int) (h1 : SL w v1 ns) (h2 : IL w v2 zs) (hsz : ∀ s ∈ ns, s.size ≤ 2000000) (hn : ns.length ≤ 9223372036854775807) (hz : zs.length ≤ 9223372036854775807) (hk : KW w) (hm : MLen w) :
    Calls Tryd.prog 21 #[.agg #[v1, v2]] w fun e w' => e = .returned (.bool (txV ns zs)) ∧ Below w.heap.size w w' := by
  have HK := Lib.hid hk
  have HM := Lib.hid hm
  obtain ⟨A1, c1, rfl, hc1, hs1⟩ := h1
  obtain ⟨A2, c2, rfl, hc2, hs2⟩ := h2
  have HS1 := Lib.hid hs1
  have HS2 := Lib.hid hs2
  have HSZ := Lib.hid hsz
  have HI := Lib.hid (txv_iff (ns := ns) (zs := zs))
  obtain ⟨N, hN⟩ : ∃ N, N = ns.length := ⟨_, rfl⟩
  obtain ⟨M, hM⟩ : ∃ M, M = zs.length := ⟨_, rfl⟩
  rw [← hN, ← hM] at HI
  have HN := Lib.hid hN
  have HMM := Lib.hid hM
  rw [← hN] at hn hc1 ⊢
  rw [← hM] at hz hc2 ⊢
  have HNo : Hid (¬ TxV ns zs → txV ns zs = false) := Lib.hid txv_no
  have HYes : Hid (TxV ns zs → txV ns zs = true) := Lib.hid fun h => decide_eq_true h
  generalize txV ns zs = r at *
  clear hk hm hs1 hs2 hsz hN hM
  by_cases hlen : N = M
  case neg =>
    have HR := Lib.hid (HNo.out fun h => hlen (HI.out.1 h).1)
    have f1 : ((N : Int) != (M : Int)) = true := by
      have : ¬ (N : Int) = M := by omega
      simpa using this
    have f2 : (N == M) = false := by simpa using hlen
    clear hlen
    go_enter Tryd.func21, Tryd.ntmps21
    go_wp2_with fail
    go_ret
    exact ⟨retb HR.out.symm, below_alloc _ _⟩
  subst hlen
  by_cases h128 : 128 < N
  · have HR := Lib.hid (HNo.out fun h => by have := (HI.out.1 h).2.1; omega)
    have f1 : (128 : Int) < N := by omega
    clear h128
    go_enter Tryd.func21, Tryd.ntmps21
    go_wp2_with fail
    go_ret
    exact ⟨retb HR.out.symm, below_alloc _ _⟩
  have f1 : ¬ (128 : Int) < N := by omega
  have hmm := @run_makeMap Tryd.prog
  go_enter Tryd.func21, Tryd.ntmps21
  go_wp2_with fail
  clear hmm
  go_loopw [23] (fun i wr => ∃ k : Nat, k ≤ N ∧ i = .int .i64 k ∧ Hid (Fst ns k ∧ ∀ j, j < k → wordB (zs.getD j 0) = true) ∧ Seen wr (w.heap.size + 1) (ns.take k) ∧ Box wr w.heap.size #[.slice A1 N c1, .slice A2 N c2] 25 ∧ Below w.heap.size w wr) (fun i _ => N - (intOf i).toNat)
  case atStart =>
    refine ⟨0, Nat.zero_le _, rfl, Lib.hid ⟨fst_zero _, fun j h => by omega⟩, ?_, ?_, ?_⟩
    · have := Seen.new (w.alloc (.cells #[.slice A1 N c1, .slice A2 N c2] 25))
      rwa [show (w.alloc (.cells #[.slice A1 N c1, .slice A2 N c2] 25)).heap.size = w.heap.size + 1 by simp] at this
    · exact (Box.new _ _ _).below (below_alloc _ _)
    · exact below_step (below_alloc _ _) (below_alloc _ _)
  case round =>
    obtain ⟨k, hk, rfl, hf, hse, hx, hb⟩ := hrel
    have HSE := Lib.hid hse
    have XA := Lib.hid hx
    have HB := Lib.hid hb
    clear hse hx hb
    by_cases hlt : k < N
    · have hlt2 : (k : Int) < N := by omega
      have hkn : k < ns.length := by rw [← HN.out]; exact hlt
      have hkz : k < zs.length := by rw [← HMM.out]; exact hlt
      obtain ⟨a1, rfl, hr1⟩ := HS1.out (by omega)
      obtain ⟨a2, rfl, hl2, hr2⟩ := HS2.out (by omega)
      have q1 := (hr1.below HB.out).cells k hkn
      have q2 : wr.cell? (a2.add k) = some (.int .i64 (zs.getD k 0)) := by rw [HB.out.cell (by rw [block_of_add]; exact hl2)]; exact hr2 k hkz
      have Q2 := Lib.hid (fun (W : World) (hW : Below w.heap.size w W) => (show W.cell? (a2.add k) = some (.int .i64 (zs.getD k 0)) by rw [hW.cell (by rw [block_of_add]; exact hl2)]; exact hr2 k hkz))
      have hsz := HSZ.out _ (getD_mem ⟨#[]⟩ hkn)
      have HST := Lib.hid (fun h h' => fst_step hf.out.1 hkn h h')
      have HW : Hid (wordB (zs.getD k 0) = true → ∀ j, j < k + 1 → wordB (zs.getD j 0) = true) := Lib.hid fun h j hj => by
        by_cases e : j = k
        · rw [e]; exact h
        · exact hf.out.2 j (by omega)
      have HTK := Lib.hid (take_snocD ns k ⟨#[]⟩ hkn)
      have D1 := Lib.hid (dif_dup hkn)
      have D2 := Lib.hid (dif_bad hkn)
      have D3 := Lib.hid (word_bad hkz)
      have hlk := HSE.out.lookup (ns.getD k ⟨#[]⟩) (by unfold maxLen; omega) rfl
      have C1 := Lib.hid (fun w h h' => txnIsVar (ns.getD k ⟨#[]⟩) w hsz h h')
      have C2 := Lib.hid (fun w => txnIsWord (zs.getD k 0) w)
      have hmem := Lib.containsS_iff (ns.take k) (ns.getD k ⟨#[]⟩)
      have hup : Hid (∀ W, Seen W (w.heap.size + 1) (ns.take k) → ∃ w', (Instr.mapUpdate 52 (.map (some (w.heap.size + 1))) (.string (ns.getD k ⟨#[]⟩)) (.bool true)).run Tryd.prog W = .ok () w' ∧ Seen w' (w.heap.size + 1) (ns.take k ++ [ns.getD k ⟨#[]⟩]) ∧ W.grownBy w' (some (w.heap.size + 1))) :=
        Lib.hid fun W h => h.update (ns.getD k ⟨#[]⟩) (by unfold maxLen; omega) (by rw [List.length_take]; unfold maxLen; omega)
      generalize ns.getD k ⟨#[]⟩ = s at *
      generalize zs.getD k 0 = z at *
      clear hr1 hr2 hl2 hf hkn hkz hsz
      cases hcs : Lib.containsS (ns.take k) s
      case true =>
        have HR := Lib.hid (HNo.out fun h => D1.out (hmem.1 hcs) (HI.out.1 h).2.2.1)
        rw [hcs] at hlk
        clear hcs hmem q2
        have XA_0 := XA.out.at_ 0 _ rfl
        have XA_1 := XA.out.at_ 1 _ rfl
        go_wp2_with fail
        go_ret
        exact ⟨retb HR.out.symm, HB.out⟩
      have hno : s ∉ ns.take k := fun h => by rw [hmem.2 h] at hcs; cases hcs
      rw [hcs] at hlk
      cases hv : varB s
      · have HR := Lib.hid (HNo.out fun h => D2.out hv (HI.out.1 h).2.2.1)
        rw [hv] at C1
        clear hcs hmem q2 hv hno
        have XA_0 := XA.out.at_ 0 _ rfl
        have XA_1 := XA.out.at_ 1 _ rfl
        go_wp2_with fail
        refine (C1.out _ (HK.out.below HB.out) (HM.out.below HB.out)).mono ?_; rintro e w2 ⟨rfl, hb⟩
        clear XA_0 XA_1
        replace XA := Lib.hid (XA.out.below hb)
        replace HB := Lib.hid (below_step HB.out hb)
        clear hb
        go_wp2_with fail
        go_ret
        exact ⟨retb HR.out.symm, HB.out⟩
      rw [hv] at C1
      cases hw : wordB z
      · have HR := Lib.hid (HNo.out fun h => D3.out hw (HI.out.1 h).2.2.2)
        rw [hw] at C2
        clear hcs hmem hv hno hw q2
        have XA_0 := XA.out.at_ 0 _ rfl
        have XA_1 := XA.out.at_ 1 _ rfl
        go_wp2_with fail
        refine (C1.out _ (HK.out.below HB.out) (HM.out.below HB.out)).mono ?_; rintro e w2 ⟨rfl, hb⟩
        clear XA_0 XA_1
        replace XA := Lib.hid (XA.out.below hb)
        replace HB := Lib.hid (below_step HB.out hb)
        clear hb
        have q2 := Q2.out _ HB.out
        have XA_0 := XA.out.at_ 0 _ rfl
        have XA_1 := XA.out.at_ 1 _ rfl
        go_wp2_with fail
        refine (C2.out _).mono ?_; rintro e w' ⟨rfl, rfl⟩
        go_wp2_with fail
        go_ret
        exact ⟨retb HR.out.symm, HB.out⟩
      · have HF := Lib.hid (HST.out hno hv)
        have HW2 := Lib.hid (HW.out hw)
        rw [hw] at C2
        clear hcs hmem hv hno hw q2 HST HW
        have XA_0 := XA.out.at_ 0 _ rfl
        have XA_1 := XA.out.at_ 1 _ rfl
        go_wp2_with fail
        refine (C1.out _ (HK.out.below HB.out) (HM.out.below HB.out)).mono ?_; rintro e w2 ⟨rfl, hb⟩
        clear XA_0 XA_1
        replace XA := Lib.hid (XA.out.below hb)
        replace HSE := Lib.hid (HSE.out.below hb)
        replace HB := Lib.hid (below_step HB.out hb)
        clear hb
        have q2 := Q2.out _ HB.out
        obtain ⟨w3, hu, hs3, hg3⟩ := hup.out _ HSE.out
        have HS3 := Lib.hid hs3
        have HG3 := Lib.hid hg3
        clear hs3 hg3
        have XA_0 := XA.out.at_ 0 _ rfl
        have XA_1 := XA.out.at_ 1 _ rfl
        go_wp2_with fail
        refine (C2.out _).mono ?_; rintro e w' ⟨rfl, rfl⟩
        go_wp2_with fail
        clear XA_0 XA_1
        clear q2 hu
        go_roundw
        case rel => exact ⟨k + 1, by omega, by go_num, Lib.hid ⟨HF.out, HW2.out⟩, by rw [HTK.out]; exact HS3.out, XA.out.grown HG3.out (by omega), below_up HB.out HG3.out (by omega)⟩
        case measure => simp [intOf]; omega
    · have hkn : k = N := by omega
      have hlt2 : ¬ (k : Int) < N := by omega
      have HR := Lib.hid (HYes.out (HI.out.2 ⟨by first | trivial | rfl, by omega, fst_all (by have := hf.out.1; rwa [hkn, HN.out] at this), all_getD fun j hj => hf.out.2 j (by rw [hkn, HMM.out]; exact hj)⟩))
      clear hf hkn
      have XA_0 := XA.out.at_ 0 _ rfl
      have XA_1 := XA.out.at_ 1 _ rfl
      go_wp2_with fail
      go_ret
      exact ⟨retb HR.out.symm, HB.out⟩

end Go.Proofs.YtbjcbndmafddoaaDoor
