/-
  Contracts of the reference's transactions: Place, Different, Valid, Get; txn.Get.
-/
import Derived.Test.YtbjcbndmafddoaaDoorTxnA
import Derived.Test.YtbjcbndmafddoaaDoorNameD
namespace Go.Proofs.YtbjcbndmafddoaaDoor
open Go.RowKit
set_option linter.unusedVariables false
set_option linter.unusedSimpArgs false

set_option maxRecDepth 100000 in
set_option maxHeartbeats 4000000 in
theorem refPlace (w : World) (v : Value) (l : List ByteArray) (s : ByteArray) (h : SL w v l) (hn : l.length ≤ 9223372036854775807) :
    Calls Tryd.prog 39 #[v, .string s] w fun e w' => e = .returned (.int .i64 (Lib.idxOfS l s)) ∧ w = w' := by
  obtain ⟨A, c, rfl, hc, hs⟩ := h
  have HC1 := Lib.hid (fun k hk h h' => idx_hit (l := l) (s := s) (k := k) hk h h')
  have HC2 := Lib.hid (idx_miss (l := l) (s := s))
  obtain ⟨N, hN⟩ : ∃ N, N = l.length := ⟨_, rfl⟩
  rw [← hN] at hs hc hn HC1 HC2 ⊢
  have HS := Lib.hid hs
  have HN := Lib.hid hN
  generalize Lib.idxOfS l s = r at *
  clear hs hN
  go_enter Tryd.func39, Tryd.ntmps39
  go_wp2_with fail
  go_loop [5] (fun i => ∃ k : Nat, k ≤ N ∧ i = .int .i64 k ∧ Hid (∀ j, j < k → l.getD j ⟨#[]⟩ ≠ s)) (fun i => N - (intOf i).toNat)
  case atStart => exact ⟨0, Nat.zero_le _, rfl, (fun j hj => by omega)⟩
  case round =>
    obtain ⟨k, hk, rfl, hd⟩ := hrel
    by_cases hlt : k < N
    · have hlt2 : (k : Int) < N := by omega
      obtain ⟨a, rfl, hr⟩ := HS.out (by omega)
      by_cases he : l.getD k ⟨#[]⟩ = s
      · have HR := Lib.hid (HC1.out k hlt he hd.out)
        have hcell : w.cell? (a.add k) = some (.string s) := by rw [hr.cells k (by rw [← HN.out]; exact hlt), he]
        clear he hd hr
        go_wp2_with fail
        go_ret
        exact ⟨ret1 HR.out.symm, rfl⟩
      · have HD : Hid (∀ j, j < k + 1 → l.getD j ⟨#[]⟩ ≠ s) := fun j hj => by
          by_cases e : j = k
          · rw [e]; exact he
          · exact hd.out j (by omega)
        have hcell := hr.cells k (by rw [← HN.out]; exact hlt)
        obtain ⟨e1, e2⟩ := str_ne he
        generalize l.getD k ⟨#[]⟩ = x at *
        clear he hd hr
        go_wp2_with fail
        go_round
        case rel => exact ⟨k + 1, by omega, by go_num, HD⟩
        case measure => simp [intOf]; omega
    · have hlt2 : ¬ (k : Int) < N := by omega
      have HR := Lib.hid (HC2.out fun j hj => hd.out j (by omega))
      clear hd
      go_wp2_with fail
      go_ret
      exact ⟨ret1 HR.out.symm, rfl⟩

set_option maxRecDepth 100000 in
set_option maxHeartbeats 8000000 in
theorem refDifferent (w : World) (v : Value) (l : List ByteArray) (h : SL w v l) (hsz : ∀ s ∈ l, s.size ≤ 2000000) (hn : l.length ≤ 9223372036854775807) :
    Calls Tryd.prog 31 #[v] w fun e w' => e = .returned (.bool (decide (Dif l))) ∧ Below w.heap.size w w' := by
  have HQ := Lib.hid h
  obtain ⟨A, c, rfl, hc, hs⟩ := h
  have HSZ := Lib.hid hsz
  have HNo : Hid (¬ Dif l → decide (Dif l) = false) := Lib.hid fun h => decide_eq_false h
  have HYes : Hid (Dif l → decide (Dif l) = true) := Lib.hid fun h => decide_eq_true h
  have HP : Hid (∀ (W : World) (s : ByteArray), SL W (.slice A l.length c) l → Calls Tryd.prog 39 #[.slice A l.length c, .string s] W fun e w' => e = .returned (.int .i64 (Lib.idxOfS l s)) ∧ W = w') := Lib.hid fun W s h => refPlace W _ l s h hn
  obtain ⟨N, hN⟩ : ∃ N, N = l.length := ⟨_, rfl⟩
  rw [← hN] at hs hc hn HP HQ ⊢
  have HS := Lib.hid hs
  have HN := Lib.hid hN
  generalize decide (Dif l) = r at *
  clear hs hN hsz
  go_enter Tryd.func31, Tryd.ntmps31
  go_wp2_with fail
  go_loopw [3] (fun i wr => ∃ k : Nat, k ≤ N ∧ i = .int .i64 k ∧ Hid (Fst l k) ∧ Below w.heap.size w wr) (fun i _ => N - (intOf i).toNat)
  case atStart => exact ⟨0, Nat.zero_le _, rfl, Lib.hid (fst_zero _), Below.refl _ _⟩
  case round =>
    obtain ⟨k, hk, rfl, hf, hb⟩ := hrel
    have HB := Lib.hid hb
    clear hb
    by_cases hlt : k < N
    · have hlt2 : (k : Int) < N := by omega
      have hkn : k < l.length := by rw [← HN.out]; exact hlt
      obtain ⟨a, rfl, hr⟩ := HS.out (by omega)
      have Q := Lib.hid (fun (W : World) (hW : Below w.heap.size w W) => (hr.below hW).cells k hkn)
      have hsz := HSZ.out _ (getD_mem ⟨#[]⟩ hkn)
      have HST := Lib.hid (fun h h' => fst_step hf.out hkn h h')
      have D1 := Lib.hid (dif_dup hkn)
      have D2 := Lib.hid (dif_bad hkn)
      have C1 := Lib.hid (fun w => refIsVar (l.getD k ⟨#[]⟩) w hsz)
      have hself := idx_self hkn
      have hbd := idx_bd l (l.getD k ⟨#[]⟩)
      have C2 := Lib.hid (fun W h => HP.out W (l.getD k ⟨#[]⟩) h)
      generalize Lib.idxOfS l (l.getD k ⟨#[]⟩) = ix at *
      generalize l.getD k ⟨#[]⟩ = s at *
      clear hr hf hkn hsz HP
      have q := Q.out _ HB.out
      cases hv : varB s
      · have HR := Lib.hid (HNo.out (D2.out hv))
        rw [hv] at C1
        clear hv hself hbd
        go_wp2_with fail
        clear q
        refine (C1.out _).mono ?_; rintro e w2 ⟨rfl, hb⟩
        replace HB := Lib.hid (below_step HB.out hb)
        clear hb
        go_wp2_with fail
        go_ret
        exact ⟨retb HR.out.symm, HB.out⟩
      rw [hv] at C1
      by_cases hi : ix = k
      · have HF := Lib.hid (HST.out (hself.1 hi) hv)
        have f1 : (ix != (k : Int)) = false := by simpa using hi
        have f2 : (ix == (k : Int)) = true := by simpa using hi
        clear hv hself hbd hi HST
        go_wp2_with fail
        clear q
        refine (C1.out _).mono ?_; rintro e w2 ⟨rfl, hb⟩
        replace HB := Lib.hid (below_step HB.out hb)
        clear hb
        have q := Q.out _ HB.out
        go_wp2_with fail
        refine (C2.out _ (HQ.out.below HB.out)).mono ?_; rintro e w' ⟨rfl, rfl⟩
        go_wp2_with fail
        clear q
        go_roundw
        case rel => exact ⟨k + 1, by omega, by go_num, HF, HB.out⟩
        case measure => simp [intOf]; omega
      · have HR := Lib.hid (HNo.out (D1.out (Classical.byContradiction fun h => hi (hself.2 h))))
        have f1 : (ix != (k : Int)) = true := by simpa using hi
        have f2 : (ix == (k : Int)) = false := by simpa using hi
        clear hv hself hbd hi HST
        go_wp2_with fail
        clear q
        refine (C1.out _).mono ?_; rintro e w2 ⟨rfl, hb⟩
        replace HB := Lib.hid (below_step HB.out hb)
        clear hb
        have q := Q.out _ HB.out
        go_wp2_with fail
        refine (C2.out _ (HQ.out.below HB.out)).mono ?_; rintro e w' ⟨rfl, rfl⟩
        go_wp2_with fail
        go_ret
        exact ⟨retb HR.out.symm, HB.out⟩
    · have hkn : k = N := by omega
      have hlt2 : ¬ (k : Int) < N := by omega
      have HR := Lib.hid (HYes.out (fst_all (by have := hf.out; rwa [hkn, HN.out] at this)))
      clear hf hkn
      go_wp2_with fail
      go_ret
      exact ⟨retb HR.out.symm, HB.out⟩

theorem refMost (w : World) : Calls Tryd.prog 30 #[] w fun e w' => e = .returned (.int .i64 128) ∧ w = w' := by
  go_enter Tryd.func30, Tryd.ntmps30
  go_wp2
  go_ret
  exact ⟨rfl, rfl⟩

end Go.Proofs.YtbjcbndmafddoaaDoor
