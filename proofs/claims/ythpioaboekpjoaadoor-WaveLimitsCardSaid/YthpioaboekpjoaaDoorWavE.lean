/-
  Lists compared: the law's ints, the reference's texts.
-/
import Derived.Test.YthpioaboekpjoaaDoorRowsI
import Derived.Test.YthpioaboekpjoaaDoorTxB
namespace Go.Proofs.YthpioaboekpjoaaDoor
open Go.RowKit
set_option linter.unusedVariables false
set_option linter.unusedSimpArgs false

set_option maxRecDepth 100000 in
set_option maxHeartbeats 8000000 in
theorem refTexts (w : World) (v1 v3 : Value) (ns ms : List ByteArray) (h1 : SL w v1 ns) (h3 : SL w v3 ms) (n1 : ns.length ≤ 9223372036854775807) (n3 : ms.length ≤ 9223372036854775807) :
    Calls Tryd.prog 42 #[v1, v3] w fun e w' => e = .returned (.bool (decide (ns = ms))) ∧ Below w.heap.size w w' := by
  obtain ⟨A1, c1, rfl, _, hs1⟩ := h1
  obtain ⟨A3, c3, rfl, _, hs3⟩ := h3
  have HS1 := Lib.hid hs1
  have HS3 := Lib.hid hs3
  have HNo : Hid (¬ ns = ms → decide (ns = ms) = false) := Lib.hid fun h => decide_eq_false h
  have HYes : Hid (ns = ms → decide (ns = ms) = true) := Lib.hid fun h => decide_eq_true h
  have HL1 : Hid (ns = ms → ns.length = ms.length) := Lib.hid fun h => by rw [h]
  generalize decide (ns = ms) = r at *
  obtain ⟨N, hN⟩ : ∃ N, N = ns.length := ⟨_, rfl⟩
  obtain ⟨N2, hN2⟩ : ∃ N2, N2 = ms.length := ⟨_, rfl⟩
  have KN := Lib.hid hN
  have KN2 := Lib.hid hN2
  rw [← hN] at n1 HS1 HL1 ⊢
  rw [← hN2] at n3 HS3 HL1 ⊢
  clear hN hN2 hs1 hs3
  by_cases e1 : N = N2
  case neg =>
    have HR := Lib.hid (HNo.out fun h => e1 (HL1.out h))
    have f1 : ((N : Int) != (N2 : Int)) = true := by
      have : ¬ (N : Int) = N2 := by omega
      simpa using this
    have f2 : (N == N2) = false := by simpa using e1
    have f3 : (N != N2) = true := by simpa using e1
    clear e1
    go_enter Tryd.func42, Tryd.ntmps42
    go_wp2_with fail
    go_ret
    exact ⟨retb HR.out.symm, Below.refl _ _⟩
  subst e1
  have f1 : ((N : Int) != (N : Int)) = false := by simp
  have f1' : (N != N) = false := by simp
  go_enter Tryd.func42, Tryd.ntmps42
  go_wp2_with fail
  go_loopw [5] (fun i wr => ∃ k : Nat, k ≤ N ∧ i = .int .i64 k ∧ Hid (∀ j, j < k → ns.getD j ⟨#[]⟩ = ms.getD j ⟨#[]⟩) ∧ Below w.heap.size w wr) (fun i _ => N - (intOf i).toNat)
  case atStart => exact ⟨0, Nat.zero_le _, rfl, Lib.hid (fun j h => by omega), Below.refl _ _⟩
  case round =>
    obtain ⟨k, hk, rfl, hd, hb⟩ := hrel
    have HB := Lib.hid hb
    clear hb
    by_cases hlt : k < N
    · have hlt2 : (k : Int) < N := by omega
      have hk0 : (0 : Int) ≤ (k : Int) := by omega
      obtain ⟨a1, rfl, hr1⟩ := HS1.out (by omega)
      obtain ⟨a3, rfl, hr3⟩ := HS3.out (by omega)
      have m1 : ∀ p : Lat wr, p.w.cell? (a1.add k) = some (.string (ns.getD k ⟨#[]⟩)) := fun p => (hr1.below (below_step HB.out p.h)).cells k (by first | exact hlt | (rw [← KN.out]; exact hlt))
      have m3 : ∀ p : Lat wr, p.w.cell? (a3.add k) = some (.string (ms.getD k ⟨#[]⟩)) := fun p => (hr3.below (below_step HB.out p.h)).cells k (by first | exact hlt | (rw [← KN2.out]; exact hlt))
      have HNE : Hid (ns.getD k ⟨#[]⟩ ≠ ms.getD k ⟨#[]⟩ → r = false) := Lib.hid fun h => HNo.out fun h2 => h (by rw [h2])
      have HST : Hid (ns.getD k ⟨#[]⟩ = ms.getD k ⟨#[]⟩ → ∀ j, j < k + 1 → ns.getD j ⟨#[]⟩ = ms.getD j ⟨#[]⟩) := Lib.hid fun h j hj => by
        by_cases e : j = k
        · rw [e]; exact h
        · exact hd.out j (by omega)
      generalize ns.getD k ⟨#[]⟩ = s at *
      generalize ms.getD k ⟨#[]⟩ = t at *
      clear hr1 hr3 hd
      by_cases he : s = t
      · have HD := Lib.hid (HST.out he)
        subst he
        clear HST
        go_wp2_with fail
        refine wp_region_lat (by kernel_rfl) (by kernel_rfl) ?_
        repeat (go_big_quiet_step (fail))
        refine wpQuiet_nil ?_; intro w6 hb
        clear m1 m3
        replace HB := Lib.hid (below_step HB.out hb)
        clear hb
        go_wp2_with fail
        go_roundw
        case rel => exact ⟨k + 1, by omega, by go_num, HD, HB.out⟩
        case measure => simp [intOf]; omega
      · have HR := Lib.hid (HNE.out he)
        obtain ⟨e1, e2⟩ := str_ne he
        clear HST he
        go_wp2_with fail
        refine wp_region_lat (by kernel_rfl) (by kernel_rfl) ?_
        repeat (go_big_quiet_step (fail))
        refine wpQuiet_nil ?_; intro w6 hb
        clear m1 m3
        replace HB := Lib.hid (below_step HB.out hb)
        clear hb
        go_wp2_with fail
        go_ret
        exact ⟨retb HR.out.symm, HB.out⟩
    · have hlt2 : ¬ (k : Int) < N := by omega
      have HR := Lib.hid (HYes.out (list_eq_of ⟨#[]⟩ (by rw [← KN.out, ← KN2.out]) fun j hj => hd.out j (by rw [← KN.out] at hj; omega)))
      clear hd
      go_wp2_with fail
      go_ret
      exact ⟨retb HR.out.symm, HB.out⟩

set_option maxRecDepth 100000 in
set_option maxHeartbeats 8000000 in
theorem lawInts (w : World) (v1 v3 : Value) (ns ms : List Int) (h1 : IL w v1 ns) (h3 : IL w v3 ms) (n1 : ns.length ≤ 9223372036854775807) (n3 : ms.length ≤ 9223372036854775807) :
    Calls Tryd.prog 24 #[v1, v3] w fun e w' => e = .returned (.bool (decide (ns = ms))) ∧ Below w.heap.size w w' := by
  obtain ⟨A1, c1, rfl, _, hs1⟩ := h1
  obtain ⟨A3, c3, rfl, _, hs3⟩ := h3
  have HS1 := Lib.hid hs1
  have HS3 := Lib.hid hs3
  have HNo : Hid (¬ ns = ms → decide (ns = ms) = false) := Lib.hid fun h => decide_eq_false h
  have HYes : Hid (ns = ms → decide (ns = ms) = true) := Lib.hid fun h => decide_eq_true h
  have HL1 : Hid (ns = ms → ns.length = ms.length) := Lib.hid fun h => by rw [h]
  generalize decide (ns = ms) = r at *
  obtain ⟨N, hN⟩ : ∃ N, N = ns.length := ⟨_, rfl⟩
  obtain ⟨N2, hN2⟩ : ∃ N2, N2 = ms.length := ⟨_, rfl⟩
  have KN := Lib.hid hN
  have KN2 := Lib.hid hN2
  rw [← hN] at n1 HS1 HL1 ⊢
  rw [← hN2] at n3 HS3 HL1 ⊢
  clear hN hN2 hs1 hs3
  by_cases e1 : N = N2
  case neg =>
    have HR := Lib.hid (HNo.out fun h => e1 (HL1.out h))
    have f1 : ((N : Int) != (N2 : Int)) = true := by
      have : ¬ (N : Int) = N2 := by omega
      simpa using this
    have f2 : (N == N2) = false := by simpa using e1
    have f3 : (N != N2) = true := by simpa using e1
    clear e1
    go_enter Tryd.func24, Tryd.ntmps24
    go_wp2_with fail
    go_ret
    exact ⟨retb HR.out.symm, Below.refl _ _⟩
  subst e1
  have f1 : ((N : Int) != (N : Int)) = false := by simp
  have f1' : (N != N) = false := by simp
  go_enter Tryd.func24, Tryd.ntmps24
  go_wp2_with fail
  go_loopw [5] (fun i wr => ∃ k : Nat, k ≤ N ∧ i = .int .i64 k ∧ Hid (∀ j, j < k → ns.getD j 0 = ms.getD j 0) ∧ Below w.heap.size w wr) (fun i _ => N - (intOf i).toNat)
  case atStart => exact ⟨0, Nat.zero_le _, rfl, Lib.hid (fun j h => by omega), Below.refl _ _⟩
  case round =>
    obtain ⟨k, hk, rfl, hd, hb⟩ := hrel
    have HB := Lib.hid hb
    clear hb
    by_cases hlt : k < N
    · have hlt2 : (k : Int) < N := by omega
      have hk0 : (0 : Int) ≤ (k : Int) := by omega
      obtain ⟨a1, rfl, hl1, hr1⟩ := HS1.out (by omega)
      obtain ⟨a3, rfl, hl3, hr3⟩ := HS3.out (by omega)
      have m1 : ∀ p : Lat wr, p.w.cell? (a1.add k) = some (.int .i64 (ns.getD k 0)) := fun p => by rw [(below_step HB.out p.h).cell (by rw [block_of_add]; exact hl1)]; exact hr1 k (by first | exact hlt | (rw [← KN.out]; exact hlt))
      have m3 : ∀ p : Lat wr, p.w.cell? (a3.add k) = some (.int .i64 (ms.getD k 0)) := fun p => by rw [(below_step HB.out p.h).cell (by rw [block_of_add]; exact hl3)]; exact hr3 k (by first | exact hlt | (rw [← KN2.out]; exact hlt))
      have HNE : Hid (ns.getD k 0 ≠ ms.getD k 0 → r = false) := Lib.hid fun h => HNo.out fun h2 => h (by rw [h2])
      have HST : Hid (ns.getD k 0 = ms.getD k 0 → ∀ j, j < k + 1 → ns.getD j 0 = ms.getD j 0) := Lib.hid fun h j hj => by
        by_cases e : j = k
        · rw [e]; exact h
        · exact hd.out j (by omega)
      generalize ns.getD k 0 = s at *
      generalize ms.getD k 0 = t at *
      clear hr1 hr3 hl1 hl3 hd
      by_cases he : s = t
      · have HD := Lib.hid (HST.out he)
        have f4 : (s != s) = false := by simp
        subst he
        clear HST
        go_wp2_with fail
        refine wp_region_lat (by kernel_rfl) (by kernel_rfl) ?_
        repeat (go_big_quiet_step (fail))
        refine wpQuiet_nil ?_; intro w6 hb
        clear m1 m3
        replace HB := Lib.hid (below_step HB.out hb)
        clear hb
        go_wp2_with fail
        go_roundw
        case rel => exact ⟨k + 1, by omega, by go_num, HD, HB.out⟩
        case measure => simp [intOf]; omega
      · have HR := Lib.hid (HNE.out he)
        have e1 : (s == t) = false := by simpa using he
        have e2 : (s != t) = true := by simpa using he
        clear HST he
        go_wp2_with fail
        refine wp_region_lat (by kernel_rfl) (by kernel_rfl) ?_
        repeat (go_big_quiet_step (fail))
        refine wpQuiet_nil ?_; intro w6 hb
        clear m1 m3
        replace HB := Lib.hid (below_step HB.out hb)
        clear hb
        go_wp2_with fail
        go_ret
        exact ⟨retb HR.out.symm, HB.out⟩
    · have hlt2 : ¬ (k : Int) < N := by omega
      have HR := Lib.hid (HYes.out (list_eq_of 0 (by rw [← KN.out, ← KN2.out]) fun j hj => hd.out j (by rw [← KN.out] at hj; omega)))
      clear hd
      go_wp2_with fail
      go_ret
      exact ⟨retb HR.out.symm, HB.out⟩

end Go.Proofs.YthpioaboekpjoaaDoor
