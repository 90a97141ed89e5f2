/-
  Contracts of the library's IndexFunc and ContainsFunc over strings and integers.
-/
import Derived.Test.YtbgficaboolgiaaGreatDoorRowsI
import Derived.Test.YtbgficaboolgiaaGreatDoorTxA
namespace Go.Proofs.YtbgficaboolgiaaGreatDoor
open Go.RowKit
set_option linter.unusedVariables false
set_option linter.unusedSimpArgs false

set_option maxRecDepth 100000 in
set_option maxHeartbeats 8000000 in
theorem idxFuncI (w : World) (v : Value) (ts : List Int) (hv : IL w v ts) (hn : ts.length ≤ 9223372036854775807) (g : Nat) (lb : Array Value) (p : Int → Bool) (eg : ∀ args W, (callFunc g args).run Tryz.prog W = .ok (.enter g args) W)
    (hp : ∀ W t, Below w.heap.size w W → t ∈ ts → Calls Tryz.prog g (#[.int .i64 t] ++ lb) W fun e w' => e = .returned (.bool (p t)) ∧ Below W.heap.size W w') :
    Calls Tryz.prog 88 #[v, .func (.func g) #[] lb] w fun e w' => e = .returned (.int .i64 (fIdx p ts)) ∧ Below w.heap.size w w' := by
  obtain ⟨A, c, rfl, hc, hcl⟩ := hv
  have HC := Lib.hid hcl
  have HP := Lib.hid hp
  have HH := Lib.hid (fun k h1 h2 h3 => fidx_hit (p := p) (l := ts) (k := k) 0 h1 h2 h3)
  have HM := Lib.hid (fidx_miss (p := p) (l := ts) 0)
  obtain ⟨N, hN⟩ : ∃ N, N = ts.length := ⟨_, rfl⟩
  have HN := Lib.hid hN
  rw [← hN] at hc hn ⊢
  generalize fIdx p ts = r at *
  clear hcl hp hN
  go_enter Tryz.func88, Tryz.ntmps88
  go_wp2_with fail
  go_loopw [5, 8] (fun _ i wr => ∃ k : Nat, k ≤ N ∧ i = .int .i64 k ∧ Hid (∀ j, j < k → p (ts.getD j 0) = false) ∧ Below w.heap.size w wr) (fun _ i _ => N - (intOf i).toNat)
  case atStart => exact ⟨0, Nat.zero_le _, rfl, (fun j h => by omega), Below.refl _ _⟩
  case round =>
    obtain ⟨k, hk, rfl, hno, hb⟩ := hrel
    have HB := Lib.hid hb
    by_cases hlt : k < N
    · have hlt2 : (k : Int) < N := by omega
      have hk0 : (0 : Int) ≤ (k : Int) := by omega
      have hkt : k < ts.length := by rw [← HN.out]; exact hlt
      obtain ⟨a1, rfl, hl1, hr1⟩ := HC.out (by omega)
      have q1 : wr.cell? (a1.add k) = some (.int .i64 (ts.getD k 0)) := by rw [hb.cell (by rw [block_of_add]; exact hl1)]; exact hr1 k hkt
      have CC := Lib.hid (fun W hW => HP.out W (ts.getD k 0) hW (getD_mem 0 hkt))
      have H1 := Lib.hid (HH.out k hkt hno.out)
      have H2 : Hid (p (ts.getD k 0) = false → ∀ j, j < k + 1 → p (ts.getD j 0) = false) := Lib.hid fun h j hj => by
        by_cases e : j = k
        · rw [e]; exact h
        · exact hno.out j (by omega)
      generalize ts.getD k 0 = x at *
      cases hq : p x
      · rw [hq] at CC
        have H3 := Lib.hid (H2.out hq)
        clear H1 H2 hq hkt hr1 hb hno hl1
        go_wp2_with fail
        refine (CC.out _ HB.out).mono ?_; rintro e w2 ⟨rfl, hb⟩
        have HB2 := Lib.hid (below_step HB.out hb)
        clear hb
        go_wp2_with fail
        go_roundw
        case rel => exact ⟨k + 1, by omega, by go_num, H3, HB2.out⟩
        case measure => simp [intOf]; omega
      · rw [hq] at CC
        have H3 := Lib.hid (H1.out hq)
        clear H1 H2 hq hkt hr1 hb hno hl1
        go_wp2_with fail
        refine (CC.out _ HB.out).mono ?_; rintro e w2 ⟨rfl, hb⟩
        have HB2 := Lib.hid (below_step HB.out hb)
        clear hb
        go_wp2_with fail
        go_ret
        exact ⟨ret1 H3.out.symm, HB2.out⟩
    · have hlt2 : ¬ (k : Int) < N := by omega
      have hkN : k = N := by omega
      have H3 := Lib.hid (HM.out fun j hj => hno.out j (by rw [hkN, HN.out]; exact hj))
      clear hb hno hkN
      go_wp2_with fail
      go_ret
      exact ⟨ret1 H3.out.symm, HB.out⟩

set_option maxHeartbeats 2000000 in
theorem hasFuncI (w : World) (v : Value) (ts : List Int) (hv : IL w v ts) (hn : ts.length ≤ 9223372036854775807) (g : Nat) (lb : Array Value) (p : Int → Bool) (eg : ∀ args W, (callFunc g args).run Tryz.prog W = .ok (.enter g args) W)
    (hp : ∀ W t, Below w.heap.size w W → t ∈ ts → Calls Tryz.prog g (#[.int .i64 t] ++ lb) W fun e w' => e = .returned (.bool (p t)) ∧ Below W.heap.size W w') :
    Calls Tryz.prog 74 #[v, .func (.func g) #[] lb] w fun e w' => e = .returned (.bool (ts.any p)) ∧ Below w.heap.size w w' := by
  have CC := Lib.hid (idxFuncI w v ts hv hn g lb p eg hp)
  rw [← fidx_any]
  generalize fIdx p ts = r at *
  obtain ⟨A, c, rfl, hc, _⟩ := hv
  clear hp eg
  go_enter Tryz.func74, Tryz.ntmps74
  go_wp2_with fail
  refine CC.out.mono ?_; rintro e w2 ⟨rfl, hb⟩
  have HB := Lib.hid hb
  clear hb
  go_wp2_with fail
  go_ret
  exact ⟨rfl, HB.out⟩

end Go.Proofs.YtbgficaboolgiaaGreatDoor
