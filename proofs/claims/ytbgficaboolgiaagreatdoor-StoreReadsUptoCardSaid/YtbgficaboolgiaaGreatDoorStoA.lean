/-
  Contracts of store's within, lists, storable.
-/
import Derived.Test.YtbgficaboolgiaaGreatDoorStoSpec
import Derived.Test.YtbgficaboolgiaaGreatDoorFuncs
import Derived.Test.YtbgficaboolgiaaGreatDoorHashC
import Derived.Test.YtbgficaboolgiaaGreatDoorGens
namespace Go.Proofs.YtbgficaboolgiaaGreatDoor
open Go.RowKit
set_option linter.unusedVariables false
set_option linter.unusedSimpArgs false

set_option maxRecDepth 100000 in
theorem stoWithin (n m : Int) (w : World) :
    Calls Tryz.prog 48 #[.int .i64 n, .int .i64 m] w fun e w' => e = .returned (.bool (wiB n m)) ∧ w = w' := by
  unfold wiB
  by_cases h : 0 ≤ n
  · go_enter Tryz.func48, Tryz.ntmps48
    go_wp2_with fail
    go_ret
    exact ⟨by simp [h], rfl⟩
  · go_enter Tryz.func48, Tryz.ntmps48
    go_wp2_with fail
    go_ret
    exact ⟨by rw [decide_eq_false (show ¬ 0 ≤ n by omega)]; rfl, rfl⟩

set_option maxRecDepth 100000 in
theorem stoLists11 (n : Int) (w : World) :
    Calls Tryz.prog 75 #[.int .i64 n] w fun e w' => e = .returned (.bool (!wiB n 1099511627776)) ∧ Below w.heap.size w w' := by
  have C := Lib.hid (fun W => stoWithin n 1099511627776 W)
  generalize wiB n 1099511627776 = b at *
  go_enter Tryz.func75, Tryz.ntmps75
  go_wp2_with fail
  refine (C.out _).mono ?_; rintro e w2 ⟨rfl, rfl⟩
  go_wp2_with fail
  go_ret
  exact ⟨by cases b <;> rfl, Below.refl _ _⟩

set_option maxRecDepth 100000 in
theorem stoLists1 (w : World) (u : Value) (c : List Int) (hu : IL w u c) (hn : c.length ≤ 9223372036854775807) :
    Calls Tryz.prog 73 #[u] w fun e w' => e = .returned (.bool (cntB c)) ∧ Below w.heap.size w w' := by
  have C := Lib.hid (hasFuncI w u c hu hn 75 #[] (fun n => !wiB n 1099511627776) (run_go Tryz.func75 (by kernel_rfl) (by kernel_rfl)) (fun W t _ _ => stoLists11 t W))
  have HR : Hid (cntB c = (decide (256 < c.length) || c.any fun n => !wiB n 1099511627776)) := Lib.hid rfl
  obtain ⟨A, m, rfl, hm, -⟩ := hu
  generalize cntB c = r at *
  generalize (c.any fun n => !wiB n 1099511627776) = q at *
  generalize c.length = N at *
  by_cases h : 256 < N
  · have f1 : (256 : Int) < N := by omega
    have HR2 : Hid (r = true) := Lib.hid (by rw [HR.out, decide_eq_true h]; rfl)
    clear h HR
    go_enter Tryz.func73, Tryz.ntmps73
    go_wp2_with fail
    go_ret
    exact ⟨by rw [HR2.out]; rfl, Below.refl _ _⟩
  · have f1 : ¬ (256 : Int) < N := by omega
    have HR2 : Hid (r = q) := Lib.hid (by rw [HR.out, decide_eq_false h]; rfl)
    clear h HR
    go_enter Tryz.func73, Tryz.ntmps73
    go_wp2_with fail
    refine C.out.mono ?_; rintro e w2 ⟨rfl, hb⟩
    have HB := Lib.hid hb
    clear hb
    go_wp2_with fail
    go_ret
    exact ⟨by rw [HR2.out]; rfl, HB.out⟩

set_option maxRecDepth 100000 in
set_option maxHeartbeats 8000000 in
theorem idxFuncR (w : World) (v : Value) (ts : List (List Int)) (hv : Rs ilR w v ts anyB) (hn : ts.length ≤ 9223372036854775807) (g : Nat) (lb : Array Value) (p : List Int → Bool) (eg : ∀ args W, (callFunc g args).run Tryz.prog W = .ok (.enter g args) W)
    (hp : ∀ W u t, Below w.heap.size w W → t ∈ ts → IL W u t → Calls Tryz.prog g (#[u] ++ lb) W fun e w' => e = .returned (.bool (p t)) ∧ Below W.heap.size W w') :
    Calls Tryz.prog 87 #[v, .func (.func g) #[] lb] w fun e w' => e = .returned (.int .i64 (fIdx p ts)) ∧ Below w.heap.size w w' := by
  obtain ⟨A, c, rfl, hc, hx⟩ := hv.ils
  have HX := Lib.hid hx
  have HP := Lib.hid hp
  have HH := Lib.hid (fun k h1 h2 h3 => fidx_hit (p := p) (l := ts) (k := k) [] h1 h2 h3)
  have HM := Lib.hid (fidx_miss (p := p) (l := ts) [])
  obtain ⟨N, hN⟩ : ∃ N, N = ts.length := ⟨_, rfl⟩
  have HN := Lib.hid hN
  rw [← hN] at hc hn ⊢
  generalize fIdx p ts = r at *
  clear hx hp hN hv
  go_enter Tryz.func87, Tryz.ntmps87
  go_wp2_with fail
  go_loopw [5, 8] (fun _ i wr => ∃ k : Nat, k ≤ N ∧ i = .int .i64 k ∧ Hid (∀ j, j < k → p (ts.getD j []) = false) ∧ Below w.heap.size w wr) (fun _ i _ => N - (intOf i).toNat)
  case atStart => exact ⟨0, Nat.zero_le _, rfl, (fun j h => by omega), Below.refl _ _⟩
  case round =>
    obtain ⟨k, hk, rfl, hno, hb⟩ := hrel
    have HB := Lib.hid hb
    by_cases hlt : k < N
    · have hlt2 : (k : Int) < N := by omega
      have hk0 : (0 : Int) ≤ (k : Int) := by omega
      have hkt : k < ts.length := by rw [← HN.out]; exact hlt
      obtain ⟨b, o, u, rfl, hbl, q0, hu, -⟩ := HX.out k hkt
      have q1 : wr.cell? ⟨b, o + k, none⟩ = some u := (HB.out.cell (p := ⟨b, o + k, none⟩) hbl).trans q0
      have CC := Lib.hid (fun W (hW : Below w.heap.size w W) => HP.out W u (ts.getD k []) hW (getD_mem [] hkt) (hu.below hW))
      have H1 := Lib.hid (HH.out k hkt hno.out)
      have H2 : Hid (p (ts.getD k []) = false → ∀ j, j < k + 1 → p (ts.getD j []) = false) := Lib.hid fun h j hj => by
        by_cases e : j = k
        · rw [e]; exact h
        · exact hno.out j (by omega)
      obtain ⟨E, e1, rfl, -⟩ := id hu
      generalize ts.getD k [] = x at *
      generalize x.length = L at *
      cases hq : p x
      · rw [hq] at CC
        have H3 := Lib.hid (H2.out hq)
        clear H1 H2 hq hkt q0 hb hno hbl hu
        go_wp2_with fail
        refine (CC.out _ HB.out).mono ?_; rintro e w2 ⟨rfl, hb⟩
        have HB2 := Lib.hid (below_step HB.out hb)
        clear hb q1
        go_wp2_with fail
        go_roundw
        case rel => exact ⟨k + 1, by omega, by go_num, H3, HB2.out⟩
        case measure => simp [intOf]; omega
      · rw [hq] at CC
        have H3 := Lib.hid (H1.out hq)
        clear H1 H2 hq hkt q0 hb hno hbl hu
        go_wp2_with fail
        refine (CC.out _ HB.out).mono ?_; rintro e w2 ⟨rfl, hb⟩
        have HB2 := Lib.hid (below_step HB.out hb)
        clear hb q1
        go_wp2_with fail
        go_ret
        exact ⟨ret1 H3.out.symm, HB2.out⟩
    · have hlt2 : ¬ (k : Int) < N := by omega
      have hkN : k = N := by omega
      have H3 := Lib.hid (HM.out fun j hj => hno.out j (by rw [hkN, HN.out]; exact hj))
      clear hb hno hkN
      go_wp2_with fail
      go_ret
      exact ⟨ret1 H3.out.symm, HB.out⟩

set_option maxRecDepth 100000 in
set_option maxHeartbeats 2000000 in
theorem hasFuncR (w : World) (v : Value) (ts : List (List Int)) (hv : Rs ilR w v ts anyB) (hn : ts.length ≤ 9223372036854775807) (g : Nat) (lb : Array Value) (p : List Int → Bool) (eg : ∀ args W, (callFunc g args).run Tryz.prog W = .ok (.enter g args) W)
    (hp : ∀ W u t, Below w.heap.size w W → t ∈ ts → IL W u t → Calls Tryz.prog g (#[u] ++ lb) W fun e w' => e = .returned (.bool (p t)) ∧ Below W.heap.size W w') :
    Calls Tryz.prog 72 #[v, .func (.func g) #[] lb] w fun e w' => e = .returned (.bool (ts.any p)) ∧ Below w.heap.size w w' := by
  have CC := Lib.hid (idxFuncR w v ts hv hn g lb p eg hp)
  rw [← fidx_any]
  generalize fIdx p ts = r at *
  obtain ⟨A, c, rfl, hc⟩ := hv.slice
  clear hp eg hv hn hc
  generalize ts.length = N at *
  go_enter Tryz.func72, Tryz.ntmps72
  go_wp2_with fail
  refine CC.out.mono ?_; rintro e w2 ⟨rfl, hb⟩
  have HB := Lib.hid hb
  clear hb
  go_wp2_with fail
  go_ret
  exact ⟨rfl, HB.out⟩

set_option maxRecDepth 100000 in
theorem stoLists (w : World) (v : Value) (l : List (List Int)) (hv : Rs ilR w v l anyB) (hn : l.length ≤ 9223372036854775807) (hc : ∀ c ∈ l, c.length ≤ 9223372036854775807) :
    Calls Tryz.prog 49 #[v] w fun e w' => e = .returned (.bool (lstB l)) ∧ Below w.heap.size w w' := by
  have C := Lib.hid (hasFuncR w v l hv hn 73 #[] cntB (run_go Tryz.func73 (by kernel_rfl) (by kernel_rfl)) (fun W u t _ ht hu => stoLists1 W u t hu (hc t ht)))
  have HR : Hid (lstB l = (decide (l.length ≤ 16) && !(l.any cntB))) := Lib.hid rfl
  obtain ⟨A, m, rfl, hm⟩ := hv.slice
  generalize lstB l = r at *
  generalize (l.any cntB) = q at *
  clear hv hc hm
  generalize l.length = N at *
  by_cases h : N ≤ 16
  · have f1 : (N : Int) ≤ 16 := by omega
    have HR2 : Hid (r = !q) := Lib.hid (by rw [HR.out, decide_eq_true h]; rfl)
    clear h HR
    go_enter Tryz.func49, Tryz.ntmps49
    go_wp2_with fail
    refine C.out.mono ?_; rintro e w2 ⟨rfl, hb⟩
    have HB := Lib.hid hb
    clear hb
    go_wp2_with fail
    go_ret
    exact ⟨by rw [HR2.out]; cases q <;> rfl, HB.out⟩
  · have f1 : ¬ (N : Int) ≤ 16 := by omega
    have HR2 : Hid (r = false) := Lib.hid (by rw [HR.out, decide_eq_false h]; rfl)
    clear h HR
    go_enter Tryz.func49, Tryz.ntmps49
    go_wp2_with fail
    go_ret
    exact ⟨by rw [HR2.out]; rfl, Below.refl _ _⟩

end Go.Proofs.YtbgficaboolgiaaGreatDoor
