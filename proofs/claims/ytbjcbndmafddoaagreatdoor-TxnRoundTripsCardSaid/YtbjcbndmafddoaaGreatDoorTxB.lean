/-
  Contracts of Env, of txn and of its reference.
  Contracts of Same, of txn and of its reference.
  Contracts of the reference's Same, of the law's own functions strings and Few.
-/
import Derived.Test.YtbjcbndmafddoaaGreatDoorTxA
import Derived.Test.YtbjcbndmafddoaaGreatDoorGens
namespace Go.Proofs.YtbjcbndmafddoaaGreatDoor
section
open Go.RowKit
set_option linter.unusedVariables false
set_option linter.unusedSimpArgs false

/-- The signals of a transaction. -/
def envT (ns : List ByteArray) (zs : List Int) : List Pr := if txV ns zs = true then prs ns zs else []
theorem txv_lens {ns : List ByteArray} {zs : List Int} (h : txV ns zs = true) : ns.length = zs.length ∧ ns.length ≤ 128 := by
  have := of_decide_eq_true h; exact ⟨this.1, this.2.1⟩
end

section
open Go.RowKit
set_option linter.unusedVariables false
set_option linter.unusedSimpArgs false

def fPL (j : Nat) (D : List Nat) (l : List Pr) : FOp := ⟨j, D, fun v => ∃ A c, v = .slice A l.length c, fun v w => PL w v l⟩
theorem fPL_st (j : Nat) (D : List Nat) (l : List Pr) : ∀ v w w', (fPL j D l).Φ v w → Below w.heap.size w w' → (fPL j D l).Φ v w' := fun v w w' h hb => PL.below h hb
theorem fPL_kn (j : Nat) (D : List Nat) (l : List Pr) : (∀ u w, (fPL j D l).Φ u w → (fPL j D l).S u) ∧ ∃ u, (fPL j D l).S u := ⟨fun u w ⟨A, c, h, _⟩ => ⟨A, c, h⟩, .slice none _ 0, none, 0, rfl⟩
def sameT (ns : List ByteArray) (zs : List Int) (ms : List ByteArray) (ys : List Int) : Bool := decide (ns = ms) && decide (zs = ys)
theorem pr_ne {a b : Pr} (h : a ≠ b) : (a.1.toList == b.1.toList) = false ∨ (a.1 = b.1 ∧ (a.2 == b.2) = false) := by
  obtain ⟨s, z⟩ := a; obtain ⟨t, y⟩ := b
  by_cases e : s = t
  · right; exact ⟨e, by simpa using fun h2 => h (by rw [e, h2])⟩
  · left; exact (str_ne e).1
end

section
open Go.RowKit
set_option linter.unusedVariables false
set_option linter.unusedSimpArgs false

theorem list_eq_of {α : Type} {l m : List α} (d : α) (hl : l.length = m.length) (h : ∀ j, j < l.length → l.getD j d = m.getD j d) : l = m := by
  refine List.ext_getElem hl fun j h1 h2 => ?_
  have := h j h1
  rwa [List.getD_eq_getElem?_getD, List.getD_eq_getElem?_getD, List.getElem?_eq_getElem h1, List.getElem?_eq_getElem h2] at this

set_option maxRecDepth 100000 in
set_option maxHeartbeats 8000000 in
theorem refSame (w : World) (v1 v2 v3 v4 : Value) (ns : List ByteArray) (zs : List Int) (ms : List ByteArray) (ys : List Int) (h1 : SL w v1 ns) (h2 : IL w v2 zs) (h3 : SL w v3 ms) (h4 : IL w v4 ys)
    (n1 : ns.length ≤ 9223372036854775807) (n2 : zs.length ≤ 9223372036854775807) (n3 : ms.length ≤ 9223372036854775807) (n4 : ys.length ≤ 9223372036854775807) :
    Calls Tryz.prog 13 #[.agg #[v1, v2], .agg #[v3, v4]] w fun e w' => e = .returned (.bool (sameT ns zs ms ys)) ∧ Below w.heap.size w w' := by
  obtain ⟨A1, c1, rfl, _, hs1⟩ := h1
  obtain ⟨A2, c2, rfl, _, hs2⟩ := h2
  obtain ⟨A3, c3, rfl, _, hs3⟩ := h3
  obtain ⟨A4, c4, rfl, _, hs4⟩ := h4
  have HS1 := Lib.hid hs1
  have HS2 := Lib.hid hs2
  have HS3 := Lib.hid hs3
  have HS4 := Lib.hid hs4
  have HNo : Hid (¬ (ns = ms ∧ zs = ys) → sameT ns zs ms ys = false) := Lib.hid fun h => by
    unfold sameT
    by_cases e : ns = ms
    · rw [decide_eq_true e, decide_eq_false (fun e2 => h ⟨e, e2⟩)]; rfl
    · rw [decide_eq_false e]; rfl
  have HYes : Hid (ns = ms ∧ zs = ys → sameT ns zs ms ys = true) := Lib.hid fun h => by
    unfold sameT; rw [decide_eq_true h.1, decide_eq_true h.2]; rfl
  have HL1 : Hid (ns = ms → ns.length = ms.length) := Lib.hid fun h => by rw [h]
  have HL2 : Hid (zs = ys → zs.length = ys.length) := Lib.hid fun h => by rw [h]
  generalize sameT ns zs ms ys = r at *
  obtain ⟨N, hN⟩ : ∃ N, N = ns.length := ⟨_, rfl⟩
  obtain ⟨M, hM⟩ : ∃ M, M = zs.length := ⟨_, rfl⟩
  obtain ⟨N2, hN2⟩ : ∃ N2, N2 = ms.length := ⟨_, rfl⟩
  obtain ⟨M2, hM2⟩ : ∃ M2, M2 = ys.length := ⟨_, rfl⟩
  have KN := Lib.hid hN
  have KM := Lib.hid hM
  have KN2 := Lib.hid hN2
  have KM2 := Lib.hid hM2
  rw [← hN] at n1 HS1 HL1 ⊢
  rw [← hM] at n2 HS2 HL2 ⊢
  rw [← hN2] at n3 HS3 HL1 ⊢
  rw [← hM2] at n4 HS4 HL2 ⊢
  clear hN hM hN2 hM2 hs1 hs2 hs3 hs4
  by_cases e1 : N = N2
  case neg =>
    have HR := Lib.hid (HNo.out fun h => e1 (HL1.out h.1))
    have f1 : ((N : Int) != (N2 : Int)) = true := by
      have : ¬ (N : Int) = N2 := by omega
      simpa using this
    have f2 : (N == N2) = false := by simpa using e1
    have f3 : (N != N2) = true := by simpa using e1
    clear e1
    go_enter Tryz.func13, Tryz.ntmps13
    go_wp2_with fail
    go_ret
    exact ⟨retb HR.out.symm, below_step (below_alloc _ _) (below_alloc _ _)⟩
  subst e1
  have f1 : ((N : Int) != (N : Int)) = false := by simp
  have f1' : (N != N) = false := by simp
  by_cases e2 : M = M2
  case neg =>
    have HR := Lib.hid (HNo.out fun h => e2 (HL2.out h.2))
    have f2 : ((M : Int) != (M2 : Int)) = true := by
      have : ¬ (M : Int) = M2 := by omega
      simpa using this
    have f3 : (M == M2) = false := by simpa using e2
    have f4 : (M != M2) = true := by simpa using e2
    clear e2
    go_enter Tryz.func13, Tryz.ntmps13
    go_wp2_with fail
    go_ret
    exact ⟨retb HR.out.symm, below_step (below_alloc _ _) (below_alloc _ _)⟩
  subst e2
  have f2 : ((M : Int) != (M : Int)) = false := by simp
  have f2' : (M != M) = false := by simp
  go_enter Tryz.func13, Tryz.ntmps13
  go_wp2_with fail
  have XA := Lib.hid ((box_new (W := w) (g := w.heap.size) 25 #[.slice A1 N c1, .slice A2 M c2] (by simp)).below (below_alloc _ (.cells #[.slice A3 N c3, .slice A4 M c4] 25)))
  have XB := Lib.hid (box_new (W := (w.alloc (.cells #[.slice A1 N c1, .slice A2 M c2] 25))) (g := w.heap.size + 1) 25 #[.slice A3 N c3, .slice A4 M c4] (by simp))
  have HB := Lib.hid (below_step (below_alloc w (.cells #[.slice A1 N c1, .slice A2 M c2] 25)) (below_alloc (w.alloc (.cells #[.slice A1 N c1, .slice A2 M c2] 25)) (.cells #[.slice A3 N c3, .slice A4 M c4] 25)))
  generalize (w.alloc (.cells #[.slice A1 N c1, .slice A2 M c2] 25)).alloc (.cells #[.slice A3 N c3, .slice A4 M c4] 25) = w1 at *
  go_loopw [5] (fun i wr => ∃ k : Nat, k ≤ N ∧ i = .int .i64 k ∧ Hid (∀ j, j < k → ns.getD j ⟨#[]⟩ = ms.getD j ⟨#[]⟩) ∧ Box wr w.heap.size #[.slice A1 N c1, .slice A2 M c2] 25 ∧ Box wr (w.heap.size + 1) #[.slice A3 N c3, .slice A4 M c4] 25 ∧ Below w.heap.size w wr) (fun i _ => N - (intOf i).toNat)
  case atStart => exact ⟨0, Nat.zero_le _, rfl, Lib.hid (fun j h => by omega), XA.out, XB.out, HB.out⟩
  case round =>
    obtain ⟨k, hk, rfl, hd, hxa, hxb, hb⟩ := hrel
    clear XA XB HB
    have XA := Lib.hid hxa
    have XB := Lib.hid hxb
    have HB := Lib.hid hb
    clear hxa hxb hb
    by_cases hlt : k < N
    · have hlt2 : (k : Int) < N := by omega
      have hk0 : (0 : Int) ≤ (k : Int) := by omega
      obtain ⟨a1, rfl, hr1⟩ := HS1.out (by omega)
      obtain ⟨a3, rfl, hr3⟩ := HS3.out (by omega)
      have m1 : ∀ p : Lat wr, p.w.cell? (a1.add k) = some (.string (ns.getD k ⟨#[]⟩)) := fun p => (hr1.below (below_step HB.out p.h)).cells k (by rw [← KN.out]; exact hlt)
      have m3 : ∀ p : Lat wr, p.w.cell? (a3.add k) = some (.string (ms.getD k ⟨#[]⟩)) := fun p => (hr3.below (below_step HB.out p.h)).cells k (by rw [← KN2.out]; exact hlt)
      have HNE : Hid (ns.getD k ⟨#[]⟩ ≠ ms.getD k ⟨#[]⟩ → r = false) := Lib.hid fun h => HNo.out fun h2 => h (by rw [h2.1])
      have HST : Hid (ns.getD k ⟨#[]⟩ = ms.getD k ⟨#[]⟩ → ∀ j, j < k + 1 → ns.getD j ⟨#[]⟩ = ms.getD j ⟨#[]⟩) := Lib.hid fun h j hj => by
        by_cases e : j = k
        · rw [e]; exact h
        · exact hd.out j (by omega)
      have l0 := XA.out.lat 0 _ rfl
      have l1 := XB.out.lat 0 _ rfl
      generalize ns.getD k ⟨#[]⟩ = s at *
      generalize ms.getD k ⟨#[]⟩ = t at *
      clear hr1 hr3 hd
      by_cases he : s = t
      · have HD := Lib.hid (HST.out he)
        subst he
        clear HST
        have XA_0 := XA.out.at_ 0 _ rfl
        go_wp2_with fail
        clear XA_0
        refine wp_region_lat (by kernel_rfl) (by kernel_rfl) ?_
        repeat (go_big_quiet_step (fail))
        refine wpQuiet_nil ?_; intro w6 hb
        clear m1 m3 l0 l1
        replace XA := Lib.hid (XA.out.below hb)
        replace XB := Lib.hid (XB.out.below hb)
        replace HB := Lib.hid (below_step HB.out hb)
        clear hb
        go_wp2_with fail
        go_roundw
        case rel => exact ⟨k + 1, by omega, by go_num, HD, XA.out, XB.out, HB.out⟩
        case measure => simp [intOf]; omega
      · have HR := Lib.hid (HNE.out he)
        obtain ⟨e1, e2⟩ := str_ne he
        clear HST he
        have XA_0 := XA.out.at_ 0 _ rfl
        go_wp2_with fail
        clear XA_0
        refine wp_region_lat (by kernel_rfl) (by kernel_rfl) ?_
        repeat (go_big_quiet_step (fail))
        refine wpQuiet_nil ?_; intro w6 hb
        clear m1 m3 l0 l1
        replace XA := Lib.hid (XA.out.below hb)
        replace XB := Lib.hid (XB.out.below hb)
        replace HB := Lib.hid (below_step HB.out hb)
        clear hb
        go_wp2_with fail
        go_ret
        exact ⟨retb HR.out.symm, HB.out⟩
    · have hlt2 : ¬ (k : Int) < N := by omega
      have HNS : Hid (ns = ms) := Lib.hid (list_eq_of ⟨#[]⟩ (by rw [← KN.out, ← KN2.out]) fun j hj => hd.out j (by rw [← KN.out] at hj; omega))
      clear hd
      have XA_0 := XA.out.at_ 0 _ rfl
      go_wp2_with fail
      clear XA_0
      obtain ⟨wo, hwo⟩ : ∃ wo : World, wo = wr := ⟨_, rfl⟩
      subst hwo
      go_loopw [6] (fun i wr => ∃ q : Nat, q ≤ M ∧ i = .int .i64 q ∧ Hid (∀ j, j < q → zs.getD j 0 = ys.getD j 0) ∧ Box wr w.heap.size #[.slice A1 N c1, .slice A2 M c2] 25 ∧ Box wr (w.heap.size + 1) #[.slice A3 N c3, .slice A4 M c4] 25 ∧ Below w.heap.size w wr) (fun i _ => M - (intOf i).toNat)
      case atStart => exact ⟨0, Nat.zero_le _, rfl, Lib.hid (fun j h => by omega), XA.out, XB.out, HB.out⟩
      case round =>
        obtain ⟨q, hq, rfl, hd, hxa, hxb, hb⟩ := hrel
        clear XA XB HB
        have XA := Lib.hid hxa
        have XB := Lib.hid hxb
        have HB := Lib.hid hb
        clear hxa hxb hb
        by_cases hlq : q < M
        · have hlq2 : (q : Int) < M := by omega
          have hq0 : (0 : Int) ≤ (q : Int) := by omega
          obtain ⟨a2, rfl, hl2, hr2⟩ := HS2.out (by omega)
          obtain ⟨a4, rfl, hl4, hr4⟩ := HS4.out (by omega)
          have m2 : ∀ p : Lat wr, p.w.cell? (a2.add q) = some (.int .i64 (zs.getD q 0)) := fun p => by rw [(below_step HB.out p.h).cell (by rw [block_of_add]; exact hl2)]; exact hr2 q hlq
          have m4 : ∀ p : Lat wr, p.w.cell? (a4.add q) = some (.int .i64 (ys.getD q 0)) := fun p => by rw [(below_step HB.out p.h).cell (by rw [block_of_add]; exact hl4)]; exact hr4 q hlq
          have HNE : Hid (zs.getD q 0 ≠ ys.getD q 0 → r = false) := Lib.hid fun h => HNo.out fun h2 => h (by rw [h2.2])
          have HST : Hid (zs.getD q 0 = ys.getD q 0 → ∀ j, j < q + 1 → zs.getD j 0 = ys.getD j 0) := Lib.hid fun h j hj => by
            by_cases e : j = q
            · rw [e]; exact h
            · exact hd.out j (by omega)
          have l0 := XA.out.lat 1 _ rfl
          have l1 := XB.out.lat 1 _ rfl
          generalize zs.getD q 0 = s at *
          generalize ys.getD q 0 = t at *
          clear hr2 hr4 hl2 hl4 hd
          by_cases he : s = t
          · have HD := Lib.hid (HST.out he)
            subst he
            have f5 : (s != s) = false := by simp
            clear HST
            have XA_1 := XA.out.at_ 1 _ rfl
            go_wp2_with fail
            clear XA_1
            refine wp_region_lat (by kernel_rfl) (by kernel_rfl) ?_
            repeat (go_big_quiet_step (fail))
            refine wpQuiet_nil ?_; intro w6 hb
            clear m2 m4 l0 l1
            replace XA := Lib.hid (XA.out.below hb)
            replace XB := Lib.hid (XB.out.below hb)
            replace HB := Lib.hid (below_step HB.out hb)
            clear hb
            go_wp2_with fail
            go_roundw
            case rel => exact ⟨q + 1, by omega, by go_num, HD, XA.out, XB.out, HB.out⟩
            case measure => simp [intOf]; omega
          · have HR := Lib.hid (HNE.out he)
            have f5 : (s != t) = true := by simpa using he
            have f6 : (s == t) = false := by simpa using he
            clear HST he
            have XA_1 := XA.out.at_ 1 _ rfl
            go_wp2_with fail
            clear XA_1
            refine wp_region_lat (by kernel_rfl) (by kernel_rfl) ?_
            repeat (go_big_quiet_step (fail))
            refine wpQuiet_nil ?_; intro w6 hb
            clear m2 m4 l0 l1
            replace XA := Lib.hid (XA.out.below hb)
            replace XB := Lib.hid (XB.out.below hb)
            replace HB := Lib.hid (below_step HB.out hb)
            clear hb
            go_wp2_with fail
            go_ret
            exact ⟨retb HR.out.symm, HB.out⟩
        · have hlq2 : ¬ (q : Int) < M := by omega
          have HR := Lib.hid (HYes.out ⟨HNS.out, list_eq_of 0 (by rw [← KM.out, ← KM2.out]) fun j hj => hd.out j (by rw [← KM.out] at hj; omega)⟩)
          clear hd
          have XA_1 := XA.out.at_ 1 _ rfl
          go_wp2_with fail
          go_ret
          exact ⟨retb HR.out.symm, HB.out⟩

set_option maxRecDepth 100000 in
set_option maxHeartbeats 8000000 in
theorem lawStrings (w : World) (v1 v3 : Value) (ns ms : List ByteArray) (h1 : SL w v1 ns) (h3 : SL w v3 ms) (n1 : ns.length ≤ 9223372036854775807) (n3 : ms.length ≤ 9223372036854775807) :
    Calls Tryz.prog 17 #[v1, v3] w fun e w' => e = .returned (.bool (decide (ns = ms))) ∧ Below w.heap.size w w' := by
  obtain ⟨A1, c1, rfl, _, hs1⟩ := h1
  obtain ⟨A3, c3, rfl, _, hs3⟩ := h3
  have HS1 := Lib.hid hs1
  have HS3 := Lib.hid hs3
  have HNo : Hid (¬ ns = ms → decide (ns = ms) = false) := Lib.hid fun h => decide_eq_false h
  have HYes : Hid (ns = ms → decide (ns = ms) = true) := Lib.hid fun h => decide_eq_true h
  have HL1 : Hid (ns = ms → ns.length = ms.length) := Lib.hid fun h => by rw [h]
  generalize decide (ns = ms) = r at *
  obtain ⟨N, hN⟩ : ∃ N, N = ns.length := ⟨_, rfl⟩
  obtain ⟨N2, hN2⟩ : ∃ N2, N2 = ms.length := ⟨_, rfl⟩
  have KN := Lib.hid hN
  have KN2 := Lib.hid hN2
  rw [← hN] at n1 HS1 HL1 ⊢
  rw [← hN2] at n3 HS3 HL1 ⊢
  clear hN hN2 hs1 hs3
  by_cases e1 : N = N2
  case neg =>
    have HR := Lib.hid (HNo.out fun h => e1 (HL1.out h))
    have f1 : ((N : Int) != (N2 : Int)) = true := by
      have : ¬ (N : Int) = N2 := by omega
      simpa using this
    have f2 : (N == N2) = false := by simpa using e1
    have f3 : (N != N2) = true := by simpa using e1
    clear e1
    go_enter Tryz.func17, Tryz.ntmps17
    go_wp2_with fail
    go_ret
    exact ⟨retb HR.out.symm, Below.refl _ _⟩
  subst e1
  have f1 : ((N : Int) != (N : Int)) = false := by simp
  have f1' : (N != N) = false := by simp
  go_enter Tryz.func17, Tryz.ntmps17
  go_wp2_with fail
  go_loopw [5] (fun i wr => ∃ k : Nat, k ≤ N ∧ i = .int .i64 k ∧ Hid (∀ j, j < k → ns.getD j ⟨#[]⟩ = ms.getD j ⟨#[]⟩) ∧ Below w.heap.size w wr) (fun i _ => N - (intOf i).toNat)
  case atStart => exact ⟨0, Nat.zero_le _, rfl, Lib.hid (fun j h => by omega), Below.refl _ _⟩
  case round =>
    obtain ⟨k, hk, rfl, hd, hb⟩ := hrel
    have HB := Lib.hid hb
    clear hb
    by_cases hlt : k < N
    · have hlt2 : (k : Int) < N := by omega
      have hk0 : (0 : Int) ≤ (k : Int) := by omega
      obtain ⟨a1, rfl, hr1⟩ := HS1.out (by omega)
      obtain ⟨a3, rfl, hr3⟩ := HS3.out (by omega)
      have m1 : ∀ p : Lat wr, p.w.cell? (a1.add k) = some (.string (ns.getD k ⟨#[]⟩)) := fun p => (hr1.below (below_step HB.out p.h)).cells k (by rw [← KN.out]; exact hlt)
      have m3 : ∀ p : Lat wr, p.w.cell? (a3.add k) = some (.string (ms.getD k ⟨#[]⟩)) := fun p => (hr3.below (below_step HB.out p.h)).cells k (by rw [← KN2.out]; exact hlt)
      have HNE : Hid (ns.getD k ⟨#[]⟩ ≠ ms.getD k ⟨#[]⟩ → r = false) := Lib.hid fun h => HNo.out fun h2 => h (by rw [h2])
      have HST : Hid (ns.getD k ⟨#[]⟩ = ms.getD k ⟨#[]⟩ → ∀ j, j < k + 1 → ns.getD j ⟨#[]⟩ = ms.getD j ⟨#[]⟩) := Lib.hid fun h j hj => by
        by_cases e : j = k
        · rw [e]; exact h
        · exact hd.out j (by omega)
      generalize ns.getD k ⟨#[]⟩ = s at *
      generalize ms.getD k ⟨#[]⟩ = t at *
      clear hr1 hr3 hd
      by_cases he : s = t
      · have HD := Lib.hid (HST.out he)
        subst he
        clear HST
        go_wp2_with fail
        refine wp_region_lat (by kernel_rfl) (by kernel_rfl) ?_
        repeat (go_big_quiet_step (fail))
        refine wpQuiet_nil ?_; intro w6 hb
        clear m1 m3
        replace HB := Lib.hid (below_step HB.out hb)
        clear hb
        go_wp2_with fail
        go_roundw
        case rel => exact ⟨k + 1, by omega, by go_num, HD, HB.out⟩
        case measure => simp [intOf]; omega
      · have HR := Lib.hid (HNE.out he)
        obtain ⟨e1, e2⟩ := str_ne he
        clear HST he
        go_wp2_with fail
        refine wp_region_lat (by kernel_rfl) (by kernel_rfl) ?_
        repeat (go_big_quiet_step (fail))
        refine wpQuiet_nil ?_; intro w6 hb
        clear m1 m3
        replace HB := Lib.hid (below_step HB.out hb)
        clear hb
        go_wp2_with fail
        go_ret
        exact ⟨retb HR.out.symm, HB.out⟩
    · have hlt2 : ¬ (k : Int) < N := by omega
      have HR := Lib.hid (HYes.out (list_eq_of ⟨#[]⟩ (by rw [← KN.out, ← KN2.out]) fun j hj => hd.out j (by rw [← KN.out] at hj; omega)))
      clear hd
      go_wp2_with fail
      go_ret
      exact ⟨retb HR.out.symm, HB.out⟩

/-- At most 140 names of at most 40 bytes, and at most 140 values. -/
def Few (ns : List ByteArray) (zs : List Int) : Prop := ns.length ≤ 140 ∧ zs.length ≤ 140 ∧ ∀ s ∈ ns, s.size ≤ 40
instance (ns : List ByteArray) (zs : List Int) : Decidable (Few ns zs) := by unfold Few; infer_instance

set_option maxRecDepth 100000 in
set_option maxHeartbeats 8000000 in
theorem lawFew (w : World) (v1 v2 : Value) (ns : List ByteArray) (zs : List Int) (h1 : SL w v1 ns) (h2 : IL w v2 zs) (n1 : ns.length ≤ 9223372036854775807) (n2 : zs.length ≤ 9223372036854775807) (hsm : ∀ s ∈ ns, s.size ≤ 9223372036854775807) :
    Calls Tryz.prog 4 #[.agg #[v1, v2]] w fun e w' => e = .returned (.bool (decide (Few ns zs))) ∧ Below w.heap.size w w' := by
  obtain ⟨A1, c1, rfl, _, hs1⟩ := h1
  obtain ⟨A2, c2, rfl, _, _⟩ := h2
  have HS1 := Lib.hid hs1
  have HSM := Lib.hid hsm
  have HNo : Hid (¬ Few ns zs → decide (Few ns zs) = false) := Lib.hid fun h => decide_eq_false h
  have HYes : Hid (Few ns zs → decide (Few ns zs) = true) := Lib.hid fun h => decide_eq_true h
  have HF : Hid (Few ns zs ↔ ns.length ≤ 140 ∧ zs.length ≤ 140 ∧ ∀ s ∈ ns, s.size ≤ 40) := Lib.hid Iff.rfl
  generalize decide (Few ns zs) = r at *
  obtain ⟨N, hN⟩ : ∃ N, N = ns.length := ⟨_, rfl⟩
  obtain ⟨M, hM⟩ : ∃ M, M = zs.length := ⟨_, rfl⟩
  have KN := Lib.hid hN
  rw [← hN] at n1 HS1 HF ⊢
  rw [← hM] at n2 HF ⊢
  clear hN hM hs1 hsm
  by_cases g1 : 140 < N
  · have HR := Lib.hid (HNo.out fun h => by have := (HF.out.1 h).1; omega)
    have f1 : (140 : Int) < N := by omega
    clear g1
    go_enter Tryz.func4, Tryz.ntmps4
    go_wp2_with fail
    go_ret
    exact ⟨retb HR.out.symm, below_alloc _ _⟩
  have f1 : ¬ (140 : Int) < N := by omega
  by_cases g2 : 140 < M
  · have HR := Lib.hid (HNo.out fun h => by have := (HF.out.1 h).2.1; omega)
    have f2 : (140 : Int) < M := by omega
    clear g2
    go_enter Tryz.func4, Tryz.ntmps4
    go_wp2_with fail
    go_ret
    exact ⟨retb HR.out.symm, below_alloc _ _⟩
  have f2 : ¬ (140 : Int) < M := by omega
  go_enter Tryz.func4, Tryz.ntmps4
  go_wp2_with fail
  have XA := Lib.hid (box_new (W := w) (g := w.heap.size) 25 #[.slice A1 N c1, .slice A2 M c2] (by simp))
  have HB := Lib.hid (below_alloc w (.cells #[.slice A1 N c1, .slice A2 M c2] 25))
  generalize w.alloc (.cells #[.slice A1 N c1, .slice A2 M c2] 25) = w1 at *
  go_loop [3] (fun i => ∃ k : Nat, k ≤ N ∧ i = .int .i64 k ∧ Hid (∀ j, j < k → (ns.getD j ⟨#[]⟩).size ≤ 40)) (fun i => N - (intOf i).toNat)
  case atStart => exact ⟨0, Nat.zero_le _, rfl, Lib.hid (fun j h => by omega)⟩
  case round =>
    obtain ⟨k, hk, rfl, hd⟩ := hrel
    by_cases hlt : k < N
    · have hlt2 : (k : Int) < N := by omega
      obtain ⟨a1, rfl, hr1⟩ := HS1.out (by omega)
      have hkn : k < ns.length := by rw [← KN.out]; exact hlt
      have m1 := (hr1.below HB.out).cells k hkn
      have hsb := HSM.out _ (getD_mem ⟨#[]⟩ hkn)
      have HNE : Hid (¬ (ns.getD k ⟨#[]⟩).size ≤ 40 → r = false) := Lib.hid fun h => HNo.out fun h2 => h ((HF.out.1 h2).2.2 _ (getD_mem _ hkn))
      have HST : Hid ((ns.getD k ⟨#[]⟩).size ≤ 40 → ∀ j, j < k + 1 → (ns.getD j ⟨#[]⟩).size ≤ 40) := Lib.hid fun h j hj => by
        by_cases e : j = k
        · rw [e]; exact h
        · exact hd.out j (by omega)
      generalize ns.getD k ⟨#[]⟩ = s at *
      clear hr1 hd hkn
      by_cases he : s.size ≤ 40
      · have HD := Lib.hid (HST.out he)
        have f3 : ¬ (40 : Int) < s.size := by omega
        clear HST
        have XA_0 := XA.out.at_ 0 _ rfl
        go_wp2_with fail
        go_round
        case rel => exact ⟨k + 1, by omega, by go_num, HD⟩
        case measure => simp [intOf]; omega
      · have HR := Lib.hid (HNE.out he)
        have f3 : (40 : Int) < s.size := by omega
        clear HST he
        have XA_0 := XA.out.at_ 0 _ rfl
        go_wp2_with fail
        go_ret
        exact ⟨retb HR.out.symm, HB.out⟩
    · have hlt2 : ¬ (k : Int) < N := by omega
      have HR := Lib.hid (HYes.out (HF.out.2 ⟨by omega, by omega, fun s hs => by
        obtain ⟨j, hj, rfl⟩ := List.mem_iff_getElem.1 hs
        have := hd.out j (by rw [← KN.out] at hj; omega)
        rwa [List.getD_eq_getElem?_getD, List.getElem?_eq_getElem hj] at this⟩))
      clear hd
      have XA_0 := XA.out.at_ 0 _ rfl
      go_wp2_with fail
      go_ret
      exact ⟨retb HR.out.symm, HB.out⟩
end
end Go.Proofs.YtbjcbndmafddoaaGreatDoor
