/-
  Contract of the reference's Same.
-/
import Derived.Test.YthpioaboekpjoaaDoorWavI
namespace Go.Proofs.YthpioaboekpjoaaDoor
open Go.RowKit
set_option linter.unusedVariables false
set_option linter.unusedSimpArgs false

/-- The cells of the k-th row, in every later world. -/
theorem row_at {w : World} {A : Option Addr} {M c : Nat} {rs : List (List Int)} (h : Rs ilR w (.slice A M c) rs anyB) {k : Nat} (hk : k < rs.length) : ∃ (b o : Nat) (E : Option Addr) (e : Nat), A = some ⟨b, o, none⟩ ∧ (∀ W, Below w.heap.size w W → W.cell? ⟨b, o + k, none⟩ = some (.slice E (rs.getD k []).length e)) ∧
    (∀ W, Below w.heap.size w W → IL W (.slice E (rs.getD k []).length e) (rs.getD k [])) := by
  obtain ⟨A', c', e', -, hx⟩ := h.ils
  simp only [Value.slice.injEq] at e'
  obtain ⟨rfl, -, rfl⟩ := e'
  obtain ⟨b, o, u, rfl, hbl, q0, hu, -⟩ := hx k hk
  obtain ⟨E, e, rfl, -⟩ := id hu
  exact ⟨b, o, E, e, rfl, fun W hW => (hW.cell (p := ⟨b, o + k, none⟩) hbl).trans q0, fun W hW => hu.below hW⟩
theorem il_at {w : World} {E : Option Addr} {L e : Nat} {r : List Int} (h : ∀ W, Below w.heap.size w W → IL W (.slice E L e) r) {j : Nat} (hj : j < r.length) : ∃ a, E = some a ∧ ∀ W, Below w.heap.size w W → W.cell? (a.add j) = some (.int .i64 (r.getD j 0)) := by
  obtain ⟨E', e', ee, -, hc⟩ := h w (Below.refl _ _)
  simp only [Value.slice.injEq] at ee
  obtain ⟨rfl, -, -⟩ := ee
  obtain ⟨a, rfl, ha, hcell⟩ := hc (by omega)
  refine ⟨a, rfl, fun W hW => ?_⟩
  rw [hW.cell (by rw [block_of_add]; exact ha)]
  exact hcell j hj
theorem row_diff {rs ts : List (List Int)} {k : Nat} (h : rs.getD k [] ≠ ts.getD k []) : rs ≠ ts := fun e => h (by rw [e])
theorem int_diff {r t : List Int} {k : Nat} (h : r.getD k 0 ≠ t.getD k 0) : r ≠ t := fun e => h (by rw [e])

set_option maxRecDepth 100000 in
set_option maxHeartbeats 8000000 in
theorem refSameW (w : World) (v1 v2 v3 v4 : Value) (ns ms : List ByteArray) (rs ts : List (List Int)) (h1 : SL w v1 ns) (h2 : Rs ilR w v2 rs anyB) (h3 : SL w v3 ms) (h4 : Rs ilR w v4 ts anyB) (z1 : WZ ns rs) (z2 : WZ ms ts) :
    Calls Tryd.prog 14 #[.agg #[v1, v2], .agg #[v3, v4]] w fun e w' => e = .returned (.bool (decide (ns = ms ∧ rs = ts))) ∧ Below w.heap.size w w' := by
  have CT := Lib.hid (fun W (hW : Below w.heap.size w W) => refTexts W v1 v3 ns ms (h1.below hW) (h3.below hW) z1.1 z2.1)
  have HNo : Hid ((ns ≠ ms ∨ rs ≠ ts) → decide (ns = ms ∧ rs = ts) = false) := Lib.hid fun h => decide_eq_false fun ⟨a, b⟩ => h.elim (fun h => h a) (fun h => h b)
  have HYes : Hid (ns = ms → rs = ts → decide (ns = ms ∧ rs = ts) = true) := Lib.hid fun a b => decide_eq_true ⟨a, b⟩
  have Z1 : Hid (∀ k, k < rs.length → (rs.getD k []).length ≤ 9223372036854775807) := Lib.hid fun k hk => z1.2.2.2 _ (getD_mem [] hk)
  have Z2 : Hid (∀ k, k < ts.length → (ts.getD k []).length ≤ 9223372036854775807) := Lib.hid fun k hk => z2.2.2.2 _ (getD_mem [] hk)
  have HE := Lib.hid (fun a b => list_eq_of [] (l := rs) (m := ts) a b)
  obtain ⟨A2, c2, rfl, hc2⟩ := h2.slice
  obtain ⟨A4, c4, rfl, hc4⟩ := h4.slice
  have R2 := Lib.hid (fun k hk => row_at h2 (k := k) hk)
  have R4 := Lib.hid (fun k hk => row_at h4 (k := k) hk)
  obtain ⟨A1, c1, rfl, hc1, -⟩ := h1
  obtain ⟨A3, c3, rfl, hc3, -⟩ := h3
  have n2 := z1.2.1
  have n4 := z2.2.1
  generalize decide (ns = ms ∧ rs = ts) = r at *
  obtain ⟨N, hN⟩ : ∃ N, N = ns.length := ⟨_, rfl⟩
  obtain ⟨N3, hN3⟩ : ∃ N, N = ms.length := ⟨_, rfl⟩
  obtain ⟨M, hM⟩ : ∃ M, M = rs.length := ⟨_, rfl⟩
  obtain ⟨M4, hM4⟩ : ∃ M, M = ts.length := ⟨_, rfl⟩
  have HMM := Lib.hid hM
  have HMM4 := Lib.hid hM4
  rw [← hN] at CT ⊢
  rw [← hN3] at CT ⊢
  rw [← hM] at n2 ⊢
  rw [← hM4] at n4 ⊢
  clear h2 h4 z1 z2 hc1 hc2 hc3 hc4 hN hN3 hM hM4
  go_enter Tryd.func14, Tryd.ntmps14
  go_upto_region 1 with fail
  have XA := Lib.hid ((box_new (W := w) (g := w.heap.size) 26 #[.slice A1 N c1, .slice A2 M c2] (by simp)).below (below_alloc _ (.cells #[.slice A3 N3 c3, .slice A4 M4 c4] 26)))
  have XB := Lib.hid (box_new (W := (w.alloc (.cells #[.slice A1 N c1, .slice A2 M c2] 26))) (g := w.heap.size + 1) 26 #[.slice A3 N3 c3, .slice A4 M4 c4] (by simp))
  have HB := Lib.hid (below_step (below_alloc w (.cells #[.slice A1 N c1, .slice A2 M c2] 26)) (below_alloc (w.alloc (.cells #[.slice A1 N c1, .slice A2 M c2] 26)) (.cells #[.slice A3 N3 c3, .slice A4 M4 c4] 26)))
  generalize (w.alloc (.cells #[.slice A1 N c1, .slice A2 M c2] 26)).alloc (.cells #[.slice A3 N3 c3, .slice A4 M4 c4] 26) = w1 at *
  have XA_0 := XA.out.at_ 0 _ rfl
  have XA_1 := XA.out.at_ 1 _ rfl
  have XB_0 := XB.out.at_ 0 _ rfl
  have XB_1 := XB.out.at_ 1 _ rfl
  go_wp2_with fail
  refine (CT.out _ HB.out).mono ?_; rintro e w2 ⟨rfl, hb⟩
  clear XA_0 XA_1 XB_0 XB_1
  replace XA := Lib.hid (XA.out.below hb)
  replace XB := Lib.hid (XB.out.below hb)
  replace HB := Lib.hid (below_step HB.out hb)
  clear hb
  clear CT
  have XA_1 := XA.out.at_ 1 _ rfl
  have XB_1 := XB.out.at_ 1 _ rfl
  by_cases hns : ns = ms
  case neg =>
    have HR : Hid (false = r) := Lib.hid (HNo.out (.inl hns)).symm
    rw [decide_eq_false hns]
    clear hns HNo HYes
    go_wp2_with fail
    go_ret
    exact ⟨retb HR.out, HB.out⟩
  case pos =>
    rw [decide_eq_true hns]
    have HY2 := Lib.hid (HYes.out hns)
    have HN2 : Hid (rs ≠ ts → false = r) := Lib.hid fun h => (HNo.out (.inr h)).symm
    clear hns HNo HYes
    by_cases hl : M = M4
    case neg =>
      have f1 : ((M : Int) != (M4 : Int)) = true := by
        have : ¬ (M : Int) = M4 := by omega
        simpa using this
      have f2 : (M != M4) = true := by simpa using hl
      have HR := Lib.hid (HN2.out fun e => hl (by rw [HMM.out, HMM4.out, e]))
      clear hl
      go_wp2_with fail
      go_ret
      exact ⟨retb HR.out, HB.out⟩
    case pos =>
      subst hl
      have f1 : ((M : Int) != (M : Int)) = false := by simp
      have f2 : (M != M) = false := by simp
      go_wp2_with fail
      clear f1 f2
      clear XA_1 XB_1
      go_loopw [5] (fun i wr => ∃ k : Nat, k ≤ M ∧ i = .int .i64 k ∧ Hid (∀ j, j < k → rs.getD j [] = ts.getD j []) ∧ Box wr w.heap.size #[.slice A1 N c1, .slice A2 M c2] 26 ∧ Box wr (w.heap.size + 1) #[.slice A3 N3 c3, .slice A4 M c4] 26 ∧ Below w.heap.size w wr) (fun i _ => M - (intOf i).toNat)
      case atStart => exact ⟨0, Nat.zero_le _, rfl, Lib.hid (fun j h => by omega), XA.out, XB.out, HB.out⟩
      case round =>
        clear HB XA XB
        obtain ⟨k, hk, rfl, HD, hxa, hxb, hb⟩ := hrel
        have XA := Lib.hid hxa
        have XB := Lib.hid hxb
        have HB := Lib.hid hb
        clear hb hxa hxb
        by_cases hlt : k < M
        · have hlt2 : (k : Int) < M := by omega
          have hk0 : (0 : Int) ≤ (k : Int) := by omega
          have hkn : k < rs.length := by rw [← HMM.out]; exact hlt
          have hkm : k < ts.length := by rw [← HMM4.out]; exact hlt
          obtain ⟨b, o, E, e1, rfl, QA, IA⟩ := R2.out k hkn
          obtain ⟨b', o', E', e1', rfl, QB, IB⟩ := R4.out k hkm
          have hz1 := Z1.out k hkn
          have hz2 := Z2.out k hkm
          have HDK : Hid (rs.getD k [] = ts.getD k [] → ∀ j, j < k + 1 → rs.getD j [] = ts.getD j []) := Lib.hid fun h j hj => by
            by_cases e : j = k
            · rw [e]; exact h
            · exact HD.out j (by omega)
          have HNK : Hid (rs.getD k [] ≠ ts.getD k [] → false = r) := Lib.hid fun h => HN2.out (row_diff h)
          have HIA := Lib.hid IA
          have HIB := Lib.hid IB
          have HQA := Lib.hid QA
          have HQB := Lib.hid QB
          generalize rs.getD k [] = row at *
          generalize ts.getD k [] = tow at *
          obtain ⟨L, hL⟩ : ∃ L, L = row.length := ⟨_, rfl⟩
          obtain ⟨L', hL'⟩ : ∃ L, L = tow.length := ⟨_, rfl⟩
          have HL := Lib.hid hL
          have HL' := Lib.hid hL'
          rw [← hL] at HQA HIA hz1
          rw [← hL'] at HQB HIB hz2
          clear QA QB IA IB hkn hkm hL hL' HD
          have y1 : ∀ x : Lat wr, x.w.cell? ⟨b, o + k, none⟩ = some (.slice E L e1) := fun x => HQA.out x.w (below_step HB.out x.h)
          have y2 : ∀ x : Lat wr, x.w.cell? ⟨b', o' + k, none⟩ = some (.slice E' L' e1') := fun x => HQB.out x.w (below_step HB.out x.h)
          have XA_1 := XA.out.at_ 1 _ rfl
          go_upto_region 6 with fail
          clear XA_1
          have a1 := XA.out.lat 1 _ rfl
          have a2 := XB.out.lat 1 _ rfl
          by_cases hll : L = L'
          · subst hll
            have f1 : ((L : Int) != (L : Int)) = false := by simp
            have f2 : (L != L) = false := by simp
            refine wp_region_lat (by kernel_rfl) (by kernel_rfl) ?_
            repeat (go_big_quiet_step (fail))
            refine wpQuiet_nil ?_; intro w3 hb
            clear a1 a2 y1 y2
            replace XA := Lib.hid (XA.out.below hb)
            replace XB := Lib.hid (XB.out.below hb)
            replace HB := Lib.hid (below_step HB.out hb)
            clear hb
            go_wp2_with fail
            clear f1 f2
            go_loopw [6] (fun i wr => ∃ q : Nat, q ≤ L ∧ i = .int .i64 q ∧ Hid (∀ j, j < q → row.getD j 0 = tow.getD j 0) ∧ Box wr w.heap.size #[.slice A1 N c1, .slice (some ⟨b, o, none⟩) M c2] 26 ∧ Box wr (w.heap.size + 1) #[.slice A3 N3 c3, .slice (some ⟨b', o', none⟩) M c4] 26 ∧ Below w.heap.size w wr) (fun i _ => L - (intOf i).toNat)
            case atStart => exact ⟨0, Nat.zero_le _, rfl, Lib.hid (fun j h => by omega), XA.out, XB.out, HB.out⟩
            case round =>
              clear HB XA XB
              obtain ⟨q, hq, rfl, HG, hxa, hxb, hb⟩ := hrel
              have XA := Lib.hid hxa
              have XB := Lib.hid hxb
              have HB := Lib.hid hb
              clear hb hxa hxb
              have q1 := HQA.out _ HB.out
              by_cases hql : q < L
              · have hql2 : (q : Int) < L := by omega
                have hq0 : (0 : Int) ≤ (q : Int) := by omega
                obtain ⟨ea, rfl, EA⟩ := il_at HIA.out (j := q) (by rw [← HL.out]; exact hql)
                obtain ⟨eb, rfl, EB⟩ := il_at HIB.out (j := q) (by rw [← HL'.out]; exact hql)
                have y1 : ∀ x : Lat wr, x.w.cell? ⟨b, o + k, none⟩ = some (.slice (some ea) L e1) := fun x => HQA.out x.w (below_step HB.out x.h)
                have y2 : ∀ x : Lat wr, x.w.cell? ⟨b', o' + k, none⟩ = some (.slice (some eb) L e1') := fun x => HQB.out x.w (below_step HB.out x.h)
                have y3 : ∀ x : Lat wr, x.w.cell? (ea.add q) = some (.int .i64 (row.getD q 0)) := fun x => EA x.w (below_step HB.out x.h)
                have y4 : ∀ x : Lat wr, x.w.cell? (eb.add q) = some (.int .i64 (tow.getD q 0)) := fun x => EB x.w (below_step HB.out x.h)
                have HGK : Hid (row.getD q 0 = tow.getD q 0 → ∀ j, j < q + 1 → row.getD j 0 = tow.getD j 0) := Lib.hid fun h j hj => by
                  by_cases e : j = q
                  · rw [e]; exact h
                  · exact HG.out j (by omega)
                have HNQ : Hid (row.getD q 0 ≠ tow.getD q 0 → false = r) := Lib.hid fun h => HNK.out (int_diff h)
                generalize row.getD q 0 = x1 at *
                generalize tow.getD q 0 = x2 at *
                clear EA EB HG
                have XA_1 := XA.out.at_ 1 _ rfl
                go_upto_region 11 with fail
                clear XA_1
                clear q1
                have a1 := XA.out.lat 1 _ rfl
                have a2 := XB.out.lat 1 _ rfl
                by_cases hx : x1 = x2
                · have HG2 := Lib.hid (HGK.out hx)
                  have f1 : (x1 != x2) = false := by rw [hx]; simp
                  clear hx HGK HNQ
                  refine wp_region_lat (by kernel_rfl) (by kernel_rfl) ?_
                  repeat (go_big_quiet_step (fail))
                  refine wpQuiet_nil ?_; intro w4 hb
                  clear a1 a2 y1 y2 y3 y4
                  replace XA := Lib.hid (XA.out.below hb)
                  replace XB := Lib.hid (XB.out.below hb)
                  replace HB := Lib.hid (below_step HB.out hb)
                  clear hb
                  go_wp2_with fail
                  go_roundw
                  case rel => exact ⟨q + 1, by omega, by go_num, HG2, XA.out, XB.out, HB.out⟩
                  case measure => simp [intOf]; omega
                · have HR := Lib.hid (HNQ.out hx)
                  have f1 : (x1 != x2) = true := by simpa using hx
                  clear hx HGK HNQ
                  refine wp_region_lat (by kernel_rfl) (by kernel_rfl) ?_
                  repeat (go_big_quiet_step (fail))
                  refine wpQuiet_nil ?_; intro w4 hb
                  clear a1 a2 y1 y2 y3 y4
                  replace XA := Lib.hid (XA.out.below hb)
                  replace XB := Lib.hid (XB.out.below hb)
                  replace HB := Lib.hid (below_step HB.out hb)
                  clear hb
                  go_wp2_with fail
                  go_ret
                  exact ⟨retb HR.out, HB.out⟩
              · have hql2 : ¬ (q : Int) < L := by omega
                have hqL : q = L := by omega
                have HD2 := Lib.hid (HDK.out (list_eq_of 0 (by rw [← HL.out, ← HL'.out]) fun j hj => HG.out j (by rw [hqL, HL.out]; exact hj)))
                clear HG hqL
                have XA_1 := XA.out.at_ 1 _ rfl
                go_wp2_with fail
                go_roundw
                case rel => exact ⟨k + 1, by omega, by go_num, HD2, XA.out, XB.out, HB.out⟩
                case measure => simp [intOf]; omega
          · have f1 : ((L : Int) != (L' : Int)) = true := by
              have : ¬ (L : Int) = L' := by omega
              simpa using this
            have f2 : (L != L') = true := by simpa using hll
            have HR := Lib.hid (HNK.out fun e => hll (by rw [HL.out, HL'.out, e]))
            clear hll
            refine wp_region_lat (by kernel_rfl) (by kernel_rfl) ?_
            repeat (go_big_quiet_step (fail))
            refine wpQuiet_nil ?_; intro w3 hb
            clear a1 a2 y1 y2
            replace XA := Lib.hid (XA.out.below hb)
            replace XB := Lib.hid (XB.out.below hb)
            replace HB := Lib.hid (below_step HB.out hb)
            clear hb
            go_wp2_with fail
            go_ret
            exact ⟨retb HR.out, HB.out⟩
        · have hlt2 : ¬ (k : Int) < M := by omega
          have hkM : k = M := by omega
          have HR : Hid (true = r) := Lib.hid (HY2.out (HE.out (by rw [← HMM.out, ← HMM4.out]) fun j hj => HD.out j (by rw [hkM, HMM.out]; exact hj))).symm
          clear HD hkM
          have XA_1 := XA.out.at_ 1 _ rfl
          go_wp2_with fail
          go_ret
          exact ⟨retb HR.out, HB.out⟩

end Go.Proofs.YthpioaboekpjoaaDoor
