/-
  Contracts of Cut: the reference's.
-/
import Derived.Test.YthpioaboekpjoaaDoorWavN
namespace Go.Proofs.YthpioaboekpjoaaDoor
open Go.RowKit
set_option linter.unusedVariables false
set_option linter.unusedSimpArgs false

/-- A part of a slice. -/
theorem Rs.part {w : World} {b o M c : Nat} {rs : List (List Int)} {F : Nat → Prop} (h : Rs ilR w (.slice (some ⟨b, o, none⟩) M c) rs F) (f n m : Nat) (hM : f + n ≤ M) (hc : n ≤ m) : Rs ilR w (.slice (some ⟨b, o + f, none⟩) n m) ((rs.take (f + n)).drop f) F := by
  obtain ⟨A', c', e, _, hx⟩ := h
  simp only [Value.slice.injEq] at e
  obtain ⟨rfl, rfl, rfl⟩ := e
  have hl : ((rs.take (f + n)).drop f).length = n := by rw [List.length_drop, List.length_take]; omega
  refine ⟨_, m, by rw [hl], by omega, fun hp => ?_⟩
  rw [hl] at hp
  obtain ⟨b', o', e, hb, hx⟩ := hx (by omega)
  simp only [Option.some.injEq, Addr.mk.injEq, and_true] at e
  obtain ⟨rfl, rfl⟩ := e
  refine ⟨b, o + f, rfl, hb, fun j x hj => ?_⟩
  have hjl := (List.getElem?_eq_some_iff.1 hj).1
  rw [hl] at hjl
  rw [List.getElem?_drop, List.getElem?_take_of_lt (by omega)] at hj
  obtain ⟨us, h1, h2⟩ := hx _ x hj
  refine ⟨us, fun i hi => ?_, h2⟩
  have := h1 i hi
  have e : ilR.k = 1 := rfl
  rw [e] at this ⊢
  rw [← this]
  congr 2
  omega
theorem part_nil {rs : List (List Int)} (f : Nat) : (rs.take (f + 0)).drop f = [] := by
  rw [List.drop_eq_nil_iff, List.length_take]; omega
theorem rs_empty {w : World} {A : Option Addr} {c : Nat} {F : Nat → Prop} : Rs ilR w (.slice A 0 c) [] F := ⟨A, c, rfl, Nat.zero_le _, fun h => absurd h (by simp)⟩

theorem rs_setHi {w0 w : World} {v : Value} {rs : List (List Int)} (h : Rs ilR w v rs (fun b => b < w0.heap.size)) (hv : ∀ b, v.ownBlock = some b → b < w0.heap.size) {g : Nat} (hg : w0.heap.size ≤ g) (i : Nat) (u : Value) : Rs ilR (w.setCell ⟨g, i, none⟩ u) v rs (fun b => b < w0.heap.size) :=
  h.same (by simp [World.setCell]) (fun b hb => Below.heap_setCell w ⟨g, i, none⟩ u b (by have := hv b hb; show b ≠ g; omega)) (fun b _ hB => Below.heap_setCell w ⟨g, i, none⟩ u b (by show b ≠ g; omega))

set_option maxRecDepth 100000 in
set_option maxHeartbeats 8000000 in
theorem refCutW (w : World) (v1 v2 : Value) (ns : List ByteArray) (rs : List (List Int)) (f t : Int) (h1 : SL w v1 ns) (h2 : Rs ilR w v2 rs anyB) (hz : WZ ns rs) (wf : I64 f) (wt : I64 t) :
    Calls Tryd.prog 28 #[.agg #[v1, v2], .int .i64 f, .int .i64 t] w (PARW w (wcT ns rs f t)) := by
  have CV := Lib.hid (fun W (hW : Below w.heap.size w W) => refValidW W v1 v2 ns rs (h1.below hW) (h2.below hW) hz)
  have HG : Hid (wcT ns rs f t = if wvV ns rs = false ∨ f < 0 ∨ t < f ∨ (rs.length : Int) < t then ([], [], 1) else (ns, (rs.take t.toNat).drop f.toNat, 0)) := Lib.hid rfl
  have S1 := Lib.hid h1
  have S2 := Lib.hid h2
  obtain ⟨A2, c2, rfl, hc2⟩ := h2.slice
  obtain ⟨A1, c1, rfl, hc1, -⟩ := h1
  have n2 := hz.2.1
  obtain ⟨N, hN⟩ : ∃ N, N = ns.length := ⟨_, rfl⟩
  obtain ⟨M, hM⟩ : ∃ M, M = rs.length := ⟨_, rfl⟩
  have HMM := Lib.hid hM
  rw [← hN] at CV S1 ⊢
  rw [← hM] at HG CV S2 hc2 n2 ⊢
  generalize wcT ns rs f t = r at *
  generalize wvV ns rs = vb at *
  obtain ⟨f0, f1⟩ := wf
  obtain ⟨t0, t1⟩ := wt
  clear hz hc1 hN hM h2
  have hway : (vb = false) ∨ (vb = true ∧ f < 0) ∨ (vb = true ∧ ¬ f < 0 ∧ t < f) ∨ (vb = true ∧ ¬ f < 0 ∧ ¬ t < f ∧ (M : Int) < t) ∨ (vb = true ∧ ¬ f < 0 ∧ ¬ t < f ∧ ¬ (M : Int) < t) := by
    cases vb
    · exact .inl rfl
    · right
      by_cases a : f < 0
      · exact .inl ⟨rfl, a⟩
      · right
        by_cases b : t < f
        · exact .inl ⟨rfl, a, b⟩
        · right
          by_cases c : (M : Int) < t
          · exact .inl ⟨rfl, a, b, c⟩
          · exact .inr ⟨rfl, a, b, c⟩
  go_enter Tryd.func28, Tryd.ntmps28
  go_upto_region 1 with fail
  have XA := Lib.hid ((box_new (W := w) (g := w.heap.size) 26 #[.slice A1 N c1, .slice A2 M c2] (by simp)).below (below_alloc _ (.cells #[.slice none 0 0, .slice none 0 0] 26)))
  have XR := Lib.hid (box_new (W := (w.alloc (.cells #[.slice A1 N c1, .slice A2 M c2] 26))) (g := w.heap.size + 1) 26 #[.slice none 0 0, .slice none 0 0] (by simp))
  have HB := Lib.hid (below_step (below_alloc w (.cells #[.slice A1 N c1, .slice A2 M c2] 26)) (below_alloc (w.alloc (.cells #[.slice A1 N c1, .slice A2 M c2] 26)) (.cells #[.slice none 0 0, .slice none 0 0] 26)))
  generalize (w.alloc (.cells #[.slice A1 N c1, .slice A2 M c2] 26)).alloc (.cells #[.slice none 0 0, .slice none 0 0] 26) = w1 at *
  have XA_0 := XA.out.at_ 0 _ rfl
  have XA_1 := XA.out.at_ 1 _ rfl
  go_wp2_with fail
  refine (CV.out _ HB.out).mono ?_; rintro e w3 ⟨rfl, hb⟩
  clear XA_0 XA_1
  replace XA := Lib.hid (XA.out.below hb)
  replace XR := Lib.hid (XR.out.below hb)
  replace HB := Lib.hid (below_step HB.out hb)
  clear hb
  clear CV
  have hno : (vb = false ∨ f < 0 ∨ t < f ∨ (M : Int) < t) → Hid (r = ([], [], 1)) := fun h => Lib.hid (by rw [HG.out, if_pos h])
  have HNO := Lib.hid hno
  clear hno
  have XA_1 := XA.out.at_ 1 _ rfl
  have XR_0 := XR.out.at_ 0 _ rfl
  have XR_1 := XR.out.at_ 1 _ rfl
  have XR_l := XR.out.lt
  have XR_z0 := XR.out.frozen 0
  have XR_z1 := XR.out.frozen 1
  rcases hway with rfl | ⟨rfl, a⟩ | ⟨rfl, a, b⟩ | ⟨rfl, a, b, c⟩ | ⟨rfl, a, b, c⟩
  · have HR := HNO.out (.inl rfl)
    clear HG HNO S1 S2
    go_wp2_with fail
    refine bodyPost_ret (v := .tuple #[.agg #[.slice none 0 0, .slice none 0 0], .int .i64 1]) (by simp [results, Tryd.results28, go_sem, XR_0, XR_1, XR_l]) rfl ?_
    exact parw_no HR.out (below_zrs (g := w.heap.size + 1) HB.out (Nat.le_succ _))
  · have HR := HNO.out (.inr (.inl a))
    clear HG HNO S1 S2
    go_wp2_with fail
    refine bodyPost_ret (v := .tuple #[.agg #[.slice none 0 0, .slice none 0 0], .int .i64 1]) (by simp [results, Tryd.results28, go_sem, XR_0, XR_1, XR_l]) rfl ?_
    exact parw_no HR.out (below_zrs (g := w.heap.size + 1) HB.out (Nat.le_succ _))
  · have HR := HNO.out (.inr (.inr (.inl b)))
    clear HG HNO S1 S2
    go_wp2_with fail
    refine bodyPost_ret (v := .tuple #[.agg #[.slice none 0 0, .slice none 0 0], .int .i64 1]) (by simp [results, Tryd.results28, go_sem, XR_0, XR_1, XR_l]) rfl ?_
    exact parw_no HR.out (below_zrs (g := w.heap.size + 1) HB.out (Nat.le_succ _))
  · have HR := HNO.out (.inr (.inr (.inr c)))
    clear HG HNO S1 S2
    go_wp2_with fail
    refine bodyPost_ret (v := .tuple #[.agg #[.slice none 0 0, .slice none 0 0], .int .i64 1]) (by simp [results, Tryd.results28, go_sem, XR_0, XR_1, XR_l]) rfl ?_
    exact parw_no HR.out (below_zrs (g := w.heap.size + 1) HB.out (Nat.le_succ _))
  · obtain ⟨fk, rfl⟩ : ∃ k : Nat, f = k := ⟨f.toNat, by omega⟩
    obtain ⟨n, rfl⟩ : ∃ n : Nat, t = (fk : Int) + n := ⟨(t - fk).toNat, by omega⟩
    have HR : Hid (r = (ns, (rs.take (fk + n)).drop fk, 0)) := Lib.hid (by
      rw [HG.out, if_neg (by simp only [not_or]; exact ⟨by decide, by omega, by omega, by omega⟩)]
      rw [Int.toNat_natCast, show ((fk : Int) + n).toNat = fk + n by omega])
    clear HG HNO
    have hA : M = 0 ∨ (0 < M ∧ ∃ b o, A2 = some ⟨b, o, none⟩ ∧ b < w.heap.size) := by
      by_cases h0 : 0 < M
      · right
        obtain ⟨A', c', e, _, h⟩ := S2.out
        simp only [Value.slice.injEq] at e
        obtain ⟨rfl, h1, rfl⟩ := e
        obtain ⟨b, o, e, hb, _⟩ := h (by omega)
        exact ⟨h0, b, o, e, hb⟩
      · exact .inl (by omega)
    have hnM : fk + n ≤ M := by omega
    go_upto_region 3 with fail
    clear XA_1 XR_0 XR_1 XR_l XR_z0 XR_z1
    rcases hA with hM0 | ⟨hM0, bq, o, rfl, hbl⟩
    · obtain rfl : fk = 0 := by omega
      obtain rfl : n = 0 := by omega
      have e0 : ((((0 : Nat) : Int)) + (((0 : Nat) : Int))).toNat = 0 := rfl
      cases A2 with
      | none =>
        refine wp_region_tail 8 (by kernel_rfl) (by kernel_rfl) ?_
        have l0 := XA.out.lat 0 _ rfl
        have l1 := XA.out.lat 1 _ rfl
        simp only [List.take_succ_cons, List.take_zero, List.drop_succ_cons, List.drop_zero]
        repeat (go_big_quiet_step (fail))
        refine wpQuiet_nil ?_; intro w4 hb
        clear l0 l1
        replace XA := Lib.hid (XA.out.below hb)
        replace XR := Lib.hid (XR.out.below hb)
        replace HB := Lib.hid (below_step HB.out hb)
        clear hb
        have XR_0 := XR.out.at_ 0 _ rfl
        have XR_1 := XR.out.at_ 1 _ rfl
        have XR_l := XR.out.lt
        have XR_z0 := XR.out.frozen 0
        have XR_z1 := XR.out.frozen 1
        go_wp2_with fail
        refine bodyPost_ret (v := .tuple #[.agg #[.slice A1 N c1, (.slice none 0 c2)], .int .i64 0]) (by simp [results, Tryd.results28, go_sem, XR_0, XR_1, XR_l]) rfl ?_
        rw [HR.out]
        exact ⟨_, _, rfl, ((S1.out.below HB.out).setBoxW XR.out (by simp)).setBoxW (XR.out.set_ 0 (.slice A1 N c1)) (by simp), (by first | (rw [part_nil]; exact rs_empty) | exact rs_empty | (simp; exact rs_empty)), (HB.out.setCell (p := ⟨w.heap.size + 1, 0, none⟩) (Nat.le_succ _) _).setCell (p := ⟨w.heap.size + 1, 1, none⟩) (Nat.le_succ _) _⟩
      | some a =>
        refine wp_region_tail 8 (by kernel_rfl) (by kernel_rfl) ?_
        have l0 := XA.out.lat 0 _ rfl
        have l1 := XA.out.lat 1 _ rfl
        simp only [List.take_succ_cons, List.take_zero, List.drop_succ_cons, List.drop_zero]
        repeat (go_big_quiet_step (fail))
        refine wpQuiet_nil ?_; intro w4 hb
        clear l0 l1
        replace XA := Lib.hid (XA.out.below hb)
        replace XR := Lib.hid (XR.out.below hb)
        replace HB := Lib.hid (below_step HB.out hb)
        clear hb
        have XR_0 := XR.out.at_ 0 _ rfl
        have XR_1 := XR.out.at_ 1 _ rfl
        have XR_l := XR.out.lt
        have XR_z0 := XR.out.frozen 0
        have XR_z1 := XR.out.frozen 1
        go_wp2_with fail
        refine bodyPost_ret (v := .tuple #[.agg #[.slice A1 N c1, (.slice (some a) 0 c2)], .int .i64 0]) (by simp [results, Tryd.results28, go_sem, XR_0, XR_1, XR_l]) rfl ?_
        rw [HR.out]
        exact ⟨_, _, rfl, ((S1.out.below HB.out).setBoxW XR.out (by simp)).setBoxW (XR.out.set_ 0 (.slice A1 N c1)) (by simp), (by first | (rw [part_nil]; exact rs_empty) | exact rs_empty | (simp; exact rs_empty)), (HB.out.setCell (p := ⟨w.heap.size + 1, 0, none⟩) (Nat.le_succ _) _).setCell (p := ⟨w.heap.size + 1, 1, none⟩) (Nat.le_succ _) _⟩
    · by_cases hcf : c2 = fk
      · obtain rfl : n = 0 := by omega
        subst hcf
        have e0 : ((c2 : Int) + (((0 : Nat) : Int))).toNat = c2 := by omega
        have g1 : (0 : Int) ≤ (c2 : Int) := by omega
        refine wp_region_tail 8 (by kernel_rfl) (by kernel_rfl) ?_
        have l0 := XA.out.lat 0 _ rfl
        have l1 := XA.out.lat 1 _ rfl
        simp only [List.take_succ_cons, List.take_zero, List.drop_succ_cons, List.drop_zero]
        repeat (go_big_quiet_step (fail))
        refine wpQuiet_nil ?_; intro w4 hb
        clear l0 l1
        replace XA := Lib.hid (XA.out.below hb)
        replace XR := Lib.hid (XR.out.below hb)
        replace HB := Lib.hid (below_step HB.out hb)
        clear hb
        have XR_0 := XR.out.at_ 0 _ rfl
        have XR_1 := XR.out.at_ 1 _ rfl
        have XR_l := XR.out.lt
        have XR_z0 := XR.out.frozen 0
        have XR_z1 := XR.out.frozen 1
        go_wp2_with fail
        refine bodyPost_ret (v := .tuple #[.agg #[.slice A1 N c1, (.slice (some ⟨bq, o, none⟩) 0 0)], .int .i64 0]) (by simp [results, Tryd.results28, go_sem, XR_0, XR_1, XR_l]) rfl ?_
        rw [HR.out]
        exact ⟨_, _, rfl, ((S1.out.below HB.out).setBoxW XR.out (by simp)).setBoxW (XR.out.set_ 0 (.slice A1 N c1)) (by simp), (by first | (rw [part_nil]; exact rs_empty) | exact rs_empty | (simp; exact rs_empty)), (HB.out.setCell (p := ⟨w.heap.size + 1, 0, none⟩) (Nat.le_succ _) _).setCell (p := ⟨w.heap.size + 1, 1, none⟩) (Nat.le_succ _) _⟩
      · obtain ⟨m, rfl⟩ : ∃ m, c2 = fk + m := ⟨c2 - fk, by omega⟩
        have hnm : n ≤ m := by omega
        have hm0 : ¬ m = 0 := by omega
        have e0 : ((fk : Int) + (n : Int)).toNat = fk + n := by omega
        have g0 : (0 : Int) ≤ (fk : Int) := by omega
        have g1 : (0 : Int) ≤ (fk : Int) + (n : Int) := by omega
        have g2 : (fk : Int) + (n : Int) ≤ (fk : Int) + (m : Int) := by omega
        have g3 : (fk : Int) ≤ (fk : Int) + (n : Int) := by omega
        refine wp_region_tail 8 (by kernel_rfl) (by kernel_rfl) ?_
        have l0 := XA.out.lat 0 _ rfl
        have l1 := XA.out.lat 1 _ rfl
        simp only [List.take_succ_cons, List.take_zero, List.drop_succ_cons, List.drop_zero]
        repeat (go_big_quiet_step (fail))
        refine wpQuiet_nil ?_; intro w4 hb
        clear l0 l1
        replace XA := Lib.hid (XA.out.below hb)
        replace XR := Lib.hid (XR.out.below hb)
        replace HB := Lib.hid (below_step HB.out hb)
        clear hb
        have XR_0 := XR.out.at_ 0 _ rfl
        have XR_1 := XR.out.at_ 1 _ rfl
        have XR_l := XR.out.lt
        have XR_z0 := XR.out.frozen 0
        have XR_z1 := XR.out.frozen 1
        go_wp2_with fail
        refine bodyPost_ret (v := .tuple #[.agg #[.slice A1 N c1, (.slice (some ⟨bq, o + fk, none⟩) n m)], .int .i64 0]) (by simp [results, Tryd.results28, go_sem, XR_0, XR_1, XR_l]) rfl ?_
        rw [HR.out]
        exact ⟨_, _, rfl, ((S1.out.below HB.out).setBoxW XR.out (by simp)).setBoxW (XR.out.set_ 0 (.slice A1 N c1)) (by simp), ((rs_setHi (rs_setHi (((rs_lowI S2.out).below HB.out).part fk n m hnM hnm) (fun q hq => by simp only [Value.ownBlock, Option.some.injEq] at hq; omega) (Nat.le_succ _) 0 _) (fun q hq => by simp only [Value.ownBlock, Option.some.injEq] at hq; omega) (Nat.le_succ _) 1 _).mono fun _ _ => trivial), (HB.out.setCell (p := ⟨w.heap.size + 1, 0, none⟩) (Nat.le_succ _) _).setCell (p := ⟨w.heap.size + 1, 1, none⟩) (Nat.le_succ _) _⟩

theorem ns_own {w w1 : World} {B n : Nat} {v : Value} {ns : List ByteArray} (h : w.ownsRow w1.heap.size 9 1 v n (scells ns)) (hn : n = n) (hB : B ≤ w1.heap.size) : SL w v ns ∧ ∀ b, v.ownBlock = some b → B ≤ b :=
  ⟨SL.of_own h, fun b hb => Nat.le_trans hB (own_block h b hb)⟩
theorem sl_form {w : World} {v : Value} {ns : List ByteArray} {N : Nat} (h : SL w v ns) (hN : N = ns.length) : ∃ A c, v = .slice A N c := by
  obtain ⟨A, c, rfl, _⟩ := h
  exact ⟨A, c, by rw [hN]⟩
/-- A fresh slice of names. -/
def gNS (j : Nat) (D : List Nat) (B : Nat) (ns : List ByteArray) (N : Nat) : FOp := ⟨j, D, fun v => ∃ A c, v = .slice A N c, fun v w => (∃ A c, v = .slice A N c) ∧ SL w v ns ∧ ∀ b, v.ownBlock = some b → B ≤ b⟩
theorem gNS_st (j : Nat) (D : List Nat) (B : Nat) (ns : List ByteArray) (N : Nat) : ∀ u w w', (gNS j D B ns N).Φ u w → Below w.heap.size w w' → (gNS j D B ns N).Φ u w' := fun u w w' ⟨e, h, h2⟩ hb => ⟨e, h.below hb, h2⟩
theorem gNS_kn (j : Nat) (D : List Nat) (B : Nat) (ns : List ByteArray) (N : Nat) : (∀ u w, (gNS j D B ns N).Φ u w → (gNS j D B ns N).S u) ∧ ∃ u, (gNS j D B ns N).S u := ⟨fun u w ⟨e, _⟩ => e, .slice none _ 0, none, 0, rfl⟩
/-- Fresh rows. -/
def gNR (j : Nat) (D : List Nat) (B : Nat) (rs : List (List Int)) (M : Nat) : FOp := ⟨j, D, fun v => ∃ g, v = .slice (some ⟨g, 0, none⟩) M M, fun v w => (∃ g, v = .slice (some ⟨g, 0, none⟩) M M) ∧ NR B w v rs⟩
theorem gNR_st (j : Nat) (D : List Nat) (B : Nat) (rs : List (List Int)) (M : Nat) : ∀ u w w', (gNR j D B rs M).Φ u w → Below w.heap.size w w' → (gNR j D B rs M).Φ u w' := fun u w w' ⟨e, h⟩ hb => ⟨e, h.below hb⟩
theorem gNR_kn (j : Nat) (D : List Nat) (B : Nat) (rs : List (List Int)) (M : Nat) : (∀ u w, (gNR j D B rs M).Φ u w → (gNR j D B rs M).S u) ∧ ∃ u, (gNR j D B rs M).S u := ⟨fun u w ⟨e, _⟩ => e, _, 0, rfl⟩
theorem NR.low {B B' : Nat} {w : World} {v : Value} {rs : List (List Int)} (h : NR B' w v rs) (hB : B ≤ B') : NR B w v rs := ⟨h.1.mono fun _ hb => Nat.le_trans hB hb, fun b hb => Nat.le_trans hB (h.2 b hb)⟩

set_option maxRecDepth 100000 in
set_option maxHeartbeats 8000000 in
theorem wavCut (w : World) (v1 v2 : Value) (ns : List ByteArray) (rs : List (List Int)) (f t : Int) (h1 : SL w v1 ns) (h2 : Rs ilR w v2 rs anyB) (hz : WZ ns rs) (wf : I64 f) (wt : I64 t) (hk : KW w) (hm : MLen w) :
    Calls Tryd.prog 27 #[.agg #[v1, v2], .int .i64 f, .int .i64 t] w (PARW w (wcT ns rs f t)) := by
  have CV := Lib.hid (fun W (hW : Below w.heap.size w W) => wavValid W v1 v2 ns rs (h1.below hW) (h2.below hW) hz (hk.below hW) (hm.below hW))
  have HG : Hid (wcT ns rs f t = if wvV ns rs = false ∨ f < 0 ∨ t < f ∨ (rs.length : Int) < t then ([], [], 1) else (ns, (rs.take t.toNat).drop f.toNat, 0)) := Lib.hid rfl
  have HVS : Hid (wvV ns rs = true → ns.length ≤ 48 ∧ rs.length ≤ 4096 ∧ ∀ r ∈ rs, r.length ≤ 48) := Lib.hid fun h => by
    have hv : WvV ns rs := of_decide_eq_true h
    exact ⟨hv.1, hv.2.1, fun r hr => by have := (hv.2.2.2 r hr).1; have := hv.1; omega⟩
  have S1 := Lib.hid h1
  have S2 := Lib.hid h2
  obtain ⟨A2, c2, rfl, hc2⟩ := h2.slice
  obtain ⟨A1, c1, rfl, hc1, -⟩ := h1
  have n2 := hz.2.1
  obtain ⟨N, hN⟩ : ∃ N, N = ns.length := ⟨_, rfl⟩
  obtain ⟨M, hM⟩ : ∃ M, M = rs.length := ⟨_, rfl⟩
  have HMM := Lib.hid hM
  have HNq := Lib.hid hN
  rw [← hN] at CV S1 HVS ⊢
  rw [← hM] at HG CV S2 hc2 n2 HVS ⊢
  generalize wcT ns rs f t = r at *
  generalize wvV ns rs = vb at *
  obtain ⟨f0, f1⟩ := wf
  obtain ⟨t0, t1⟩ := wt
  clear hz hc1 hN hM h2 hk hm
  have hway : (vb = false) ∨ (vb = true ∧ f < 0) ∨ (vb = true ∧ ¬ f < 0 ∧ t < f) ∨ (vb = true ∧ ¬ f < 0 ∧ ¬ t < f ∧ (M : Int) < t) ∨ (vb = true ∧ ¬ f < 0 ∧ ¬ t < f ∧ ¬ (M : Int) < t) := by
    cases vb
    · exact .inl rfl
    · right
      by_cases a : f < 0
      · exact .inl ⟨rfl, a⟩
      · right
        by_cases b : t < f
        · exact .inl ⟨rfl, a, b⟩
        · right
          by_cases c : (M : Int) < t
          · exact .inl ⟨rfl, a, b, c⟩
          · exact .inr ⟨rfl, a, b, c⟩
  go_enter Tryd.func27, Tryd.ntmps27
  go_upto_region 1 with fail
  have XA := Lib.hid ((box_new (W := w) (g := w.heap.size) 26 #[.slice A1 N c1, .slice A2 M c2] (by simp)).below (below_alloc _ (.cells #[.slice none 0 0, .slice none 0 0] 26)))
  have XR := Lib.hid (box_new (W := (w.alloc (.cells #[.slice A1 N c1, .slice A2 M c2] 26))) (g := w.heap.size + 1) 26 #[.slice none 0 0, .slice none 0 0] (by simp))
  have HB := Lib.hid (below_step (below_alloc w (.cells #[.slice A1 N c1, .slice A2 M c2] 26)) (below_alloc (w.alloc (.cells #[.slice A1 N c1, .slice A2 M c2] 26)) (.cells #[.slice none 0 0, .slice none 0 0] 26)))
  generalize (w.alloc (.cells #[.slice A1 N c1, .slice A2 M c2] 26)).alloc (.cells #[.slice none 0 0, .slice none 0 0] 26) = w1 at *
  have XA_0 := XA.out.at_ 0 _ rfl
  have XA_1 := XA.out.at_ 1 _ rfl
  go_wp2_with fail
  refine (CV.out _ HB.out).mono ?_; rintro e w3 ⟨rfl, hb⟩
  clear XA_0 XA_1
  replace XA := Lib.hid (XA.out.below hb)
  replace XR := Lib.hid (XR.out.below hb)
  replace HB := Lib.hid (below_step HB.out hb)
  clear hb
  clear CV
  have hno : (vb = false ∨ f < 0 ∨ t < f ∨ (M : Int) < t) → Hid (r = ([], [], 1)) := fun h => Lib.hid (by rw [HG.out, if_pos h])
  have HNO := Lib.hid hno
  clear hno
  have XA_1 := XA.out.at_ 1 _ rfl
  have XR_0 := XR.out.at_ 0 _ rfl
  have XR_1 := XR.out.at_ 1 _ rfl
  have XR_l := XR.out.lt
  have XR_z0 := XR.out.frozen 0
  have XR_z1 := XR.out.frozen 1
  rcases hway with rfl | ⟨rfl, a⟩ | ⟨rfl, a, b⟩ | ⟨rfl, a, b, c⟩ | ⟨rfl, a, b, c⟩
  · have HR := HNO.out (.inl rfl)
    clear HG HNO S1 S2
    go_wp2_with fail
    refine bodyPost_ret (v := .tuple #[.agg #[.slice none 0 0, .slice none 0 0], .int .i64 1]) (by simp [results, Tryd.results27, go_sem, XR_0, XR_1, XR_l]) rfl ?_
    exact parw_no HR.out (below_zrs (g := w.heap.size + 1) HB.out (Nat.le_succ _))
  · have HR := HNO.out (.inr (.inl a))
    clear HG HNO S1 S2
    go_wp2_with fail
    refine bodyPost_ret (v := .tuple #[.agg #[.slice none 0 0, .slice none 0 0], .int .i64 1]) (by simp [results, Tryd.results27, go_sem, XR_0, XR_1, XR_l]) rfl ?_
    exact parw_no HR.out (below_zrs (g := w.heap.size + 1) HB.out (Nat.le_succ _))
  · have HR := HNO.out (.inr (.inr (.inl b)))
    clear HG HNO S1 S2
    go_wp2_with fail
    refine bodyPost_ret (v := .tuple #[.agg #[.slice none 0 0, .slice none 0 0], .int .i64 1]) (by simp [results, Tryd.results27, go_sem, XR_0, XR_1, XR_l]) rfl ?_
    exact parw_no HR.out (below_zrs (g := w.heap.size + 1) HB.out (Nat.le_succ _))
  · have HR := HNO.out (.inr (.inr (.inr c)))
    clear HG HNO S1 S2
    go_wp2_with fail
    refine bodyPost_ret (v := .tuple #[.agg #[.slice none 0 0, .slice none 0 0], .int .i64 1]) (by simp [results, Tryd.results27, go_sem, XR_0, XR_1, XR_l]) rfl ?_
    exact parw_no HR.out (below_zrs (g := w.heap.size + 1) HB.out (Nat.le_succ _))
  · obtain ⟨fk, rfl⟩ : ∃ k : Nat, f = k := ⟨f.toNat, by omega⟩
    obtain ⟨n, rfl⟩ : ∃ n : Nat, t = (fk : Int) + n := ⟨(t - fk).toNat, by omega⟩
    have HR : Hid (r = (ns, (rs.take (fk + n)).drop fk, 0)) := Lib.hid (by
      rw [HG.out, if_neg (by simp only [not_or]; exact ⟨by decide, by omega, by omega, by omega⟩)]
      rw [Int.toNat_natCast, show ((fk : Int) + n).toNat = fk + n by omega])
    clear HG HNO
    obtain ⟨hV1, hV2, hV3⟩ := HVS.out rfl
    clear HVS
    have hA : M = 0 ∨ (0 < M ∧ ∃ b o, A2 = some ⟨b, o, none⟩ ∧ b < w.heap.size) := by
      by_cases h0 : 0 < M
      · right
        obtain ⟨A', c', e, _, h⟩ := S2.out
        simp only [Value.slice.injEq] at e
        obtain ⟨rfl, h1, rfl⟩ := e
        obtain ⟨b, o, e, hb, _⟩ := h (by omega)
        exact ⟨h0, b, o, e, hb⟩
      · exact .inl (by omega)
    have hnM : fk + n ≤ M := by omega
    have HRL := HMM.out
    go_upto_region 3 with fail
    clear XA_1 XR_0 XR_1 XR_l XR_z0 XR_z1
    rcases hA with hM0 | ⟨hM0, bq, o, rfl, hbl⟩
    · obtain rfl : fk = 0 := by omega
      obtain rfl : n = 0 := by omega
      have e0 : ((((0 : Nat) : Int)) + (((0 : Nat) : Int))).toNat = 0 := rfl
      cases A2 with
      | none =>
        have HQV : Hid (∀ W, Below w.heap.size w W → Rs ilR W (.slice none 0 c2) ((rs.take (0 + 0)).drop 0) anyB) := Lib.hid fun W hW => (by first | (rw [part_nil]; exact rs_empty) | exact rs_empty | (simp; exact rs_empty))
        have HLP : Hid (((rs.take (0 + 0)).drop 0).length = 0) := Lib.hid (by rw [List.length_drop, List.length_take]; omega)
        have CK := Lib.hid (fun W (hW : Below w.heap.size w W) => wavCopied W (.slice none 0 c2) ((rs.take (0 + 0)).drop 0) (HQV.out W hW) (by rw [HLP.out]; omega) (fun r hr => by have := hV3 r (List.mem_of_mem_take (List.mem_of_mem_drop hr)); omega))
        have CL := Lib.hid (fun W (hW : Below w.heap.size w W) => slCloneS W (.slice A1 N c1) ns (S1.out.below hW) (by rw [← HNq.out]; omega))
        generalize (rs.take (0 + 0)).drop 0 = part at *
        rw [HLP.out] at CK
        rw [← HNq.out] at CL
        have HBL := HB
        refine wp_region_gen 10 (Kit.of [gNS 2 [] w3.heap.size ns N, gNR 8 [] w3.heap.size part 0]) (by kernel_rfl) (by kernel_rfl) (fun γ => by kernel_rfl) (by kernel_rfl) (Kit.of_stable ?_) (Kit.of_known ?_) ?_
        · intro z hz; simp only [List.mem_cons, List.not_mem_nil, or_false] at hz; rcases hz with rfl | rfl
          · apply gNS_st
          · apply gNR_st
        · intro z hz; simp only [List.mem_cons, List.not_mem_nil, or_false] at hz; rcases hz with rfl | rfl
          · apply gNS_kn
          · apply gNR_kn
        intro γ hγ C hC hne
        obtain ⟨P2, d2, k2⟩ : ∃ A c, γ 2 = .slice A N c := hγ 2 rfl
        obtain ⟨g8, k8⟩ : ∃ g, γ 8 = .slice (some ⟨g, 0, none⟩) 0 0 := hγ 8 rfl
        have l0 := XA.out.latC (C := C) 0 _ rfl
        have l1 := XA.out.latC (C := C) 1 _ rfl
        simp only [List.take_succ_cons, List.take_zero, List.drop_succ_cons, List.drop_zero]
        iterate 2 (refine wpF_quiet rfl ?_; go_big_quiet_step (fail); refine wpQuiet_nil ?_)
        refine wpF_fresh rfl (freshAt_call (args := #[.slice A1 N c1]) rfl _ _ _ (run_go Tryd.func56 (by kernel_rfl) (by kernel_rfl)) rfl (by simp [Act.eval]) (fun w' hb hf => (CL.out w' (below_step HBL.out hb)).mono fun e w2 ⟨v, he, h1, h2⟩ => ⟨v, he, ⟨sl_form (ns_own h1 rfl hb.size).1 HNq.out, ns_own h1 rfl hb.size⟩, h2⟩)) ?_
        simp only [Nat.zero_add, Nat.reduceAdd, k2]
        go_simp
        iterate 5 (refine wpF_quiet rfl ?_; go_big_quiet_step (fail); refine wpQuiet_nil ?_)
        refine wpF_fresh rfl (freshAt_call (args := #[(.slice none 0 c2)]) rfl _ _ _ (run_go Tryd.func57 (by kernel_rfl) (by kernel_rfl)) rfl (by simp [Act.eval]) (fun w' hb hf => (CK.out w' (below_step HBL.out hb)).mono fun e w2 ⟨g, he, h1, h2⟩ => ⟨_, he, ⟨⟨g, rfl⟩, h1.low hb.size⟩, h2⟩)) ?_
        simp only [Nat.zero_add, Nat.reduceAdd, k8]
        go_simp
        iterate 1 (refine wpF_quiet rfl ?_; go_big_quiet_step (fail); refine wpQuiet_nil ?_)
        intro w4 hb hF
        have N2 : SL w4 (γ 2) ns ∧ ∀ b, (γ 2).ownBlock = some b → w3.heap.size ≤ b := (hF 2 (by decide) rfl).2
        have N8 : NR w3.heap.size w4 (γ 8) part := (hF 8 (by decide) rfl).2
        rw [k2] at N2
        rw [k8] at N8
        have HN2 := Lib.hid N2
        have HN8 := Lib.hid N8
        have hxl := XR.out.lt
        clear l0 l1 hF hγ hC hne k2 k8 N2 N8 CK CL
        replace XA := Lib.hid (XA.out.below hb)
        replace XR := Lib.hid (XR.out.below hb)
        replace HB := Lib.hid (below_step HB.out hb)
        clear hb
        have XR_0 := XR.out.at_ 0 _ rfl
        have XR_1 := XR.out.at_ 1 _ rfl
        have XR_l := XR.out.lt
        have XR_z0 := XR.out.frozen 0
        have XR_z1 := XR.out.frozen 1
        go_wp2_with fail
        refine bodyPost_ret (v := .tuple #[.agg #[.slice P2 N d2, .slice (some ⟨g8, 0, none⟩) 0 0], .int .i64 0]) (by simp [results, Tryd.results27, go_sem, XR_0, XR_1, XR_l]) rfl ?_
        rw [HR.out]
        exact ⟨_, _, rfl, (HN2.out.1.setBoxW XR.out (by simp)).setBoxW (XR.out.set_ 0 (.slice P2 N d2)) (by simp), ((HN8.out.set (p := ⟨w.heap.size + 1, 0, none⟩) hxl _).set (p := ⟨w.heap.size + 1, 1, none⟩) hxl _).any, (HB.out.setCell (p := ⟨w.heap.size + 1, 0, none⟩) (Nat.le_succ _) _).setCell (p := ⟨w.heap.size + 1, 1, none⟩) (Nat.le_succ _) _⟩
      | some a =>
        have HQV : Hid (∀ W, Below w.heap.size w W → Rs ilR W (.slice (some a) 0 c2) ((rs.take (0 + 0)).drop 0) anyB) := Lib.hid fun W hW => (by first | (rw [part_nil]; exact rs_empty) | exact rs_empty | (simp; exact rs_empty))
        have HLP : Hid (((rs.take (0 + 0)).drop 0).length = 0) := Lib.hid (by rw [List.length_drop, List.length_take]; omega)
        have CK := Lib.hid (fun W (hW : Below w.heap.size w W) => wavCopied W (.slice (some a) 0 c2) ((rs.take (0 + 0)).drop 0) (HQV.out W hW) (by rw [HLP.out]; omega) (fun r hr => by have := hV3 r (List.mem_of_mem_take (List.mem_of_mem_drop hr)); omega))
        have CL := Lib.hid (fun W (hW : Below w.heap.size w W) => slCloneS W (.slice A1 N c1) ns (S1.out.below hW) (by rw [← HNq.out]; omega))
        generalize (rs.take (0 + 0)).drop 0 = part at *
        rw [HLP.out] at CK
        rw [← HNq.out] at CL
        have HBL := HB
        refine wp_region_gen 10 (Kit.of [gNS 2 [] w3.heap.size ns N, gNR 8 [] w3.heap.size part 0]) (by kernel_rfl) (by kernel_rfl) (fun γ => by kernel_rfl) (by kernel_rfl) (Kit.of_stable ?_) (Kit.of_known ?_) ?_
        · intro z hz; simp only [List.mem_cons, List.not_mem_nil, or_false] at hz; rcases hz with rfl | rfl
          · apply gNS_st
          · apply gNR_st
        · intro z hz; simp only [List.mem_cons, List.not_mem_nil, or_false] at hz; rcases hz with rfl | rfl
          · apply gNS_kn
          · apply gNR_kn
        intro γ hγ C hC hne
        obtain ⟨P2, d2, k2⟩ : ∃ A c, γ 2 = .slice A N c := hγ 2 rfl
        obtain ⟨g8, k8⟩ : ∃ g, γ 8 = .slice (some ⟨g, 0, none⟩) 0 0 := hγ 8 rfl
        have l0 := XA.out.latC (C := C) 0 _ rfl
        have l1 := XA.out.latC (C := C) 1 _ rfl
        simp only [List.take_succ_cons, List.take_zero, List.drop_succ_cons, List.drop_zero]
        iterate 2 (refine wpF_quiet rfl ?_; go_big_quiet_step (fail); refine wpQuiet_nil ?_)
        refine wpF_fresh rfl (freshAt_call (args := #[.slice A1 N c1]) rfl _ _ _ (run_go Tryd.func56 (by kernel_rfl) (by kernel_rfl)) rfl (by simp [Act.eval]) (fun w' hb hf => (CL.out w' (below_step HBL.out hb)).mono fun e w2 ⟨v, he, h1, h2⟩ => ⟨v, he, ⟨sl_form (ns_own h1 rfl hb.size).1 HNq.out, ns_own h1 rfl hb.size⟩, h2⟩)) ?_
        simp only [Nat.zero_add, Nat.reduceAdd, k2]
        go_simp
        iterate 5 (refine wpF_quiet rfl ?_; go_big_quiet_step (fail); refine wpQuiet_nil ?_)
        refine wpF_fresh rfl (freshAt_call (args := #[(.slice (some a) 0 c2)]) rfl _ _ _ (run_go Tryd.func57 (by kernel_rfl) (by kernel_rfl)) rfl (by simp [Act.eval]) (fun w' hb hf => (CK.out w' (below_step HBL.out hb)).mono fun e w2 ⟨g, he, h1, h2⟩ => ⟨_, he, ⟨⟨g, rfl⟩, h1.low hb.size⟩, h2⟩)) ?_
        simp only [Nat.zero_add, Nat.reduceAdd, k8]
        go_simp
        iterate 1 (refine wpF_quiet rfl ?_; go_big_quiet_step (fail); refine wpQuiet_nil ?_)
        intro w4 hb hF
        have N2 : SL w4 (γ 2) ns ∧ ∀ b, (γ 2).ownBlock = some b → w3.heap.size ≤ b := (hF 2 (by decide) rfl).2
        have N8 : NR w3.heap.size w4 (γ 8) part := (hF 8 (by decide) rfl).2
        rw [k2] at N2
        rw [k8] at N8
        have HN2 := Lib.hid N2
        have HN8 := Lib.hid N8
        have hxl := XR.out.lt
        clear l0 l1 hF hγ hC hne k2 k8 N2 N8 CK CL
        replace XA := Lib.hid (XA.out.below hb)
        replace XR := Lib.hid (XR.out.below hb)
        replace HB := Lib.hid (below_step HB.out hb)
        clear hb
        have XR_0 := XR.out.at_ 0 _ rfl
        have XR_1 := XR.out.at_ 1 _ rfl
        have XR_l := XR.out.lt
        have XR_z0 := XR.out.frozen 0
        have XR_z1 := XR.out.frozen 1
        go_wp2_with fail
        refine bodyPost_ret (v := .tuple #[.agg #[.slice P2 N d2, .slice (some ⟨g8, 0, none⟩) 0 0], .int .i64 0]) (by simp [results, Tryd.results27, go_sem, XR_0, XR_1, XR_l]) rfl ?_
        rw [HR.out]
        exact ⟨_, _, rfl, (HN2.out.1.setBoxW XR.out (by simp)).setBoxW (XR.out.set_ 0 (.slice P2 N d2)) (by simp), ((HN8.out.set (p := ⟨w.heap.size + 1, 0, none⟩) hxl _).set (p := ⟨w.heap.size + 1, 1, none⟩) hxl _).any, (HB.out.setCell (p := ⟨w.heap.size + 1, 0, none⟩) (Nat.le_succ _) _).setCell (p := ⟨w.heap.size + 1, 1, none⟩) (Nat.le_succ _) _⟩
    · by_cases hcf : c2 = fk
      · obtain rfl : n = 0 := by omega
        subst hcf
        have e0 : ((c2 : Int) + (((0 : Nat) : Int))).toNat = c2 := by omega
        have g1 : (0 : Int) ≤ (c2 : Int) := by omega
        have HQV : Hid (∀ W, Below w.heap.size w W → Rs ilR W (.slice (some ⟨bq, o, none⟩) 0 0) ((rs.take (c2 + 0)).drop c2) anyB) := Lib.hid fun W hW => (by first | (rw [part_nil]; exact rs_empty) | exact rs_empty | (simp; exact rs_empty))
        have HLP : Hid (((rs.take (c2 + 0)).drop c2).length = 0) := Lib.hid (by rw [List.length_drop, List.length_take]; omega)
        have CK := Lib.hid (fun W (hW : Below w.heap.size w W) => wavCopied W (.slice (some ⟨bq, o, none⟩) 0 0) ((rs.take (c2 + 0)).drop c2) (HQV.out W hW) (by rw [HLP.out]; omega) (fun r hr => by have := hV3 r (List.mem_of_mem_take (List.mem_of_mem_drop hr)); omega))
        have CL := Lib.hid (fun W (hW : Below w.heap.size w W) => slCloneS W (.slice A1 N c1) ns (S1.out.below hW) (by rw [← HNq.out]; omega))
        generalize (rs.take (c2 + 0)).drop c2 = part at *
        rw [HLP.out] at CK
        rw [← HNq.out] at CL
        have HBL := HB
        refine wp_region_gen 10 (Kit.of [gNS 2 [] w3.heap.size ns N, gNR 8 [] w3.heap.size part 0]) (by kernel_rfl) (by kernel_rfl) (fun γ => by kernel_rfl) (by kernel_rfl) (Kit.of_stable ?_) (Kit.of_known ?_) ?_
        · intro z hz; simp only [List.mem_cons, List.not_mem_nil, or_false] at hz; rcases hz with rfl | rfl
          · apply gNS_st
          · apply gNR_st
        · intro z hz; simp only [List.mem_cons, List.not_mem_nil, or_false] at hz; rcases hz with rfl | rfl
          · apply gNS_kn
          · apply gNR_kn
        intro γ hγ C hC hne
        obtain ⟨P2, d2, k2⟩ : ∃ A c, γ 2 = .slice A N c := hγ 2 rfl
        obtain ⟨g8, k8⟩ : ∃ g, γ 8 = .slice (some ⟨g, 0, none⟩) 0 0 := hγ 8 rfl
        have l0 := XA.out.latC (C := C) 0 _ rfl
        have l1 := XA.out.latC (C := C) 1 _ rfl
        simp only [List.take_succ_cons, List.take_zero, List.drop_succ_cons, List.drop_zero]
        iterate 2 (refine wpF_quiet rfl ?_; go_big_quiet_step (fail); refine wpQuiet_nil ?_)
        refine wpF_fresh rfl (freshAt_call (args := #[.slice A1 N c1]) rfl _ _ _ (run_go Tryd.func56 (by kernel_rfl) (by kernel_rfl)) rfl (by simp [Act.eval]) (fun w' hb hf => (CL.out w' (below_step HBL.out hb)).mono fun e w2 ⟨v, he, h1, h2⟩ => ⟨v, he, ⟨sl_form (ns_own h1 rfl hb.size).1 HNq.out, ns_own h1 rfl hb.size⟩, h2⟩)) ?_
        simp only [Nat.zero_add, Nat.reduceAdd, k2]
        go_simp
        iterate 5 (refine wpF_quiet rfl ?_; go_big_quiet_step (fail); refine wpQuiet_nil ?_)
        refine wpF_fresh rfl (freshAt_call (args := #[(.slice (some ⟨bq, o, none⟩) 0 0)]) rfl _ _ _ (run_go Tryd.func57 (by kernel_rfl) (by kernel_rfl)) rfl (by simp [Act.eval]) (fun w' hb hf => (CK.out w' (below_step HBL.out hb)).mono fun e w2 ⟨g, he, h1, h2⟩ => ⟨_, he, ⟨⟨g, rfl⟩, h1.low hb.size⟩, h2⟩)) ?_
        simp only [Nat.zero_add, Nat.reduceAdd, k8]
        go_simp
        iterate 1 (refine wpF_quiet rfl ?_; go_big_quiet_step (fail); refine wpQuiet_nil ?_)
        intro w4 hb hF
        have N2 : SL w4 (γ 2) ns ∧ ∀ b, (γ 2).ownBlock = some b → w3.heap.size ≤ b := (hF 2 (by decide) rfl).2
        have N8 : NR w3.heap.size w4 (γ 8) part := (hF 8 (by decide) rfl).2
        rw [k2] at N2
        rw [k8] at N8
        have HN2 := Lib.hid N2
        have HN8 := Lib.hid N8
        have hxl := XR.out.lt
        clear l0 l1 hF hγ hC hne k2 k8 N2 N8 CK CL
        replace XA := Lib.hid (XA.out.below hb)
        replace XR := Lib.hid (XR.out.below hb)
        replace HB := Lib.hid (below_step HB.out hb)
        clear hb
        have XR_0 := XR.out.at_ 0 _ rfl
        have XR_1 := XR.out.at_ 1 _ rfl
        have XR_l := XR.out.lt
        have XR_z0 := XR.out.frozen 0
        have XR_z1 := XR.out.frozen 1
        go_wp2_with fail
        refine bodyPost_ret (v := .tuple #[.agg #[.slice P2 N d2, .slice (some ⟨g8, 0, none⟩) 0 0], .int .i64 0]) (by simp [results, Tryd.results27, go_sem, XR_0, XR_1, XR_l]) rfl ?_
        rw [HR.out]
        exact ⟨_, _, rfl, (HN2.out.1.setBoxW XR.out (by simp)).setBoxW (XR.out.set_ 0 (.slice P2 N d2)) (by simp), ((HN8.out.set (p := ⟨w.heap.size + 1, 0, none⟩) hxl _).set (p := ⟨w.heap.size + 1, 1, none⟩) hxl _).any, (HB.out.setCell (p := ⟨w.heap.size + 1, 0, none⟩) (Nat.le_succ _) _).setCell (p := ⟨w.heap.size + 1, 1, none⟩) (Nat.le_succ _) _⟩
      · obtain ⟨m, rfl⟩ : ∃ m, c2 = fk + m := ⟨c2 - fk, by omega⟩
        have hnm : n ≤ m := by omega
        have hm0 : ¬ m = 0 := by omega
        have e0 : ((fk : Int) + (n : Int)).toNat = fk + n := by omega
        have g0 : (0 : Int) ≤ (fk : Int) := by omega
        have g1 : (0 : Int) ≤ (fk : Int) + (n : Int) := by omega
        have g2 : (fk : Int) + (n : Int) ≤ (fk : Int) + (m : Int) := by omega
        have g3 : (fk : Int) ≤ (fk : Int) + (n : Int) := by omega
        have HQV : Hid (∀ W, Below w.heap.size w W → Rs ilR W (.slice (some ⟨bq, o + fk, none⟩) n m) ((rs.take (fk + n)).drop fk) anyB) := Lib.hid fun W hW => (S2.out.below hW).part fk n m hnM hnm
        have HLP : Hid (((rs.take (fk + n)).drop fk).length = n) := Lib.hid (by rw [List.length_drop, List.length_take]; omega)
        have CK := Lib.hid (fun W (hW : Below w.heap.size w W) => wavCopied W (.slice (some ⟨bq, o + fk, none⟩) n m) ((rs.take (fk + n)).drop fk) (HQV.out W hW) (by rw [HLP.out]; omega) (fun r hr => by have := hV3 r (List.mem_of_mem_take (List.mem_of_mem_drop hr)); omega))
        have CL := Lib.hid (fun W (hW : Below w.heap.size w W) => slCloneS W (.slice A1 N c1) ns (S1.out.below hW) (by rw [← HNq.out]; omega))
        generalize (rs.take (fk + n)).drop fk = part at *
        rw [HLP.out] at CK
        rw [← HNq.out] at CL
        have HBL := HB
        refine wp_region_gen 10 (Kit.of [gNS 2 [] w3.heap.size ns N, gNR 8 [] w3.heap.size part n]) (by kernel_rfl) (by kernel_rfl) (fun γ => by kernel_rfl) (by kernel_rfl) (Kit.of_stable ?_) (Kit.of_known ?_) ?_
        · intro z hz; simp only [List.mem_cons, List.not_mem_nil, or_false] at hz; rcases hz with rfl | rfl
          · apply gNS_st
          · apply gNR_st
        · intro z hz; simp only [List.mem_cons, List.not_mem_nil, or_false] at hz; rcases hz with rfl | rfl
          · apply gNS_kn
          · apply gNR_kn
        intro γ hγ C hC hne
        obtain ⟨P2, d2, k2⟩ : ∃ A c, γ 2 = .slice A N c := hγ 2 rfl
        obtain ⟨g8, k8⟩ : ∃ g, γ 8 = .slice (some ⟨g, 0, none⟩) n n := hγ 8 rfl
        have l0 := XA.out.latC (C := C) 0 _ rfl
        have l1 := XA.out.latC (C := C) 1 _ rfl
        simp only [List.take_succ_cons, List.take_zero, List.drop_succ_cons, List.drop_zero]
        iterate 2 (refine wpF_quiet rfl ?_; go_big_quiet_step (fail); refine wpQuiet_nil ?_)
        refine wpF_fresh rfl (freshAt_call (args := #[.slice A1 N c1]) rfl _ _ _ (run_go Tryd.func56 (by kernel_rfl) (by kernel_rfl)) rfl (by simp [Act.eval]) (fun w' hb hf => (CL.out w' (below_step HBL.out hb)).mono fun e w2 ⟨v, he, h1, h2⟩ => ⟨v, he, ⟨sl_form (ns_own h1 rfl hb.size).1 HNq.out, ns_own h1 rfl hb.size⟩, h2⟩)) ?_
        simp only [Nat.zero_add, Nat.reduceAdd, k2]
        go_simp
        iterate 5 (refine wpF_quiet rfl ?_; go_big_quiet_step (fail); refine wpQuiet_nil ?_)
        refine wpF_fresh rfl (freshAt_call (args := #[(.slice (some ⟨bq, o + fk, none⟩) n m)]) rfl _ _ _ (run_go Tryd.func57 (by kernel_rfl) (by kernel_rfl)) rfl (by simp [Act.eval]) (fun w' hb hf => (CK.out w' (below_step HBL.out hb)).mono fun e w2 ⟨g, he, h1, h2⟩ => ⟨_, he, ⟨⟨g, rfl⟩, h1.low hb.size⟩, h2⟩)) ?_
        simp only [Nat.zero_add, Nat.reduceAdd, k8]
        go_simp
        iterate 1 (refine wpF_quiet rfl ?_; go_big_quiet_step (fail); refine wpQuiet_nil ?_)
        intro w4 hb hF
        have N2 : SL w4 (γ 2) ns ∧ ∀ b, (γ 2).ownBlock = some b → w3.heap.size ≤ b := (hF 2 (by decide) rfl).2
        have N8 : NR w3.heap.size w4 (γ 8) part := (hF 8 (by decide) rfl).2
        rw [k2] at N2
        rw [k8] at N8
        have HN2 := Lib.hid N2
        have HN8 := Lib.hid N8
        have hxl := XR.out.lt
        clear l0 l1 hF hγ hC hne k2 k8 N2 N8 CK CL
        replace XA := Lib.hid (XA.out.below hb)
        replace XR := Lib.hid (XR.out.below hb)
        replace HB := Lib.hid (below_step HB.out hb)
        clear hb
        have XR_0 := XR.out.at_ 0 _ rfl
        have XR_1 := XR.out.at_ 1 _ rfl
        have XR_l := XR.out.lt
        have XR_z0 := XR.out.frozen 0
        have XR_z1 := XR.out.frozen 1
        go_wp2_with fail
        refine bodyPost_ret (v := .tuple #[.agg #[.slice P2 N d2, .slice (some ⟨g8, 0, none⟩) n n], .int .i64 0]) (by simp [results, Tryd.results27, go_sem, XR_0, XR_1, XR_l]) rfl ?_
        rw [HR.out]
        exact ⟨_, _, rfl, (HN2.out.1.setBoxW XR.out (by simp)).setBoxW (XR.out.set_ 0 (.slice P2 N d2)) (by simp), ((HN8.out.set (p := ⟨w.heap.size + 1, 0, none⟩) hxl _).set (p := ⟨w.heap.size + 1, 1, none⟩) hxl _).any, (HB.out.setCell (p := ⟨w.heap.size + 1, 0, none⟩) (Nat.le_succ _) _).setCell (p := ⟨w.heap.size + 1, 1, none⟩) (Nat.le_succ _) _⟩

end Go.Proofs.YthpioaboekpjoaaDoor
