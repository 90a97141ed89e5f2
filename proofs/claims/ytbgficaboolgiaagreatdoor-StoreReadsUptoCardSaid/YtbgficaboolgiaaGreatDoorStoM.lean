/-
  Contracts of the reference's SameTexts, sameLists, Same, where the two are equal; of the law's result.
-/
import Derived.Test.YtbgficaboolgiaaGreatDoorStoA
import Derived.Test.YtbgficaboolgiaaGreatDoorStoC
namespace Go.Proofs.YtbgficaboolgiaaGreatDoor
open Go.RowKit
set_option linter.unusedVariables false
set_option linter.unusedSimpArgs false

set_option maxRecDepth 100000 in
set_option maxHeartbeats 1000000 in
theorem refSame3 (w : World) (v1 v2 : Value) (l : List ByteArray) (h1 : SL w v1 l) (h2 : SL w v2 l) (hl : l.length ≤ 9223372036854775807) :
    Calls Tryz.prog 16 #[v1, v2] w fun e w' => e = .returned (.bool true) ∧ ∃ n, w' = w.drewN n := by
  obtain ⟨A1, c1, rfl, hc1, h1⟩ := h1
  obtain ⟨A2, c2, rfl, hc2, h2⟩ := h2
  obtain ⟨N, hN⟩ : ∃ N, N = l.length := ⟨_, rfl⟩
  have hN2 := hN
  rw [← hN2] at h1 h2 hl hc1 hc2 ⊢
  have HN := Lib.hid hN
  have H1 := Lib.hid h1
  have H2 := Lib.hid h2
  clear hN hN2 h1 h2
  go_enter Tryz.func16, Tryz.ntmps16
  go_wp2_with fail
  go_loopw [5] (fun c wr => ∃ (k : Nat), k ≤ N ∧ c = .int .i64 k ∧ ∃ n, wr = w.drewN n) (fun c _ => N - (intOf c).toNat)
  case atStart => exact ⟨0, Nat.zero_le _, rfl, 0, rfl⟩
  case round =>
    obtain ⟨k, hk, rfl, n, rfl⟩ := hrel
    by_cases hlt : k < N
    · obtain ⟨a1, rfl, r1⟩ := H1.out (by omega)
      obtain ⟨a2, rfl, r2⟩ := H2.out (by omega)
      have g1 : w.cell? (a1.add k) = some (.string (l.getD k ⟨#[]⟩)) := r1.cells k (by rw [← HN.out]; exact hlt)
      have g2 : w.cell? (a2.add k) = some (.string (l.getD k ⟨#[]⟩)) := r2.cells k (by rw [← HN.out]; exact hlt)
      generalize l.getD k ⟨#[]⟩ = s at g1 g2
      have hlt2 : (k : Int) < N := by omega
      clear r1 r2
      go_wp2_with fail
      go_quiet (fail)
      go_wp2_with fail
      go_roundw
      case rel => exact ⟨k + 1, by omega, by go_num, _, rfl⟩
      case measure => simp [intOf]; omega
    · have hkn : k = N := by omega
      have hlt2 : ¬ (k : Int) < N := by omega
      clear hkn
      go_wp2_with fail
      go_ret
      exact ⟨rfl, n, rfl⟩
set_option maxRecDepth 100000 in
theorem refSameTexts (w : World) (v1 v2 : Value) (l : List ByteArray) (h1 : SL w v1 l) (h2 : SL w v2 l) (hl : l.length ≤ 9223372036854775807) :
    Calls Tryz.prog 8 #[v1, v2] w fun e w' => e = .returned (.bool true) ∧ ∃ n, w' = w.drewN n := by
  have C := Lib.hid (refSame3 w v1 v2 l h1 h2 hl)
  obtain ⟨A1, c1, rfl, -, -⟩ := h1
  obtain ⟨A2, c2, rfl, -, -⟩ := h2
  generalize l.length = N at *
  go_enter Tryz.func8, Tryz.ntmps8
  go_wp2_with fail
  refine C.out.mono ?_; rintro e w2 ⟨rfl, n, rfl⟩
  go_wp2_with fail
  go_ret
  exact ⟨rfl, n, rfl⟩

set_option maxRecDepth 100000 in
set_option maxHeartbeats 4000000 in
theorem refSameLists (w : World) (v1 v2 : Value) (l : List (List Int)) (h1 : Rs ilR w v1 l anyB) (h2 : Rs ilR w v2 l anyB) (hl : l.length ≤ 9223372036854775807) (hc : ∀ c ∈ l, c.length ≤ 9223372036854775807) :
    Calls Tryz.prog 45 #[v1, v2] w fun e w' => e = .returned (.bool true) ∧ ∃ n, w' = w.drewN n := by
  obtain ⟨A1, c1, rfl, -, hx1⟩ := h1.ils
  obtain ⟨A2, c2, rfl, -, hx2⟩ := h2.ils
  have H1 := Lib.hid hx1
  have H2 := Lib.hid hx2
  obtain ⟨N, hN⟩ : ∃ N, N = l.length := ⟨_, rfl⟩
  have HN := Lib.hid hN
  have HC := Lib.hid hc
  rw [← hN] at hl ⊢
  clear hx1 hx2 h1 h2 hc hN
  go_enter Tryz.func45, Tryz.ntmps45
  go_wp2_with fail
  go_loopw [5] (fun c wr => ∃ (k : Nat), k ≤ N ∧ c = .int .i64 k ∧ ∃ n, wr = w.drewN n) (fun c _ => N - (intOf c).toNat)
  case atStart => exact ⟨0, Nat.zero_le _, rfl, 0, rfl⟩
  case round =>
    obtain ⟨k, hk, rfl, n, rfl⟩ := hrel
    by_cases hlt : k < N
    · have hkl : k < l.length := by rw [← HN.out]; exact hlt
      obtain ⟨b1, o1, u1, rfl, hb1, g1, i1, -⟩ := H1.out k hkl
      obtain ⟨b2, o2, u2, rfl, hb2, g2, i2, -⟩ := H2.out k hkl
      have hrl := HC.out _ (getD_mem (l := l) (k := k) [] hkl)
      have hlt2 : (k : Int) < N := by omega
      obtain ⟨E1, d1, rfl, -, x1⟩ := i1
      obtain ⟨E2, d2, rfl, -, x2⟩ := i2
      generalize l.getD k [] = row at *
      obtain ⟨M, hM⟩ : ∃ M, M = row.length := ⟨_, rfl⟩
      have HM := Lib.hid hM
      have X1 := Lib.hid x1
      have X2 := Lib.hid x2
      rw [← hM] at X1 X2 g1 g2 hrl
      clear hM x1 x2 hkl hb1 hb2
      go_wp2_with fail
      go_quiet (fail)
      go_wp2_with fail
      go_loopw [6] (fun c wr => ∃ (j : Nat), j ≤ M ∧ c = .int .i64 j ∧ ∃ n, wr = w.drewN n) (fun c _ => M - (intOf c).toNat)
      case atStart => exact ⟨0, Nat.zero_le _, rfl, _, World.drewN_drewN _ _ _⟩
      case round =>
        obtain ⟨j, hj, rfl, m, rfl⟩ := hrel
        by_cases hjt : j < M
        · obtain ⟨a1, rfl, -, r1⟩ := X1.out (by omega)
          obtain ⟨a2, rfl, -, r2⟩ := X2.out (by omega)
          have q1 := r1 j hjt
          have q2 := r2 j hjt
          generalize row.getD j 0 = z at q1 q2
          have hjt2 : (j : Int) < M := by omega
          clear r1 r2
          go_wp2_with fail
          go_quiet (fail)
          go_wp2_with fail
          go_roundw
          case rel => exact ⟨j + 1, by omega, by go_num, _, rfl⟩
          case measure => simp [intOf]; omega
        · have hjn : j = M := by omega
          have hjt2 : ¬ (j : Int) < M := by omega
          clear hjn
          go_wp2_with fail
          go_roundw
          case rel => exact ⟨k + 1, by omega, by go_num, _, rfl⟩
          case measure => simp [intOf]; omega
    · have hkn : k = N := by omega
      have hlt2 : ¬ (k : Int) < N := by omega
      clear hkn
      go_wp2_with fail
      go_ret
      exact ⟨rfl, n, rfl⟩

set_option maxRecDepth 100000 in
set_option maxHeartbeats 8000000 in
theorem refSameR (w : World) (p q p' q' : Value) (r : Res) (hp : Rs ilR w p r.pts anyB) (hq : Rs ilR w q r.crs anyB) (hp' : Rs ilR w p' r.pts anyB) (hq' : Rs ilR w q' r.crs anyB)
    (n1 : r.pts.length ≤ 9223372036854775807 ∧ ∀ c ∈ r.pts, c.length ≤ 9223372036854775807) (n2 : r.crs.length ≤ 9223372036854775807 ∧ ∀ c ∈ r.crs, c.length ≤ 9223372036854775807) :
    Calls Tryz.prog 17 #[resV p q r, resV p' q' r] w fun e w' => e = .returned (.bool true) ∧ Below w.heap.size w w' := by
  have C1 := Lib.hid (fun W (hW : Below w.heap.size w W) => refSameLists W p p' r.pts (hp.below hW) (hp'.below hW) n1.1 n1.2)
  have C2 := Lib.hid (fun W (hW : Below w.heap.size w W) => refSameLists W q q' r.crs (hq.below hW) (hq'.below hW) n2.1 n2.2)
  obtain ⟨A1, c1, rfl, -⟩ := hp.slice
  obtain ⟨A2, c2, rfl, -⟩ := hq.slice
  obtain ⟨A3, c3, rfl, -⟩ := hp'.slice
  obtain ⟨A4, c4, rfl, -⟩ := hq'.slice
  clear hp hq hp' hq' n1 n2
  obtain ⟨te, se, de, si, cy, sn, gt, ps, cs, sm, il⟩ := r
  unfold resV
  simp only at C1 C2 ⊢
  generalize ps.length = M at *
  generalize cs.length = N at *
  go_enter Tryz.func17, Tryz.ntmps17
  go_upto_region 1 with fail
  have XA := Lib.hid ((box_new (W := w) (g := w.heap.size) 28 #[.string te, .int .u64 se, .string de, .string si, .int .i64 cy, .int .i64 sn, .int .i64 gt, .slice A1 M c1, .slice A2 N c2, .int .i64 sm, .int .i64 il] (by simp)).below (below_alloc _ (.cells #[.string te, .int .u64 se, .string de, .string si, .int .i64 cy, .int .i64 sn, .int .i64 gt, .slice A3 M c3, .slice A4 N c4, .int .i64 sm, .int .i64 il] 28)))
  have XB := Lib.hid (box_new (W := (w.alloc (.cells #[.string te, .int .u64 se, .string de, .string si, .int .i64 cy, .int .i64 sn, .int .i64 gt, .slice A1 M c1, .slice A2 N c2, .int .i64 sm, .int .i64 il] 28))) (g := w.heap.size + 1) 28 #[.string te, .int .u64 se, .string de, .string si, .int .i64 cy, .int .i64 sn, .int .i64 gt, .slice A3 M c3, .slice A4 N c4, .int .i64 sm, .int .i64 il] (by simp))
  have HB := Lib.hid (below_step (below_alloc w (.cells #[.string te, .int .u64 se, .string de, .string si, .int .i64 cy, .int .i64 sn, .int .i64 gt, .slice A1 M c1, .slice A2 N c2, .int .i64 sm, .int .i64 il] 28)) (below_alloc (w.alloc (.cells #[.string te, .int .u64 se, .string de, .string si, .int .i64 cy, .int .i64 sn, .int .i64 gt, .slice A1 M c1, .slice A2 N c2, .int .i64 sm, .int .i64 il] 28)) (.cells #[.string te, .int .u64 se, .string de, .string si, .int .i64 cy, .int .i64 sn, .int .i64 gt, .slice A3 M c3, .slice A4 N c4, .int .i64 sm, .int .i64 il] 28)))
  generalize (w.alloc (.cells #[.string te, .int .u64 se, .string de, .string si, .int .i64 cy, .int .i64 sn, .int .i64 gt, .slice A1 M c1, .slice A2 N c2, .int .i64 sm, .int .i64 il] 28)).alloc (.cells #[.string te, .int .u64 se, .string de, .string si, .int .i64 cy, .int .i64 sn, .int .i64 gt, .slice A3 M c3, .slice A4 N c4, .int .i64 sm, .int .i64 il] 28) = w1 at *
  have XA_0 := XA.out.at_ 0 _ rfl
  have XA_1 := XA.out.at_ 1 _ rfl
  have XA_2 := XA.out.at_ 2 _ rfl
  have XA_3 := XA.out.at_ 3 _ rfl
  have XA_4 := XA.out.at_ 4 _ rfl
  have XA_5 := XA.out.at_ 5 _ rfl
  have XA_6 := XA.out.at_ 6 _ rfl
  have XA_7 := XA.out.at_ 7 _ rfl
  have XA_8 := XA.out.at_ 8 _ rfl
  have XA_9 := XA.out.at_ 9 _ rfl
  have XA_a := XA.out.at_ 10 _ rfl
  have XB_0 := XB.out.at_ 0 _ rfl
  have XB_1 := XB.out.at_ 1 _ rfl
  have XB_2 := XB.out.at_ 2 _ rfl
  have XB_3 := XB.out.at_ 3 _ rfl
  have XB_4 := XB.out.at_ 4 _ rfl
  have XB_5 := XB.out.at_ 5 _ rfl
  have XB_6 := XB.out.at_ 6 _ rfl
  have XB_7 := XB.out.at_ 7 _ rfl
  have XB_8 := XB.out.at_ 8 _ rfl
  have XB_9 := XB.out.at_ 9 _ rfl
  have XB_a := XB.out.at_ 10 _ rfl
  go_upto_region 3 with fail
  go_wp2_with fail
  refine (C1.out _ HB.out).mono ?_; rintro e w2 ⟨rfl, n, rfl⟩
  have HB2 := Lib.hid (below_drewN HB.out n)
  go_wp2_with fail
  refine (C2.out _ HB2.out).mono ?_; rintro e w2 ⟨rfl, m, rfl⟩
  go_wp2_with fail
  go_ret
  exact ⟨rfl, below_drewN HB.out (n + m)⟩

theorem below_setC2 {w w2 : World} {b0 g i : Nat} {u : Value} (h : Below b0 w w2) (hg : b0 ≤ g) : Below b0 w (w2.setCell ⟨g, i, none⟩ u) := h.setCell (p := ⟨g, i, none⟩) hg u

set_option maxRecDepth 100000 in
theorem lawResult (d : ByteArray) (x : Nat) (s : ByteArray) (w : World) :
    Calls Tryz.prog 19 #[.string d, .int .u64 x, .string s] w fun e w' => e = .returned (resV (.slice none 0 0) (.slice none 0 0) ⟨⟨#[116]⟩, x, d, s, 0, 0, 0, [], [], 0, 0⟩) ∧ Below w.heap.size w w' := by
  go_enter Tryz.func19, Tryz.ntmps19
  go_upto_region 1 with fail
  have XQ := Lib.hid (box_new (W := w) (g := w.heap.size) 28 #[.string ⟨#[]⟩, .int .u64 0, .string ⟨#[]⟩, .string ⟨#[]⟩, .int .i64 0, .int .i64 0, .int .i64 0, .slice none 0 0, .slice none 0 0, .int .i64 0, .int .i64 0] (by simp))
  have HB := Lib.hid (below_alloc w (.cells #[.string ⟨#[]⟩, .int .u64 0, .string ⟨#[]⟩, .string ⟨#[]⟩, .int .i64 0, .int .i64 0, .int .i64 0, .slice none 0 0, .slice none 0 0, .int .i64 0, .int .i64 0] 28))
  generalize w.alloc (.cells #[.string ⟨#[]⟩, .int .u64 0, .string ⟨#[]⟩, .string ⟨#[]⟩, .int .i64 0, .int .i64 0, .int .i64 0, .slice none 0 0, .slice none 0 0, .int .i64 0, .int .i64 0] 28) = w1 at *
  have XQ_0 := XQ.out.at_ 0 _ rfl
  have XQ_1 := XQ.out.at_ 1 _ rfl
  have XQ_2 := XQ.out.at_ 2 _ rfl
  have XQ_3 := XQ.out.at_ 3 _ rfl
  have XQ_4 := XQ.out.at_ 4 _ rfl
  have XQ_5 := XQ.out.at_ 5 _ rfl
  have XQ_6 := XQ.out.at_ 6 _ rfl
  have XQ_7 := XQ.out.at_ 7 _ rfl
  have XQ_8 := XQ.out.at_ 8 _ rfl
  have XQ_9 := XQ.out.at_ 9 _ rfl
  have XQ_a := XQ.out.at_ 10 _ rfl
  have XQ_l := XQ.out.lt
  have XQ_z0 := XQ.out.frozen 0
  have XQ_z1 := XQ.out.frozen 1
  have XQ_z2 := XQ.out.frozen 2
  have XQ_z3 := XQ.out.frozen 3
  have XQ_z4 := XQ.out.frozen 4
  have XQ_z5 := XQ.out.frozen 5
  have XQ_z6 := XQ.out.frozen 6
  have XQ_z7 := XQ.out.frozen 7
  have XQ_z8 := XQ.out.frozen 8
  have XQ_z9 := XQ.out.frozen 9
  have XQ_za := XQ.out.frozen 10
  go_wp2_with fail
  refine bodyPost_ret (v := .agg #[.string ⟨#[116]⟩, .int .u64 x, .string d, .string s, .int .i64 0, .int .i64 0, .int .i64 0, .slice none 0 0, .slice none 0 0, .int .i64 0, .int .i64 0]) (by simp [results, Tryz.results19, go_sem, XQ_0, XQ_1, XQ_2, XQ_3, XQ_4, XQ_5, XQ_6, XQ_7, XQ_8, XQ_9, XQ_a, XQ_l]) rfl ?_
  exact ⟨rfl, (by (iterate 11 (refine below_setC2 ?_ (Nat.le_refl _))); exact HB.out)⟩

end Go.Proofs.YtbgficaboolgiaaGreatDoor
