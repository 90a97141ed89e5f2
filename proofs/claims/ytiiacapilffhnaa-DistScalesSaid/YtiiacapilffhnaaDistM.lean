/-
  The law DistScales: the walk.
-/
import Derived.Test.YtiiacapilffhnaaDistL
namespace Go.Proofs.Ytiiacapilffhnaa
open Go.RowKit Go.WideShapes Go.ChangeShapes Go.Deep
set_option linter.unusedVariables false
set_option linter.unusedSimpArgs false

/-- The argument of DistScales. -/
theorem arg_scaled {H : Type} {enc : TypeId × Value → H} {W : World} {v : Value} {d : DataW H} {p : List MemPlace} {base : Nat} (h : DataW.Trod enc Try.prog W 0 (fun _ => true) true 41 v d p) (hv : Value.okWide Try.prog W .any base 41 v) :
    ∃ (c : Value) (l : List Rg) (wd x m : Int), v = .agg #[c, .int .i64 wd, .int .i64 x, .int .u8 m] ∧ DL W c l ∧ LF l ∧ I64 wd ∧ I64 x ∧ (0 ≤ m ∧ m ≤ 255) := by
  obtain ⟨cs, ys, n, rfl, rfl, rfl, hcl, hyl, hf⟩ := open_struct Try.underlying41 (by kernel_rfl) (by kernel_rfl) hv h
  obtain ⟨c0, y0, e0, f0, h0⟩ := hf 0 _ rfl
  obtain ⟨c1, y1, e1, f1, h1⟩ := hf 1 _ rfl
  obtain ⟨c2, y2, e2, f2, h2⟩ := hf 2 _ rfl
  obtain ⟨c3, y3, e3, f3, h3⟩ := hf 3 _ rfl
  obtain rfl : cs = [c0, c1, c2, c3] := by
    match cs, hcl with
    | [_, _, _, _], _ => simp at e0 e1 e2 e3; rw [e0, e1, e2, e3]
  obtain ⟨m1, r1, _, z1⟩ := DataW.trod_int Try.underlying3 h1
  obtain ⟨m2, r2, _, z2⟩ := DataW.trod_int Try.underlying3 h2
  obtain ⟨m3, r3, _, z3⟩ := DataW.trod_int Try.underlying5 h3
  simp only [List.cons.injEq, and_true] at r1 r2 r3
  subst r1 r2 r3
  obtain ⟨l, hd, hl⟩ := weights_of_trod h0
  exact ⟨c0, l, m1, m2, m3, rfl, hd, hl, bounds_i64 z1, bounds_i64 z2, bounds_u8 z3⟩

theorem LF_byF {l : List Rg} {m : Int} (h : LF l) (hm : 0 ≤ m ∧ m ≤ 255) (hw : ∀ k, k < l.length → 0 ≤ (l.getD k rg0).wt ∧ (l.getD k rg0).wt ≤ 1000) : LF (l.map (byF m)) := fun k hk => by
  rw [List.length_map] at hk
  have e : (l.map (byF m)).getD k rg0 = byF m (l.getD k rg0) := by simp [List.getD_eq_getElem?_getD, List.getElem?_eq_getElem hk]
  rw [e]
  obtain ⟨a, b, _⟩ := h k hk
  obtain ⟨c, d⟩ := hw k hk
  refine ⟨a, b, ?_⟩
  unfold I64 byF
  simp only
  have h1 : 0 ≤ (l.getD k rg0).wt * m := Int.mul_nonneg c hm.1
  have h2 : (l.getD k rg0).wt * m ≤ 1000 * m := Int.mul_le_mul_of_nonneg_right d hm.1
  omega

set_option maxRecDepth 100000 in
set_option maxHeartbeats 8000000 in
theorem walkDistScales {H : Type} {enc : TypeId × Value → H} {base : Nat} (v : Value) (d : DataW H) (p : List MemPlace) (w : World)
    (h : DataW.Trod enc Try.prog w 0 (fun _ => true) true 41 v d p) (hv : Value.okWide Try.prog w .any base 41 v) :
    Calls Try.prog 6 #[v] w fun e w' => e = .returned (.bool true) ∧ Below w.heap.size w w' := by
  obtain ⟨i0, hi, hz0, hz1, hz2⟩ := info_parts iwt
  have HI := Lib.hid hi
  have HZ0 := Lib.hid hz0
  have HZ1 := Lib.hid hz1
  have HZ2 := Lib.hid hz2
  obtain ⟨c, l, wd, x, m, rfl, hd, hf, ⟨wd0, wd1⟩, ⟨x0', x1'⟩, m0, m1⟩ := arg_scaled h hv
  have HD := Lib.hid hd
  obtain ⟨A, cp, rfl, hc, hm, hs⟩ := hd
  obtain ⟨N, hN⟩ : ∃ N, N = l.length := ⟨_, rfl⟩
  rw [← hN] at HD ⊢
  have HN := Lib.hid hN
  have HS := Lib.hid hs
  have HC := Lib.hid hc
  have HF := Lib.hid hf
  clear h hv hi hz0 hz1 hz2 hs hc hf
  by_cases hn : (30 : Int) < N
  · clear hN
    go_enter Try.func6, Try.ntmps6
    go_wp2_with fail
    refine (awake _).mono ?_; rintro e w1 ⟨rfl, hb⟩
    have HB1 := Lib.hid (below_step (below_alloc _ _) hb)
    go_wp2_with fail
    go_ret
    exact ⟨rfl, HB1.out⟩
  by_cases hm0 : m = 0
  · have f0 : (m == 0) = true := by simpa using hm0
    clear hN hm0
    go_enter Try.func6, Try.ntmps6
    go_wp2_with fail
    refine (awake _).mono ?_; rintro e w1 ⟨rfl, hb⟩
    have HB1 := Lib.hid (below_step (below_alloc _ _) hb)
    go_wp2_with fail
    go_ret
    exact ⟨rfl, HB1.out⟩
  have f0 : (m == 0) = false := by simpa using hm0
  clear hN
  go_enter Try.func6, Try.ntmps6
  go_wp2_with fail
  have X1 := Lib.hid (Box.new w 41 #[.slice A N cp, .int .i64 wd, .int .i64 x, .int .u8 m])
  have HB1 := Lib.hid (below_alloc w (.cells #[.slice A N cp, .int .i64 wd, .int .i64 x, .int .u8 m] 41))
  generalize w.alloc (.cells #[.slice A N cp, .int .i64 wd, .int .i64 x, .int .u8 m] 41) = w1 at *
  go_loopw [5, 4] (fun c o wr => ∃ (k : Nat) (v0 : Value), k ≤ N ∧ v0 = o ∧ c = .int .i64 k ∧ (∀ j, j < k → 0 ≤ (l.getD j rg0).wt ∧ (l.getD j rg0).wt ≤ 1000) ∧ wr.ownsRow w1.heap.size 43 4 v0 k (dcells ((l.map (byF m)).take k)) ∧ Below w1.heap.size w1 wr) (fun c _ _ => N - (intOf c).toNat)
  case atStart => exact ⟨0, _, Nat.zero_le _, rfl, rfl, fun j hj => absurd hj (by omega), World.ownsRow_nil _ _ _ _, Below.refl _ _⟩
  case round =>
    obtain ⟨k, v0, hk, rfl, rfl, hwt, hown, hb⟩ := hrel
    have HW := Lib.hid hwt
    have HOWN := Lib.hid hown
    have HBL := Lib.hid hb
    clear hwt hown hb
    by_cases hlt : k < N
    · have hlt2 : (k : Int) < N := by omega
      have hltl : k < l.length := by rw [← HN.out]; exact hlt
      obtain ⟨a, rfl, hr⟩ := HS.out (by omega)
      have hsu := take_map_succ l (byF m) k hltl
      obtain ⟨r, hrr⟩ : ∃ r, l.getD k rg0 = r := ⟨_, rfl⟩
      have HW3 : Hid ((0 ≤ r.wt ∧ r.wt ≤ 1000) → ∀ j, j < k + 1 → 0 ≤ (l.getD j rg0).wt ∧ (l.getD j rg0).wt ≤ 1000) := Lib.hid fun hh j hj => by
        by_cases he : j = k
        · subst he; rw [hrr]; exact hh
        · exact HW.out j (by omega)
      have hfit := HF.out k hltl
      rw [hrr] at hsu hfit
      obtain ⟨lo, hi, wt, ea⟩ := r
      obtain ⟨⟨_, _⟩, ⟨_, _⟩, ⟨_, _⟩⟩ := hfit
      simp only [byF] at hsu HW3
      obtain ⟨c0, c1, c2, c3⟩ := hr.at_ (below_step HB1.out HBL.out) hltl hrr
      have HBIG : Hid ((k + 1) * 32 ≤ 140737488355328) := Lib.hid (by omega)
      have X2 := X1.out.below HBL.out
      have x0 := X2.at_ 3 _ rfl
      have hzz : w.heap.size < wr.heap.size := X2.lt
      have HSU := Lib.hid hsu
      clear hr hrr hltl hsu X2
      by_cases g1 : wt < 0
      · clear HW3
        go_wp2_with fail
        refine (awake _).mono ?_; rintro e w5 ⟨rfl, hb⟩
        have HB5 := Lib.hid (below_step (below_step HB1.out HBL.out) (below_step (below_alloc _ _) hb))
        go_wp2_with fail
        go_ret
        exact ⟨rfl, HB5.out⟩
      by_cases g2 : 1000 < wt
      · clear HW3
        go_wp2_with fail
        refine (awake _).mono ?_; rintro e w5 ⟨rfl, hb⟩
        have HB5 := Lib.hid (below_step (below_step HB1.out HBL.out) (below_step (below_alloc _ _) hb))
        go_wp2_with fail
        go_ret
        exact ⟨rfl, HB5.out⟩
      have HW2 := Lib.hid (HW3.out ⟨by omega, by omega⟩)
      have g3 : 0 ≤ wt * m := Int.mul_nonneg (by omega) m0
      have g4 : wt * m ≤ 1000 * m := Int.mul_le_mul_of_nonneg_right (by omega) m0
      have g5 : wt * m ≤ 255000 := by omega
      have s1 : IntKind.i64.wrap m = m := wrapi (by omega) (by omega)
      clear HW3 HW g4
      go_wp2_with (at_builtin; refine wpList_append_own _ rfl _ _ 22 rfl w1.heap.size 43 i0 (.agg #[.int .i64 0, .int .i64 0, .int .i64 0, .bool false]) 4 32 Try.underlying22 HI.out HZ0.out HZ1.out HZ2.out rfl (by decide) v0 k (dcells ((l.map (byF m)).take k)) rfl ((HOWN.out.alloc _).alloc _) ⟨wr.heap.size + 1, 0, none⟩ 1 1 [.int .i64 lo, .int .i64 hi, .int .i64 (wt * m), .bool ea] rfl rfl ?c1 ?c2 ?c3 ?c4 ?c5 ?_)
      try (case c1 => exact news4)
      case c2 => first | exact ⟨rfl, rfl, rfl, rfl⟩ | (intro u hu; simp at hu; rcases hu with rfl | rfl | rfl | rfl <;> rfl)
      case c3 => unfold maxLen; omega
      case c4 => exact HBIG.out
      case c5 => exact Nat.le_trans HBL.out.size (by first | omega | (simp; omega))
      intro v' w5 hown5 hgrow _
      have HOWN5 : Hid (w5.ownsRow w1.heap.size 43 4 v' (k + 1) (dcells ((l.map (byF m)).take (k + 1)))) := by
        rw [HSU.out, dcells_append]; exact hown5
      have HBL5 := Lib.hid (below_grown2 HBL.out HBL.out.size HOWN.out hgrow)
      clear hown5 hgrow x0
      go_wp2_with fail
      go_roundw
      case rel => exact ⟨k + 1, v', by omega, rfl, by go_num, fun j hj => HW2.out j hj, HOWN5.out, HBL5.out⟩
      case measure => simp [intOf]; omega
    · have hkn : k = N := by omega
      have hlt2 : ¬ (k : Int) < N := by omega
      subst hkn
      have hlf2 : LF (l.map (byF m)) := LF_byF HF.out ⟨m0, m1⟩ (by rw [← HN.out]; exact HW.out)
      have HDK : Hid (DL wr v0 (l.map (byF m))) := Lib.hid (by
        have := DL.of_own HOWN.out
        rwa [HN.out, show l.length = (l.map (byF m)).length by simp, List.take_length] at this)
      have HBT := Lib.hid (below_step HB1.out HBL.out)
      have C1 := Lib.hid (fun w v h => distProb w v l wd x h HF.out wd0 wd1 x0' x1')
      have C2 := Lib.hid (fun w v h => distProb w v (l.map (byF m)) wd x h hlf2 wd0 wd1 x0' x1')
      have C3 := Lib.hid (fun w v h => distValid w v (l.map (byF m)) wd h hlf2 wd0 wd1)
      have HP : Hid (vld (l.map (byF m)) wd = 0 → (prob (l.map (byF m)) wd x).2.2 ≠ 3 → prob (l.map (byF m)) wd x = prob l wd x) := Lib.hid fun h1 h2 => byF_prob (by omega) (fun r hr => by
        obtain ⟨j, hj, rfl⟩ := List.getElem_of_mem hr
        have := HW.out j (by rw [HN.out]; exact hj)
        rw [List.getD_eq_getElem?_getD, List.getElem?_eq_getElem hj] at this
        exact this.1) h1 h2
      have X2 := Lib.hid (X1.out.below HBL.out)
      have x1 := X2.out.at_ 1 _ rfl
      have x2 := X2.out.at_ 2 _ rfl
      clear HOWN HW hlf2
      generalize prob (l.map (byF m)) wd x = q at *
      generalize prob l wd x = p at *
      generalize vld (l.map (byF m)) wd = va at *
      obtain ⟨q1, q2, q3⟩ := q
      obtain ⟨p1, p2, p3⟩ := p
      simp only [ret3r] at C1 C2
      simp only at HP
      have key : (q3 == 3) = true ∨ ((q3 == 3) = false ∧ (va != 0) = true) ∨ ((q3 == 3) = false ∧ (va != 0) = false ∧ q1 = p1 ∧ q2 = p2 ∧ q3 = p3) := by
        by_cases k1 : q3 = 3
        · exact .inl (by simpa using k1)
        · by_cases k2 : va = 0
          · have := HP.out k2 k1
            simp only [Prod.mk.injEq] at this
            exact .inr (.inr ⟨by simpa using k1, by simpa using k2, this⟩)
          · exact .inr (.inl ⟨by simpa using k1, by simpa using k2⟩)
      clear HP
      rcases key with k1 | ⟨k1, k2⟩ | ⟨k1, k2, rfl, rfl, rfl⟩
      · go_wp2_with fail
        refine (C1.out _ _ (HD.out.below HBT.out)).mono ?_; rintro e w2 ⟨rfl, hb⟩
        have X3 := Lib.hid (X2.out.below hb)
        have x3 := X3.out.at_ 1 _ rfl
        have x4 := X3.out.at_ 2 _ rfl
        have hz3 : w.heap.size < w2.heap.size := X3.out.lt
        have Y3 := Lib.hid (Box.new w2 33 #[.int .i64 p1, .int .i64 p2])
        have HB3 := Lib.hid (below_step HBT.out (below_step hb (below_alloc w2 (.cells #[.int .i64 p1, .int .i64 p2] 33))))
        have HDK3 := Lib.hid ((HDK.out.below hb).below (below_alloc w2 (.cells #[.int .i64 p1, .int .i64 p2] 33)))
        clear hb HDK X2 x1 x2
        go_wp2_with fail
        refine (C2.out _ _ HDK3.out).mono ?_; rintro e w4 ⟨rfl, hb⟩
        have X5 := Lib.hid ((X3.out.below (below_alloc w2 (.cells #[.int .i64 p1, .int .i64 p2] 33))).below hb)
        have x5 := X5.out.at_ 1 _ rfl
        have hz5 : w.heap.size < w4.heap.size := X5.out.lt
        have Y5 := Lib.hid ((Y3.out.below hb).below (below_alloc w4 (.cells #[.int .i64 q1, .int .i64 q2] 33)))
        have Z5 := Lib.hid (Box.new w4 33 #[.int .i64 q1, .int .i64 q2])
        have HB5 := Lib.hid (below_step HB3.out (below_step hb (below_alloc w4 (.cells #[.int .i64 q1, .int .i64 q2] 33))))
        have HDK5 := Lib.hid ((HDK3.out.below hb).below (below_alloc w4 (.cells #[.int .i64 q1, .int .i64 q2] 33)))
        clear hb HDK3 X3 Y3 HB3 x3 x4 hz3 X5
        go_wp2_with fail
        refine (awake _).mono ?_; rintro e w9 ⟨rfl, hb⟩
        have HB9 := Lib.hid (below_step HB5.out hb)
        clear hb
        go_wp2_with fail
        go_ret
        exact ⟨rfl, HB9.out⟩
      · go_wp2_with fail
        refine (C1.out _ _ (HD.out.below HBT.out)).mono ?_; rintro e w2 ⟨rfl, hb⟩
        have X3 := Lib.hid (X2.out.below hb)
        have x3 := X3.out.at_ 1 _ rfl
        have x4 := X3.out.at_ 2 _ rfl
        have hz3 : w.heap.size < w2.heap.size := X3.out.lt
        have Y3 := Lib.hid (Box.new w2 33 #[.int .i64 p1, .int .i64 p2])
        have HB3 := Lib.hid (below_step HBT.out (below_step hb (below_alloc w2 (.cells #[.int .i64 p1, .int .i64 p2] 33))))
        have HDK3 := Lib.hid ((HDK.out.below hb).below (below_alloc w2 (.cells #[.int .i64 p1, .int .i64 p2] 33)))
        clear hb HDK X2 x1 x2
        go_wp2_with fail
        refine (C2.out _ _ HDK3.out).mono ?_; rintro e w4 ⟨rfl, hb⟩
        have X5 := Lib.hid ((X3.out.below (below_alloc w2 (.cells #[.int .i64 p1, .int .i64 p2] 33))).below hb)
        have x5 := X5.out.at_ 1 _ rfl
        have hz5 : w.heap.size < w4.heap.size := X5.out.lt
        have Y5 := Lib.hid ((Y3.out.below hb).below (below_alloc w4 (.cells #[.int .i64 q1, .int .i64 q2] 33)))
        have Z5 := Lib.hid (Box.new w4 33 #[.int .i64 q1, .int .i64 q2])
        have HB5 := Lib.hid (below_step HB3.out (below_step hb (below_alloc w4 (.cells #[.int .i64 q1, .int .i64 q2] 33))))
        have HDK5 := Lib.hid ((HDK3.out.below hb).below (below_alloc w4 (.cells #[.int .i64 q1, .int .i64 q2] 33)))
        clear hb HDK3 X3 Y3 HB3 x3 x4 hz3 X5
        go_wp2_with fail
        refine (C3.out _ _ HDK5.out).mono ?_; rintro e w6 ⟨rfl, hb⟩
        have HB6 := Lib.hid (below_step HB5.out hb)
        clear hb
        go_wp2_with fail
        refine (awake _).mono ?_; rintro e w9 ⟨rfl, hb⟩
        have HB9 := Lib.hid (below_step HB6.out hb)
        clear hb
        go_wp2_with fail
        go_ret
        exact ⟨rfl, HB9.out⟩
      · go_wp2_with fail
        refine (C1.out _ _ (HD.out.below HBT.out)).mono ?_; rintro e w2 ⟨rfl, hb⟩
        have X3 := Lib.hid (X2.out.below hb)
        have x3 := X3.out.at_ 1 _ rfl
        have x4 := X3.out.at_ 2 _ rfl
        have hz3 : w.heap.size < w2.heap.size := X3.out.lt
        have Y3 := Lib.hid (Box.new w2 33 #[.int .i64 q1, .int .i64 q2])
        have HB3 := Lib.hid (below_step HBT.out (below_step hb (below_alloc w2 (.cells #[.int .i64 q1, .int .i64 q2] 33))))
        have HDK3 := Lib.hid ((HDK.out.below hb).below (below_alloc w2 (.cells #[.int .i64 q1, .int .i64 q2] 33)))
        clear hb HDK X2 x1 x2
        go_wp2_with fail
        refine (C2.out _ _ HDK3.out).mono ?_; rintro e w4 ⟨rfl, hb⟩
        have X5 := Lib.hid ((X3.out.below (below_alloc w2 (.cells #[.int .i64 q1, .int .i64 q2] 33))).below hb)
        have x5 := X5.out.at_ 1 _ rfl
        have hz5 : w.heap.size < w4.heap.size := X5.out.lt
        have Y5 := Lib.hid ((Y3.out.below hb).below (below_alloc w4 (.cells #[.int .i64 q1, .int .i64 q2] 33)))
        have Z5 := Lib.hid (Box.new w4 33 #[.int .i64 q1, .int .i64 q2])
        have HB5 := Lib.hid (below_step HB3.out (below_step hb (below_alloc w4 (.cells #[.int .i64 q1, .int .i64 q2] 33))))
        have HDK5 := Lib.hid ((HDK3.out.below hb).below (below_alloc w4 (.cells #[.int .i64 q1, .int .i64 q2] 33)))
        clear hb HDK3 X3 Y3 HB3 x3 x4 hz3 X5
        go_wp2_with fail
        refine (C3.out _ _ HDK5.out).mono ?_; rintro e w6 ⟨rfl, hb⟩
        have HB6 := Lib.hid (below_step HB5.out hb)
        have Y6 := Y5.out.below hb
        have Z6 := Z5.out.below hb
        have y0 := Y6.at_ 0 _ rfl
        have y1 := Y6.at_ 1 _ rfl
        have z0 := Z6.at_ 0 _ rfl
        have z1 := Z6.at_ 1 _ rfl
        clear hb Y6 Z6 Y5 Z5 x5
        go_wp2_with fail
        refine (awake _).mono ?_; rintro e w9 ⟨rfl, hb⟩
        have HB9 := Lib.hid (below_step HB6.out hb)
        clear hb
        go_wp2_with fail
        go_ret
        exact ⟨rfl, HB9.out⟩

end Go.Proofs.Ytiiacapilffhnaa
