/-
  The laws DistWeights and DistTotals: the walks.
-/
import Derived.Test.YtiiacapilffhnaaDistJ
import Derived.Test.YtiiacapilffhnaaOpen
import Derived.OpenShut
namespace Go.Proofs.Ytiiacapilffhnaa
open Go.RowKit Go.WideShapes Go.ChangeShapes Go.Deep
set_option linter.unusedVariables false
set_option linter.unusedSimpArgs false

theorem add_off (a : Addr) (k j : Nat) (hj : 0 < j) : (a.add k).add j = ⟨(a.add k).block, (a.add k).off + j, none⟩ := by
  have : ¬ j = 0 := by omega
  unfold Addr.add
  rw [if_neg this]
/-- A reading of a slice of ranges. -/
theorem weights_of_trod {H : Type} {enc : TypeId × Value → H} {W : World} {fuel : Nat} {spare : Nat → Bool} {held : Bool} {c : Value} {x : DataW H × List MemPlace} (h : DataW.trod enc Try.prog W 0 spare held fuel 22 [c] = some x) :
    ∃ l, DL W c l ∧ LF l := by
  rcases open_structs Try.underlying22 Try.underlying43 (by kernel_rfl) (by kernel_rfl) h with hcs | ⟨a, len, cap, hcs, hl, hm, hi⟩
  · simp only [List.cons.injEq, and_true] at hcs
    subst hcs
    exact ⟨[], ⟨none, 0, rfl, Nat.le_refl _, by omega, fun h => absurd h (by simp)⟩, fun k hk => absurd hk (by simp)⟩
  simp only [List.cons.injEq, and_true] at hcs
  subst hcs
  have hex : ∀ i, i < len → ∃ r : Rg, W.cell? (a.add (i * 4)) = some (.int .i64 r.lo) ∧ W.cell? (a.add (i * 4 + 1)) = some (.int .i64 r.hi) ∧ W.cell? (a.add (i * 4 + 2)) = some (.int .i64 r.wt) ∧ W.cell? (a.add (i * 4 + 3)) = some (.bool r.ea) ∧ r.fit := fun i hil => by
    obtain ⟨v0, n0, y0, c0, t0⟩ := hi i hil 0 _ rfl
    obtain ⟨v1, n1, y1, c1, t1⟩ := hi i hil 1 _ rfl
    obtain ⟨v2, n2, y2, c2, t2⟩ := hi i hil 2 _ rfl
    obtain ⟨v3, n3, y3, c3, t3⟩ := hi i hil 3 _ rfl
    obtain ⟨m0, e0, _, z0⟩ := DataW.trod_int Try.underlying3 t0
    obtain ⟨m1, e1, _, z1⟩ := DataW.trod_int Try.underlying3 t1
    obtain ⟨m2, e2, _, z2⟩ := DataW.trod_int Try.underlying3 t2
    obtain ⟨b, e3, _⟩ := DataW.trod_bool Try.underlying4 t3
    simp only [List.cons.injEq, and_true] at e0 e1 e2 e3
    subst e0 e1 e2 e3
    exact ⟨⟨m0, m1, m2, b⟩, c0, c1, c2, c3, bounds_i64 z0, bounds_i64 z1, bounds_i64 z2⟩
  let f : Nat → Rg := fun i => if h : i < len then (hex i h).choose else rg0
  have hf : ∀ i, i < len → W.cell? (a.add (i * 4)) = some (.int .i64 (f i).lo) ∧ W.cell? (a.add (i * 4 + 1)) = some (.int .i64 (f i).hi) ∧ W.cell? (a.add (i * 4 + 2)) = some (.int .i64 (f i).wt) ∧ W.cell? (a.add (i * 4 + 3)) = some (.bool (f i).ea) ∧ (f i).fit := fun i hil => by
    show _ ∧ _ ∧ _ ∧ _ ∧ _
    simp only [f, dif_pos hil]
    exact (hex i hil).choose_spec
  have hget : ∀ k, k < len → ((List.range len).map f).getD k rg0 = f k := fun k hk => by simp [List.getD_eq_getElem?_getD, hk]
  have hlen : ((List.range len).map f).length = len := by simp
  refine ⟨(List.range len).map f, ⟨some a, cap, by rw [hlen], by rw [hlen]; exact hl, hm, fun hp => ⟨a, rfl, ?_, fun k hk => ?_⟩⟩, fun k hk => ?_⟩
  · have := (hf 0 (by omega)).1
    have h2 := World.block_lt_of_cell? _ _ this
    rwa [block_of_add] at h2
  · rw [hlen] at hk
    rw [hget k hk]
    obtain ⟨h0, h1, h2, h3, _⟩ := hf k hk
    refine ⟨h0, ?_, ?_, ?_⟩
    · rw [← add_off a (k * 4) 1 (by omega), add_add]; exact h1
    · rw [← add_off a (k * 4) 2 (by omega), add_add]; exact h2
    · rw [← add_off a (k * 4) 3 (by omega), add_add]; exact h3
  · rw [hlen] at hk
    rw [hget k hk]
    exact (hf k hk).2.2.2.2
/-- An argument that is a slice of ranges. -/
theorem arg_weights {H : Type} {enc : TypeId × Value → H} {W : World} {v : Value} {d : DataW H} {p : List MemPlace} {base : Nat} (h : DataW.Trod enc Try.prog W 0 (fun _ => true) true 22 v d p) (hv : Value.okWide Try.prog W .any base 22 v) :
    ∃ l, DL W v l ∧ LF l := by
  obtain ⟨a0, len, cap, rfl⟩ := okWide_slice Try.underlying22 hv
  obtain ⟨fuel, hf⟩ := h
  exact weights_of_trod hf

set_option maxRecDepth 100000 in
set_option maxHeartbeats 4000000 in
theorem walkDistWeights {H : Type} {enc : TypeId × Value → H} {base : Nat} (v : Value) (d : DataW H) (p : List MemPlace) (w : World)
    (h : DataW.Trod enc Try.prog w 0 (fun _ => true) true 22 v d p) (hv : Value.okWide Try.prog w .any base 22 v) (wd : Int) (hw : I64 wd) (x : Int) (hx : I64 x) :
    Calls Try.prog 7 #[v, .int .i64 wd, .int .i64 x] w fun e w' => e = .returned (.bool true) ∧ Below w.heap.size w w' := by
  obtain ⟨l, hd, hf⟩ := arg_weights h hv
  obtain ⟨w0, w1⟩ := hw
  obtain ⟨x0, x1⟩ := hx
  have C1 := Lib.hid (fun w h => distScaleAll w v l h hf)
  have C2 := Lib.hid (fun w h => refScale w v l h hf)
  have C3 := Lib.hid (fun w h => distWeightAll w v l x h hf x0 x1)
  have C4 := Lib.hid (fun w h => refWeight w v l x h hf x0 x1)
  have C5 := Lib.hid (fun w h => distValid w v l wd h hf w0 w1)
  have C6 := Lib.hid (fun w h => refValid w v l wd h hf w0 w1)
  generalize vld l wd = va at *
  generalize sclE l = s at *
  generalize wgtE l x = g at *
  obtain ⟨s1, s2⟩ := s
  obtain ⟨g1, g2⟩ := g
  simp only at C1 C2 C3 C4
  have HD := Lib.hid hd
  obtain ⟨A, c, rfl, _, _, _⟩ := hd
  obtain ⟨N, hN⟩ : ∃ N, N = l.length := ⟨_, rfl⟩
  rw [← hN] at HD C1 C2 C3 C4 C5 C6 ⊢
  clear hN h hv hf
  by_cases hn : (30 : Int) < N
  · go_enter Try.func7, Try.ntmps7
    go_wp2_with fail
    refine (awake _).mono ?_; rintro e w1 ⟨rfl, hb⟩
    go_wp2_with fail
    go_ret
    exact ⟨rfl, hb⟩
  · go_enter Try.func7, Try.ntmps7
    go_wp2_with fail
    refine (C1.out _ HD.out).mono ?_; rintro e w1 ⟨rfl, hb⟩
    have HB1 := Lib.hid hb
    clear hb
    go_wp2_with fail
    refine (C2.out _ (HD.out.below HB1.out)).mono ?_; rintro e w2 ⟨rfl, hb⟩
    have HB2 := Lib.hid (below_step HB1.out hb)
    clear hb
    go_wp2_with fail
    refine (C3.out _ (HD.out.below HB2.out)).mono ?_; rintro e w3 ⟨rfl, hb⟩
    have HB3 := Lib.hid (below_step HB2.out hb)
    clear hb
    go_wp2_with fail
    refine (C4.out _ (HD.out.below HB3.out)).mono ?_; rintro e w4 ⟨rfl, hb⟩
    have HB4 := Lib.hid (below_step HB3.out hb)
    clear hb
    go_wp2_with fail
    refine (C5.out _ (HD.out.below HB4.out)).mono ?_; rintro e w5 ⟨rfl, hb⟩
    have HB5 := Lib.hid (below_step HB4.out hb)
    clear hb
    go_wp2_with fail
    refine (C6.out _ (HD.out.below HB5.out)).mono ?_; rintro e w6 ⟨rfl, hb⟩
    have HB6 := Lib.hid (below_step HB5.out hb)
    clear hb
    go_wp2_with fail
    refine (awake _).mono ?_; rintro e w7 ⟨rfl, hb⟩
    have HB7 := Lib.hid (below_step HB6.out hb)
    clear hb
    go_wp2_with fail
    go_ret
    exact ⟨rfl, HB7.out⟩

theorem sup_len (l : List Rg) (wd : Int) : (sup l wd).length ≤ two wd := by
  unfold sup
  split
  · exact supRun_len _ _
  · simp
set_option maxRecDepth 100000 in
set_option maxHeartbeats 4000000 in
theorem walkDistTotals {H : Type} {enc : TypeId × Value → H} {base : Nat} (v : Value) (d : DataW H) (p : List MemPlace) (w : World)
    (h : DataW.Trod enc Try.prog w 0 (fun _ => true) true 22 v d p) (hv : Value.okWide Try.prog w .any base 22 v) (wd : Int) (hw : I64 wd) (x : Int) (hx : I64 x) :
    Calls Try.prog 3 #[v, .int .i64 wd, .int .i64 x] w fun e w' => e = .returned (.bool true) ∧ Below w.heap.size w w' := by
  obtain ⟨l, hd, hf⟩ := arg_weights h hv
  obtain ⟨w0, w1⟩ := hw
  obtain ⟨x0, x1⟩ := hx
  have C1 := Lib.hid (fun w h => distTotal w v l wd h hf w0 w1)
  have C2 := Lib.hid (fun w h => refTotal w v l wd h hf w0 w1)
  have C3 := Lib.hid (fun w h => distNth w v l wd x h hf w0 w1 x0 x1)
  have C4 := Lib.hid (fun w h => refNth w v l wd x h hf w0 w1 x0 x1)
  have C5 := Lib.hid (fun w h => distSupport w v l wd h hf w0 w1)
  have C6 := Lib.hid (fun w h => refSupport w v l wd h hf w0 w1)
  have hsl : (sup l wd).length ≤ 9223372036854775807 := by
    unfold sup
    by_cases hv : vld l wd = 0
    · rw [if_pos hv]
      obtain ⟨g1, g2, _⟩ := vld_zero hv
      obtain ⟨B, hB, _, hB2, _⟩ := pow_nat g1 g2
      have := supRun_len l (two wd)
      omega
    · rw [if_neg hv]; simp
  generalize sup l wd = zs at *
  generalize tot l wd = s at *
  generalize nth l wd x = g at *
  obtain ⟨s1, s2⟩ := s
  obtain ⟨g1, g2⟩ := g
  simp only at C1 C2 C3 C4
  have HD := Lib.hid hd
  have HSL := Lib.hid hsl
  obtain ⟨A, c, rfl, _, _, _⟩ := hd
  obtain ⟨N, hN⟩ : ∃ N, N = l.length := ⟨_, rfl⟩
  rw [← hN] at HD C1 C2 C3 C4 C5 C6 ⊢
  clear hN h hv hf hsl
  by_cases hn : (30 : Int) < N
  · go_enter Try.func3, Try.ntmps3
    go_wp2_with fail
    refine (awake _).mono ?_; rintro e w1 ⟨rfl, hb⟩
    go_wp2_with fail
    go_ret
    exact ⟨rfl, hb⟩
  · go_enter Try.func3, Try.ntmps3
    go_wp2_with fail
    refine (C1.out _ HD.out).mono ?_; rintro e w1 ⟨rfl, hb⟩
    have HB1 := Lib.hid hb
    clear hb
    go_wp2_with fail
    refine (C2.out _ (HD.out.below HB1.out)).mono ?_; rintro e w2 ⟨rfl, hb⟩
    have HB2 := Lib.hid (below_step HB1.out hb)
    clear hb
    go_wp2_with fail
    refine (C3.out _ (HD.out.below HB2.out)).mono ?_; rintro e w3 ⟨rfl, hb⟩
    have HB3 := Lib.hid (below_step HB2.out hb)
    clear hb
    go_wp2_with fail
    refine (C4.out _ (HD.out.below HB3.out)).mono ?_; rintro e w4 ⟨rfl, hb⟩
    have HB4 := Lib.hid (below_step HB3.out hb)
    clear hb
    go_wp2_with fail
    refine (C5.out _ (HD.out.below HB4.out)).mono ?_; rintro e w5 ⟨v5, rfl, hi5, hb⟩
    have HB5 := Lib.hid (below_step HB4.out hb)
    have HI5 := Lib.hid hi5
    clear hb hi5
    go_wp2_with fail
    refine (C6.out _ (HD.out.below HB5.out)).mono ?_; rintro e w6 ⟨v6, rfl, hi6, hb⟩
    have HB6 := Lib.hid (below_step HB5.out hb)
    have HI5 := Lib.hid (HI5.out.below hb)
    have HI6 := Lib.hid hi6
    clear hb hi6
    go_wp2_with fail
    refine (lawNumbers _ v5 v6 zs HI5.out HI6.out HSL.out).mono ?_; rintro e w7 ⟨rfl, n7, rfl⟩
    go_wp2_with fail
    refine (awake _).mono ?_; rintro e w8 ⟨rfl, hb⟩
    have HB8 := Lib.hid (below_step (below_drewN HB6.out n7) hb)
    clear hb
    go_wp2_with fail
    go_ret
    exact ⟨rfl, HB8.out⟩

end Go.Proofs.Ytiiacapilffhnaa
