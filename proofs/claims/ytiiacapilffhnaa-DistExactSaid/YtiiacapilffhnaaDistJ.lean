/-
  Contracts of dist.Prob, of the laws' sample, numbers and awake.
-/
import Derived.Test.YtiiacapilffhnaaDistH
import Derived.Test.YtiiacapilffhnaaDistI
import Derived.Test.YtiiacapilffhnaaRatA
namespace Go.Proofs.Ytiiacapilffhnaa
open Go.RowKit
set_option linter.unusedVariables false
set_option linter.unusedSimpArgs false

/-- What Prob returns. -/
def prob (l : List Rg) (wd x : Int) : Int × Int × Int :=
  if vld l wd ≠ 0 then (0, 0, vld l wd) else if x < 0 ∨ (two wd : Int) ≤ x then (0, 0, 1) else if (tot l wd).2 ≠ 0 then (0, 0, (tot l wd).2) else mk (wgt l (scl l).1 x).1 (tot l wd).1
set_option maxRecDepth 100000 in
set_option maxHeartbeats 8000000 in
theorem distProb (w : World) (v : Value) (l : List Rg) (wd x : Int) (h : DL w v l) (hf : LF l) (w0 : -9223372036854775808 ≤ wd) (w1 : wd ≤ 9223372036854775807) (x0 : -9223372036854775808 ≤ x) (x1 : x ≤ 9223372036854775807) :
    Calls Try.prog 18 #[v, .int .i64 wd, .int .i64 x] w fun e w' => e = ret3r (prob l wd x) ∧ Below w.heap.size w w' := by
  have HVL : Hid (∀ w, DL w v l → Calls Try.prog 20 #[v, .int .i64 wd] w fun e w' => e = .returned (.int .i64 (vld l wd)) ∧ Below w.heap.size w w') := Lib.hid fun w h => distValid w v l wd h hf w0 w1
  have HW := Lib.hid (fun w h => distWeights w v l wd h hf w0 w1)
  have HD := Lib.hid h
  have hP : prob l wd x = if vld l wd ≠ 0 then (0, 0, vld l wd) else if x < 0 ∨ (two wd : Int) ≤ x then (0, 0, 1) else if (tot l wd).2 ≠ 0 then (0, 0, (tot l wd).2) else mk (wgt l (scl l).1 x).1 (tot l wd).1 := rfl
  clear h
  by_cases hv : vld l wd = 0
  case neg =>
    have HE : Hid (prob l wd x = (0, 0, vld l wd)) := Lib.hid (by rw [hP, if_pos hv])
    have f : (vld l wd != 0) = true := by simpa using hv
    clear hv hP
    go_enter Try.func18, Try.ntmps18
    go_wp2_with fail
    refine (HVL.out _ (HD.out.below (below_alloc _ _))).mono ?_; rintro e w1 ⟨rfl, hb⟩
    have Y1 := (Box.new w 33 #[.int .i64 0, .int .i64 0]).below hb
    have HB1 := Lib.hid (below_step (below_alloc w (.cells #[.int .i64 0, .int .i64 0] 33)) hb)
    have y0 := Y1.at_ 0 _ rfl
    have y1 := Y1.at_ 1 _ rfl
    have z0 := Y1.frozen 0
    have z1 := Y1.frozen 1
    clear hb Y1
    go_wp2_with fail
    refine bodyPost_ret (v := .tuple #[.agg #[.int .i64 0, .int .i64 0], .int .i64 (vld l wd)]) (by simp [results, Try.results18, go_sem, y0, y1]) rfl ⟨by rw [HE.out]; rfl, ?_⟩
    exact (HB1.out.setCell (Nat.le_refl _) _).setCell (Nat.le_refl _) _
  rw [if_neg (by rw [hv]; decide)] at hP
  obtain ⟨g1, g2, _, _, _⟩ := vld_zero hv
  obtain ⟨B, hB, B1, B2, hwr⟩ := pow_nat g1 g2
  rw [← hB] at hP
  rw [hv] at HVL
  by_cases c1 : x < 0 ∨ (B : Int) ≤ x
  · have HE : Hid (prob l wd x = (0, 0, 1)) := Lib.hid (by rw [hP, if_pos c1])
    clear hP hB hv
    have key : x < 0 ∨ (¬ x < 0 ∧ (B : Int) ≤ x) := by omega
    clear c1
    rcases key with c1 | ⟨c1, c2⟩
    all_goals
      go_enter Try.func18, Try.ntmps18
      go_wp2_with fail
      refine (HVL.out _ (HD.out.below (below_alloc _ _))).mono ?_; rintro e w1 ⟨rfl, hb⟩
      have Y1 := (Box.new w 33 #[.int .i64 0, .int .i64 0]).below hb
      have HB1 := Lib.hid (below_step (below_alloc w (.cells #[.int .i64 0, .int .i64 0] 33)) hb)
      have y0 := Y1.at_ 0 _ rfl
      have y1 := Y1.at_ 1 _ rfl
      have z0 := Y1.frozen 0
      have z1 := Y1.frozen 1
      clear hb Y1
      go_wp2_with fail
      refine bodyPost_ret (v := .tuple #[.agg #[.int .i64 0, .int .i64 0], .int .i64 1]) (by simp [results, Try.results18, go_sem, y0, y1]) rfl ⟨by rw [HE.out]; rfl, ?_⟩
      exact (HB1.out.setCell (Nat.le_refl _) _).setCell (Nat.le_refl _) _
  rw [if_neg c1] at hP
  have c2 : ¬ x < 0 := by omega
  have c3 : ¬ (B : Int) ≤ x := by omega
  rcases tot_ways l wd with ⟨h1, h2⟩ | ⟨h1, _, hs, n0, n1, t0, t1, hp, hj⟩
  · have HE : Hid (prob l wd x = (0, 0, (tot l wd).2)) := Lib.hid (by rw [hP, if_pos h1])
    have f : ((tot l wd).2 != 0) = true := by simpa using h1
    clear hP h1 hB hv c1
    generalize tot l wd = r at *
    obtain ⟨t, er⟩ := r
    simp only at h2 f HE
    subst h2
    go_enter Try.func18, Try.ntmps18
    go_wp2_with fail
    refine (HVL.out _ (HD.out.below (below_alloc _ _))).mono ?_; rintro e w1 ⟨rfl, hb⟩
    have Y1 := Lib.hid ((Box.new w 33 #[.int .i64 0, .int .i64 0]).below hb)
    have HB1 := Lib.hid (below_step (below_alloc w (.cells #[.int .i64 0, .int .i64 0] 33)) hb)
    clear hb
    go_wp2_with fail
    refine (HW.out _ (HD.out.below HB1.out)).mono ?_; rintro e w2 ⟨v2, rfl, _, hb⟩
    have Y2 := Y1.out.below hb
    have HB2 := Lib.hid (below_step HB1.out hb)
    have y0 := Y2.at_ 0 _ rfl
    have y1 := Y2.at_ 1 _ rfl
    have z0 := Y2.frozen 0
    have z1 := Y2.frozen 1
    clear hb Y1 Y2 HB1
    go_wp2_with fail
    refine bodyPost_ret (v := .tuple #[.agg #[.int .i64 0, .int .i64 0], .int .i64 er]) (by simp [results, Try.results18, go_sem, y0, y1]) rfl ⟨by rw [HE.out]; rfl, ?_⟩
    exact (HB2.out.setCell (Nat.le_refl _) _).setCell (Nat.le_refl _) _
  rw [if_neg (by rw [h1]; decide)] at hP
  obtain ⟨k, rfl⟩ := Int.eq_ofNat_of_zero_le (show 0 ≤ x by omega)
  have hkB : k < B := by omega
  have hl : twl l wd = wl l (scl l).1 (two wd) := twl_ok (s := (tot l wd).1) (Prod.ext rfl h1)
  have hte : tot l wd = ((tot l wd).1, 0) := Prod.ext rfl h1
  rw [← hB] at hl hj
  have hww := wgt_ways (vld_RV hv) n0 k
  have hjj := hj k hkB
  have hget := wl_get l (scl l).1 B k hkB
  generalize (scl l).1 = n at *
  have hu : 0 ≤ (wgt l n k).1 ∧ (wgt l n k).1 ≤ 9223372036854775807 := by
    rcases hww with h | h
    · exact h.2
    · exact absurd hjj (by rw [h]; decide)
  rw [hte] at HW
  generalize (tot l wd).1 = t at *
  generalize (wgt l n k).1 = u at *
  obtain ⟨u0, u1⟩ := hu
  have MK := Lib.hid (fun w => ratMake u t w (by omega) u1 (by omega) t1)
  rw [← hP] at MK
  generalize prob l wd k = r at *
  obtain ⟨ra, rb, re⟩ := r
  simp only [ret3r] at MK ⊢
  have HL := Lib.hid hl
  have HG := Lib.hid hget
  have hk0 : (0 : Int) ≤ (k : Int) := by omega
  have hkB2 : (k : Int) < (B : Int) := by omega
  clear hP hte h1 hs hp hj hl hget hww hjj hv hB c1
  go_enter Try.func18, Try.ntmps18
  go_wp2_with fail
  refine (HVL.out _ (HD.out.below (below_alloc _ _))).mono ?_; rintro e w1 ⟨rfl, hb⟩
  have Y1 := Lib.hid ((Box.new w 33 #[.int .i64 0, .int .i64 0]).below hb)
  have HB1 := Lib.hid (below_step (below_alloc w (.cells #[.int .i64 0, .int .i64 0] 33)) hb)
  clear hb
  go_wp2_with fail
  refine (HW.out _ (HD.out.below HB1.out)).mono ?_; rintro e w2 ⟨v2, rfl, hil, hb⟩
  have Y2 := Lib.hid (Y1.out.below hb)
  have HB2 := Lib.hid (below_step HB1.out hb)
  rw [HL.out] at hil
  obtain ⟨A, c, rfl, hc, hcell⟩ := hil
  rw [wl_len]
  obtain ⟨a, rfl, ha, hcl⟩ := hcell (by rw [wl_len]; omega)
  have g0 := hcl k (by rw [wl_len]; exact hkB)
  rw [HG.out] at g0
  clear hb Y1 HB1 hc hcell hcl ha
  go_wp2_with fail
  refine (MK.out _).mono ?_; rintro e w3 ⟨rfl, hb⟩
  have Y3 := Y2.out.below hb
  have HB3 := Lib.hid (below_step HB2.out hb)
  have y0 := Y3.at_ 0 _ rfl
  have y1 := Y3.at_ 1 _ rfl
  have z0 := Y3.frozen 0
  have z1 := Y3.frozen 1
  clear hb Y2 Y3 HB2 g0
  go_wp2_with fail
  refine bodyPost_ret (v := .tuple #[.agg #[.int .i64 ra, .int .i64 rb], .int .i64 re]) (by simp [results, Try.results18, go_sem, y0, y1]) rfl ⟨rfl, ?_⟩
  exact (HB3.out.setCell (Nat.le_refl _) _).setCell (Nat.le_refl _) _

/-! The example. -/
def smp : List Rg := [⟨0, 0, 2, true⟩, ⟨1, 3, 6, false⟩]
theorem smp_LF : LF smp := fun k hk => by
  have : k = 0 ∨ k = 1 := by simp [smp] at hk; omega
  unfold Rg.fit I64
  rcases this with rfl | rfl <;> decide
theorem lawSample (w : World) : Calls Try.prog 27 #[] w fun e w' => ∃ v, e = .returned v ∧ (DL w' v smp ∧ Below w.heap.size w w') := by
  go_enter Try.func27, Try.ntmps27
  go_wp2_with fail
  go_ret
  refine ⟨_, rfl, ⟨some ⟨w.heap.size, 0, none⟩, 2, rfl, by decide, by omega, fun _ => ⟨_, rfl, by simp, fun k hk => ?_⟩⟩, below_alloc _ _⟩
  have : k = 0 ∨ k = 1 := by simp [smp] at hk; omega
  rcases this with rfl | rfl <;> simp [Addr.add, smp, go_sem]
theorem smp_scl : sclE smp = (3, 0) := by decide +kernel
theorem smp_tot : tot smp 2 = (24, 0) := by decide +kernel
theorem smp_prob : prob smp 2 0 = (1, 4, 0) := by decide +kernel
theorem smp_nth : nth smp 2 6 = (1, 0) := by decide +kernel
theorem smp_sup : (sup smp 2).length = 4 := by decide +kernel
set_option maxRecDepth 100000 in
set_option maxHeartbeats 4000000 in
theorem awake (w : World) : Calls Try.prog 10 #[] w fun e w' => e = .returned (.bool true) ∧ Below w.heap.size w w' := by
  have C1 : Hid (∀ w v, DL w v smp → Calls Try.prog 22 #[v] w fun e w' => e = .returned (.tuple #[.int .i64 3, .int .i64 0]) ∧ Below w.heap.size w w') := Lib.hid fun w v h => by have := distScaleAll w v smp h smp_LF; rwa [smp_scl] at this
  have C2 : Hid (∀ w v, DL w v smp → Calls Try.prog 11 #[v, .int .i64 2] w fun e w' => e = .returned (.tuple #[.int .i64 24, .int .i64 0]) ∧ Below w.heap.size w w') := Lib.hid fun w v h => by have := distTotal w v smp 2 h smp_LF (by omega) (by omega); rwa [smp_tot] at this
  have C3 : Hid (∀ w v, DL w v smp → Calls Try.prog 18 #[v, .int .i64 2, .int .i64 0] w fun e w' => e = .returned (.tuple #[.agg #[.int .i64 1, .int .i64 4], .int .i64 0]) ∧ Below w.heap.size w w') := Lib.hid fun w v h => by have := distProb w v smp 2 0 h smp_LF (by omega) (by omega) (by omega) (by omega); rwa [smp_prob] at this
  have C4 : Hid (∀ w v, DL w v smp → Calls Try.prog 13 #[v, .int .i64 2, .int .i64 6] w fun e w' => e = .returned (.tuple #[.int .i64 1, .int .i64 0]) ∧ Below w.heap.size w w') := Lib.hid fun w v h => by have := distNth w v smp 2 6 h smp_LF (by omega) (by omega) (by omega) (by omega); rwa [smp_nth] at this
  have C5 : Hid (∀ w v, DL w v smp → Calls Try.prog 16 #[v, .int .i64 2] w (SPL w (sup smp 2))) := Lib.hid fun w v h => distSupport w v smp 2 h smp_LF (by omega) (by omega)
  have hsu := smp_sup
  generalize sup smp 2 = zs at *
  have HS := Lib.hid hsu
  clear hsu
  go_enter Try.func10, Try.ntmps10
  go_wp2_with fail
  refine (lawSample _).mono ?_; rintro e w1 ⟨v1, rfl, hd, hb⟩
  have HB1 := Lib.hid hb
  have HD := Lib.hid hd
  clear hb hd
  go_wp2_with fail
  refine (C1.out _ _ HD.out).mono ?_; rintro e w2 ⟨rfl, hb⟩
  have HB2 := Lib.hid (below_step HB1.out hb)
  clear hb HD HB1
  go_wp2_with fail
  refine (lawSample _).mono ?_; rintro e w3 ⟨v3, rfl, hd, hb⟩
  have HB3 := Lib.hid (below_step HB2.out hb)
  have HD := Lib.hid hd
  clear hb hd HB2
  go_wp2_with fail
  refine (C2.out _ _ HD.out).mono ?_; rintro e w4 ⟨rfl, hb⟩
  have HB4 := Lib.hid (below_step HB3.out hb)
  clear hb HD HB3
  go_wp2_with fail
  refine (lawSample _).mono ?_; rintro e w5 ⟨v5, rfl, hd, hb⟩
  have HB5 := Lib.hid (below_step HB4.out hb)
  have HD := Lib.hid hd
  clear hb hd HB4
  go_wp2_with fail
  refine (C3.out _ _ HD.out).mono ?_; rintro e w6 ⟨rfl, hb⟩
  have HB6 := Lib.hid (below_step HB5.out hb)
  clear hb HD HB5
  go_wp2_with fail
  refine (lawSample _).mono ?_; rintro e w7 ⟨v7, rfl, hd, hb⟩
  have Y7 := Lib.hid ((Box.new w6 33 #[.int .i64 1, .int .i64 4]).below hb)
  have HB7 := Lib.hid (below_step HB6.out (below_step (below_alloc w6 (.cells #[.int .i64 1, .int .i64 4] 33)) hb))
  have HD := Lib.hid hd
  clear hb hd HB6
  go_wp2_with fail
  refine (C4.out _ _ HD.out).mono ?_; rintro e w8 ⟨rfl, hb⟩
  have Y8 := Y7.out.below hb
  have HB8 := Lib.hid (below_step HB7.out hb)
  have y0 := Y8.at_ 0 _ rfl
  have y1 := Y8.at_ 1 _ rfl
  clear hb HD HB7 Y7 Y8
  go_wp2_with fail
  refine (lawSample _).mono ?_; rintro e w9 ⟨v9, rfl, hd, hb⟩
  have HB9 := Lib.hid (below_step HB8.out hb)
  have HD := Lib.hid hd
  clear hb hd HB8 y0 y1
  go_wp2_with fail
  refine (C5.out _ _ HD.out).mono ?_; rintro e w10 ⟨v10, rfl, hil, hb⟩
  have HB10 := Lib.hid (below_step HB9.out hb)
  obtain ⟨A, c, rfl, hc, _⟩ := hil
  rw [HS.out]
  clear hb HD HB9 hc
  go_wp2_with fail
  go_ret
  exact ⟨rfl, HB10.out⟩

set_option maxHeartbeats 2000000 in
theorem lawNumbers (w : World) (v1 v2 : Value) (l : List Int) (h1 : IL w v1 l) (h2 : IL w v2 l) (hl : l.length ≤ 9223372036854775807) :
    Calls Try.prog 15 #[v1, v2] w fun e w' => e = .returned (.bool true) ∧ ∃ n, w' = w.drewN n := by
  obtain ⟨A1, c1, rfl, hc1, h1⟩ := h1
  obtain ⟨A2, c2, rfl, hc2, h2⟩ := h2
  obtain ⟨N, hN⟩ : ∃ N, N = l.length := ⟨_, rfl⟩
  have hN2 := hN
  rw [← hN2] at h1 h2 hl hc1 hc2 ⊢
  have HN := Lib.hid hN
  have H1 := Lib.hid h1
  have H2 := Lib.hid h2
  clear hN hN2 h1 h2
  go_enter Try.func15, Try.ntmps15
  go_wp2_with fail
  go_loopw [5] (fun c wr => ∃ (k : Nat), k ≤ N ∧ c = .int .i64 k ∧ ∃ n, wr = w.drewN n) (fun c _ => N - (intOf c).toNat)
  case atStart => exact ⟨0, Nat.zero_le _, rfl, 0, rfl⟩
  case round =>
    obtain ⟨k, hk, rfl, n, rfl⟩ := hrel
    by_cases hlt : k < N
    · obtain ⟨a1, rfl, _, r1⟩ := H1.out (by omega)
      obtain ⟨a2, rfl, _, r2⟩ := H2.out (by omega)
      have g1 := r1 k hlt
      have g2 := r2 k hlt
      generalize l.getD k 0 = s at g1 g2
      have hlt2 : (k : Int) < N := by omega
      clear r1 r2
      go_wp2_with fail
      go_quiet (fail)
      go_wp2_with fail
      go_roundw
      case rel => exact ⟨k + 1, by omega, by go_num, _, rfl⟩
      case measure => simp [intOf]; omega
    · have hkn : k = N := by omega
      have hlt2 : ¬ (k : Int) < N := by omega
      clear hkn
      go_wp2_with fail
      go_ret
      exact ⟨rfl, n, rfl⟩

end Go.Proofs.Ytiiacapilffhnaa
