/-
  Contracts of the reference's Total, of Support and its reference.
-/
import Derived.Test.YtiiacapilffhnaaDistF
namespace Go.Proofs.Ytiiacapilffhnaa
open Go.RowKit
set_option linter.unusedVariables false
set_option linter.unusedSimpArgs false

set_option maxRecDepth 100000 in
set_option maxHeartbeats 8000000 in
theorem refTotal (w : World) (v : Value) (l : List Rg) (wd : Int) (h : DL w v l) (hf : LF l) (w0 : -9223372036854775808 ≤ wd) (w1 : wd ≤ 9223372036854775807) :
    Calls Try.prog 12 #[v, .int .i64 wd] w fun e w' => e = .returned (.tuple #[.int .i64 (tot l wd).1, .int .i64 (tot l wd).2]) ∧ Below w.heap.size w w' := by
  have HVL : Hid (∀ w, DL w v l → Calls Try.prog 26 #[v, .int .i64 wd] w fun e w' => e = .returned (.int .i64 (vld l wd)) ∧ Below w.heap.size w w') := Lib.hid fun w h => refValid w v l wd h hf w0 w1
  have HD := Lib.hid h
  by_cases hv : vld l wd = 0
  case neg =>
    have HT := Lib.hid (tot_vld hv)
    have f : (vld l wd != 0) = true := by simpa using hv
    clear hv h
    go_enter Try.func12, Try.ntmps12
    go_wp2_with fail
    refine (HVL.out _ HD.out).mono ?_; rintro e w1 ⟨rfl, hb⟩
    have HB1 := Lib.hid hb
    clear hb
    go_wp2_with fail
    go_ret2
    exact ⟨ret2 (by rw [HT.out]) (by rw [HT.out]), HB1.out⟩
  have hrv := vld_RV hv
  have hsb := scl_bd hv
  obtain ⟨g1, g2, _, _, _⟩ := vld_zero hv
  obtain ⟨B, hB, B1, B2, hwr⟩ := pow_nat g1 g2
  have htv := fun h => tot_ok (l := l) (wd := wd) hv h
  have hts := fun h => tot_scl (l := l) (wd := wd) hv h
  rw [← hB] at htv
  rw [hv] at HVL
  have hE : ∀ x, wgtE l x = if (scl l).2 = 0 then wgt l (scl l).1 x else (0, (scl l).2) := fun x => by
    unfold wgtE sclE; rw [if_pos (vld_8 hv)]
  have hwt : ∀ (k : Nat), (k : Int) < 9223372036854775807 → ∀ w, DL w v l → Calls Try.prog 25 #[v, .int .i64 k] w fun e w' => e = .returned (.tuple #[.int .i64 (wgtE l k).1, .int .i64 (wgtE l k).2]) ∧ Below w.heap.size w w' := fun k hk w h => refWeight w v l k h hf (by omega) (by omega)
  simp only [hE] at hwt
  clear hE h
  generalize scl l = sc at *
  obtain ⟨n, se⟩ := sc
  simp only at htv hts hwt
  clear hv hB
  rcases hsb with hsb | ⟨rfl, n0, n1⟩
  · have hse : se = 3 := (Prod.mk.inj hsb).2
    subst hse
    have HT := Lib.hid (hts (by decide))
    have h0 := hwt 0 (by omega)
    simp only [show ((3 : Int) = 0) = False by simp, if_false] at h0
    have H0 := Lib.hid h0
    clear hts htv hsb hwt h0
    go_enter Try.func12, Try.ntmps12
    go_wp2_with fail
    refine (HVL.out _ HD.out).mono ?_; rintro e w1 ⟨rfl, hb⟩
    have HB1 := Lib.hid hb
    clear hb
    go_wp2_with fail
    go_loopw [8, 7] (fun c s wr => c = .int .i64 0 ∧ s = .int .i64 0 ∧ Below w.heap.size w wr) (fun _ _ _ => 1)
    case atStart => exact ⟨rfl, rfl, HB1.out⟩
    case round =>
      obtain ⟨rfl, rfl, hb⟩ := hrel
      have HBL := Lib.hid hb
      have b0 : (0 : Int) < B := by omega
      clear hb
      go_wp2_with fail
      refine (H0.out _ (HD.out.below HBL.out)).mono ?_; rintro e w3 ⟨rfl, hb3⟩
      have HBL2 := Lib.hid (below_step HBL.out hb3)
      clear hb3
      go_wp2_with fail
      go_ret2
      exact ⟨ret2 (by rw [HT.out]) (by rw [HT.out]), HBL2.out⟩
  simp only [if_true] at hwt
  have HT := Lib.hid (htv rfl)
  have HRV := Lib.hid hrv
  have HWT0 := Lib.hid hwt
  clear htv hts hrv hwt
  go_enter Try.func12, Try.ntmps12
  go_wp2_with fail
  refine (HVL.out _ HD.out).mono ?_; rintro e w1 ⟨rfl, hb⟩
  have HB1 := Lib.hid hb
  clear hb
  go_wp2_with fail
  go_loopw [8, 7] (fun c s wr => ∃ (k : Nat) (sm : Int), k ≤ B ∧ c = .int .i64 k ∧ s = .int .i64 sm ∧ 0 ≤ sm ∧ sm ≤ 9223372036854775807 ∧ totRun l n (B - k) k sm = tot l wd ∧ Below w.heap.size w wr) (fun c _ _ => B - (intOf c).toNat)
  case atStart => exact ⟨0, 0, Nat.zero_le _, rfl, rfl, by omega, by omega, HT.out.symm, HB1.out⟩
  case round =>
    obtain ⟨k, sm, hk, rfl, rfl, s0, s1, hg, hb⟩ := hrel
    have HG := Lib.hid hg
    have HBL := Lib.hid hb
    clear hg hb
    by_cases hlt : k < B
    · have hlt2 : (k : Int) < B := by omega
      have hww := wgt_ways HRV.out n0 k
      have hgo := tot_go (l := l) (n := n) (s := sm) hlt
      have he1 := tot_e1 (l := l) (n := n) (s := sm) hlt
      have he2 := tot_e2 (l := l) (n := n) (s := sm) hlt
      have hwt := HWT0.out k (by omega)
      rw [HG.out] at hgo he1 he2
      generalize wgt l n k = r at *
      obtain ⟨x, er⟩ := r
      simp only at hww hgo he1 he2 hwt
      have HWT := Lib.hid hwt
      clear hwt HG
      rcases hww with ⟨rfl, x0, x1⟩ | hww
      · have had : ∀ w, Calls Try.prog 29 #[.int .i64 sm, .int .i64 x] w fun e w' => e = .returned (.tuple #[.int .i64 (cV (sm + x)), .int .i64 (cE (sm + x))]) ∧ w = w' := fun w => refAdd sm x w (by omega) (by omega) (by omega) (by omega)
        rcases c_ways (sm + x) with ⟨e1, e2, e3, e4⟩ | ⟨e1, e2, e3⟩
        · simp only [e1, e2] at had
          have HAD := Lib.hid had
          have HG := Lib.hid (hgo rfl e2)
          clear hgo he1 he2 had e1 e2
          go_wp2_with fail
          refine (HWT.out _ (HD.out.below HBL.out)).mono ?_; rintro e w3 ⟨rfl, hb3⟩
          have HBL2 := Lib.hid (below_step HBL.out hb3)
          clear hb3 HBL
          go_wp2_with fail
          refine (HAD.out _).mono ?_; rintro e w4 ⟨rfl, rfl⟩
          go_wp2_with fail
          go_roundw
          case rel => exact ⟨k + 1, sm + x, by omega, by go_num, rfl, by omega, by omega, HG.out.symm, HBL2.out⟩
          case measure => simp [intOf]; omega
        · simp only [e1, e2] at had
          have HAD := Lib.hid had
          have HE := Lib.hid (he2 (by rw [e2]; decide))
          clear hgo he1 he2 had e1 e2 e3
          go_wp2_with fail
          refine (HWT.out _ (HD.out.below HBL.out)).mono ?_; rintro e w3 ⟨rfl, hb3⟩
          have HBL2 := Lib.hid (below_step HBL.out hb3)
          clear hb3 HBL
          go_wp2_with fail
          refine (HAD.out _).mono ?_; rintro e w4 ⟨rfl, rfl⟩
          go_wp2_with fail
          go_ret2
          exact ⟨ret2 (by rw [HE.out]) (by rw [HE.out]), HBL2.out⟩
      · obtain ⟨rfl, rfl⟩ := Prod.mk.inj hww
        have HE := Lib.hid (he1 (by decide))
        clear hgo he1 he2 hww
        go_wp2_with fail
        refine (HWT.out _ (HD.out.below HBL.out)).mono ?_; rintro e w3 ⟨rfl, hb3⟩
        have HBL2 := Lib.hid (below_step HBL.out hb3)
        clear hb3 HBL
        go_wp2_with fail
        go_ret2
        exact ⟨ret2 (by rw [HE.out]) (by rw [HE.out]), HBL2.out⟩
    · have hkn : k = B := by omega
      have hlt2 : ¬ (k : Int) < B := by omega
      subst hkn
      have HE : Hid ((sm, 0) = tot l wd) := Lib.hid (by have := HG.out; rwa [tot_end] at this)
      go_wp2_with fail
      go_ret2
      exact ⟨ret2 (by rw [← HE.out]) (by rw [← HE.out]), HBL.out⟩

end Go.Proofs.Ytiiacapilffhnaa
