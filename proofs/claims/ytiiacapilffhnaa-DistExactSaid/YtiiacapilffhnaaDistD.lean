/-
  Contracts of dist.owner and of the reference's first.
-/
import Derived.Test.YtiiacapilffhnaaDistC
import Derived.Outline
namespace Go.Proofs.Ytiiacapilffhnaa
open Go.RowKit
set_option linter.unusedVariables false
set_option linter.unusedSimpArgs false

/-- What owner returns. -/
def ownV (o : Option Rg) : Value := match o with
  | none => .tuple #[.agg #[.int .i64 0, .int .i64 0, .int .i64 0, .bool false], .bool false]
  | some r => .tuple #[.agg #[.int .i64 r.lo, .int .i64 r.hi, .int .i64 r.wt, .bool r.ea], .bool true]
set_option maxRecDepth 100000 in
set_option maxHeartbeats 4000000 in
theorem distOwner (w : World) (v : Value) (l : List Rg) (x : Int) (h : DL w v l) (x0 : -9223372036854775808 ≤ x) (x1 : x ≤ 9223372036854775807) :
    Calls Try.prog 30 #[v, .int .i64 x] w fun e w' => e = .returned (ownV (fnd l x)) ∧ Below w.heap.size w w' := by
  obtain ⟨A, c, rfl, hc, hm, hs⟩ := h
  obtain ⟨N, hN⟩ : ∃ N, N = l.length := ⟨_, rfl⟩
  have HN := Lib.hid hN
  rw [← hN]
  have HS := Lib.hid hs
  have HC : Hid (l.length ≤ c) := hc
  have hm2 : N ≤ 9223372036854775807 := by omega
  clear hs hN hc
  go_enter Try.func30, Try.ntmps30
  go_wp2_with fail
  go_loopw [10] (fun c wr => ∃ (k : Nat), k ≤ N ∧ c = .int .i64 k ∧ fnd (l.drop k) x = fnd l x ∧ Box wr w.heap.size #[.int .i64 0, .int .i64 0, .int .i64 0, .bool false] 43 ∧ Below w.heap.size w wr) (fun c _ => N - (intOf c).toNat)
  case atStart => exact ⟨0, Nat.zero_le _, rfl, rfl, Box.new _ _ _, below_alloc _ _⟩
  case round =>
    obtain ⟨k, hk, rfl, hg, hx, hb⟩ := hrel
    have HB := Lib.hid hb
    have HG := Lib.hid hg
    have HX := Lib.hid hx
    have hz : w.heap.size < wr.heap.size := hx.lt
    have g0 := HX.out.at_ 0 _ rfl
    have g1 := HX.out.at_ 1 _ rfl
    have g2 := HX.out.at_ 2 _ rfl
    have g3 := HX.out.at_ 3 _ rfl
    have z0 := HX.out.frozen 0
    have z1 := HX.out.frozen 1
    have z2 := HX.out.frozen 2
    have z3 := HX.out.frozen 3
    clear hb hg hx
    by_cases hlt : k < N
    · have hlt2 : (k : Int) < N := by omega
      have hltl : k < l.length := by rw [← HN.out]; exact hlt
      obtain ⟨a, rfl, hr⟩ := HS.out (by omega)
      obtain ⟨r, hrr⟩ : ∃ r, l.getD k rg0 = r := ⟨_, rfl⟩
      have hy := fnd_yes (v := x) hltl
      have hn := fnd_no (v := x) hltl
      rw [hrr] at hy hn
      obtain ⟨lo, hi, wt, ea⟩ := r
      obtain ⟨c0, c1, c2, c3⟩ := hr.at_ HB.out hltl hrr
      have HY := Lib.hid hy
      have HN2 := Lib.hid hn
      have hw := in_ways x ⟨lo, hi, wt, ea⟩
      simp only at hw
      clear hr hy hn hltl hrr
      rcases hw with ⟨hi1, f1, f2⟩ | ⟨hi1, hw⟩
      · have HL := Lib.hid (HG.out.symm.trans (HY.out hi1))
        clear hi1
        go_wp2_with fail
        refine bodyPost_ret (v := .tuple #[.agg #[.int .i64 lo, .int .i64 hi, .int .i64 wt, .bool ea], .bool true]) (by simp [results, Try.results30, go_sem, g0, g1, g2, g3, hz]) rfl ⟨by rw [HL.out]; rfl, ?_⟩
        exact ((((HB.out.setCell (Nat.le_refl _) _).setCell (Nat.le_refl _) _).setCell (Nat.le_refl _) _).setCell (Nat.le_refl _) _).alloc (by simp; omega) _
      · have HL := Lib.hid ((HN2.out hi1).symm.trans HG.out)
        clear hi1
        rcases hw with f1 | ⟨f1, f2⟩
        all_goals
          go_wp2_with fail
          go_roundw
          case rel => exact ⟨k + 1, by omega, by go_num, HL.out, HX.out.below (below_alloc _ _), HB.out.alloc HB.out.size _⟩
          case measure => simp [intOf]; omega
    · have hkn : k = N := by omega
      have hlt2 : ¬ (k : Int) < N := by omega
      have HE : Hid (fnd l x = none) := Lib.hid (by have := HG.out; rw [hkn, HN.out, fnd_end] at this; exact this.symm)
      clear hkn
      go_wp2_with fail
      refine bodyPost_ret (v := .tuple #[.agg #[.int .i64 0, .int .i64 0, .int .i64 0, .bool false], .bool false]) (by simp [results, Try.results30, go_sem, g0, g1, g2, g3]) rfl ⟨by rw [HE.out]; rfl, ?_⟩
      exact (((HB.out.setCell (Nat.le_refl _) _).setCell (Nat.le_refl _) _).setCell (Nat.le_refl _) _).setCell (Nat.le_refl _) _

set_option maxRecDepth 100000 in
set_option maxHeartbeats 4000000 in
theorem refFirst (w : World) (v : Value) (l : List Rg) (x : Int) (h : DL w v l) (x0 : -9223372036854775808 ≤ x) (x1 : x ≤ 9223372036854775807) :
    Calls Try.prog 31 #[v, .int .i64 x] w fun e w' => e = .returned (.int .i64 (fstI l x 0)) ∧ w = w' := by
  obtain ⟨A, c, rfl, hc, hm, hs⟩ := h
  obtain ⟨N, hN⟩ : ∃ N, N = l.length := ⟨_, rfl⟩
  have HN := Lib.hid hN
  rw [← hN]
  have HS := Lib.hid hs
  have HC : Hid (l.length ≤ c) := hc
  have hm2 : N ≤ 9223372036854775807 := by omega
  clear hs hN hc
  go_enter Try.func31, Try.ntmps31
  go_wp2_with fail
  go_loop [5] (fun c => ∃ (k : Nat), k ≤ N ∧ c = .int .i64 k ∧ fstI (l.drop k) x k = fstI l x 0) (fun c => N - (intOf c).toNat)
  case atStart => exact ⟨0, Nat.zero_le _, rfl, rfl⟩
  case round =>
    obtain ⟨k, hk, rfl, hg⟩ := hrel
    have HG := Lib.hid hg
    clear hg
    by_cases hlt : k < N
    · have hlt2 : (k : Int) < N := by omega
      have hltl : k < l.length := by rw [← HN.out]; exact hlt
      obtain ⟨a, rfl, hr⟩ := HS.out (by omega)
      obtain ⟨r, hrr⟩ : ∃ r, l.getD k rg0 = r := ⟨_, rfl⟩
      have hy := fstI_yes (v := x) hltl
      have hn := fstI_no (v := x) hltl
      rw [hrr] at hy hn
      obtain ⟨lo, hi, wt, ea⟩ := r
      obtain ⟨c0, c1, c2, c3⟩ := hr.at_ (Below.refl _ _) hltl hrr
      have HY := Lib.hid hy
      have HN2 := Lib.hid hn
      have hw := in_ways x ⟨lo, hi, wt, ea⟩
      simp only at hw
      clear hr hy hn hltl hrr
      rcases hw with ⟨hi1, f1, f2⟩ | ⟨hi1, hw⟩
      · have HL := Lib.hid (HG.out.symm.trans (HY.out hi1))
        clear hi1
        go_wp2_with fail
        go_ret
        exact ⟨ret1 HL.out.symm, rfl⟩
      · have HL := Lib.hid ((HN2.out hi1).symm.trans HG.out)
        clear hi1
        rcases hw with f1 | ⟨f1, f2⟩
        all_goals
          go_wp2_with fail
          go_round
          case rel => exact ⟨k + 1, by omega, by go_num, HL.out⟩
          case measure => simp [intOf]; omega
    · have hkn : k = N := by omega
      have hlt2 : ¬ (k : Int) < N := by omega
      have HE : Hid (fstI l x 0 = -1) := Lib.hid (by have := HG.out; rw [hkn, HN.out, fstI_end] at this; exact this.symm)
      clear hkn
      go_wp2_with fail
      go_ret
      exact ⟨ret1 HE.out.symm, rfl⟩

/-! Weights. -/
theorem wgt_bd {r : Rg} {n : Int} (hr : 0 ≤ r.lo ∧ r.lo ≤ r.hi ∧ r.hi ≤ 255 ∧ 0 ≤ r.wt ∧ r.wt ≤ 1000) (h1 : 1 ≤ n) : 0 ≤ n / (r.hi - r.lo + 1) ∧ n / (r.hi - r.lo + 1) ≤ n :=
  ⟨Int.ediv_nonneg (by omega) (by omega), Int.ediv_le_self _ (by omega)⟩
set_option maxRecDepth 100000 in
set_option maxHeartbeats 4000000 in
theorem distWeight (w : World) (v : Value) (l : List Rg) (n x : Int) (h : DL w v l) (hv : RV l) (n0 : 1 ≤ n) (n1 : n ≤ 9223372036854775807) (x0 : -9223372036854775808 ≤ x) (x1 : x ≤ 9223372036854775807) :
    Calls Try.prog 42 #[v, .int .i64 n, .int .i64 x] w fun e w' => e = .returned (.tuple #[.int .i64 (wgt l n x).1, .int .i64 (wgt l n x).2]) ∧ Below w.heap.size w w' := by
  have HO := Lib.hid (distOwner w v l x h x0 x1)
  rcases hf : fnd l x with _ | r
  · have HW : Hid (wgt l n x = (0, 0)) := Lib.hid (by unfold wgt; rw [hf])
    rw [hf] at HO
    simp only [ownV] at HO
    clear hf h hv
    go_enter Try.func42, Try.ntmps42
    go_wp2_with fail
    refine (HO.out).mono ?_; rintro e w1 ⟨rfl, hb⟩
    have HB1 := Lib.hid hb
    clear hb
    go_wp2_with fail
    go_ret2
    exact ⟨ret2 (by rw [HW.out]) (by rw [HW.out]), HB1.out.alloc HB1.out.size _⟩
  · have HW : Hid (wgt l n x = (cV (wgt1 r n), cE (wgt1 r n))) := Lib.hid (by unfold wgt; rw [hf])
    rw [hf] at HO
    have hr := hv.mem (fnd_mem hf).1
    have hd := wgt_bd hr n0
    obtain ⟨lo, hi, wt, ea⟩ := r
    simp only at hr hd
    obtain ⟨r0, r1, r2, r3, r4⟩ := hr
    obtain ⟨d0, d1⟩ := hd
    simp only [ownV] at HO
    clear hf h hv
    cases ea
    · have s1 : IntKind.i64.wrap (hi - lo) = hi - lo := IntWalk.i64_in _ (by omega)
      have s2 : IntKind.i64.wrap (hi - lo + 1) = hi - lo + 1 := IntWalk.i64_in _ (by omega)
      have s3 : IntKind.i64.wrap (n / (hi - lo + 1)) = n / (hi - lo + 1) := IntWalk.i64_in _ (by omega)
      have s4 : ¬ (hi - lo + 1 = 0) := by omega
      have s5 : (hi - lo + 1 == 0) = false := by simpa using s4
      have SZ : Hid (∀ w, Calls Try.prog 57 #[.agg #[.int .i64 lo, .int .i64 hi, .int .i64 wt, .bool false]] w fun e w' => e = .returned (.int .i64 (hi - lo + 1)) ∧ Below w.heap.size w w') := fun w => distSize lo hi wt false w (by omega) (by omega) (by omega)
      have MU : Hid (∀ w, Calls Try.prog 60 #[.int .i64 wt, .int .i64 (n / (hi - lo + 1))] w fun e w' => e = .returned (.tuple #[.int .i64 (cV (wt * (n / (hi - lo + 1)))), .int .i64 (cE (wt * (n / (hi - lo + 1))))]) ∧ w = w') := fun w => numMul wt _ w (by omega) (by omega) (by omega) (by omega)
      have HW2 : Hid (wgt l n x = (cV (wt * (n / (hi - lo + 1))), cE (wt * (n / (hi - lo + 1))))) := Lib.hid (by rw [HW.out]; rfl)
      clear HW
      go_enter Try.func42, Try.ntmps42
      go_wp2_with fail
      refine (HO.out).mono ?_; rintro e w1 ⟨rfl, hb⟩
      have HB1 := Lib.hid hb
      clear hb
      go_wp2_with fail
      refine (distIs _ _ _ _ _ (.inr rfl) _).mono ?_; rintro e w2 ⟨rfl, hb⟩
      have X2 := Lib.hid ((Box.new w1 43 _).below hb)
      have HB2 := Lib.hid (below_step HB1.out (below_step (below_alloc w1 _) hb))
      have g0 := X2.out.lat 0 _ rfl
      have g1 := X2.out.lat 1 _ rfl
      have g2 := X2.out.lat 2 _ rfl
      have g3 := X2.out.lat 3 _ rfl
      clear hb X2 HB1
      go_wp2_with fail
      refine wp_region_lat (by kernel_rfl) (by kernel_rfl) ?_
      repeat (go_big_quiet_step (first | exact lat_call (SZ.out _) | exact lat_same (MU.out _)))
      refine wpQuiet_nil ?_
      intro w3 hb3
      have HB3 := Lib.hid (below_step HB2.out hb3)
      clear hb3 g0 g1 g2 g3
      go_wp2_with fail
      go_ret2
      exact ⟨ret2 (by rw [HW2.out]) (by rw [HW2.out]), HB3.out⟩
    · have MU : Hid (∀ w, Calls Try.prog 60 #[.int .i64 wt, .int .i64 n] w fun e w' => e = .returned (.tuple #[.int .i64 (cV (wt * n)), .int .i64 (cE (wt * n))]) ∧ w = w') := fun w => numMul wt _ w (by omega) (by omega) (by omega) (by omega)
      have HW2 : Hid (wgt l n x = (cV (wt * n), cE (wt * n))) := Lib.hid (by rw [HW.out]; rfl)
      clear HW
      go_enter Try.func42, Try.ntmps42
      go_wp2_with fail
      refine (HO.out).mono ?_; rintro e w1 ⟨rfl, hb⟩
      have HB1 := Lib.hid hb
      clear hb
      go_wp2_with fail
      refine (distIs _ _ _ _ _ (.inr rfl) _).mono ?_; rintro e w2 ⟨rfl, hb⟩
      have X2 := Lib.hid ((Box.new w1 43 _).below hb)
      have HB2 := Lib.hid (below_step HB1.out (below_step (below_alloc w1 _) hb))
      have g2 := X2.out.at_ 2 _ rfl
      clear hb X2 HB1
      go_wp2_with fail
      refine (MU.out _).mono ?_; rintro e w3 ⟨rfl, rfl⟩
      go_wp2_with fail
      go_ret2
      exact ⟨ret2 (by rw [HW2.out]) (by rw [HW2.out]), HB2.out⟩

end Go.Proofs.Ytiiacapilffhnaa
