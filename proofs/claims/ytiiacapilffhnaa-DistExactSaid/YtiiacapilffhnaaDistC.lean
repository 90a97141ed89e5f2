/-
  Contracts of dist.scale, Scale, and of the reference's Scale.
-/
import Derived.Test.YtiiacapilffhnaaDistB
import Derived.IntWalk
namespace Go.Proofs.Ytiiacapilffhnaa
open Go.RowKit
set_option linter.unusedVariables false
set_option linter.unusedSimpArgs false

set_option maxRecDepth 100000 in
set_option maxHeartbeats 4000000 in
theorem distScale (w : World) (v : Value) (l : List Rg) (h : DL w v l) (hv : RV l) :
    Calls Try.prog 40 #[v] w fun e w' => e = .returned (.tuple #[.int .i64 (scl l).1, .int .i64 (scl l).2]) ∧ Below w.heap.size w w' := by
  obtain ⟨A, c, rfl, hc, hm, hs⟩ := h
  obtain ⟨N, hN⟩ : ∃ N, N = l.length := ⟨_, rfl⟩
  have HN := Lib.hid hN
  rw [← hN]
  have HS := Lib.hid hs
  have HV := Lib.hid hv
  have HC : Hid (l.length ≤ c) := hc
  have hm2 : N ≤ 9223372036854775807 := by omega
  clear hs hN hv hc
  go_enter Try.func40, Try.ntmps40
  go_wp2_with fail
  go_loopw [10, 4] (fun c s wr => ∃ (k : Nat) (n : Int), k ≤ N ∧ c = .int .i64 k ∧ s = .int .i64 n ∧ 1 ≤ n ∧ n ≤ 9223372036854775807 ∧ sclRun (l.drop k) n = scl l ∧ Below w.heap.size w wr) (fun c _ _ => N - (intOf c).toNat)
  case atStart => exact ⟨0, 1, Nat.zero_le _, rfl, rfl, by omega, by omega, rfl, Below.refl _ _⟩
  case round =>
    obtain ⟨k, n, hk, rfl, rfl, hn0, hn1, hg, hb⟩ := hrel
    have HB := Lib.hid hb
    have HG := Lib.hid hg
    clear hb hg
    by_cases hlt : k < N
    · have hlt2 : (k : Int) < N := by omega
      have hltl : k < l.length := by rw [← HN.out]; exact hlt
      obtain ⟨a, rfl, hr⟩ := HS.out (by omega)
      obtain ⟨v0, v1, v2, v3, v4⟩ := HV.out k hltl
      obtain ⟨r, hrr⟩ : ∃ r, l.getD k rg0 = r := ⟨_, rfl⟩
      have hgo := fun s => scl_go (s := s) hltl
      have hee := fun s => scl_each (s := s) hltl
      have her := fun s => scl_err (s := s) hltl
      rw [hrr] at v0 v1 v2 v3 v4 hgo hee her
      obtain ⟨lo, hi, wt, ea⟩ := r
      simp only at v0 v1 v2 v3 v4 hgo hee her
      obtain ⟨c0, c1, c2, c3⟩ := hr.at_ HB.out hltl hrr
      have HGO := Lib.hid hgo
      have HEE := Lib.hid hee
      have HER := Lib.hid her
      have LC : Hid (∀ w, Calls Try.prog 56 #[.int .i64 n, .int .i64 (hi - lo + 1)] w fun e w' => e = .returned (.tuple #[.int .i64 (cV (Int.lcm n (hi - lo + 1))), .int .i64 (cE (Int.lcm n (hi - lo + 1)))]) ∧ ∃ n, w' = w.drewN n) := fun w => numLcm n (hi - lo + 1) w (by omega) (by omega) (by omega) (by omega)
      have hp : (0 : Int) < ((Int.lcm n (hi - lo + 1) : Nat) : Int) := by
        have : 0 < Int.lcm n (hi - lo + 1) := Nat.pos_of_ne_zero fun h0 => by
          rcases Int.lcm_eq_zero_iff.1 h0 with h | h <;> omega
        omega
      clear hr hgo hee her hltl hrr
      cases ea
      · rcases c_ways (Int.lcm n (hi - lo + 1)) with ⟨e1, e2, e3, e4⟩ | ⟨e1, e2, e3⟩
        · have LC2 := LC.out
          simp only [e1, e2] at LC2
          have LC2 := Lib.hid LC2
          have HL := Lib.hid ((HGO.out n rfl e2).symm.trans HG.out)
          clear LC e1 e2 HGO HER HEE HG
          generalize ((Int.lcm n (hi - lo + 1) : Nat) : Int) = L at *
          go_wp2_with fail
          refine (distIs _ _ _ _ _ (.inl rfl) _).mono ?_; rintro e w1 ⟨rfl, hb1⟩
          have X1 := Lib.hid ((Box.new wr 43 _).below hb1)
          have HB1 := Lib.hid (below_step HB.out (below_step (below_alloc wr _) hb1))
          have g0 := X1.out.at_ 0 _ rfl
          have g1 := X1.out.at_ 1 _ rfl
          have g2 := X1.out.at_ 2 _ rfl
          have g3 := X1.out.at_ 3 _ rfl
          clear hb1 X1 HB c0 c1 c2 c3
          go_wp2_with fail
          refine (distSize _ _ _ _ _ (by omega) (by omega) (by omega)).mono ?_; rintro e w2 ⟨rfl, hb2⟩
          have HB2 := Lib.hid (below_step HB1.out hb2)
          clear hb2 HB1 g0 g1 g2 g3
          go_wp2_with fail
          refine (LC2.out _).mono ?_; rintro e w3 ⟨rfl, n3, rfl⟩
          go_wp2_with fail
          go_roundw
          case rel => exact ⟨k + 1, L, by omega, by go_num, rfl, by omega, by omega, HL.out, below_drewN HB2.out _⟩
          case measure => simp [intOf]; omega
        · have LC2 := LC.out
          simp only [e1, e2] at LC2
          have LC2 := Lib.hid LC2
          have HL : Hid (scl l = (0, 3)) := Lib.hid (HG.out.symm.trans (HER.out n rfl (by rw [e2]; decide)))
          clear LC e1 e2 e3 HGO HER HEE HG hp
          go_wp2_with fail
          refine (distIs _ _ _ _ _ (.inl rfl) _).mono ?_; rintro e w1 ⟨rfl, hb1⟩
          have X1 := Lib.hid ((Box.new wr 43 _).below hb1)
          have HB1 := Lib.hid (below_step HB.out (below_step (below_alloc wr _) hb1))
          have g0 := X1.out.at_ 0 _ rfl
          have g1 := X1.out.at_ 1 _ rfl
          have g2 := X1.out.at_ 2 _ rfl
          have g3 := X1.out.at_ 3 _ rfl
          clear hb1 X1 HB c0 c1 c2 c3
          go_wp2_with fail
          refine (distSize _ _ _ _ _ (by omega) (by omega) (by omega)).mono ?_; rintro e w2 ⟨rfl, hb2⟩
          have HB2 := Lib.hid (below_step HB1.out hb2)
          clear hb2 HB1 g0 g1 g2 g3
          go_wp2_with fail
          refine (LC2.out _).mono ?_; rintro e w3 ⟨rfl, n3, rfl⟩
          go_wp2_with fail
          go_ret2
          exact ⟨ret2 (by rw [HL.out]) (by rw [HL.out]), below_drewN HB2.out _⟩
      · have HL := Lib.hid ((HEE.out n rfl).symm.trans HG.out)
        clear LC HGO HER HEE HG
        go_wp2_with fail
        refine (distIs _ _ _ _ _ (.inl rfl) _).mono ?_; rintro e w1 ⟨rfl, hb1⟩
        have X1 := Lib.hid ((Box.new wr 43 _).below hb1)
        have HB1 := Lib.hid (below_step HB.out (below_step (below_alloc wr _) hb1))
        have g0 := X1.out.at_ 0 _ rfl
        have g1 := X1.out.at_ 1 _ rfl
        have g2 := X1.out.at_ 2 _ rfl
        have g3 := X1.out.at_ 3 _ rfl
        clear hb1 X1 HB c0 c1 c2 c3
        go_wp2_with fail
        go_roundw
        case rel => exact ⟨k + 1, n, by omega, by go_num, rfl, by omega, by omega, HL.out, HB1.out⟩
        case measure => simp [intOf]; omega
    · have hkn : k = N := by omega
      have hlt2 : ¬ (k : Int) < N := by omega
      have HE : Hid ((n, 0) = scl l) := Lib.hid (by have := HG.out; rw [hkn, HN.out, scl_end] at this; exact this)
      clear hkn
      go_wp2_with fail
      go_ret2
      exact ⟨ret2 (by rw [← HE.out]) (by rw [← HE.out]), HB.out⟩

/-- What Scale returns. -/
def sclE (l : List Rg) : Int × Int := if vld l 8 = 0 then scl l else (0, vld l 8)
theorem distScaleAll (w : World) (v : Value) (l : List Rg) (h : DL w v l) (hf : LF l) :
    Calls Try.prog 22 #[v] w fun e w' => e = .returned (.tuple #[.int .i64 (sclE l).1, .int .i64 (sclE l).2]) ∧ Below w.heap.size w w' := by
  have HV : Hid (∀ w, DL w v l → Calls Try.prog 20 #[v, .int .i64 8] w fun e w' => e = .returned (.int .i64 (vld l 8)) ∧ Below w.heap.size w w') := fun w h => distValid w v l 8 h hf (by omega) (by omega)
  have HD := Lib.hid h
  by_cases hz : vld l 8 = 0
  · have HZ : Hid (sclE l = scl l) := Lib.hid (by unfold sclE; rw [if_pos hz])
    have hv := Lib.hid (vld_RV hz)
    have HV := HV.out
    rw [hz] at HV
    have HV := Lib.hid HV
    clear hz h
    go_enter Try.func22, Try.ntmps22
    go_wp2_with fail
    refine (HV.out _ HD.out).mono ?_; rintro e w1 ⟨rfl, hb⟩
    have HB1 := Lib.hid hb
    clear hb
    go_wp2_with fail
    refine (distScale _ _ _ (HD.out.below HB1.out) hv.out).mono ?_; rintro e w2 ⟨rfl, hb⟩
    have HB2 := Lib.hid (below_step HB1.out hb)
    clear hb
    go_wp2_with fail
    go_ret2
    exact ⟨ret2 (by rw [HZ.out]) (by rw [HZ.out]), HB2.out⟩
  · have HZ : Hid (sclE l = (0, vld l 8)) := Lib.hid (by unfold sclE; rw [if_neg hz])
    have hz2 : (vld l 8 != 0) = true := by simpa using hz
    clear hz h
    go_enter Try.func22, Try.ntmps22
    go_wp2_with fail
    refine (HV.out _ HD.out).mono ?_; rintro e w1 ⟨rfl, hb⟩
    have HB1 := Lib.hid hb
    clear hb
    go_wp2_with fail
    go_ret2
    exact ⟨ret2 (by rw [HZ.out]) (by rw [HZ.out]), HB1.out⟩

set_option maxRecDepth 100000 in
set_option maxHeartbeats 4000000 in
theorem refScale (w : World) (v : Value) (l : List Rg) (h : DL w v l) (hf : LF l) :
    Calls Try.prog 23 #[v] w fun e w' => e = .returned (.tuple #[.int .i64 (sclE l).1, .int .i64 (sclE l).2]) ∧ Below w.heap.size w w' := by
  have HV : Hid (∀ w, DL w v l → Calls Try.prog 26 #[v, .int .i64 8] w fun e w' => e = .returned (.int .i64 (vld l 8)) ∧ Below w.heap.size w w') := fun w h => refValid w v l 8 h hf (by omega) (by omega)
  have HD := Lib.hid h
  by_cases hz : vld l 8 = 0
  · have HZ : Hid (sclE l = scl l) := Lib.hid (by unfold sclE; rw [if_pos hz])
    have hv := vld_RV hz
    have HV2 := HV.out
    rw [hz] at HV2
    have HV := Lib.hid HV2
    clear hz HV2
    obtain ⟨A, c, rfl, hc, hm, hs⟩ := h
    obtain ⟨N, hN⟩ : ∃ N, N = l.length := ⟨_, rfl⟩
    have HN := Lib.hid hN
    rw [← hN] at HV HD ⊢
    have HS := Lib.hid hs
    have HV1 := Lib.hid hv
    have HC : Hid (l.length ≤ c) := hc
    have hm2 : N ≤ 9223372036854775807 := by omega
    clear hs hN hv hc
    go_enter Try.func23, Try.ntmps23
    go_wp2_with fail
    refine (HV.out _ HD.out).mono ?_; rintro e w1 ⟨rfl, hb⟩
    have HB0 := Lib.hid hb
    clear hb
    go_wp2_with fail
    go_loopw [6, 5] (fun c s wr => ∃ (k : Nat) (n : Int), k ≤ N ∧ c = .int .i64 k ∧ s = .int .i64 n ∧ 1 ≤ n ∧ n ≤ 9223372036854775807 ∧ sclRun (l.drop k) n = scl l ∧ Below w.heap.size w wr) (fun c _ _ => N - (intOf c).toNat)
    case atStart => exact ⟨0, 1, Nat.zero_le _, rfl, rfl, by omega, by omega, rfl, HB0.out⟩
    case round =>
      obtain ⟨k, n, hk, rfl, rfl, hn0, hn1, hg, hb⟩ := hrel
      have HB := Lib.hid hb
      have HG := Lib.hid hg
      clear hb hg
      by_cases hlt : k < N
      · have hlt2 : (k : Int) < N := by omega
        have hltl : k < l.length := by rw [← HN.out]; exact hlt
        obtain ⟨a, rfl, hr⟩ := HS.out (by omega)
        obtain ⟨v0, v1, v2, v3, v4⟩ := HV1.out k hltl
        obtain ⟨r, hrr⟩ : ∃ r, l.getD k rg0 = r := ⟨_, rfl⟩
        have hgo := fun s => scl_go (s := s) hltl
        have hee := fun s => scl_each (s := s) hltl
        have her := fun s => scl_err (s := s) hltl
        rw [hrr] at v0 v1 v2 v3 v4 hgo hee her
        obtain ⟨lo, hi, wt, ea⟩ := r
        simp only at v0 v1 v2 v3 v4 hgo hee her
        obtain ⟨c0, c1, c2, c3⟩ := hr.at_ HB.out hltl hrr
        have HGO := Lib.hid hgo
        have HEE := Lib.hid hee
        have HER := Lib.hid her
        have LC : Hid (∀ w, Calls Try.prog 41 #[.int .i64 n, .int .i64 (hi - lo + 1)] w fun e w' => e = .returned (.tuple #[.int .i64 (cV (Int.lcm n (hi - lo + 1))), .int .i64 (cE (Int.lcm n (hi - lo + 1)))]) ∧ ∃ n, w' = w.drewN n) := fun w => refLcm n (hi - lo + 1) w (by omega) (by omega) (by omega) (by omega)
        have hp : (0 : Int) < ((Int.lcm n (hi - lo + 1) : Nat) : Int) := by
          have : 0 < Int.lcm n (hi - lo + 1) := Nat.pos_of_ne_zero fun h0 => by
            rcases Int.lcm_eq_zero_iff.1 h0 with h | h <;> omega
          omega
        have s1 : IntKind.i64.wrap (hi - lo) = hi - lo := IntWalk.i64_in _ (by omega)
        have s2 : IntKind.i64.wrap (hi - lo + 1) = hi - lo + 1 := IntWalk.i64_in _ (by omega)
        clear hr hgo hee her hltl hrr
        cases ea
        · rcases c_ways (Int.lcm n (hi - lo + 1)) with ⟨e1, e2, e3, e4⟩ | ⟨e1, e2, e3⟩
          · have LC2 := LC.out
            simp only [e1, e2] at LC2
            have LC2 := Lib.hid LC2
            have HL := Lib.hid ((HGO.out n rfl e2).symm.trans HG.out)
            clear LC e1 e2 HGO HER HEE HG
            generalize ((Int.lcm n (hi - lo + 1) : Nat) : Int) = L at *
            go_wp2_with fail
            go_quiet ((first | exact Calls.quiet_of (LC2.out _) | exact quiet_add (LC2.out _)))
            go_wp2_with fail
            go_roundw
            case rel => exact ⟨k + 1, L, by omega, by go_num, rfl, by omega, by omega, HL.out, below_drewN HB.out _⟩
            case measure => simp [intOf]; omega
          · have LC2 := LC.out
            simp only [e1, e2] at LC2
            have LC2 := Lib.hid LC2
            have HL : Hid (scl l = (0, 3)) := Lib.hid (HG.out.symm.trans (HER.out n rfl (by rw [e2]; decide)))
            clear LC e1 e2 e3 HGO HER HEE HG hp
            go_wp2_with fail
            go_quiet ((first | exact Calls.quiet_of (LC2.out _) | exact quiet_add (LC2.out _)))
            go_wp2_with fail
            go_ret2
            exact ⟨ret2 (by rw [HZ.out, HL.out]) (by rw [HZ.out, HL.out]), below_drewN HB.out _⟩
        · have HL := Lib.hid ((HEE.out n rfl).symm.trans HG.out)
          clear LC HGO HER HEE HG
          go_wp2_with fail
          go_roundw
          case rel => exact ⟨k + 1, n, by omega, by go_num, rfl, by omega, by omega, HL.out, HB.out⟩
          case measure => simp [intOf]; omega
      · have hkn : k = N := by omega
        have hlt2 : ¬ (k : Int) < N := by omega
        have HE : Hid ((n, 0) = scl l) := Lib.hid (by have := HG.out; rw [hkn, HN.out, scl_end] at this; exact this)
        clear hkn
        go_wp2_with fail
        go_ret2
        exact ⟨ret2 (by rw [HZ.out, ← HE.out]) (by rw [HZ.out, ← HE.out]), HB.out⟩
  · have HZ : Hid (sclE l = (0, vld l 8)) := Lib.hid (by unfold sclE; rw [if_neg hz])
    have hz2 : (vld l 8 != 0) = true := by simpa using hz
    clear hz h
    go_enter Try.func23, Try.ntmps23
    go_wp2_with fail
    refine (HV.out _ HD.out).mono ?_; rintro e w1 ⟨rfl, hb⟩
    have HB1 := Lib.hid hb
    clear hb
    go_wp2_with fail
    go_ret2
    exact ⟨ret2 (by rw [HZ.out]) (by rw [HZ.out]), HB1.out⟩

end Go.Proofs.Ytiiacapilffhnaa
