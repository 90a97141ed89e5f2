/-
  Contracts of dist.Valid and of its reference.
-/
import Derived.Test.YtiiacapilffhnaaDistSpec
import Derived.Test.YtiiacapilffhnaaBox
import Derived.Deep.QuietTactic
import Derived.BigQuiet
import Derived.WalkSpells
import Derived.LoopTactic
namespace Go.Proofs.Ytiiacapilffhnaa
open Go.RowKit
set_option linter.unusedVariables false
set_option linter.unusedSimpArgs false

set_option maxRecDepth 100000 in
set_option maxHeartbeats 4000000 in
theorem distValid (w : World) (v : Value) (l : List Rg) (wd : Int) (h : DL w v l) (hf : LF l) (w0 : -9223372036854775808 ≤ wd) (w1 : wd ≤ 9223372036854775807) :
    Calls Try.prog 20 #[v, .int .i64 wd] w fun e w' => e = .returned (.int .i64 (vld l wd)) ∧ Below w.heap.size w w' := by
  obtain ⟨A, c, rfl, hc, hm, hs⟩ := h
  by_cases h1 : wd < 1
  · have e : vld l wd = 1 := by unfold vld; rw [if_pos (.inl h1)]
    rw [e]
    clear e
    go_enter Try.func20, Try.ntmps20
    go_wp2_with fail
    go_ret
    exact ⟨rfl, Below.refl _ _⟩
  by_cases h2 : 8 < wd
  · have e : vld l wd = 1 := by unfold vld; rw [if_pos (.inr h2)]
    rw [e]
    clear e
    go_enter Try.func20, Try.ntmps20
    go_wp2_with fail
    go_ret
    exact ⟨rfl, Below.refl _ _⟩
  by_cases h3 : (16 : Int) < l.length
  · have e : vld l wd = 2 := by unfold vld; rw [if_neg (by omega), if_pos (by omega)]
    rw [e]
    clear e
    go_enter Try.func20, Try.ntmps20
    go_wp2_with fail
    go_ret
    exact ⟨rfl, Below.refl _ _⟩
  by_cases h4 : l.length = 0
  · have e : vld l wd = 1 := by unfold vld; rw [if_neg (by omega), if_neg (by omega), if_pos (by omega)]
    rw [e]
    clear e
    have f : ((l.length : Int) == 0) = true := by simpa using h4
    clear h4
    go_enter Try.func20, Try.ntmps20
    go_wp2_with fail
    go_ret
    exact ⟨rfl, Below.refl _ _⟩
  obtain ⟨a, rfl, hr⟩ := hs (by omega)
  obtain ⟨N, hN⟩ : ∃ N, N = l.length := ⟨_, rfl⟩
  have f : ((N : Int) == 0) = false := by simp; omega
  obtain ⟨B, hB, B1, B2, hwr⟩ := pow_wd (wd := wd) (by omega) (by omega)
  have HB2 := Lib.hid hB
  clear hB
  have HN := Lib.hid hN
  rw [← hN]
  have h3' : ¬ (16 : Int) < N := by omega
  have HR := Lib.hid hr
  have HF := Lib.hid hf
  have hpos : 0 < N := by omega
  clear hs hN hr hf h4
  go_enter Try.func20, Try.ntmps20
  go_wp2_with fail
  go_loopw [24] (fun c wr => ∃ (k : Nat), k ≤ N ∧ c = .int .i64 k ∧ (∀ j, j < k → rgOk (l.getD j rg0) wd = true) ∧ Below w.heap.size w wr) (fun c _ => N - (intOf c).toNat)
  case atStart => exact ⟨0, Nat.zero_le _, rfl, fun j hj => absurd hj (by omega), Below.refl _ _⟩
  case round =>
    obtain ⟨k, hk, rfl, hg, hb⟩ := hrel
    have HB := Lib.hid hb
    have HG := Lib.hid hg
    clear hb hg
    by_cases hlt : k < N
    · have hlt2 : (k : Int) < N := by omega
      obtain ⟨c0, c1, c2, c3⟩ := (HR.out.below HB.out).cells k (by rw [← HN.out]; exact hlt)
      obtain ⟨⟨_, _⟩, ⟨_, _⟩, ⟨_, _⟩⟩ := HF.out k (by rw [← HN.out]; exact hlt)
      have HV0 := vld_bad (l := l) (wd := wd) (by omega) (by rw [← HN.out]; omega) (k := k) (by rw [← HN.out]; exact hlt)
      have HV := Lib.hid HV0
      clear HV0
      generalize hrr : l.getD k rg0 = r at *
      have HRR := Lib.hid hrr
      clear hrr
      rcases rg_ways r wd B HB2.out with ⟨hv, hw⟩ | ⟨hv, f1, f2, ⟨f3, f3'⟩, f4, f5⟩
      · have HV2 := Lib.hid (HV.out hv)
        clear hv
        rcases hw with f1 | ⟨f1, f2⟩ | ⟨f1, f2, f3, f3'⟩ | ⟨f1, f2, ⟨f3, f3'⟩, f4⟩ | ⟨f1, f2, ⟨f3, f3'⟩, f4, f5⟩
        all_goals
          go_wp2_with fail
          go_quiet (fail)
          go_wp2_with fail
          go_ret
          exact ⟨ret1 HV2.out.symm, below_drewN (HB.out.alloc HB.out.size _) _⟩
      · have HV2 := Lib.hid hv
        clear hv
        go_wp2_with fail
        go_quiet (fail)
        go_wp2_with fail
        go_roundw
        case rel => exact ⟨k + 1, by omega, by go_num, fun j hj => by
            by_cases he : j = k
            · subst he; rw [HRR.out]; exact HV2.out
            · exact HG.out j (by omega), below_drewN (HB.out.alloc HB.out.size _) _⟩
        case measure => simp [intOf]; omega
    · have hkn : k = N := by omega
      have hlt2 : ¬ (k : Int) < N := by omega
      have e : vld l wd = 0 := vld_good (by omega) (by rw [← HN.out]; omega) (by rw [← HN.out]; omega) (fun j hj => HG.out j (by rw [← HN.out] at hj; omega))
      have HE := Lib.hid e
      clear hkn e
      go_wp2_with fail
      go_ret
      exact ⟨ret1 HE.out.symm, HB.out⟩
set_option maxRecDepth 100000 in
set_option maxHeartbeats 4000000 in
theorem refValid (w : World) (v : Value) (l : List Rg) (wd : Int) (h : DL w v l) (hf : LF l) (w0 : -9223372036854775808 ≤ wd) (w1 : wd ≤ 9223372036854775807) :
    Calls Try.prog 26 #[v, .int .i64 wd] w fun e w' => e = .returned (.int .i64 (vld l wd)) ∧ Below w.heap.size w w' := by
  obtain ⟨A, c, rfl, hc, hm, hs⟩ := h
  by_cases h1 : wd < 1
  · have e : vld l wd = 1 := by unfold vld; rw [if_pos (.inl h1)]
    rw [e]
    clear e
    go_enter Try.func26, Try.ntmps26
    go_wp2_with fail
    go_ret
    exact ⟨rfl, Below.refl _ _⟩
  by_cases h2 : 8 < wd
  · have e : vld l wd = 1 := by unfold vld; rw [if_pos (.inr h2)]
    rw [e]
    clear e
    go_enter Try.func26, Try.ntmps26
    go_wp2_with fail
    go_ret
    exact ⟨rfl, Below.refl _ _⟩
  by_cases h3 : (16 : Int) < l.length
  · have e : vld l wd = 2 := by unfold vld; rw [if_neg (by omega), if_pos (by omega)]
    rw [e]
    clear e
    go_enter Try.func26, Try.ntmps26
    go_wp2_with fail
    go_ret
    exact ⟨rfl, Below.refl _ _⟩
  obtain ⟨N, hN⟩ : ∃ N, N = l.length := ⟨_, rfl⟩
  obtain ⟨B, hB, B1, B2, hwr⟩ := pow_wd (wd := wd) (by omega) (by omega)
  have HB2 := Lib.hid hB
  clear hB
  have HN := Lib.hid hN
  rw [← hN]
  have h3' : ¬ (16 : Int) < N := by omega
  have HS := Lib.hid hs
  have HF := Lib.hid hf
  clear hs hN hf
  go_enter Try.func26, Try.ntmps26
  go_wp2_with fail
  go_loopw [5] (fun c wr => ∃ (k : Nat), k ≤ N ∧ c = .int .i64 k ∧ (∀ j, j < k → rgOk (l.getD j rg0) wd = true) ∧ Below w.heap.size w wr) (fun c _ => N - (intOf c).toNat)
  case atStart => exact ⟨0, Nat.zero_le _, rfl, fun j hj => absurd hj (by omega), Below.refl _ _⟩
  case round =>
    obtain ⟨k, hk, rfl, hg, hb⟩ := hrel
    have HB := Lib.hid hb
    have HG := Lib.hid hg
    clear hb hg
    by_cases hlt : k < N
    · have hlt2 : (k : Int) < N := by omega
      obtain ⟨a, rfl, hr⟩ := HS.out (by rw [← HN.out]; omega)
      have HR := Lib.hid hr
      clear hr
      obtain ⟨c0, c1, c2, c3⟩ := (HR.out.below HB.out).cells k (by rw [← HN.out]; exact hlt)
      obtain ⟨⟨_, _⟩, ⟨_, _⟩, ⟨_, _⟩⟩ := HF.out k (by rw [← HN.out]; exact hlt)
      have HV0 := vld_bad (l := l) (wd := wd) (by omega) (by rw [← HN.out]; omega) (k := k) (by rw [← HN.out]; exact hlt)
      have HV := Lib.hid HV0
      clear HV0
      generalize hrr : l.getD k rg0 = r at *
      have HRR := Lib.hid hrr
      clear hrr
      rcases rg_ways r wd B HB2.out with ⟨hv, hw⟩ | ⟨hv, f1, f2, ⟨f3, f3'⟩, f4, f5⟩
      · have HV2 := Lib.hid (HV.out hv)
        clear hv
        rcases hw with f1 | ⟨f1, f2⟩ | ⟨f1, f2, f3, f3'⟩ | ⟨f1, f2, ⟨f3, f3'⟩, f4⟩ | ⟨f1, f2, ⟨f3, f3'⟩, f4, f5⟩
        all_goals
          go_wp2_with fail
          go_ret
          exact ⟨ret1 HV2.out.symm, HB.out.alloc HB.out.size _⟩
      · have HV2 := Lib.hid hv
        clear hv
        go_wp2_with fail
        go_roundw
        case rel => exact ⟨k + 1, by omega, by go_num, fun j hj => by
            by_cases he : j = k
            · subst he; rw [HRR.out]; exact HV2.out
            · exact HG.out j (by omega), HB.out.alloc HB.out.size _⟩
        case measure => simp [intOf]; omega
    · have hkn : k = N := by omega
      have hlt2 : ¬ (k : Int) < N := by omega
      by_cases hz : N = 0
      · have HE : Hid (vld l wd = 1) := Lib.hid (by unfold vld; rw [if_neg (by omega), if_neg (by rw [← HN.out]; omega), if_pos (by rw [← HN.out]; omega)])
        have f : ((N : Int) == 0) = true := by simpa using hz
        clear hkn hz
        go_wp2_with fail
        go_ret
        exact ⟨ret1 HE.out.symm, HB.out⟩
      · have HE : Hid (vld l wd = 0) := Lib.hid (vld_good (by omega) (by rw [← HN.out]; omega) (by rw [← HN.out]; omega) (fun j hj => HG.out j (by rw [← HN.out] at hj; omega)))
        have f : ((N : Int) == 0) = false := by simpa using hz
        clear hkn hz
        go_wp2_with fail
        go_ret
        exact ⟨ret1 HE.out.symm, HB.out⟩

end Go.Proofs.Ytiiacapilffhnaa
