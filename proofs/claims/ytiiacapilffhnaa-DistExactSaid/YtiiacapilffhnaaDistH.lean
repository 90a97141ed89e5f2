/-
  Contracts of Support and its reference.
-/
import Derived.Test.YtiiacapilffhnaaDistF
namespace Go.Proofs.Ytiiacapilffhnaa
open Go.RowKit
set_option linter.unusedVariables false
set_option linter.unusedSimpArgs false

/-- The post of Support. -/
def SPL (w : World) (zs : List Int) (e : Ending) (w' : World) : Prop := ∃ v, e = .returned v ∧ (IL w' v zs ∧ Below w.heap.size w w')

set_option maxRecDepth 100000 in
set_option maxHeartbeats 8000000 in
theorem distSupport (w : World) (v : Value) (l : List Rg) (wd : Int) (h : DL w v l) (hf : LF l) (w0 : -9223372036854775808 ≤ wd) (w1 : wd ≤ 9223372036854775807) :
    Calls Try.prog 16 #[v, .int .i64 wd] w (SPL w (sup l wd)) := by
  obtain ⟨i0, hi, hz0, hz1, hz2⟩ := info_parts iint
  have HI := Lib.hid hi
  have HZ0 := Lib.hid hz0
  have HZ1 := Lib.hid hz1
  have HZ2 := Lib.hid hz2
  have HVL : Hid (∀ w, DL w v l → Calls Try.prog 20 #[v, .int .i64 wd] w fun e w' => e = .returned (.int .i64 (vld l wd)) ∧ Below w.heap.size w w') := Lib.hid fun w h => distValid w v l wd h hf w0 w1
  have HD := Lib.hid h
  clear hi hz0 hz1 hz2
  by_cases hv : vld l wd = 0
  case neg =>
    have HL : Hid ([] = sup l wd) := Lib.hid (by unfold sup; rw [if_neg hv])
    have f : (vld l wd != 0) = true := by simpa using hv
    clear hv h
    go_enter Try.func16, Try.ntmps16
    go_wp2_with fail
    refine (HVL.out _ HD.out).mono ?_; rintro e w1 ⟨rfl, hb⟩
    have HB1 := Lib.hid hb
    clear hb
    go_wp2_with fail
    go_ret
    exact ⟨.slice none 0 0, rfl, by rw [← HL.out]; exact IL.nil _, HB1.out⟩
  obtain ⟨g1, g2, _, _, _⟩ := vld_zero hv
  obtain ⟨B, hB, B1, B2, hwr⟩ := pow_nat g1 g2
  have hl : sup l wd = supRun l (two wd) := by unfold sup; rw [if_pos hv]
  rw [← hB] at hl
  rw [hv] at HVL
  have HL := Lib.hid hl
  clear hl hv hB
  clear h
  go_enter Try.func16, Try.ntmps16
  go_wp2_with fail
  refine (HVL.out _ HD.out).mono ?_; rintro e w1 ⟨rfl, hb⟩
  have HB1 := Lib.hid hb
  clear hb
  go_wp2_with fail
  go_loopw [15, 5] (fun c o wr => ∃ (k q : Nat) (v0 : Value), k ≤ B ∧ q ≤ k ∧ v0 = o ∧ c = .int .i64 k ∧ wr.ownsRow w.heap.size 3 1 v0 q (icells (supRun l k)) ∧ Below w.heap.size w wr) (fun c _ _ => B - (intOf c).toNat)
  case atStart => exact ⟨0, 0, _, Nat.zero_le _, Nat.zero_le _, rfl, rfl, World.ownsRow_nil _ _ _ _, HB1.out⟩
  case round =>
    obtain ⟨k, q, v0, hk, hq, rfl, rfl, hown, hb⟩ := hrel
    have HOWN := Lib.hid hown
    have HBL := Lib.hid hb
    clear hown hb
    by_cases hlt : k < B
    · have hlt2 : (k : Int) < B := by omega
      have HBIG : Hid ((q + 1) * 8 ≤ 140737488355328) := Lib.hid (by omega)
      have how : Calls Try.prog 30 #[v, .int .i64 k] wr fun e w' => e = .returned (ownV (fnd l k)) ∧ Below wr.heap.size wr w' := distOwner wr v l k (HD.out.below HBL.out) (by omega) (by omega)
      rcases hfn : fnd l k with _ | r
      · rw [hfn] at how
        have HSU := Lib.hid (sup_no (l := l) (k := k) (by unfold supB; rw [hfn]))
        have HOW := Lib.hid how
        clear how hfn
        simp only [ownV] at HOW
        go_wp2_with fail
        refine (HOW.out).mono ?_; rintro e w3 ⟨rfl, hb3⟩
        have HOWN2 := Lib.hid (own_below HOWN.out hb3)
        have HBL2 := Lib.hid (below_step HBL.out hb3)
        clear hb3 HOWN HBL
        go_wp2_with fail
        go_roundw
        case rel => exact ⟨k + 1, q, v0, by omega, by omega, rfl, by go_num, by rw [HSU.out]; exact HOWN2.out.alloc _, HBL2.out.alloc HBL2.out.size _⟩
        case measure => simp [intOf]; omega
      · rw [hfn] at how
        by_cases hwt : 0 < r.wt
        · have HSU := Lib.hid (sup_yes (l := l) (k := k) (by unfold supB; rw [hfn]; simpa using hwt))
          have HOW := Lib.hid how
          clear how hfn
          obtain ⟨lo, hi, wt, ea⟩ := r
          simp only [ownV] at HOW hwt
          go_wp2_with fail
          refine (HOW.out).mono ?_; rintro e w3 ⟨rfl, hb3⟩
          have HOWN2 := Lib.hid ((own_below HOWN.out hb3).alloc (.cells #[.int .i64 lo, .int .i64 hi, .int .i64 wt, .bool ea] 43))
          have HBL2 := Lib.hid ((below_step HBL.out hb3).alloc (below_step HBL.out hb3).size (.cells #[.int .i64 lo, .int .i64 hi, .int .i64 wt, .bool ea] 43))
          clear hb3 HOWN HBL
          go_wp2_with (at_builtin; refine wpList_append_own _ rfl _ _ 29 rfl w.heap.size 3 i0 (.int .i64 0) 1 8 Try.underlying29 HI.out HZ0.out HZ1.out HZ2.out rfl (by decide) v0 q (icells (supRun l k)) rfl (HOWN2.out.alloc _) ⟨w3.heap.size + 1, 0, none⟩ 1 1 [.int .i64 k] rfl rfl ?c1 ?c2 ?c3 ?c4 ?c5 ?_)
          case c1 =>
            have hz1 : (w3.alloc (.cells #[.int .i64 lo, .int .i64 hi, .int .i64 wt, .bool ea] 43)).heap.size = w3.heap.size + 1 := by simp
            rw [← hz1]
            exact cell_one_new _ _ _
          case c2 => intro u hu; simp at hu; subst hu; rfl
          case c3 => unfold maxLen; omega
          case c4 => exact HBIG.out
          case c5 => exact Nat.le_trans HBL2.out.size (by simp)
          intro v' w5 hown5 hgrow _
          have HOWN5 : Hid (w5.ownsRow w.heap.size 3 1 v' (q + 1) (icells (supRun l (k + 1)))) := by
            rw [HSU.out]
            unfold icells at hown5 ⊢; rw [List.map_append]; exact hown5
          have HBL5 := Lib.hid (below_grown HBL2.out HBL2.out.size HOWN2.out hgrow)
          clear hown5 hgrow
          go_wp2_with fail
          go_roundw
          case rel => exact ⟨k + 1, q + 1, v', by omega, by omega, rfl, by go_num, HOWN5.out, HBL5.out⟩
          case measure => simp [intOf]; omega
        · have HSU := Lib.hid (sup_no (l := l) (k := k) (by unfold supB; rw [hfn]; simpa using hwt))
          have HOW := Lib.hid how
          clear how hfn
          obtain ⟨lo, hi, wt, ea⟩ := r
          simp only [ownV] at HOW hwt
          go_wp2_with fail
          refine (HOW.out).mono ?_; rintro e w3 ⟨rfl, hb3⟩
          have HOWN2 := Lib.hid ((own_below HOWN.out hb3).alloc (.cells #[.int .i64 lo, .int .i64 hi, .int .i64 wt, .bool ea] 43))
          have HBL2 := Lib.hid ((below_step HBL.out hb3).alloc (below_step HBL.out hb3).size (.cells #[.int .i64 lo, .int .i64 hi, .int .i64 wt, .bool ea] 43))
          clear hb3 HOWN HBL
          go_wp2_with fail
          go_roundw
          case rel => exact ⟨k + 1, q, v0, by omega, by omega, rfl, by go_num, by rw [HSU.out]; exact HOWN2.out, HBL2.out⟩
          case measure => simp [intOf]; omega
    · have hkn : k = B := by omega
      have hlt2 : ¬ (k : Int) < B := by omega
      subst hkn
      have HIL := Lib.hid (IL.of_own HOWN.out)
      go_wp2_with fail
      go_ret
      exact ⟨v0, rfl, by rw [HL.out]; exact HIL.out, HBL.out⟩

set_option maxRecDepth 100000 in
set_option maxHeartbeats 8000000 in
theorem refSupport (w : World) (v : Value) (l : List Rg) (wd : Int) (h : DL w v l) (hf : LF l) (w0 : -9223372036854775808 ≤ wd) (w1 : wd ≤ 9223372036854775807) :
    Calls Try.prog 17 #[v, .int .i64 wd] w (SPL w (sup l wd)) := by
  obtain ⟨i0, hi, hz0, hz1, hz2⟩ := info_parts iint
  have HI := Lib.hid hi
  have HZ0 := Lib.hid hz0
  have HZ1 := Lib.hid hz1
  have HZ2 := Lib.hid hz2
  have HVL : Hid (∀ w, DL w v l → Calls Try.prog 26 #[v, .int .i64 wd] w fun e w' => e = .returned (.int .i64 (vld l wd)) ∧ Below w.heap.size w w') := Lib.hid fun w h => refValid w v l wd h hf w0 w1
  have HD := Lib.hid h
  clear hi hz0 hz1 hz2
  by_cases hv : vld l wd = 0
  case neg =>
    have HL : Hid ([] = sup l wd) := Lib.hid (by unfold sup; rw [if_neg hv])
    have f : (vld l wd != 0) = true := by simpa using hv
    clear hv h
    go_enter Try.func17, Try.ntmps17
    go_wp2_with fail
    refine (HVL.out _ HD.out).mono ?_; rintro e w1 ⟨rfl, hb⟩
    have HB1 := Lib.hid hb
    clear hb
    go_wp2_with fail
    go_ret
    exact ⟨.slice none 0 0, rfl, by rw [← HL.out]; exact IL.nil _, HB1.out⟩
  obtain ⟨g1, g2, _, _, _⟩ := vld_zero hv
  obtain ⟨B, hB, B1, B2, hwr⟩ := pow_nat g1 g2
  have hl : sup l wd = supRun l (two wd) := by unfold sup; rw [if_pos hv]
  rw [← hB] at hl
  rw [hv] at HVL
  have HL := Lib.hid hl
  clear hl hv hB
  obtain ⟨A, c, rfl, hc, hm, hs⟩ := h
  obtain ⟨N, hN⟩ : ∃ N, N = l.length := ⟨_, rfl⟩
  rw [← hN] at HD HVL ⊢
  have HN := Lib.hid hN
  have HS := Lib.hid hs
  have HC : Hid (l.length ≤ c) := hc
  clear hN hs hc
  go_enter Try.func17, Try.ntmps17
  go_wp2_with fail
  refine (HVL.out _ HD.out).mono ?_; rintro e w1 ⟨rfl, hb⟩
  have HB1 := Lib.hid hb
  clear hb
  go_wp2_with fail
  go_loopw [6, 5] (fun c o wr => ∃ (k q : Nat) (v0 : Value), k ≤ B ∧ q ≤ k ∧ v0 = o ∧ c = .int .i64 k ∧ wr.ownsRow w.heap.size 3 1 v0 q (icells (supRun l k)) ∧ Below w.heap.size w wr) (fun c _ _ => B - (intOf c).toNat)
  case atStart => exact ⟨0, 0, _, Nat.zero_le _, Nat.zero_le _, rfl, rfl, World.ownsRow_nil _ _ _ _, HB1.out⟩
  case round =>
    obtain ⟨k, q, v0, hk, hq, rfl, rfl, hown, hb⟩ := hrel
    have HOWN := Lib.hid hown
    have HBL := Lib.hid hb
    clear hown hb
    by_cases hlt : k < B
    · have hlt2 : (k : Int) < B := by omega
      have HBIG : Hid ((q + 1) * 8 ≤ 140737488355328) := Lib.hid (by omega)
      have how : Calls Try.prog 31 #[.slice A N c, .int .i64 k] wr fun e w' => e = .returned (.int .i64 (fstI l k 0)) ∧ wr = w' := refFirst wr (.slice A N c) l k (HD.out.below HBL.out) (by omega) (by omega)
      rcases fstI_fnd l k 0 with ⟨h1, h2⟩ | ⟨i, h1, h2, h3⟩
      · rw [h1] at how
        have HSU := Lib.hid (sup_no (l := l) (k := k) (by unfold supB; rw [h2]))
        have HOW := Lib.hid how
        clear how h1 h2
        go_wp2_with fail
        refine (HOW.out).mono ?_; rintro e w3 ⟨rfl, rfl⟩
        go_wp2_with fail
        go_roundw
        case rel => exact ⟨k + 1, q, v0, by omega, by omega, rfl, by go_num, by rw [HSU.out]; exact HOWN.out, HBL.out⟩
        case measure => simp [intOf]; omega
      · rw [h1] at how
        simp only [Nat.zero_add] at how
        obtain ⟨a, rfl, hg⟩ := HS.out (by omega)
        obtain ⟨r, hrr⟩ : ∃ r, l.getD i rg0 = r := ⟨_, rfl⟩
        have HOW := Lib.hid how
        have h2i : (i : Int) < N := by rw [HN.out]; omega
        have h2n : (0 : Int) ≤ (i : Int) := by omega
        by_cases hwt : 0 < r.wt
        · have HSU := Lib.hid (sup_yes (l := l) (k := k) (by unfold supB; rw [h3, hrr]; simpa using hwt))
          obtain ⟨lo, hi, wt, ea⟩ := r
          obtain ⟨c0, c1, c2, c3⟩ := hg.at_ HBL.out h2 hrr
          simp only at hwt
          clear how h1 h2 h3 hg hrr
          go_wp2_with fail
          refine (HOW.out).mono ?_; rintro e w3 ⟨rfl, rfl⟩
          have HOWN2 := HOWN
          have HBL2 := HBL
          go_wp2_with (at_builtin; refine wpList_append_own _ rfl _ _ 29 rfl w.heap.size 3 i0 (.int .i64 0) 1 8 Try.underlying29 HI.out HZ0.out HZ1.out HZ2.out rfl (by decide) v0 q (icells (supRun l k)) rfl (HOWN2.out.alloc _) ⟨wr.heap.size, 0, none⟩ 1 1 [.int .i64 k] rfl rfl ?c1 ?c2 ?c3 ?c4 ?c5 ?_)
          case c1 => exact cell_one_new _ _ _
          case c2 => intro u hu; simp at hu; subst hu; rfl
          case c3 => unfold maxLen; omega
          case c4 => exact HBIG.out
          case c5 => exact Nat.le_trans HBL2.out.size (by simp)
          intro v' w5 hown5 hgrow _
          have HOWN5 : Hid (w5.ownsRow w.heap.size 3 1 v' (q + 1) (icells (supRun l (k + 1)))) := by
            rw [HSU.out]
            unfold icells at hown5 ⊢; rw [List.map_append]; exact hown5
          have HBL5 := Lib.hid (below_grown HBL2.out HBL2.out.size HOWN2.out hgrow)
          clear hown5 hgrow
          go_wp2_with fail
          go_roundw
          case rel => exact ⟨k + 1, q + 1, v', by omega, by omega, rfl, by go_num, HOWN5.out, HBL5.out⟩
          case measure => simp [intOf]; omega
        · have HSU := Lib.hid (sup_no (l := l) (k := k) (by unfold supB; rw [h3, hrr]; simpa using hwt))
          obtain ⟨lo, hi, wt, ea⟩ := r
          obtain ⟨c0, c1, c2, c3⟩ := hg.at_ HBL.out h2 hrr
          simp only at hwt
          clear how h1 h2 h3 hg hrr
          go_wp2_with fail
          refine (HOW.out).mono ?_; rintro e w3 ⟨rfl, rfl⟩
          go_wp2_with fail
          go_roundw
          case rel => exact ⟨k + 1, q, v0, by omega, by omega, rfl, by go_num, by rw [HSU.out]; exact HOWN.out, HBL.out⟩
          case measure => simp [intOf]; omega
    · have hkn : k = B := by omega
      have hlt2 : ¬ (k : Int) < B := by omega
      subst hkn
      have HIL := Lib.hid (IL.of_own HOWN.out)
      go_wp2_with fail
      go_ret
      exact ⟨v0, rfl, by rw [HL.out]; exact HIL.out, HBL.out⟩

end Go.Proofs.Ytiiacapilffhnaa
