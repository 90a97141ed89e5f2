/-
  Contracts of the reference's natural numbers: common, int63, quotient.
-/
import Derived.Test.YtbaalbmchhgmnaaDoorBigD
import Derived.Test.YtbaalbmchhgmnaaDoorRatSpec
import Derived.Test.YtbaalbmchhgmnaaDoorBox
namespace Go.Proofs.YtbaalbmchhgmnaaDoor
open Go.RowKit
set_option linter.unusedVariables false
set_option linter.unusedSimpArgs false

/-- The numbers that a slice reads as. -/
def digsOf (w : World) : Value → List Int
  | .slice (some a) n _ => (List.range n).map fun i => match w.cell? (a.add i) with | some (.int _ x) => x | _ => 0
  | _ => []
theorem digsOf_il {w : World} {v : Value} {zs : List Int} (h : IL w v zs) : digsOf w v = zs := by
  obtain ⟨A, c, rfl, hc, hs⟩ := h
  cases hz : zs with
  | nil => cases A <;> simp [digsOf]
  | cons d m =>
    obtain ⟨a, rfl, _, hcl⟩ := hs (by rw [hz]; simp)
    rw [← hz]
    unfold digsOf
    apply List.ext_getElem (by simp)
    intro i h1 h2
    simp only [List.getElem_map, List.getElem_range]
    rw [hcl i (by simpa using h2)]
    simp [List.getD_eq_getElem?_getD, h2]
def bnOf (w : World) (v : Value) : Nat := (vl (digsOf w v)).toNat
theorem bnOf_bn {w : World} {v : Value} {n : Nat} (h : BN w v n) : bnOf w v = n := by
  unfold bnOf; rw [digsOf_il h, vl_dg]; simp

set_option maxRecDepth 100000 in
set_option maxHeartbeats 4000000 in
theorem bigCommon (w : World) (v1 v2 : Value) (a b : Nat) (h1 : BN w v1 a) (h2 : BN w v2 b) (ha : a < PW 50) (hb : b < PW 50) :
    Calls Tryd.prog 56 #[v1, v2] w (BL w (Nat.gcd a b)) := by
  have H1 := Lib.hid h1
  have H2 := Lib.hid h2
  have HA := Lib.hid ha
  have HB := Lib.hid hb
  clear h1 h2 ha hb
  go_enter Tryd.func56, Tryd.ntmps56
  go_wp2_with fail
  go_loopw [0, 1] (fun x y wr => ∃ (p q : Nat) (v1 v2 : Value), v1 = x ∧ v2 = y ∧ BN wr v1 p ∧ BN wr v2 q ∧ p < PW 50 ∧ q < PW 50 ∧ Nat.gcd p q = Nat.gcd a b ∧ Below w.heap.size w wr) (fun _ y wr => bnOf wr y)
  case atStart => exact ⟨a, b, _, _, rfl, rfl, H1.out, H2.out, HA.out, HB.out, rfl, Below.refl _ _⟩
  case round =>
    obtain ⟨p, q, v1, v2, rfl, rfl, hp, hq, lp, lq, hg, hb⟩ := hrel
    have HP := Lib.hid hp
    have HQ := Lib.hid hq
    have HM := Lib.hid (bnOf_bn hq)
    have HLP := Lib.hid lp
    have HLQ := Lib.hid lq
    have HG := Lib.hid hg
    have HBL := Lib.hid hb
    obtain ⟨A2, c2, rfl, hc2, hs2⟩ := hq
    obtain ⟨N2, hN2⟩ : ∃ N, N = (dg q).length := ⟨_, rfl⟩
    have hN0 : N2 = 0 ↔ q = 0 := by rw [hN2]; exact dg_empty
    have hN50 : N2 ≤ 50 := by rw [hN2]; exact (dg_len q 50).2 lq
    rw [← hN2] at HQ HM ⊢
    clear hp lp lq hg hb hc2 hs2 hN2
    by_cases h0 : q = 0
    · have hN : N2 = 0 := hN0.2 h0
      subst h0 hN
      have HE : Hid (p = Nat.gcd a b) := Lib.hid (by have := HG.out; rwa [Nat.gcd_zero_right] at this)
      go_wp2_with fail
      go_ret
      exact ⟨v1, rfl, by rw [← HE.out]; exact HP.out, HBL.out⟩
    · have hN : 0 < N2 := by omega
      have HD := Lib.hid (bigDivide wr _ _ p q HP.out HQ.out HLP.out HLQ.out (by omega))
      have HR : Hid (p % q < q) := Lib.hid (Nat.mod_lt _ (by omega))
      clear hN0
      go_wp2_with fail
      refine (HD.out).mono ?_; rintro e w1 ⟨v5, v6, rfl, hn5, hn6, hb1⟩
      have HN6 := Lib.hid hn6
      have HQ1 := Lib.hid (HQ.out.below hb1)
      have HB1 := Lib.hid (HBL.out.trans (hb1.mono HBL.out.size))
      clear hn5 hn6 hb1 HD
      go_wp2_with fail
      go_roundw
      case rel => exact ⟨q, p % q, _, v6, rfl, rfl, HQ1.out, HN6.out, HLQ.out, Nat.lt_trans HR.out HLQ.out, by rw [← HG.out, Nat.gcd_comm p q, Nat.gcd_rec q p, Nat.gcd_comm], HB1.out⟩
      case measure => rw [HM.out]; first | (rw [bnOf_bn HN6.out]; exact HR.out) | (have := bnOf_bn HN6.out; simp only [Array.getD] at *; simp [this]; exact HR.out)

/-! The number as an int. -/
def lim (neg : Bool) : Nat := if neg = true then 9223372036854775808 else 9223372036854775807
def i63B (neg : Bool) (a : Nat) : Bool := decide (a ≤ lim neg)
def i63V (neg : Bool) (a : Nat) : Int := if a ≤ lim neg then (if neg = true then -(a : Int) else a) else 0
theorem lim_PW (neg : Bool) : lim neg < PW 5 := by cases neg <;> decide
theorem Addend_one : Addend [1] := ⟨fun d hd => by simp at hd; omega, fun d hd => by simp at hd; omega, by simp⟩
theorem IL_one (w : World) : IL (w.alloc (.cells #[.int .i64 1] 3)) (.slice (some ⟨w.heap.size, 0, none⟩) 1 1) [1] := IL.of_box (zs := [1]) (Box.new w 3 (icArr [1]))
theorem top_next (a i : Nat) : a / PW i = a / PW (i + 1) * 10000 + a / PW i % 10000 := top_step a i
theorem cmp_le {a b : Nat} (h : a ≤ b) : cmpN a b ≤ 0 := by
  rcases Nat.lt_or_ge a b with h1 | h1
  · rw [cmp_lt h1]; omega
  · rw [cmp_eq (by omega)]; omega

set_option maxRecDepth 100000 in
set_option maxHeartbeats 4000000 in
theorem bigInt63 (w : World) (v : Value) (a : Nat) (neg : Bool) (h : BN w v a) (ha : a < PW 50) :
    Calls Tryd.prog 58 #[v, .bool neg] w fun e w' => e = .returned (.tuple #[.int .i64 (i63V neg a), .bool (i63B neg a)]) ∧ Below w.heap.size w w' := by
  have H := Lib.hid h
  have HSZ := Lib.hid (fun w => bigSize w 9223372036854775807 (by omega) (by omega))
  have HPL : Hid (∀ w v, BN w v 9223372036854775807 → Calls Tryd.prog 62 #[v, .slice (some ⟨w.heap.size, 0, none⟩) 1 1] (w.alloc (.cells #[.int .i64 1] 3)) (BL (w.alloc (.cells #[.int .i64 1] 3)) 9223372036854775808)) := Lib.hid fun w v h => by
    have := bigPlus (w.alloc (.cells #[.int .i64 1] 3)) v _ _ _ (h.below (below_alloc _ _)) (IL_one w) (Addend.dg (Nat.lt_trans (lim_PW false) (PW_lt.2 (by omega)))) Addend_one (by rw [vl_dg, vl_one]; exact Int.lt_trans (show (9223372036854775807 : Nat) + (1 : Int) < ((PW 5 : Nat) : Int) by decide) (Int.ofNat_lt.2 (PW_lt.2 (by omega))))
    rw [vl_dg, vl_one] at this
    exact this
  have HOR : Hid (∀ w v1 v2 l, BN w v1 a → BN w v2 l → l < PW 5 → Calls Tryd.prog 63 #[v1, v2] w fun e w' => e = .returned (.int .i64 (cmpN a l)) ∧ ∃ n, w' = w.drewN n) := Lib.hid fun w v1 v2 l h1 h2 hl =>
    bigOrder w v1 v2 a l h1 h2 (Nat.lt_trans ha (PW_lt.2 (by omega))) (Nat.lt_trans hl (PW_lt.2 (by omega)))
  have HLN := Lib.hid (lim_PW neg)
  obtain ⟨L, hL⟩ : ∃ L, L = lim neg := ⟨_, rfl⟩
  have HV : Hid (i63V neg a = if a ≤ L then (if neg = true then -(a : Int) else a) else 0) := Lib.hid (by rw [hL]; rfl)
  have HBB : Hid (i63B neg a = decide (a ≤ L)) := Lib.hid (by rw [hL]; rfl)
  rw [← hL] at HLN
  have hl50 : (dg a).length ≤ 50 := (dg_len a 50).2 ha
  obtain ⟨A1, c1, rfl, hc1, hs1⟩ := h
  obtain ⟨N1, hN1⟩ : ∃ N, N = (dg a).length := ⟨_, rfl⟩
  have HAN : Hid (a < PW N1) := Lib.hid ((dg_len a N1).1 (by rw [hN1]; exact Nat.le_refl _))
  rw [← hN1] at hs1 hl50 H ⊢
  have HS1 := Lib.hid hs1
  clear hs1 hc1 hN1 ha
  cases neg
  · have hL' : L = 9223372036854775807 := hL
    subst hL'
    clear hL
    by_cases hc : a ≤ 9223372036854775807
    · have HV2 := Lib.hid (HV.out.trans ((if_pos hc).trans (if_neg (by decide))))
      have HB2 := Lib.hid (HBB.out.trans (decide_eq_true hc))
      have HC := Lib.hid hc
      have hcm := cmp_le hc
      clear hc
      go_enter Tryd.func58, Tryd.ntmps58
      go_wp2_with fail
      refine (HSZ.out _).mono ?_; rintro e w1 ⟨v5, rfl, hn5, hb1⟩
      have HN5 : Hid (BN w1 v5 9223372036854775807) := Lib.hid hn5
      have HB1 := Lib.hid hb1
      clear hn5 hb1
      go_wp2_with fail
      refine (HOR.out _ _ _ _ (H.out.below HB1.out) HN5.out HLN.out).mono ?_; rintro e w2 ⟨rfl, n2, rfl⟩
      have HBW := Lib.hid (below_drewN HB1.out n2)
      generalize w1.drewN n2 = w2 at *
      generalize cmpN a 9223372036854775807 = cm at *
      clear HN5 HSZ HPL HOR HLN
      go_wp2_with fail
      go_loopw [7, 8] (fun cn ci wr => ∃ j : Nat, j ≤ N1 ∧ ci = .int .i64 ((j : Int) - 1) ∧ cn = .int .i64 ((a / PW j : Nat) : Int) ∧ Below w.heap.size w wr) (fun _ ci _ => (intOf ci + 1).toNat)
      case atStart => exact ⟨N1, Nat.le_refl _, rfl, by rw [Nat.div_eq_of_lt HAN.out]; rfl, HBW.out⟩
      case round =>
        obtain ⟨j, hj, rfl, rfl, hb⟩ := hrel
        have HBL := Lib.hid hb
        clear hb
        rcases j with _ | i
        · have HZ : Hid (a / PW 0 = a) := Lib.hid (by rw [PW_zero, Nat.div_one])
          go_wp2_with fail
          go_ret2
          exact ⟨by rw [HV2.out, HB2.out]; first | rfl | (rw [HZ.out]; rfl), HBL.out⟩
        · obtain ⟨ad, rfl, had, hcl1⟩ := HS1.out (by omega)
          have qa := hcl1 i (by omega)
          rw [dg_getD] at qa
          have qa2 : wr.cell? (ad.add i) = some (.int .i64 ((a / PW i % 10000 : Nat) : Int)) := by rw [HBL.out.cell (by rw [block_of_add]; exact had)]; exact qa
          have ht := top_next a i
          have hle : a / PW i ≤ a := Nat.div_le_self _ _
          have hle2 := HC.out
          have e0 : ((i + 1 : Nat) : Int) - 1 = (i : Int) := by omega
          have j0 : (0 : Int) ≤ (i : Int) := by omega
          have j1 : (i : Int) < (N1 : Int) := by omega
          rw [e0]
          have HT : Hid (((a / PW i : Nat) : Int) = 10000 * ((a / PW (i + 1) : Nat) : Int) + ((a / PW i % 10000 : Nat) : Int)) := Lib.hid (by omega)
          have t1 : 10000 * ((a / PW (i + 1) : Nat) : Int) + ((a / PW i % 10000 : Nat) : Int) ≤ 9223372036854775807 := by omega
          generalize a / PW (i + 1) = x at *
          generalize a / PW i % 10000 = d at *
          clear ht hle hle2 e0 qa hcl1 had
          go_wp2_with fail
          go_roundw
          case rel => exact ⟨i, by omega, rfl, by rw [HT.out], HBL.out⟩
          case measure => first | (simp [intOf]; done) | (simp [intOf]; omega)
    · have HV2 := Lib.hid (HV.out.trans (if_neg hc))
      have HB2 := Lib.hid (HBB.out.trans (decide_eq_false hc))
      have hcm : 0 < cmpN a 9223372036854775807 := by rw [cmp_gt (by omega)]; omega
      clear hc
      go_enter Tryd.func58, Tryd.ntmps58
      go_wp2_with fail
      refine (HSZ.out _).mono ?_; rintro e w1 ⟨v5, rfl, hn5, hb1⟩
      have HN5 : Hid (BN w1 v5 9223372036854775807) := Lib.hid hn5
      have HB1 := Lib.hid hb1
      clear hn5 hb1
      go_wp2_with fail
      refine (HOR.out _ _ _ _ (H.out.below HB1.out) HN5.out HLN.out).mono ?_; rintro e w2 ⟨rfl, n2, rfl⟩
      have HBW := Lib.hid (below_drewN HB1.out n2)
      generalize w1.drewN n2 = w2 at *
      generalize cmpN a 9223372036854775807 = cm at *
      clear HN5 HSZ HPL HOR HLN
      go_wp2_with fail
      go_ret2
      exact ⟨by rw [HV2.out, HB2.out]; rfl, HBW.out⟩
  · have hL' : L = 9223372036854775808 := hL
    subst hL'
    clear hL
    by_cases hc : a ≤ 9223372036854775808
    · have HV2 := Lib.hid (HV.out.trans ((if_pos hc).trans (if_pos rfl)))
      have HB2 := Lib.hid (HBB.out.trans (decide_eq_true hc))
      have HC := Lib.hid hc
      have hcm := cmp_le hc
      clear hc
      go_enter Tryd.func58, Tryd.ntmps58
      go_wp2_with fail
      refine (HSZ.out _).mono ?_; rintro e w1 ⟨v5, rfl, hn5, hb1⟩
      have HN5 : Hid (BN w1 v5 9223372036854775807) := Lib.hid hn5
      have HB1 := Lib.hid hb1
      clear hn5 hb1
      go_wp2_with fail
      refine (HPL.out _ _ HN5.out).mono ?_; rintro e w2 ⟨v6, rfl, hn6, hb2⟩
      have HN6 := Lib.hid hn6
      have HB2' := Lib.hid ((below_step HB1.out (below_alloc w1 (.cells #[.int .i64 1] 3))).trans (hb2.mono (below_step HB1.out (below_alloc w1 (.cells #[.int .i64 1] 3))).size))
      clear hn6 hb2
      go_wp2_with fail
      refine (HOR.out _ _ _ _ (H.out.below HB2'.out) HN6.out HLN.out).mono ?_; rintro e w3 ⟨rfl, n2, rfl⟩
      have HBW := Lib.hid (below_drewN HB2'.out n2)
      generalize w2.drewN n2 = w3 at *
      generalize cmpN a 9223372036854775808 = cm at *
      clear HN5 HN6 HSZ HPL HOR HLN
      go_wp2_with fail
      go_loopw [7, 8] (fun cn ci wr => ∃ j : Nat, j ≤ N1 ∧ ci = .int .i64 ((j : Int) - 1) ∧ cn = .int .i64 (-((a / PW j : Nat) : Int)) ∧ Below w.heap.size w wr) (fun _ ci _ => (intOf ci + 1).toNat)
      case atStart => exact ⟨N1, Nat.le_refl _, rfl, by rw [Nat.div_eq_of_lt HAN.out]; rfl, HBW.out⟩
      case round =>
        obtain ⟨j, hj, rfl, rfl, hb⟩ := hrel
        have HBL := Lib.hid hb
        clear hb
        rcases j with _ | i
        · have HZ : Hid (a / PW 0 = a) := Lib.hid (by rw [PW_zero, Nat.div_one])
          go_wp2_with fail
          go_ret2
          exact ⟨by rw [HV2.out, HB2.out]; first | rfl | (rw [HZ.out]; rfl), HBL.out⟩
        · obtain ⟨ad, rfl, had, hcl1⟩ := HS1.out (by omega)
          have qa := hcl1 i (by omega)
          rw [dg_getD] at qa
          have qa2 : wr.cell? (ad.add i) = some (.int .i64 ((a / PW i % 10000 : Nat) : Int)) := by rw [HBL.out.cell (by rw [block_of_add]; exact had)]; exact qa
          have ht := top_next a i
          have hle : a / PW i ≤ a := Nat.div_le_self _ _
          have hle2 := HC.out
          have e0 : ((i + 1 : Nat) : Int) - 1 = (i : Int) := by omega
          have j0 : (0 : Int) ≤ (i : Int) := by omega
          have j1 : (i : Int) < (N1 : Int) := by omega
          rw [e0]
          have HT : Hid (-((a / PW i : Nat) : Int) = 10000 * (-((a / PW (i + 1) : Nat) : Int)) - ((a / PW i % 10000 : Nat) : Int)) := Lib.hid (by omega)
          have t1 : -9223372036854775808 ≤ 10000 * (-((a / PW (i + 1) : Nat) : Int)) - ((a / PW i % 10000 : Nat) : Int) := by omega
          have t0 : -((a / PW (i + 1) : Nat) : Int) ≤ 0 := by omega
          generalize -((a / PW (i + 1) : Nat) : Int) = x at *
          generalize a / PW i % 10000 = d at *
          clear ht hle hle2 e0 qa hcl1 had
          go_wp2_with fail
          go_roundw
          case rel => exact ⟨i, by omega, rfl, by rw [HT.out], HBL.out⟩
          case measure => first | (simp [intOf]; done) | (simp [intOf]; omega)
    · have HV2 := Lib.hid (HV.out.trans (if_neg hc))
      have HB2 := Lib.hid (HBB.out.trans (decide_eq_false hc))
      have hcm : 0 < cmpN a 9223372036854775808 := by rw [cmp_gt (by omega)]; omega
      clear hc
      go_enter Tryd.func58, Tryd.ntmps58
      go_wp2_with fail
      refine (HSZ.out _).mono ?_; rintro e w1 ⟨v5, rfl, hn5, hb1⟩
      have HN5 : Hid (BN w1 v5 9223372036854775807) := Lib.hid hn5
      have HB1 := Lib.hid hb1
      clear hn5 hb1
      go_wp2_with fail
      refine (HPL.out _ _ HN5.out).mono ?_; rintro e w2 ⟨v6, rfl, hn6, hb2⟩
      have HN6 := Lib.hid hn6
      have HB2' := Lib.hid ((below_step HB1.out (below_alloc w1 (.cells #[.int .i64 1] 3))).trans (hb2.mono (below_step HB1.out (below_alloc w1 (.cells #[.int .i64 1] 3))).size))
      clear hn6 hb2
      go_wp2_with fail
      refine (HOR.out _ _ _ _ (H.out.below HB2'.out) HN6.out HLN.out).mono ?_; rintro e w3 ⟨rfl, n2, rfl⟩
      have HBW := Lib.hid (below_drewN HB2'.out n2)
      generalize w2.drewN n2 = w3 at *
      generalize cmpN a 9223372036854775808 = cm at *
      clear HN5 HN6 HSZ HPL HOR HLN
      go_wp2_with fail
      go_ret2
      exact ⟨by rw [HV2.out, HB2.out]; rfl, HBW.out⟩

/-! A quotient as a rational number. -/
theorem ratF_yes {neg : Bool} {p q : Nat} (h1 : i63B neg p = true) (h2 : i63B false q = true) : ratF neg p q = (i63V neg p, i63V false q, 0) := by
  have h1' := of_decide_eq_true h1
  have h2' := of_decide_eq_true h2
  unfold ratF i63V
  rw [if_pos h1', if_pos h2', if_neg (by unfold lim at h1' h2'; simp at h2'; omega)]
  cases neg <;> rfl
theorem ratF_no {neg : Bool} {p q : Nat} (h : i63B neg p = false ∨ i63B false q = false) : ratF neg p q = (0, 0, 3) := by
  unfold ratF
  rw [if_pos]
  rcases h with h | h
  · have := of_decide_eq_false h; unfold lim at this; left; omega
  · have := of_decide_eq_false h; unfold lim at this; simp at this; right; omega

set_option maxRecDepth 100000 in
set_option maxHeartbeats 4000000 in
theorem bigQuotient (w : World) (neg : Bool) (v1 v2 : Value) (a b : Nat) (h1 : BN w v1 a) (h2 : BN w v2 b) (ha : a < PW 50) (hb : b < PW 50) (hb0 : 0 < b) :
    Calls Tryd.prog 37 #[.bool neg, v1, v2] w fun e w' => e = ret3r (quoR neg a b) ∧ Below w.heap.size w w' := by
  have H1 := Lib.hid h1
  have H2 := Lib.hid h2
  have hg0 : 0 < Nat.gcd a b := Nat.gcd_pos_of_pos_right _ hb0
  have hgb : Nat.gcd a b < PW 50 := Nat.lt_of_le_of_lt (Nat.gcd_le_right _ hb0) hb
  have HC : Hid (∀ w v1 v2, BN w v1 a → BN w v2 b → Calls Tryd.prog 56 #[v1, v2] w (BL w (Nat.gcd a b))) := Lib.hid fun w v1 v2 h1 h2 => bigCommon w v1 v2 a b h1 h2 ha hb
  obtain ⟨p, hp⟩ : ∃ p, p = a / Nat.gcd a b := ⟨_, rfl⟩
  obtain ⟨q, hq⟩ : ∃ q, q = b / Nat.gcd a b := ⟨_, rfl⟩
  have hpa : p < PW 50 := by rw [hp]; exact Nat.lt_of_le_of_lt (Nat.div_le_self _ _) ha
  have hqb : q < PW 50 := by rw [hq]; exact Nat.lt_of_le_of_lt (Nat.div_le_self _ _) hb
  have HQR : Hid (quoR neg a b = ratF neg p q) := Lib.hid (by rw [hp, hq]; rfl)
  have D1 : Hid (∀ w v1 v2, BN w v1 a → BN w v2 (Nat.gcd a b) → Calls Tryd.prog 57 #[v1, v2] w fun e w' => ∃ v5 v6, e = .returned (.tuple #[v5, v6]) ∧ BN w' v5 p ∧ BN w' v6 (a % Nat.gcd a b) ∧ Below w.heap.size w w') := Lib.hid fun w v1 v2 h1 h2 => by
    rw [hp]; exact bigDivide w v1 v2 a _ h1 h2 ha hgb hg0
  have D2 : Hid (∀ w v1 v2, BN w v1 b → BN w v2 (Nat.gcd a b) → Calls Tryd.prog 57 #[v1, v2] w fun e w' => ∃ v5 v6, e = .returned (.tuple #[v5, v6]) ∧ BN w' v5 q ∧ BN w' v6 (b % Nat.gcd a b) ∧ Below w.heap.size w w') := Lib.hid fun w v1 v2 h1 h2 => by
    rw [hq]; exact bigDivide w v1 v2 b _ h1 h2 hb hgb hg0
  have I1 : Hid (∀ w v, BN w v p → Calls Tryd.prog 58 #[v, .bool neg] w fun e w' => e = .returned (.tuple #[.int .i64 (i63V neg p), .bool (i63B neg p)]) ∧ Below w.heap.size w w') := Lib.hid fun w v h => bigInt63 w v p neg h hpa
  have I2 : Hid (∀ w v, BN w v q → Calls Tryd.prog 58 #[v, .bool false] w fun e w' => e = .returned (.tuple #[.int .i64 (i63V false q), .bool (i63B false q)]) ∧ Below w.heap.size w w') := Lib.hid fun w v h => bigInt63 w v q false h hqb
  have HRY : Hid (i63B neg p = true → i63B false q = true → ratF neg p q = (i63V neg p, i63V false q, 0)) := Lib.hid ratF_yes
  have HRN : Hid ((i63B neg p = false ∨ i63B false q = false) → ratF neg p q = (0, 0, 3)) := Lib.hid ratF_no
  generalize i63V neg p = x1 at *
  generalize i63V false q = x2 at *
  obtain ⟨b1, hb1⟩ : ∃ x, x = i63B neg p := ⟨_, rfl⟩
  obtain ⟨b2, hb2⟩ : ∃ x, x = i63B false q := ⟨_, rfl⟩
  rw [← hb1] at I1 HRY HRN
  rw [← hb2] at I2 HRY HRN
  clear h1 h2 hg0 hgb hp hq hpa hqb ha hb hb0 hb1 hb2
  generalize Nat.gcd a b = g at *
  have key : Hid (∀ (b1' b2' : Bool), b1 = b1' → b2 = b2' → Calls Tryd.prog 37 #[.bool neg, v1, v2] w fun e w' => e = ret3r (quoR neg a b) ∧ Below w.heap.size w w') → Calls Tryd.prog 37 #[.bool neg, v1, v2] w fun e w' => e = ret3r (quoR neg a b) ∧ Below w.heap.size w w' := fun h => h.out b1 b2 rfl rfl
  refine key (Lib.hid ?_)
  clear key
  intro b1' b2' e1 e2
  subst e1 e2
  cases b1 <;> cases b2
  case true.true =>
    have HE := Lib.hid (HQR.out.trans (HRY.out rfl rfl))
    clear HRY HRN HQR
    go_enter Tryd.func37, Tryd.ntmps37
    go_wp2_with fail
    have X0 := Lib.hid (Box.new w 23 #[.int .i64 0, .int .i64 0])
    have HB0 := Lib.hid (below_alloc w (.cells #[.int .i64 0, .int .i64 0] 23))
    generalize w.alloc (.cells #[.int .i64 0, .int .i64 0] 23) = w0 at *
    refine (HC.out _ _ _ (H1.out.below HB0.out) (H2.out.below HB0.out)).mono ?_; rintro e w1 ⟨v3, rfl, hn3, hb⟩
    have HG1 := Lib.hid hn3
    have X1 := Lib.hid (X0.out.below hb)
    have HB1 := Lib.hid (below_step HB0.out hb)
    clear hn3 hb X0 HB0
    go_wp2_with fail
    refine (D1.out _ _ _ (H1.out.below HB1.out) HG1.out).mono ?_; rintro e w2 ⟨v5, v6, rfl, hn5, hn6, hb⟩
    have HP2 := Lib.hid hn5
    have HG2 := Lib.hid (HG1.out.below hb)
    have X2 := Lib.hid (X1.out.below hb)
    have HB2 := Lib.hid (below_step HB1.out hb)
    clear hn5 hn6 hb X1 HB1 HG1
    go_wp2_with fail
    refine (D2.out _ _ _ (H2.out.below HB2.out) HG2.out).mono ?_; rintro e w3 ⟨v7, v8, rfl, hn5, hn6, hb⟩
    have HQ3 := Lib.hid hn5
    have HP3 := Lib.hid (HP2.out.below hb)
    have X3 := Lib.hid (X2.out.below hb)
    have HB3 := Lib.hid (below_step HB2.out hb)
    clear hn5 hn6 hb X2 HB2 HP2 HG2
    go_wp2_with fail
    refine (I1.out _ _ HP3.out).mono ?_; rintro e w4 ⟨rfl, hb⟩
    have HQ4 := Lib.hid (HQ3.out.below hb)
    have X4 := Lib.hid (X3.out.below hb)
    have HB4 := Lib.hid (below_step HB3.out hb)
    clear hb X3 HB3 HP3 HQ3
    go_wp2_with fail
    refine (I2.out _ _ HQ4.out).mono ?_; rintro e w5 ⟨rfl, hb⟩
    have X5 := X4.out.below hb
    have HB5 := Lib.hid (below_step HB4.out hb)
    have y0 := X5.at_ 0 _ rfl
    have y1 := X5.at_ 1 _ rfl
    have z0 := X5.frozen 0
    have z1 := X5.frozen 1
    clear hb X4 HB4 HQ4 X5
    go_wp2_with fail
    refine bodyPost_ret (v := .tuple #[.agg #[.int .i64 x1, .int .i64 x2], .int .i64 0]) (by simp [results, Tryd.results37, go_sem, y0, y1]) rfl ⟨by rw [HE.out]; rfl, ?_⟩
    exact (HB5.out.setCell (Nat.le_refl _) _).setCell (Nat.le_refl _) _
  all_goals
    have HE := Lib.hid (HQR.out.trans (HRN.out (by first | exact .inl rfl | exact .inr rfl)))
    clear HRY HRN HQR
    go_enter Tryd.func37, Tryd.ntmps37
    go_wp2_with fail
    have X0 := Lib.hid (Box.new w 23 #[.int .i64 0, .int .i64 0])
    have HB0 := Lib.hid (below_alloc w (.cells #[.int .i64 0, .int .i64 0] 23))
    generalize w.alloc (.cells #[.int .i64 0, .int .i64 0] 23) = w0 at *
    refine (HC.out _ _ _ (H1.out.below HB0.out) (H2.out.below HB0.out)).mono ?_; rintro e w1 ⟨v3, rfl, hn3, hb⟩
    have HG1 := Lib.hid hn3
    have X1 := Lib.hid (X0.out.below hb)
    have HB1 := Lib.hid (below_step HB0.out hb)
    clear hn3 hb X0 HB0
    go_wp2_with fail
    refine (D1.out _ _ _ (H1.out.below HB1.out) HG1.out).mono ?_; rintro e w2 ⟨v5, v6, rfl, hn5, hn6, hb⟩
    have HP2 := Lib.hid hn5
    have HG2 := Lib.hid (HG1.out.below hb)
    have X2 := Lib.hid (X1.out.below hb)
    have HB2 := Lib.hid (below_step HB1.out hb)
    clear hn5 hn6 hb X1 HB1 HG1
    go_wp2_with fail
    refine (D2.out _ _ _ (H2.out.below HB2.out) HG2.out).mono ?_; rintro e w3 ⟨v7, v8, rfl, hn5, hn6, hb⟩
    have HQ3 := Lib.hid hn5
    have HP3 := Lib.hid (HP2.out.below hb)
    have X3 := Lib.hid (X2.out.below hb)
    have HB3 := Lib.hid (below_step HB2.out hb)
    clear hn5 hn6 hb X2 HB2 HP2 HG2
    go_wp2_with fail
    refine (I1.out _ _ HP3.out).mono ?_; rintro e w4 ⟨rfl, hb⟩
    have HQ4 := Lib.hid (HQ3.out.below hb)
    have X4 := Lib.hid (X3.out.below hb)
    have HB4 := Lib.hid (below_step HB3.out hb)
    clear hb X3 HB3 HP3 HQ3
    go_wp2_with fail
    refine (I2.out _ _ HQ4.out).mono ?_; rintro e w5 ⟨rfl, hb⟩
    have X5 := X4.out.below hb
    have HB5 := Lib.hid (below_step HB4.out hb)
    have y0 := X5.at_ 0 _ rfl
    have y1 := X5.at_ 1 _ rfl
    have z0 := X5.frozen 0
    have z1 := X5.frozen 1
    clear hb X4 HB4 HQ4 X5
    go_wp2_with fail
    refine bodyPost_ret (v := .tuple #[.agg #[.int .i64 0, .int .i64 0], .int .i64 3]) (by simp [results, Tryd.results37, go_sem, y0, y1]) rfl ⟨by rw [HE.out]; rfl, ?_⟩
    exact (HB5.out.setCell (Nat.le_refl _) _).setCell (Nat.le_refl _) _

end Go.Proofs.YtbaalbmchhgmnaaDoor
