/-
  Plain law of DistExact: the probabilities of all values add up to 1, and exactly the support has positive ones. No program in sight.
-/
import Derived.Test.YtiiacapilffhnaaDistLaw
import Derived.Test.YtiiacapilffhnaaRatLaw
namespace Go.Proofs.Ytiiacapilffhnaa
open Go.RowKit
set_option linter.unusedVariables false
set_option linter.unusedSimpArgs false

theorem sclRun_dvd : ∀ (l : List Rg) (s n : Int), sclRun l s = (n, 0) → s ∣ n ∧ ∀ r ∈ l, r.ea = false → (r.hi - r.lo + 1) ∣ n
  | [], s, n, h => by
    rw [sclRun] at h
    rw [(Prod.mk.inj h).1]
    exact ⟨Int.dvd_refl _, fun r hr => by cases hr⟩
  | r :: l, s, n, h => by
    rw [sclRun] at h
    by_cases he : r.ea = true
    · rw [if_pos he] at h
      obtain ⟨a, b⟩ := sclRun_dvd l s n h
      refine ⟨a, fun x hx hxe => ?_⟩
      rcases List.mem_cons.1 hx with rfl | hx
      · rw [he] at hxe; cases hxe
      · exact b x hx hxe
    · rw [if_neg he] at h
      by_cases hc : cE (Int.lcm s (r.hi - r.lo + 1)) = 0
      · rw [if_pos hc] at h
        obtain ⟨a, b⟩ := sclRun_dvd l _ n h
        have d1 : s ∣ ((Int.lcm s (r.hi - r.lo + 1) : Nat) : Int) := Int.dvd_lcm_left ..
        have d2 : (r.hi - r.lo + 1) ∣ ((Int.lcm s (r.hi - r.lo + 1) : Nat) : Int) := Int.dvd_lcm_right ..
        refine ⟨Int.dvd_trans d1 a, fun x hx hxe => ?_⟩
        rcases List.mem_cons.1 hx with rfl | hx
        · exact Int.dvd_trans d2 a
        · exact b x hx hxe
      · rw [if_neg hc] at h; simp at h
theorem mul_pos_iff {a b : Int} (ha : 0 ≤ a) (hb : 1 ≤ b) : 0 < a * b ↔ 0 < a := by
  constructor
  · intro h
    rcases Int.lt_or_eq_of_le ha with h2 | h2
    · exact h2
    · rw [← h2, Int.zero_mul] at h; omega
  · intro h; exact Int.mul_pos h (by omega)
theorem wgt_sup {l : List Rg} {n : Int} (hv : RV l) (hs : scl l = (n, 0)) (n1 : 1 ≤ n) (k : Nat) (h : (wgt l n k).2 = 0) : 0 < (wgt l n k).1 ↔ supB l k = true := by
  unfold wgt at h ⊢
  unfold supB
  rcases hf : fnd l k with _ | r
  · simp
  · rw [hf] at h
    simp only at h ⊢
    rcases c_ways (wgt1 r n) with ⟨e1, e2, _⟩ | ⟨e1, e2, _⟩
    · rw [e1, decide_eq_true_iff]
      obtain ⟨hm, _⟩ := fnd_mem hf
      obtain ⟨h1, h2, h3, h4, h5⟩ := hv.mem hm
      unfold wgt1
      by_cases he : r.ea = true
      · rw [if_pos he]; exact mul_pos_iff h4 n1
      · rw [if_neg he]
        obtain ⟨q, hq⟩ := (sclRun_dvd l 1 n hs).2 r hm (by simpa using he)
        have hq1 : 1 ≤ q := by
          rcases Int.lt_or_le 0 q with hq1 | hq1
          · omega
          · have := Int.mul_nonpos_of_nonneg_of_nonpos (show 0 ≤ r.hi - r.lo + 1 by omega) hq1
            omega
        have : n / (r.hi - r.lo + 1) = q := by rw [hq, Int.mul_ediv_cancel_left _ (by omega)]
        rw [this]; exact mul_pos_iff h4 hq1
    · rw [e2] at h; exact absurd h (by decide)
theorem mk_exact {u T : Int} (h0 : 0 ≤ u) (h1 : u ≤ T) (hT : 1 ≤ T) (hT2 : T ≤ 9223372036854775807) :
    ∃ a b, mk u T = (a, b, 0) ∧ 1 ≤ b ∧ Nat.gcd a.natAbs b.natAbs = 1 ∧ I64 a ∧ I64 b ∧ u * b = a * T ∧ 0 ≤ a ∧ (0 < a ↔ 0 < u) := by
  have hD : 0 < T.natAbs := by omega
  have e : mk u T = ratQ u T.natAbs := mk_pos hT
  have e2 : ratQ u T.natAbs = (((u.natAbs / Nat.gcd u.natAbs T.natAbs : Nat) : Int), ((T.natAbs / Nat.gcd u.natAbs T.natAbs : Nat) : Int), 0) := by
    unfold ratQ
    have hn : decide (u < 0) = false := decide_eq_false (by omega)
    rw [hn, ratF_mk]
    · simp
    · have := Nat.div_le_self u.natAbs (Nat.gcd u.natAbs T.natAbs)
      simp only [Bool.false_eq_true, if_false]; omega
    · have := Nat.div_le_self T.natAbs (Nat.gcd u.natAbs T.natAbs)
      omega
  generalize ((u.natAbs / Nat.gcd u.natAbs T.natAbs : Nat) : Int) = a at e2
  generalize ((T.natAbs / Nat.gcd u.natAbs T.natAbs : Nat) : Int) = b at e2
  obtain ⟨g1, g2, g3, g4, g5⟩ := ratQ_ok hD e2
  have g6 : u * b = a * T := by rw [g5]; congr 1; omega
  have ha : 0 ≤ a := by
    rcases Int.lt_or_le a 0 with h | h
    · have h2 := Int.mul_neg_of_neg_of_pos h (show 0 < T by omega)
      have h3 := Int.mul_nonneg h0 (show 0 ≤ b by omega)
      omega
    · exact h
  refine ⟨a, b, e.trans e2, g1, g2, g3, g4, g6, ha, ?_⟩
  rw [← mul_pos_iff ha hT, ← g6, mul_pos_iff h0 g1]
theorem cross_sum {s u T a b c d x y : Int} (hT : 1 ≤ T) (h1 : s * b = a * T) (h2 : u * d = c * T) (h3 : (s + u) * y = x * T) : (a * d + c * b) * y = x * (b * d) := by
  refine Int.eq_of_mul_eq_mul_left (show T ≠ 0 by omega) ?_
  have e1 : T * ((a * d + c * b) * y) = ((a * T) * d + (c * T) * b) * y := by
    simp only [Int.mul_add, Int.add_mul, Int.mul_assoc, Int.mul_comm, Int.mul_left_comm]
  have e2 : T * (x * (b * d)) = (x * T) * (b * d) := by
    simp only [Int.mul_assoc, Int.mul_comm, Int.mul_left_comm]
  rw [e1, e2, ← h1, ← h2, ← h3]
  simp only [Int.mul_add, Int.add_mul, Int.mul_assoc, Int.mul_comm, Int.mul_left_comm]
theorem exact_step {s u T a b c d : Int} (hs : mk s T = (a, b, 0)) (hu : mk u T = (c, d, 0)) (s0 : 0 ≤ s) (u0 : 0 ≤ u) (h1 : s + u ≤ T) (hT : 1 ≤ T) (hT2 : T ≤ 9223372036854775807) : addR a b c d = mk (s + u) T := by
  obtain ⟨a', b', e1, p1, _, _, _, p2, _⟩ := mk_exact s0 (by omega) hT hT2
  obtain ⟨rfl, h⟩ := Prod.mk.inj (e1.symm.trans hs)
  obtain ⟨rfl, _⟩ := Prod.mk.inj h
  obtain ⟨c', d', e2, q1, _, _, _, q2, _⟩ := mk_exact u0 (by omega) hT hT2
  obtain ⟨rfl, h⟩ := Prod.mk.inj (e2.symm.trans hu)
  obtain ⟨rfl, _⟩ := Prod.mk.inj h
  obtain ⟨x, y, e3, r1, r2, r3, r4, r5, _⟩ := mk_exact (u := s + u) (by omega) h1 hT hT2
  rw [e3]
  unfold addR
  rw [if_pos ⟨ratV_mk hs, ratV_mk hu⟩]
  have hbd : 0 < b' * d' := Int.mul_pos (by omega) (by omega)
  refine ratQ_mk (by omega) r1 r2 r3 r4 ?_
  rw [show (((b' * d').natAbs : Nat) : Int) = b' * d' by omega]
  exact cross_sum hT p2 q2 r5
theorem supRun_pre (l : List Rg) (k : Nat) : ∀ j, ∃ r, supRun l (k + j) = supRun l k ++ r
  | 0 => ⟨[], by simp⟩
  | j + 1 => by
    obtain ⟨r, hr⟩ := supRun_pre l k j
    by_cases h : supB l (k + j) = true
    · exact ⟨r ++ [((k + j : Nat) : Int)], by rw [← Nat.add_assoc, sup_yes h, hr, List.append_assoc]⟩
    · exact ⟨r, by rw [← Nat.add_assoc, sup_no (by simpa using h), hr]⟩
theorem supRun_at {l : List Rg} {k B : Nat} (h : k < B) (hs : supB l k = true) : (supRun l k).length < (supRun l B).length ∧ (supRun l B).getD (supRun l k).length 0 = k := by
  obtain ⟨r, hr⟩ := supRun_pre l (k + 1) (B - (k + 1))
  rw [show k + 1 + (B - (k + 1)) = B by omega, sup_yes hs] at hr
  rw [hr]
  constructor
  · simp
  · simp [List.getD_eq_getElem?_getD]
/-- All that the law asks. -/
theorem exact_spec {l : List Rg} {wd : Int} (h : (tot l wd).2 = 0) : ∃ (n : Int) (B : Nat), B = two wd ∧ vld l wd = 0 ∧ 0 ≤ (tot l wd).1 ∧ (tot l wd).1 ≤ 9223372036854775807 ∧ sup l wd = supRun l B ∧ ((tot l wd).1 = 0 → supRun l B = []) ∧
    (1 ≤ (tot l wd).1 → mk (pre l n 0) (tot l wd).1 = (0, 1, 0) ∧ mk (pre l n B) (tot l wd).1 = (1, 1, 0) ∧ ∀ k a b, k < B → mk (pre l n k) (tot l wd).1 = (a, b, 0) → I64 a ∧ I64 b ∧
      ∃ c d x y, prob l wd k = (c, d, 0) ∧ addR a b c d = (x, y, 0) ∧ mk (pre l n (k + 1)) (tot l wd).1 = (x, y, 0) ∧ 0 ≤ c ∧ (0 < c ↔ supB l k = true) ∧ I64 c ∧ I64 d) := by
  rcases tot_ways l wd with ⟨a, _⟩ | ⟨_, hv, hs, n0, n1, t0, t1, hp, hj⟩
  · exact absurd h a
  have hrv := vld_RV hv
  have hsc : scl l = ((scl l).1, 0) := Prod.ext rfl hs
  have hw : ∀ j, j < two wd → 0 ≤ (wgt l (scl l).1 j).1 := fun j hjj => by
    rcases wgt_ways hrv n0 j with h | h
    · exact h.2.1
    · have := hj j hjj; rw [h] at this; simp at this
  have hm : ∀ a b : Nat, a ≤ b → b ≤ two wd → pre l (scl l).1 a ≤ pre l (scl l).1 b := fun a b h1 h2 => by
    have := pre_mono l (scl l).1 (two wd) hw (b - a) a (by omega)
    rwa [show a + (b - a) = b by omega] at this
  have hz := pre_zero l (scl l).1
  refine ⟨(scl l).1, two wd, rfl, hv, t0, t1, by unfold sup; rw [if_pos hv], fun ht => ?_, fun ht => ⟨?_, ?_, fun k a b hk hab => ?_⟩⟩
  · unfold supRun
    rw [List.map_eq_nil_iff, List.filter_eq_nil_iff]
    intro j hjm
    have hjB := List.mem_range.1 hjm
    have h1 := hm (j + 1) (two wd) (by omega) (Nat.le_refl _)
    have h2 := hm 0 j (by omega) (by omega)
    have h3 := pre_succ l (scl l).1 j
    rw [← wgt_sup hrv hsc n0 j (hj j hjB)]
    omega
  · rw [hz, mk_pos ht]
    exact ratQ_mk (by omega) (by omega) rfl (by unfold I64; omega) (by unfold I64; omega) (by omega)
  · rw [← hp, mk_pos ht]
    exact ratQ_mk (by omega) (by omega) rfl (by unfold I64; omega) (by unfold I64; omega) (by omega)
  · have h1 := hm (k + 1) (two wd) (by omega) (Nat.le_refl _)
    have h2 := hm 0 k (by omega) (by omega)
    have h3 := pre_succ l (scl l).1 k
    have h4 := hw k hk
    have hP : prob l wd k = mk (wgt l (scl l).1 k).1 (tot l wd).1 := by
      unfold prob
      rw [if_neg (by rw [hv]; decide), if_neg (by omega), if_neg (by rw [h]; decide)]
    obtain ⟨c, d, e1, d1, _, ic, id, _, c0, c1⟩ := mk_exact h4 (show (wgt l (scl l).1 k).1 ≤ (tot l wd).1 by omega) ht t1
    obtain ⟨x, y, e2, _⟩ := mk_exact (u := pre l (scl l).1 (k + 1)) (T := (tot l wd).1) (by omega) (by omega) ht t1
    obtain ⟨a', b', e3, _, _, ia, ib, _⟩ := mk_exact (u := pre l (scl l).1 k) (T := (tot l wd).1) (by omega) (by omega) ht t1
    obtain ⟨rfl, h5⟩ := Prod.mk.inj (e3.symm.trans hab)
    obtain ⟨rfl, _⟩ := Prod.mk.inj h5
    refine ⟨ia, ib, c, d, x, y, hP.trans e1, ?_, e2, c0, ?_, ic, id⟩
    · rw [exact_step hab e1 (by omega) h4 (by omega) ht t1, ← h3, e2]
    · rw [c1]; exact wgt_sup hrv hsc n0 k (hj k hk)

end Go.Proofs.Ytiiacapilffhnaa
