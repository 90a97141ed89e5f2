/-
  The laws of the field: sums and products of rationals, in plain Lean. No program in sight.
-/
import Derived.Test.YtbaalbmchhgmnaaDoorRatM
namespace Go.Proofs.YtbaalbmchhgmnaaDoor
open Go.RowKit
set_option linter.unusedVariables false

theorem addR_comm (an ad bn bd : Int) : addR an ad bn bd = addR bn bd an ad := by
  unfold addR
  rw [show an * bd + bn * ad = bn * ad + an * bd from Int.add_comm _ _, show ad * bd = bd * ad from Int.mul_comm _ _]
  by_cases h : ratV an ad = true ∧ ratV bn bd = true
  · rw [if_pos h, if_pos h.symm]
  · rw [if_neg h, if_neg fun g => h g.symm]
theorem mulR_comm (an ad bn bd : Int) : mulR an ad bn bd = mulR bn bd an ad := by
  unfold mulR
  rw [show an * bn = bn * an from Int.mul_comm _ _, show ad * bd = bd * ad from Int.mul_comm _ _]
  by_cases h : ratV an ad = true ∧ ratV bn bd = true
  · rw [if_pos h, if_pos h.symm]
  · rw [if_neg h, if_neg fun g => h g.symm]
/-- Two numbers in lowest terms of one value are one number. -/
theorem ratV_one {n d n' d' : Int} (h1 : I64 n) (h2 : I64 d) (h1' : I64 n') (h2' : I64 d') (h : ratV n d = true) (h' : ratV n' d' = true) (he : n * d' = n' * d) : n = n' ∧ d = d' := by
  obtain ⟨a1, a2⟩ := ratV_iff.1 h
  obtain ⟨b1, b2⟩ := ratV_iff.1 h'
  have k1 := ratQ_mk (s := n) (D := d.natAbs) (n := n) (d := d) (by omega) a1 a2 h1 h2 (by rw [show ((d.natAbs : Nat) : Int) = d by omega])
  have k2 := ratQ_mk (s := n) (D := d.natAbs) (n := n') (d := d') (by omega) b1 b2 h1' h2' (by rw [show ((d.natAbs : Nat) : Int) = d by omega]; exact he)
  rw [k1] at k2
  injection k2 with e1 e2
  injection e2 with e2 _
  exact ⟨e1, e2⟩
theorem val_add {an ad bn bd n d S D T E : Int} (ha : an * D = S * ad) (hb : bn * E = T * bd) (a1 : 1 ≤ ad) (b1 : 1 ≤ bd) (he : (an * bd + bn * ad) * d = n * (ad * bd)) : n * (D * E) = (S * E + T * D) * d := by
  refine Int.eq_of_mul_eq_mul_left (show ad * bd ≠ 0 from ?_) ?_
  · have := Int.mul_pos (show 0 < ad by omega) (show 0 < bd by omega); omega
  · grind
theorem val_mul {an ad bn bd n d S D T E : Int} (ha : an * D = S * ad) (hb : bn * E = T * bd) (a1 : 1 ≤ ad) (b1 : 1 ≤ bd) (he : (an * bn) * d = n * (ad * bd)) : n * (D * E) = (S * T) * d := by
  refine Int.eq_of_mul_eq_mul_left (show ad * bd ≠ 0 from ?_) ?_
  · have := Int.mul_pos (show 0 < ad by omega) (show 0 < bd by omega); omega
  · grind
theorem val_one {n d n' d' S D : Int} (hD : 0 < D) (h : n * D = S * d) (h' : n' * D = S * d') : n * d' = n' * d := by
  refine Int.eq_of_mul_eq_mul_left (show D ≠ 0 by omega) ?_
  grind
theorem add_assoc {an ad bn bd cn cd sn sd tn td xn xd yn yd : Int} (h1 : addR an ad bn bd = (sn, sd, 0)) (h2 : addR bn bd cn cd = (tn, td, 0)) (h3 : addR sn sd cn cd = (xn, xd, 0)) (h4 : addR an ad tn td = (yn, yd, 0)) : xn = yn ∧ xd = yd := by
  obtain ⟨va, vb, vs, _, _, e1⟩ := addR_ok h1
  obtain ⟨_, vc, vt, _, _, e2⟩ := addR_ok h2
  obtain ⟨_, _, vx, i1, i2, e3⟩ := addR_ok h3
  obtain ⟨_, _, vy, i3, i4, e4⟩ := addR_ok h4
  have pa := (ratV_iff.1 va).1; have pb := (ratV_iff.1 vb).1; have pc := (ratV_iff.1 vc).1
  have ps := (ratV_iff.1 vs).1; have pt := (ratV_iff.1 vt).1
  have k1 := val_add (S := an) (D := ad) (T := bn) (E := bd) rfl rfl pa pb e1
  have k2 := val_add (S := bn) (D := bd) (T := cn) (E := cd) rfl rfl pb pc e2
  have k3 := val_add (T := cn) (E := cd) k1 rfl ps pc e3
  have k4 := val_add (S := an) (D := ad) rfl k2 pa pt e4
  refine ratV_one i1 i2 i3 i4 vx vy (val_one (D := ad * bd * cd) (S := (an * bd + bn * ad) * cd + cn * (ad * bd)) (Int.mul_pos (Int.mul_pos (by omega) (by omega)) (by omega)) k3 ?_)
  rw [show ad * bd * cd = ad * (bd * cd) from Int.mul_assoc _ _ _, k4]; grind
theorem mul_add {an ad bn bd cn cd tn td pn pd qn qd xn xd yn yd : Int} (h1 : addR bn bd cn cd = (tn, td, 0)) (h2 : mulR an ad bn bd = (pn, pd, 0)) (h3 : mulR an ad cn cd = (qn, qd, 0)) (h4 : mulR an ad tn td = (xn, xd, 0)) (h5 : addR pn pd qn qd = (yn, yd, 0)) : xn = yn ∧ xd = yd := by
  obtain ⟨vb, vc, vt, _, _, e1⟩ := addR_ok h1
  obtain ⟨va, _, vp, _, _, e2⟩ := mulR_ok h2
  obtain ⟨_, _, vq, _, _, e3⟩ := mulR_ok h3
  obtain ⟨_, _, vx, i1, i2, e4⟩ := mulR_ok h4
  obtain ⟨_, _, vy, i3, i4, e5⟩ := addR_ok h5
  have pa := (ratV_iff.1 va).1; have pb := (ratV_iff.1 vb).1; have pc := (ratV_iff.1 vc).1
  have pp := (ratV_iff.1 vp).1; have pq := (ratV_iff.1 vq).1; have pt := (ratV_iff.1 vt).1
  have k1 := val_add (S := bn) (D := bd) (T := cn) (E := cd) rfl rfl pb pc e1
  have k2 := val_mul (S := an) (D := ad) (T := bn) (E := bd) rfl rfl pa pb e2
  have k3 := val_mul (S := an) (D := ad) (T := cn) (E := cd) rfl rfl pa pc e3
  have k4 := val_mul (S := an) (D := ad) rfl k1 pa pt e4
  have k5 := val_add k2 k3 pp pq e5
  refine ratV_one i1 i2 i3 i4 vx vy (val_one (D := ad * bd * (ad * cd)) (S := an * bn * (ad * cd) + an * cn * (ad * bd)) (Int.mul_pos (Int.mul_pos (by omega) (by omega)) (Int.mul_pos (by omega) (by omega))) ?_ k5)
  have : ad * (xn * (ad * (bd * cd))) = ad * (an * (bn * cd + cn * bd) * xd) := by rw [k4]
  grind
theorem ratF_I64 {neg : Bool} {p q : Nat} {n d e : Int} (h : ratF neg p q = (n, d, e)) : I64 n ∧ I64 d := by
  by_cases he : e = 0
  · subst he
    obtain ⟨h1, h2, h3, h4⟩ := ratF_ok h
    cases neg <;> simp only [if_true, Bool.false_eq_true, if_false] at h1 h3 <;> unfold I64 <;> omega
  · rcases ratF_cases neg p q with h' | h'
    · rw [h] at h'; exact absurd h' he
    · rw [h] at h'; injection h' with h1 h2; injection h2 with h2 _; rw [h1, h2]; unfold I64; omega
theorem none_I64 {n d e k : Int} (h : ((0, 0, k) : Int × Int × Int) = (n, d, e)) : I64 n ∧ I64 d := by
  injection h with h1 h2; injection h2 with h2 _; rw [← h1, ← h2]; unfold I64; omega
theorem addR_I64 {an ad bn bd n d e : Int} (h : addR an ad bn bd = (n, d, e)) : I64 n ∧ I64 d := by
  unfold addR at h; split at h
  · exact ratF_I64 h
  · exact none_I64 h
theorem mulR_I64 {an ad bn bd n d e : Int} (h : mulR an ad bn bd = (n, d, e)) : I64 n ∧ I64 d := by
  unfold mulR at h; split at h
  · exact ratF_I64 h
  · exact none_I64 h
/-- A number over itself is one. -/
theorem divR_self {n d : Int} (h : ratV n d = true) (h0 : n ≠ 0) : divR n d n d = (1, 1, 0) := by
  obtain ⟨h1, _⟩ := ratV_iff.1 h
  rw [divR_ratQ h h h0]
  refine ratQ_mk (Nat.mul_pos (by omega) (by omega)) (by decide) (by decide) (by unfold I64; omega) (by unfold I64; omega) ?_
  rw [Int.natCast_mul, show ((d.natAbs : Nat) : Int) = d by omega]
  by_cases hb : n < 0
  · rw [if_pos hb, show ((n.natAbs : Nat) : Int) = -n by omega]; grind
  · rw [if_neg hb, show ((n.natAbs : Nat) : Int) = n by omega]; grind
theorem div_ways (n d : Int) : (divR n d n d).2.2 ≠ 0 ∨ divR n d n d = (1, 1, 0) := by
  by_cases h : ratV n d = true
  · by_cases h0 : n = 0
    · left; unfold divR; rw [if_pos ⟨h, h⟩, if_pos h0]; decide
    · exact .inr (divR_self h h0)
  · left; unfold divR; rw [if_neg fun g => h g.1]; decide

end Go.Proofs.YtbaalbmchhgmnaaDoor
