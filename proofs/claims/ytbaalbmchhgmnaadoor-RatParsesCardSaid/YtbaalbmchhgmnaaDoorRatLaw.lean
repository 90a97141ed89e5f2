/-
  Rational numbers in plain Lean: lowest terms, sums, products, order. No program in sight.
-/
import Derived.Test.YtbaalbmchhgmnaaDoorRatSpec
namespace Go.Proofs.YtbaalbmchhgmnaaDoor
open Go.RowKit
set_option linter.unusedVariables false

/-- A number in lowest terms. -/
def ratV (n d : Int) : Bool := decide (1 ≤ d) && decide (Nat.gcd n.natAbs d.natAbs = 1)
/-- The quotient of an integer and a natural number, in lowest terms, if it fits. -/
def ratQ (s : Int) (D : Nat) : Int × Int × Int := ratF (decide (s < 0)) (s.natAbs / Nat.gcd s.natAbs D) (D / Nat.gcd s.natAbs D)
def addR (an ad bn bd : Int) : Int × Int × Int := if ratV an ad = true ∧ ratV bn bd = true then ratQ (an * bd + bn * ad) (ad * bd).natAbs else (0, 0, 1)
def subR (an ad bn bd : Int) : Int × Int × Int := if ratV an ad = true ∧ ratV bn bd = true then ratQ (an * bd - bn * ad) (ad * bd).natAbs else (0, 0, 1)
def mulR (an ad bn bd : Int) : Int × Int × Int := if ratV an ad = true ∧ ratV bn bd = true then ratQ (an * bn) (ad * bd).natAbs else (0, 0, 1)
def divR (an ad bn bd : Int) : Int × Int × Int := if ratV an ad = true ∧ ratV bn bd = true then (if bn = 0 then (0, 0, 4) else quoR (sgn an bn) (an.natAbs * bd.natAbs) (ad.natAbs * bn.natAbs)) else (0, 0, 1)
def sg (s : Int) : Int := if s = 0 then 0 else if s < 0 then -1 else 1
def cmpR (an ad bn bd : Int) : Int × Int := if ratV an ad = true ∧ ratV bn bd = true then (sg (an * bd - bn * ad), 0) else (0, 1)

theorem ratV_iff {n d : Int} : ratV n d = true ↔ 1 ≤ d ∧ Nat.gcd n.natAbs d.natAbs = 1 := by simp [ratV]
theorem ratF_zero (neg : Bool) (q : Nat) : ratF neg 0 q = ratF false 0 q := by
  unfold ratF; cases neg <;> simp
theorem quoR_ratQ {neg : Bool} {a b : Nat} {s : Int} (h : s.natAbs = a) (hs : a ≠ 0 → neg = decide (s < 0)) : quoR neg a b = ratQ s b := by
  unfold quoR ratQ
  rw [h]
  by_cases h0 : a = 0
  · subst h0; rw [Nat.zero_div, ratF_zero]; exact (ratF_zero _ _).symm
  · rw [hs h0]
theorem sgn_pos {n d : Int} (h : 1 ≤ d) : sgn n d = decide (n < 0) := by
  unfold sgn; rw [decide_eq_false (show ¬ d < 0 by omega)]; cases decide (n < 0) <;> rfl
theorem mk_pos {n d : Int} (h : 1 ≤ d) : mk n d = ratQ n d.natAbs := by
  unfold mk ratQ; rw [if_neg (by omega), sgn_pos h]
theorem ratF_ok {neg : Bool} {p q : Nat} {n d : Int} (h : ratF neg p q = (n, d, 0)) : n = (if neg = true then -(p : Int) else p) ∧ d = q ∧ p ≤ (if neg = true then 9223372036854775808 else 9223372036854775807) ∧ q ≤ 9223372036854775807 := by
  unfold ratF at h
  by_cases hh : (if neg = true then 9223372036854775808 else 9223372036854775807) < p ∨ 9223372036854775807 < q
  · rw [if_pos hh] at h; cases h
  · rw [if_neg hh] at h
    injection h with h1 h2
    injection h2 with h2 h3
    exact ⟨h1.symm, h2.symm, by omega, by omega⟩
theorem ratF_mk {neg : Bool} {p q : Nat} (h1 : p ≤ (if neg = true then 9223372036854775808 else 9223372036854775807)) (h2 : q ≤ 9223372036854775807) : ratF neg p q = ((if neg = true then -(p : Int) else p), (q : Int), 0) := by
  unfold ratF
  rw [if_neg (by omega)]
theorem ratF_big {neg : Bool} {p q : Nat} (h : 9223372036854775808 < p ∨ 9223372036854775807 < q) : ratF neg p q = (0, 0, 3) := by
  unfold ratF
  rw [if_pos]
  rcases h with h | h
  · left; cases neg <;> simp <;> omega
  · exact .inr h
theorem ratF_cases (neg : Bool) (p q : Nat) : (ratF neg p q).2.2 = 0 ∨ ratF neg p q = (0, 0, 3) := by
  unfold ratF
  by_cases hh : (if neg = true then 9223372036854775808 else 9223372036854775807) < p ∨ 9223372036854775807 < q
  · rw [if_pos hh]; right; rfl
  · rw [if_neg hh]; left; rfl

theorem coprime_div {a b : Nat} (hb : 0 < b) : Nat.gcd (a / Nat.gcd a b) (b / Nat.gcd a b) = 1 := by
  have hg : 0 < Nat.gcd a b := Nat.gcd_pos_of_pos_right _ hb
  rw [Nat.gcd_div (Nat.gcd_dvd_left a b) (Nat.gcd_dvd_right a b)]; exact Nat.div_self hg
/-- What a quotient in lowest terms is. -/
theorem ratQ_ok {s : Int} {D : Nat} {n d : Int} (hD : 0 < D) (h : ratQ s D = (n, d, 0)) : 1 ≤ d ∧ Nat.gcd n.natAbs d.natAbs = 1 ∧ I64 n ∧ I64 d ∧ s * d = n * (D : Int) := by
  have hg : 0 < Nat.gcd s.natAbs D := Nat.gcd_pos_of_pos_right _ hD
  have hc := coprime_div (a := s.natAbs) hD
  obtain ⟨x, hx⟩ := Nat.gcd_dvd_left s.natAbs D
  obtain ⟨y, hy⟩ := Nat.gcd_dvd_right s.natAbs D
  unfold ratQ at h
  generalize Nat.gcd s.natAbs D = g at *
  have ex : s.natAbs / g = x := by rw [hx]; exact Nat.mul_div_cancel_left _ hg
  have ey : D / g = y := by rw [hy]; exact Nat.mul_div_cancel_left _ hg
  rw [ex, ey] at hc h
  obtain ⟨rfl, rfl, h1, h2⟩ := ratF_ok h
  have hy0 : 0 < y := by
    rcases Nat.eq_zero_or_pos y with h0 | h0
    · subst h0; omega
    · exact h0
  have hsx : s = (g : Int) * (if decide (s < 0) = true then -(x : Int) else x) := by
    have : ((s.natAbs : Nat) : Int) = (g : Int) * (x : Int) := by rw [hx]; exact Int.natCast_mul _ _
    by_cases hs : s < 0
    · rw [if_pos (by simpa using hs), Int.mul_neg]; omega
    · rw [if_neg (by simpa using hs)]; omega
  refine ⟨by omega, ?_, ?_, ?_, ?_⟩
  · by_cases hs : s < 0
    · rw [if_pos (by simpa using hs)]; simpa using hc
    · rw [if_neg (by simpa using hs)]; simpa using hc
  · unfold I64
    by_cases hs : s < 0
    · rw [if_pos (by simpa using hs)] at h1 ⊢; omega
    · rw [if_neg (by simpa using hs)] at h1 ⊢; omega
  · unfold I64; omega
  · generalize (if decide (s < 0) = true then -(x : Int) else x) = m at *
    rw [hsx, hy, Int.natCast_mul]
    grind
/-- Lowest terms are unique. -/
theorem lowest_unique {s D n d : Nat} (hd : 0 < d) (hD : 0 < D) (hc : Nat.gcd n d = 1) (he : s * d = n * D) : s / Nat.gcd s D = n ∧ D / Nat.gcd s D = d := by
  have hg : 0 < Nat.gcd s D := Nat.gcd_pos_of_pos_right _ hD
  have hc2 := coprime_div (a := s) hD
  obtain ⟨x, hx⟩ := Nat.gcd_dvd_left s D
  obtain ⟨y, hy⟩ := Nat.gcd_dvd_right s D
  generalize Nat.gcd s D = g at *
  have ex : s / g = x := by rw [hx]; exact Nat.mul_div_cancel_left _ hg
  have ey : D / g = y := by rw [hy]; exact Nat.mul_div_cancel_left _ hg
  rw [ex, ey] at hc2 ⊢
  have he2 : x * d = n * y := by
    have : g * (x * d) = g * (n * y) := by
      rw [← Nat.mul_assoc, ← hx, he, hy]; grind
    exact Nat.eq_of_mul_eq_mul_left hg this
  have hy0 : 0 < y := by
    rcases Nat.eq_zero_or_pos y with h0 | h0
    · subst h0; omega
    · exact h0
  have d1 : d ∣ y := (Nat.Coprime.dvd_of_dvd_mul_left (show Nat.Coprime d n by rw [Nat.coprime_iff_gcd_eq_one, Nat.gcd_comm]; exact hc) ⟨x, by rw [← he2, Nat.mul_comm]⟩)
  have d2 : y ∣ d := (Nat.Coprime.dvd_of_dvd_mul_left (show Nat.Coprime y x by rw [Nat.coprime_iff_gcd_eq_one, Nat.gcd_comm]; exact hc2) ⟨n, by rw [he2, Nat.mul_comm]⟩)
  have hdy : y = d := Nat.dvd_antisymm d2 d1
  subst hdy
  exact ⟨Nat.eq_of_mul_eq_mul_right hd he2, rfl⟩
theorem ratQ_mk {s : Int} {D : Nat} {n d : Int} (hD : 0 < D) (h1 : 1 ≤ d) (hc : Nat.gcd n.natAbs d.natAbs = 1) (hn : I64 n) (hd : I64 d) (he : s * d = n * (D : Int)) : ratQ s D = (n, d, 0) := by
  have hn2 : s.natAbs * d.natAbs = n.natAbs * D := by
    have := congrArg Int.natAbs he
    rwa [Int.natAbs_mul, Int.natAbs_mul, Int.natAbs_natCast] at this
  obtain ⟨e1, e2⟩ := lowest_unique (by omega) hD hc hn2
  have hsg : s < 0 ↔ n < 0 := by
    have hD' : (0 : Int) < D := by omega
    constructor
    · intro h
      have : s * d < 0 := Int.mul_neg_of_neg_of_pos h (by omega)
      rw [he] at this
      exact Int.neg_of_mul_neg_left this (by omega)
    · intro h
      have : n * D < 0 := Int.mul_neg_of_neg_of_pos h hD'
      rw [← he] at this
      exact Int.neg_of_mul_neg_left this (by omega)
  unfold ratQ
  rw [e1, e2]
  unfold I64 at hn hd
  by_cases hs : n < 0
  · rw [decide_eq_true (hsg.2 hs), ratF_mk (by simp; omega) (by omega)]
    simp; omega
  · rw [decide_eq_false (mt hsg.1 hs), ratF_mk (by simp; omega) (by omega)]
    simp; omega
theorem mk_valid {n d : Int} (hn : I64 n) (hd : I64 d) (h1 : 1 ≤ d) : mk n d = (n, d, 0) ↔ Nat.gcd n.natAbs d.natAbs = 1 := by
  rw [mk_pos h1]
  constructor
  · intro h; exact (ratQ_ok (by omega) h).2.1
  · intro h; exact ratQ_mk (by omega) h1 h hn hd (by rw [show ((d.natAbs : Nat) : Int) = d by omega])
theorem mk_cases (n d : Int) : (mk n d).2.2 = 0 ∨ (mk n d).2.2 = 3 ∨ (mk n d).2.2 = 4 := by
  unfold mk; split
  · right; right; rfl
  · rcases ratF_cases (sgn n d) (n.natAbs / Nat.gcd n.natAbs d.natAbs) (d.natAbs / Nat.gcd n.natAbs d.natAbs) with h | h
    · exact .inl h
    · right; left; rw [h]
/-- What Make returns is valid, and Make of it is itself. -/
theorem mk_ok {n d a b : Int} (h : mk n d = (a, b, 0)) : 1 ≤ b ∧ Nat.gcd a.natAbs b.natAbs = 1 ∧ I64 a ∧ I64 b := by
  by_cases hd : d = 0
  · unfold mk at h; rw [if_pos hd] at h; simp at h
  · have e : mk n d = quoR (sgn n d) n.natAbs d.natAbs := by unfold mk quoR; rw [if_neg hd]
    have : ∃ s : Int, s.natAbs = n.natAbs ∧ (n.natAbs ≠ 0 → sgn n d = decide (s < 0)) := by
      cases hs : sgn n d
      · exact ⟨n.natAbs, by simp, fun _ => by symm; exact decide_eq_false (by omega)⟩
      · exact ⟨-(n.natAbs : Int), by simp, fun h => by symm; exact decide_eq_true (by omega)⟩
    obtain ⟨s, h1, h2⟩ := this
    rw [e, quoR_ratQ h1 h2] at h
    obtain ⟨x1, x2, x3, x4, _⟩ := ratQ_ok (by omega) h
    exact ⟨x1, x2, x3, x4⟩
theorem mk_idem {n d a b : Int} (h : mk n d = (a, b, 0)) : mk a b = (a, b, 0) := by
  obtain ⟨x1, x2, x3, x4⟩ := mk_ok h
  exact (mk_valid x3 x4 x1).2 x2
theorem ratV_mk {n d a b : Int} (h : mk n d = (a, b, 0)) : ratV a b = true := by
  obtain ⟨x1, x2, x3, x4⟩ := mk_ok h
  exact ratV_iff.2 ⟨x1, x2⟩
theorem ratV_of {n d : Int} (hn : I64 n) (hd : I64 d) : ratV n d = (decide (1 ≤ d) && decide (mk n d = (n, d, 0))) := by
  unfold ratV
  by_cases h1 : 1 ≤ d
  · have := mk_valid hn hd h1
    by_cases h2 : mk n d = (n, d, 0)
    · rw [decide_eq_true h2, decide_eq_true (this.1 h2)]
    · rw [decide_eq_false h2, decide_eq_false (mt this.2 h2)]
  · rw [decide_eq_false h1]; rfl

/-! Sums by the way of the code. -/
theorem gcd_cop {t p q g : Nat} (h1 : Nat.gcd t p = 1) (h2 : Nat.gcd t q = 1) : Nat.gcd t (p * (q * g)) = Nat.gcd t g := by
  have c1 : Nat.Coprime t p := h1
  have c2 : Nat.Coprime t q := h2
  rw [Nat.Coprime.gcd_mul_left_cancel_right _ c1.symm, Nat.Coprime.gcd_mul_left_cancel_right _ c2.symm]
theorem cop_sum {an bn : Int} {p q p' q' g : Nat} (ha : Nat.gcd an.natAbs p = 1) (hp : p = p' * g) (hpq : Nat.gcd p' q' = 1) : Nat.gcd (an * q' + bn * p').natAbs p' = 1 := by
  have hd1 := Nat.gcd_dvd_left (an * q' + bn * p').natAbs p'
  have hd2 := Nat.gcd_dvd_right (an * q' + bn * p').natAbs p'
  generalize Nat.gcd (an * q' + bn * p').natAbs p' = d at *
  have i1 : (d : Int) ∣ an * q' + bn * p' := Int.ofNat_dvd_left.2 hd1
  have i2 : (d : Int) ∣ (p' : Int) := Int.natCast_dvd_natCast.2 hd2
  have i3 : (d : Int) ∣ an * q' := by
    have := Int.dvd_sub i1 (Int.dvd_mul_of_dvd_right i2 (b := bn))
    rwa [Int.add_sub_cancel] at this
  have i4 : d ∣ an.natAbs * q' := by
    have := Int.ofNat_dvd_left.1 i3
    rwa [Int.natAbs_mul, Int.natAbs_natCast] at this
  have c : Nat.Coprime d q' := Nat.Coprime.coprime_dvd_left hd2 hpq
  have i5 : d ∣ an.natAbs := Nat.Coprime.dvd_of_dvd_mul_right c i4
  have i6 : d ∣ p := by rw [hp]; exact Nat.dvd_mul_right_of_dvd hd2 _
  have : d ∣ Nat.gcd an.natAbs p := Nat.dvd_gcd i5 i6
  rw [ha] at this
  exact Nat.dvd_one.1 this
/-- The sum, as the code makes it. -/
def joinT (an ad bn bd : Int) : Int := an * ((bd.natAbs / Nat.gcd ad.natAbs bd.natAbs : Nat) : Int) + bn * ((ad.natAbs / Nat.gcd ad.natAbs bd.natAbs : Nat) : Int)
def joinH (an ad bn bd : Int) : Nat := Nat.gcd (Nat.gcd ad.natAbs bd.natAbs) ((joinT an ad bn bd).natAbs % Nat.gcd ad.natAbs bd.natAbs)
def joinN (an ad bn bd : Int) : Nat := (joinT an ad bn bd).natAbs / joinH an ad bn bd
def joinD (an ad bn bd : Int) : Nat := (ad.natAbs / Nat.gcd ad.natAbs bd.natAbs) * (bd.natAbs / joinH an ad bn bd)
theorem join_law {an ad bn bd : Int} (ha : ratV an ad = true) (hb : ratV bn bd = true) :
    ∃ x y : Nat, joinN an ad bn bd = x ∧ joinD an ad bn bd = y ∧ 0 < y ∧ Nat.gcd x y = 1 ∧ ratQ (an * bd + bn * ad) (ad * bd).natAbs = ratF (decide (joinT an ad bn bd < 0)) x y ∧ 0 < joinH an ad bn bd := by
  obtain ⟨a1, a2⟩ := ratV_iff.1 ha
  obtain ⟨b1, b2⟩ := ratV_iff.1 hb
  have hp0 : 0 < ad.natAbs := by omega
  have hq0 : 0 < bd.natAbs := by omega
  have hg : 0 < Nat.gcd ad.natAbs bd.natAbs := Nat.gcd_pos_of_pos_right _ hq0
  have hc := coprime_div (a := ad.natAbs) hq0
  unfold joinD joinN joinH joinT
  have ead : ad = ((ad.natAbs : Nat) : Int) := by omega
  have ebd : bd = ((bd.natAbs : Nat) : Int) := by omega
  have edd : (ad * bd).natAbs = ad.natAbs * bd.natAbs := Int.natAbs_mul _ _
  rw [edd]
  have eS : an * bd + bn * ad = an * ((bd.natAbs : Nat) : Int) + bn * ((ad.natAbs : Nat) : Int) := by rw [← ead, ← ebd]
  rw [eS]
  clear ead ebd edd eS
  generalize ad.natAbs = p at *
  generalize bd.natAbs = q at *
  obtain ⟨p', hp'⟩ := Nat.gcd_dvd_left p q
  obtain ⟨q', hq'⟩ := Nat.gcd_dvd_right p q
  generalize Nat.gcd p q = g at *
  have ex : p / g = p' := by rw [hp']; exact Nat.mul_div_cancel_left _ hg
  have ey : q / g = q' := by rw [hq']; exact Nat.mul_div_cancel_left _ hg
  rw [ex, ey] at hc ⊢
  have hc1 : Nat.gcd (an * q' + bn * p').natAbs p' = 1 := cop_sum (q := q) a2 (by rw [hp', Nat.mul_comm]) hc
  have hc2 : Nat.gcd (an * q' + bn * p').natAbs q' = 1 := by
    have := cop_sum (an := bn) (bn := an) (q := p) (p := q) (p' := q') (q' := p') (g := g) b2 (by rw [Nat.mul_comm]; exact hq') (by rw [Nat.gcd_comm]; exact hc)
    rwa [Int.add_comm] at this
  obtain ⟨T, hT⟩ : ∃ T, T = an * (q' : Int) + bn * (p' : Int) := ⟨_, rfl⟩
  rw [← hT] at hc1 hc2 ⊢
  have hS : an * (q : Int) + bn * (p : Int) = (g : Int) * T := by
    rw [hT, hp', hq', Int.natCast_mul, Int.natCast_mul]; grind
  have hh : Nat.gcd g (T.natAbs % g) = Nat.gcd T.natAbs g := by
    rw [Nat.gcd_comm g, ← Nat.gcd_rec, Nat.gcd_comm]
  rw [hh]
  have hh0 : 0 < Nat.gcd T.natAbs g := Nat.gcd_pos_of_pos_right _ hg
  have hG : Nat.gcd (g * T.natAbs) (p * q) = g * Nat.gcd T.natAbs g := by
    have e : p * q = g * (p' * (q' * g)) := by rw [hp', hq']; grind
    rw [e, Nat.gcd_mul_left, gcd_cop hc1 hc2]
  obtain ⟨x, hx⟩ := Nat.gcd_dvd_left T.natAbs g
  obtain ⟨y, hy⟩ := Nat.gcd_dvd_right T.natAbs g
  have hq2 : q = Nat.gcd T.natAbs g * (y * q') := by
    have : q = g * q' := hq'
    rw [this]
    have h2 : g * q' = (Nat.gcd T.natAbs g * y) * q' := by rw [← hy]
    rw [h2, Nat.mul_assoc]
  generalize hHdef : Nat.gcd T.natAbs g = h at *
  have e1 : T.natAbs / h = x := by rw [hx]; exact Nat.mul_div_cancel_left _ hh0
  have e2 : q / h = y * q' := by rw [hq2]; exact Nat.mul_div_cancel_left _ hh0
  rw [e1, e2]
  have hsn : ((g : Int) * T).natAbs = g * T.natAbs := by rw [Int.natAbs_mul, Int.natAbs_natCast]
  have hpq : p * q = (g * h) * (p' * (y * q')) := by
    rw [hp']
    have : q = h * (y * q') := hq2
    rw [this]; grind
  have hTn : g * T.natAbs = (g * h) * x := by rw [hx]; grind
  have hgh : 0 < g * h := Nat.mul_pos hg hh0
  have hpq0 : 0 < p * q := Nat.mul_pos hp0 hq0
  have ratN : g * T.natAbs / (g * h) = x := by rw [hTn]; exact Nat.mul_div_cancel_left _ hgh
  have ratD : p * q / (g * h) = p' * (y * q') := by rw [hpq]; exact Nat.mul_div_cancel_left _ hgh
  have hy0 : 0 < p' * (y * q') := by
    rcases Nat.eq_zero_or_pos (p' * (y * q')) with h0 | h0
    · rw [h0] at hpq; omega
    · exact h0
  refine ⟨x, p' * (y * q'), rfl, rfl, hy0, ?_, ?_, hh0⟩
  · have := coprime_div (a := g * T.natAbs) hpq0
    rwa [hG, ratN, ratD] at this
  · unfold ratQ
    rw [hS, hsn, hG, ratN, ratD]
    congr 1
    have hgi : (0 : Int) < g := by omega
    rw [decide_eq_decide]
    constructor
    · intro hneg; exact Int.neg_of_mul_neg_left (by rw [Int.mul_comm] at hneg; exact hneg) (by omega)
    · intro hneg; rw [Int.mul_comm]; exact Int.mul_neg_of_neg_of_pos hneg hgi

/-- What plus returns. -/
def plusS (s1 : Bool) (m1 : Nat) (s2 : Bool) (m2 : Nat) : Bool := if s1 = s2 then s1 else if m1 < m2 then (s2 && decide (m2 - m1 ≠ 0)) else (s1 && decide (m1 - m2 ≠ 0))
def plusM (s1 : Bool) (m1 : Nat) (s2 : Bool) (m2 : Nat) : Nat := if s1 = s2 then m1 + m2 else if m1 < m2 then m2 - m1 else m1 - m2
def sv (s : Bool) (m : Nat) : Int := if s = true then -(m : Int) else m
theorem plus_law (s1 : Bool) (m1 : Nat) (s2 : Bool) (m2 : Nat) : plusM s1 m1 s2 m2 = (sv s1 m1 + sv s2 m2).natAbs ∧ (plusM s1 m1 s2 m2 ≠ 0 → plusS s1 m1 s2 m2 = decide (sv s1 m1 + sv s2 m2 < 0)) := by
  unfold plusM plusS sv
  rcases Nat.lt_or_ge m1 m2 with hl | hl
  · cases s1 <;> cases s2 <;> simp [hl] <;> first | omega | (refine ⟨by omega, fun h => ?_⟩; rw [decide_eq_false h]; symm; rw [Bool.not_eq_false', decide_eq_true_eq]; omega)
  · have hn : ¬ m1 < m2 := by omega
    cases s1 <;> cases s2 <;> simp [hn] <;> first | omega | (refine ⟨by omega, fun h => ?_⟩; rw [decide_eq_false h]; symm; rw [Bool.not_eq_false', decide_eq_true_eq]; omega)
theorem sv_mul (a : Int) (m : Nat) : sv (decide (a < 0)) (a.natAbs * m) = a * (m : Int) := by
  unfold sv
  by_cases h : a < 0
  · rw [if_pos (by simpa using h), Int.natCast_mul, show ((a.natAbs : Nat) : Int) = -a by omega, Int.neg_mul, Int.neg_neg]
  · rw [if_neg (by simpa using h), Int.natCast_mul, show ((a.natAbs : Nat) : Int) = a by omega]
def turn (t : Bool) (b : Int) : Int := if t = true then -b else b
theorem sv_turn (a : Int) (m : Nat) (t : Bool) : sv (decide (a < 0) != t) (a.natAbs * m) = turn t a * (m : Int) := by
  cases t
  · rw [Bool.bne_false]; exact sv_mul a m
  · have := sv_mul a m
    unfold turn; rw [if_pos rfl, Int.neg_mul, ← this]
    unfold sv
    by_cases h : a < 0
    · simp [h]
    · simp [h]
theorem ratV_turn (t : Bool) (b d : Int) : ratV (turn t b) d = ratV b d := by
  unfold ratV turn; cases t <;> simp
/-- The sum of the code, its sizes. -/
theorem join_nat (an : Int) (p : Nat) (bn : Int) (q : Nat) (t : Bool) :
    plusM (decide (an < 0)) (an.natAbs * (q / Nat.gcd p q)) (decide (bn < 0) != t) (bn.natAbs * (p / Nat.gcd p q)) = (joinT an p (turn t bn) q).natAbs ∧
      ((joinT an p (turn t bn) q).natAbs ≠ 0 → plusS (decide (an < 0)) (an.natAbs * (q / Nat.gcd p q)) (decide (bn < 0) != t) (bn.natAbs * (p / Nat.gcd p q)) = decide (joinT an p (turn t bn) q < 0)) := by
  obtain ⟨h1, h2⟩ := plus_law (decide (an < 0)) (an.natAbs * (q / Nat.gcd p q)) (decide (bn < 0) != t) (bn.natAbs * (p / Nat.gcd p q))
  rw [sv_mul, sv_turn] at h1 h2
  unfold joinT
  rw [Int.natAbs_natCast, Int.natAbs_natCast]
  rw [h1] at h2
  exact ⟨h1, h2⟩

/-! Products by the way of the code. -/
theorem prod_law {x y z u : Nat} (h1 : Nat.gcd x z = 1) (h2 : Nat.gcd y u = 1) (hz : 0 < z) (hu : 0 < u) :
    (x * y) / Nat.gcd (x * y) (z * u) = (x / Nat.gcd x u) * (y / Nat.gcd y z) ∧ (z * u) / Nat.gcd (x * y) (z * u) = (z / Nat.gcd y z) * (u / Nat.gcd x u) ∧ Nat.gcd ((x / Nat.gcd x u) * (y / Nat.gcd y z)) ((z / Nat.gcd y z) * (u / Nat.gcd x u)) = 1 := by
  have hg : 0 < Nat.gcd x u := Nat.gcd_pos_of_pos_right _ hu
  have hh : 0 < Nat.gcd y z := Nat.gcd_pos_of_pos_right _ hz
  have c1 := coprime_div (a := x) hu
  have c2 := coprime_div (a := y) hz
  obtain ⟨x', hx⟩ := Nat.gcd_dvd_left x u
  obtain ⟨u', hu'⟩ := Nat.gcd_dvd_right x u
  obtain ⟨y', hy⟩ := Nat.gcd_dvd_left y z
  obtain ⟨z', hz'⟩ := Nat.gcd_dvd_right y z
  generalize Nat.gcd x u = g at *
  generalize Nat.gcd y z = h at *
  have ex : x / g = x' := by rw [hx]; exact Nat.mul_div_cancel_left _ hg
  have eu : u / g = u' := by rw [hu']; exact Nat.mul_div_cancel_left _ hg
  have ey : y / h = y' := by rw [hy]; exact Nat.mul_div_cancel_left _ hh
  have ez : z / h = z' := by rw [hz']; exact Nat.mul_div_cancel_left _ hh
  rw [ex, eu] at c1
  rw [ey, ez] at c2
  rw [ex, eu, ey, ez]
  have k1 : Nat.Coprime x' u' := c1
  have k2 : Nat.Coprime y' z' := c2
  have k3 : Nat.Coprime x' z' := by
    have : Nat.Coprime x z := h1
    rw [hx, hz'] at this
    exact Nat.Coprime.coprime_mul_left (Nat.Coprime.coprime_mul_left_right this)
  have k4 : Nat.Coprime y' u' := by
    have : Nat.Coprime y u := h2
    rw [hy, hu'] at this
    exact Nat.Coprime.coprime_mul_left (Nat.Coprime.coprime_mul_left_right this)
  have kk : Nat.Coprime (x' * y') (z' * u') := by
    apply Nat.Coprime.mul_left
    · exact Nat.Coprime.mul_right k3 k1
    · exact Nat.Coprime.mul_right k2 k4
  have e1 : x * y = (g * h) * (x' * y') := by rw [hx, hy]; grind
  have e2 : z * u = (g * h) * (z' * u') := by rw [hz', hu']; grind
  have hgh : 0 < g * h := Nat.mul_pos hg hh
  have eg : Nat.gcd (x * y) (z * u) = g * h := by
    rw [e1, e2, Nat.gcd_mul_left, Nat.coprime_iff_gcd_eq_one.1 kk, Nat.mul_one]
  refine ⟨?_, ?_, kk⟩
  · rw [eg, e1]; exact Nat.mul_div_cancel_left _ hgh
  · rw [eg, e2]; exact Nat.mul_div_cancel_left _ hgh
theorem quoR_cop {neg : Bool} {a b : Nat} (h : Nat.gcd a b = 1) : quoR neg a b = ratF neg a b := by unfold quoR; rw [h, Nat.div_one, Nat.div_one]

end Go.Proofs.YtbaalbmchhgmnaaDoor
