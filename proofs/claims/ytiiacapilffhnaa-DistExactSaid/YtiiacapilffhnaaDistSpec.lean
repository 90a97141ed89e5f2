/-
  Distributions in plain Lean: ranges, what is valid, the scale, weights, totals. No program in sight.
-/
import Derived.Test.YtiiacapilffhnaaSpec
import Derived.Test.YtiiacapilffhnaaNumE
namespace Go.Proofs.Ytiiacapilffhnaa
open Go.RowKit
set_option linter.unusedVariables false
set_option linter.unusedSimpArgs false

/-- A range of a distribution. -/
structure Rg where
  lo : Int
  hi : Int
  wt : Int
  ea : Bool
def rg0 : Rg := ⟨0, 0, 0, false⟩
/-- Its fields fit in their types. -/
def Rg.fit (r : Rg) : Prop := I64 r.lo ∧ I64 r.hi ∧ I64 r.wt
/-- A range is valid for a width. -/
def rgOk (r : Rg) (wd : Int) : Bool := decide (0 ≤ r.lo ∧ r.lo ≤ r.hi ∧ r.hi < 2 ^ wd.toNat ∧ 0 ≤ r.wt ∧ r.wt ≤ 1000)
theorem rgOk_iff {r : Rg} {wd : Int} : rgOk r wd = true ↔ 0 ≤ r.lo ∧ r.lo ≤ r.hi ∧ r.hi < 2 ^ wd.toNat ∧ 0 ≤ r.wt ∧ r.wt ≤ 1000 := by unfold rgOk; simp
/-- The error of a distribution for a width. -/
def vld (l : List Rg) (wd : Int) : Int :=
  if wd < 1 ∨ 8 < wd then 1 else if 16 < l.length then 2 else if l.length = 0 then 1 else if l.all (fun r => rgOk r wd) then 0 else 1
theorem vld_zero {l : List Rg} {wd : Int} (h : vld l wd = 0) : 1 ≤ wd ∧ wd ≤ 8 ∧ l.length ≤ 16 ∧ 0 < l.length ∧ ∀ r ∈ l, rgOk r wd = true := by
  unfold vld at h
  by_cases h1 : wd < 1 ∨ 8 < wd
  · rw [if_pos h1] at h; simp at h
  rw [if_neg h1] at h
  by_cases h2 : 16 < l.length
  · rw [if_pos h2] at h; simp at h
  rw [if_neg h2] at h
  by_cases h3 : l.length = 0
  · rw [if_pos h3] at h; simp at h
  rw [if_neg h3] at h
  by_cases h4 : l.all (fun r => rgOk r wd) = true
  · exact ⟨by omega, by omega, by omega, by omega, fun r hr => List.all_eq_true.1 h4 r hr⟩
  · rw [if_neg h4] at h; simp at h
theorem vld_bad {l : List Rg} {wd : Int} (h1 : ¬ (wd < 1 ∨ 8 < wd)) (h2 : ¬ 16 < l.length) {k : Nat} (hk : k < l.length) (h : rgOk (l.getD k rg0) wd = false) : vld l wd = 1 := by
  unfold vld
  rw [if_neg h1, if_neg h2, if_neg (by omega), if_neg]
  intro ha
  have := List.all_eq_true.1 ha (l.getD k rg0) (by rw [List.getD_eq_getElem?_getD, List.getElem?_eq_getElem hk]; exact List.getElem_mem hk)
  rw [h] at this; cases this
theorem vld_good {l : List Rg} {wd : Int} (h1 : ¬ (wd < 1 ∨ 8 < wd)) (h2 : ¬ 16 < l.length) (h3 : ¬ l.length = 0) (h : ∀ k, k < l.length → rgOk (l.getD k rg0) wd = true) : vld l wd = 0 := by
  unfold vld
  rw [if_neg h1, if_neg h2, if_neg h3, if_pos]
  refine List.all_eq_true.2 fun r hr => ?_
  obtain ⟨k, hk, rfl⟩ := List.getElem_of_mem hr
  have := h k hk
  rwa [List.getD_eq_getElem?_getD, List.getElem?_eq_getElem hk] at this
theorem vld_cases (l : List Rg) (wd : Int) : vld l wd = 0 ∨ vld l wd = 1 ∨ vld l wd = 2 := by
  unfold vld; split <;> (try split) <;> (try split) <;> (try split) <;> simp

/-- The cells of a range. -/
def rcells (r : Rg) : List Value := [.int .i64 r.lo, .int .i64 r.hi, .int .i64 r.wt, .bool r.ea]
/-- The ranges lie behind an address. -/
structure RG (w : World) (a : Addr) (l : List Rg) : Prop where
  lt : a.block < w.heap.size
  cells : ∀ k, k < l.length → w.cell? (a.add (k * 4)) = some (.int .i64 (l.getD k rg0).lo) ∧ w.cell? ⟨(a.add (k * 4)).block, (a.add (k * 4)).off + 1, none⟩ = some (.int .i64 (l.getD k rg0).hi) ∧ w.cell? ⟨(a.add (k * 4)).block, (a.add (k * 4)).off + 2, none⟩ = some (.int .i64 (l.getD k rg0).wt) ∧ w.cell? ⟨(a.add (k * 4)).block, (a.add (k * 4)).off + 3, none⟩ = some (.bool (l.getD k rg0).ea)
theorem RG.below {w w' : World} {a : Addr} {l : List Rg} (h : RG w a l) (hb : Below w.heap.size w w') : RG w' a l :=
  ⟨Nat.lt_of_lt_of_le h.lt hb.size, fun k hk => by
    have hlt : ∀ n, (a.add n).block < w.heap.size := fun n => by rw [block_of_add]; exact h.lt
    rw [hb.cell (hlt (k * 4)), hb.cell (p := ⟨(a.add (k * 4)).block, _, none⟩) (hlt (k * 4)), hb.cell (p := ⟨(a.add (k * 4)).block, _, none⟩) (hlt (k * 4)), hb.cell (p := ⟨(a.add (k * 4)).block, _, none⟩) (hlt (k * 4))]
    exact h.cells k hk⟩
/-- A slice value reads as these ranges. -/
def DL (w : World) (v : Value) (l : List Rg) : Prop := ∃ (A : Option Addr) (c : Nat), v = .slice A l.length c ∧ l.length ≤ c ∧ c ≤ 9223372036854775807 ∧ (0 < l.length → ∃ a, A = some a ∧ RG w a l)
theorem DL.below {w w' : World} {v : Value} {l : List Rg} (h : DL w v l) (hb : Below w.heap.size w w') : DL w' v l := by
  obtain ⟨A, c, hv, hc, hm, hs⟩ := h
  exact ⟨A, c, hv, hc, hm, fun hp => by obtain ⟨a, ha, hr⟩ := hs hp; exact ⟨a, ha, hr.below hb⟩⟩
/-- All fields fit. -/
def LF (l : List Rg) : Prop := ∀ k, k < l.length → (l.getD k rg0).fit
/-- How the test of a range goes, way by way. -/
theorem rg_ways (r : Rg) (wd : Int) (B : Int) (hB : B = 2 ^ wd.toNat) :
    (rgOk r wd = false ∧ ((decide (r.lo < 0) = true) ∨ (decide (r.lo < 0) = false ∧ decide (r.hi < r.lo) = true) ∨ (decide (r.lo < 0) = false ∧ decide (r.hi < r.lo) = false ∧ decide (B - 1 < r.hi) = true ∧ decide (B ≤ r.hi) = true) ∨
      (decide (r.lo < 0) = false ∧ decide (r.hi < r.lo) = false ∧ (decide (B - 1 < r.hi) = false ∧ decide (B ≤ r.hi) = false) ∧ decide (r.wt < 0) = true) ∨
      (decide (r.lo < 0) = false ∧ decide (r.hi < r.lo) = false ∧ (decide (B - 1 < r.hi) = false ∧ decide (B ≤ r.hi) = false) ∧ decide (r.wt < 0) = false ∧ decide (1000 < r.wt) = true))) ∨
    (rgOk r wd = true ∧ (decide (r.lo < 0) = false ∧ decide (r.hi < r.lo) = false ∧ (decide (B - 1 < r.hi) = false ∧ decide (B ≤ r.hi) = false) ∧ decide (r.wt < 0) = false ∧ decide (1000 < r.wt) = false)) := by
  by_cases h : rgOk r wd = true
  · right
    refine ⟨h, ?_⟩
    rw [rgOk_iff, ← hB] at h
    obtain ⟨h1, h2, h3, h4, h5⟩ := h
    simp only [decide_eq_false_iff_not]
    omega
  · left
    refine ⟨by simpa using h, ?_⟩
    rw [rgOk_iff, ← hB] at h
    simp only [decide_eq_false_iff_not, decide_eq_true_eq]
    omega
theorem pow_wd {wd : Int} (h1 : 1 ≤ wd) (h2 : wd ≤ 8) : ∃ B : Int, B = 2 ^ wd.toNat ∧ 2 ≤ B ∧ B ≤ 256 ∧ IntKind.i64.wrap (2 ^ wd.toNat) = B := by
  have : wd = 1 ∨ wd = 2 ∨ wd = 3 ∨ wd = 4 ∨ wd = 5 ∨ wd = 6 ∨ wd = 7 ∨ wd = 8 := by omega
  rcases this with rfl | rfl | rfl | rfl | rfl | rfl | rfl | rfl <;> exact ⟨_, rfl, by decide, by decide, by decide⟩

/-! The scale. -/
def sclRun : List Rg → Int → Int × Int
  | [], s => (s, 0)
  | r :: l, s => if r.ea = true then sclRun l s else if cE (Int.lcm s (r.hi - r.lo + 1)) = 0 then sclRun l (Int.lcm s (r.hi - r.lo + 1)) else (0, 3)
def scl (l : List Rg) : Int × Int := sclRun l 1
theorem drop_cons (l : List Rg) (k : Nat) (h : k < l.length) : l.drop k = l.getD k rg0 :: l.drop (k + 1) := by
  rw [List.drop_eq_getElem_cons h, List.getD_eq_getElem?_getD, List.getElem?_eq_getElem h]; rfl
theorem scl_each {l : List Rg} {k : Nat} {s : Int} (h : k < l.length) (he : (l.getD k rg0).ea = true) : sclRun (l.drop k) s = sclRun (l.drop (k + 1)) s := by rw [drop_cons l k h, sclRun, if_pos he]
theorem scl_go {l : List Rg} {k : Nat} {s : Int} (h : k < l.length) (he : (l.getD k rg0).ea = false) (hc : cE (Int.lcm s ((l.getD k rg0).hi - (l.getD k rg0).lo + 1)) = 0) :
    sclRun (l.drop k) s = sclRun (l.drop (k + 1)) (Int.lcm s ((l.getD k rg0).hi - (l.getD k rg0).lo + 1)) := by rw [drop_cons l k h, sclRun, if_neg (by rw [he]; decide), if_pos hc]
theorem scl_err {l : List Rg} {k : Nat} {s : Int} (h : k < l.length) (he : (l.getD k rg0).ea = false) (hc : cE (Int.lcm s ((l.getD k rg0).hi - (l.getD k rg0).lo + 1)) ≠ 0) :
    sclRun (l.drop k) s = (0, 3) := by rw [drop_cons l k h, sclRun, if_neg (by rw [he]; decide), if_neg hc]
theorem scl_end {l : List Rg} {s : Int} : sclRun (l.drop l.length) s = (s, 0) := by rw [List.drop_length, sclRun]
theorem sclRun_bd : ∀ (l : List Rg) (s : Int), (∀ r ∈ l, r.lo ≤ r.hi) → 1 ≤ s → s ≤ 9223372036854775807 → (sclRun l s = (0, 3)) ∨ ((sclRun l s).2 = 0 ∧ 1 ≤ (sclRun l s).1 ∧ (sclRun l s).1 ≤ 9223372036854775807)
  | [], s, _, h1, h2 => .inr ⟨rfl, h1, h2⟩
  | r :: l, s, hr, h1, h2 => by
    unfold sclRun
    by_cases he : r.ea = true
    · rw [if_pos he]; exact sclRun_bd l s (fun x hx => hr x (by simp [hx])) h1 h2
    · rw [if_neg he]
      by_cases hc : cE (Int.lcm s (r.hi - r.lo + 1)) = 0
      · rw [if_pos hc]
        have hlo := hr r (by simp)
        have hp : 0 < Int.lcm s (r.hi - r.lo + 1) := Nat.pos_of_ne_zero fun h0 => by
          rcases Int.lcm_eq_zero_iff.1 h0 with h | h <;> omega
        have hz := cE_zero hc
        exact sclRun_bd l _ (fun x hx => hr x (by simp [hx])) (by omega) (by omega)
      · rw [if_neg hc]; exact .inl rfl
theorem scl_bd {l : List Rg} {wd : Int} (h : vld l wd = 0) : (scl l = (0, 3)) ∨ ((scl l).2 = 0 ∧ 1 ≤ (scl l).1 ∧ (scl l).1 ≤ 9223372036854775807) := by
  obtain ⟨_, _, _, _, h⟩ := vld_zero h
  exact sclRun_bd l 1 (fun r hr => (rgOk_iff.1 (h r hr)).2.1) (by omega) (by omega)

/-! The range of a value. -/
def inR (v : Int) (r : Rg) : Bool := decide (r.lo ≤ v) && decide (v ≤ r.hi)
def fnd (l : List Rg) (v : Int) : Option Rg := l.find? (inR v)
theorem fnd_yes {l : List Rg} {v : Int} {k : Nat} (h : k < l.length) (hi : inR v (l.getD k rg0) = true) : fnd (l.drop k) v = some (l.getD k rg0) := by
  unfold fnd; rw [drop_cons l k h, List.find?_cons, hi]
theorem fnd_no {l : List Rg} {v : Int} {k : Nat} (h : k < l.length) (hi : inR v (l.getD k rg0) = false) : fnd (l.drop k) v = fnd (l.drop (k + 1)) v := by
  unfold fnd; rw [drop_cons l k h, List.find?_cons, hi]
theorem fnd_end {l : List Rg} {v : Int} : fnd (l.drop l.length) v = none := by unfold fnd; rw [List.drop_length]; rfl
theorem in_ways (v : Int) (r : Rg) : (inR v r = true ∧ decide (r.lo ≤ v) = true ∧ decide (v ≤ r.hi) = true) ∨ (inR v r = false ∧ (decide (r.lo ≤ v) = false ∨ (decide (r.lo ≤ v) = true ∧ decide (v ≤ r.hi) = false))) := by
  unfold inR
  cases decide (r.lo ≤ v) <;> cases decide (v ≤ r.hi) <;> simp
def fstI : List Rg → Int → Nat → Int
  | [], _, _ => -1
  | r :: l, v, k => if inR v r = true then k else fstI l v (k + 1)
theorem fstI_yes {l : List Rg} {v : Int} {k : Nat} (h : k < l.length) (hi : inR v (l.getD k rg0) = true) : fstI (l.drop k) v k = k := by
  rw [drop_cons l k h, fstI, if_pos hi]
theorem fstI_no {l : List Rg} {v : Int} {k : Nat} (h : k < l.length) (hi : inR v (l.getD k rg0) = false) : fstI (l.drop k) v k = fstI (l.drop (k + 1)) v (k + 1) := by
  rw [drop_cons l k h, fstI, if_neg (by rw [hi]; decide)]
theorem fstI_end {l : List Rg} {v : Int} : fstI (l.drop l.length) v l.length = -1 := by rw [List.drop_length, fstI]
theorem fstI_fnd : ∀ (l : List Rg) (v : Int) (k : Nat), (fstI l v k = -1 ∧ fnd l v = none) ∨ (∃ i : Nat, fstI l v k = (k + i : Nat) ∧ i < l.length ∧ fnd l v = some (l.getD i rg0))
  | [], v, k => .inl ⟨rfl, rfl⟩
  | r :: l, v, k => by
    unfold fstI
    by_cases hi : inR v r = true
    · rw [if_pos hi]
      exact .inr ⟨0, by simp, by simp, by unfold fnd; rw [List.find?_cons, hi]; rfl⟩
    · rw [if_neg hi]
      have hf : fnd (r :: l) v = fnd l v := by unfold fnd; rw [List.find?_cons]; simp [hi]
      rw [hf]
      rcases fstI_fnd l v (k + 1) with ⟨h1, h2⟩ | ⟨i, h1, h2, h3⟩
      · exact .inl ⟨h1, h2⟩
      · exact .inr ⟨i + 1, by rw [h1]; congr 1; omega, by simp; omega, by rw [h3]; simp⟩
theorem fnd_mem {l : List Rg} {v : Int} {r : Rg} (h : fnd l v = some r) : r ∈ l ∧ r.lo ≤ v ∧ v ≤ r.hi := by
  unfold fnd at h
  refine ⟨List.mem_of_find?_eq_some h, ?_⟩
  have := List.find?_some h
  unfold inR at this
  simpa using this

/-! Weights. -/
def wgt1 (r : Rg) (n : Int) : Int := if r.ea = true then r.wt * n else r.wt * (n / (r.hi - r.lo + 1))
def wgt (l : List Rg) (n v : Int) : Int × Int := match fnd l v with
  | none => (0, 0)
  | some r => (cV (wgt1 r n), cE (wgt1 r n))

/-- All ranges are valid for the greatest width. -/
def RV (l : List Rg) : Prop := ∀ k, k < l.length → 0 ≤ (l.getD k rg0).lo ∧ (l.getD k rg0).lo ≤ (l.getD k rg0).hi ∧ (l.getD k rg0).hi ≤ 255 ∧ 0 ≤ (l.getD k rg0).wt ∧ (l.getD k rg0).wt ≤ 1000
theorem vld_RV {l : List Rg} {wd : Int} (h : vld l wd = 0) : RV l := by
  obtain ⟨h1, h2, _, _, h⟩ := vld_zero h
  intro k hk
  obtain ⟨B, hB, _, hB2, _⟩ := pow_wd h1 h2
  have := rgOk_iff.1 (h (l.getD k rg0) (by rw [List.getD_eq_getElem?_getD, List.getElem?_eq_getElem hk]; exact List.getElem_mem hk))
  rw [← hB] at this
  omega
theorem RV.mem {l : List Rg} (h : RV l) {r : Rg} (hr : r ∈ l) : 0 ≤ r.lo ∧ r.lo ≤ r.hi ∧ r.hi ≤ 255 ∧ 0 ≤ r.wt ∧ r.wt ≤ 1000 := by
  obtain ⟨k, hk, rfl⟩ := List.getElem_of_mem hr
  have := h k hk
  rwa [List.getD_eq_getElem?_getD, List.getElem?_eq_getElem hk] at this
/-- A cell of a range, in a later world. -/
theorem RG.at_ {w w' : World} {a : Addr} {l : List Rg} (h : RG w a l) (hb : Below w.heap.size w w') {k : Nat} (hk : k < l.length) {lo hi wt : Int} {ea : Bool} (hr : l.getD k rg0 = ⟨lo, hi, wt, ea⟩) :
    w'.cell? (a.add (k * 4)) = some (.int .i64 lo) ∧ w'.cell? ⟨(a.add (k * 4)).block, (a.add (k * 4)).off + 1, none⟩ = some (.int .i64 hi) ∧ w'.cell? ⟨(a.add (k * 4)).block, (a.add (k * 4)).off + 2, none⟩ = some (.int .i64 wt) ∧ w'.cell? ⟨(a.add (k * 4)).block, (a.add (k * 4)).off + 3, none⟩ = some (.bool ea) := by
  have := (h.below hb).cells k hk
  rw [hr] at this
  exact this

theorem wgt1_nonneg {r : Rg} {n : Int} (hr : 0 ≤ r.lo ∧ r.lo ≤ r.hi ∧ r.hi ≤ 255 ∧ 0 ≤ r.wt ∧ r.wt ≤ 1000) (h1 : 1 ≤ n) : 0 ≤ wgt1 r n := by
  unfold wgt1
  split
  · exact Int.mul_nonneg (by omega) (by omega)
  · exact Int.mul_nonneg (by omega) (Int.ediv_nonneg (by omega) (by omega))
theorem wgt_ways {l : List Rg} (hv : RV l) {n : Int} (h1 : 1 ≤ n) (v : Int) : ((wgt l n v).2 = 0 ∧ 0 ≤ (wgt l n v).1 ∧ (wgt l n v).1 ≤ 9223372036854775807) ∨ wgt l n v = (0, 3) := by
  unfold wgt
  rcases hf : fnd l v with _ | r
  · left; simp
  · have hn := wgt1_nonneg (hv.mem (fnd_mem hf).1) h1
    rcases c_ways (wgt1 r n) with ⟨e1, e2, e3, e4⟩ | ⟨e1, e2, _⟩
    · left; simp only [e1, e2]; exact ⟨trivial, hn, e4⟩
    · right; simp only [e1, e2]
/-- The sum of the weights of the values v .. v + k - 1, on top of s. -/
def totRun (l : List Rg) (n : Int) : Nat → Nat → Int → Int × Int
  | 0, _, s => (s, 0)
  | k + 1, v, s => if (wgt l n v).2 = 0 then (if cE (s + (wgt l n v).1) = 0 then totRun l n k (v + 1) (s + (wgt l n v).1) else (0, 3)) else (0, 3)
theorem tot_go {l : List Rg} {n : Int} {B k : Nat} {s : Int} (h : k < B) (h1 : (wgt l n k).2 = 0) (h2 : cE (s + (wgt l n k).1) = 0) : totRun l n (B - k) k s = totRun l n (B - (k + 1)) (k + 1) (s + (wgt l n k).1) := by
  obtain ⟨j, hj⟩ : ∃ j, B - k = j + 1 := ⟨B - k - 1, by omega⟩
  rw [hj, totRun, if_pos h1, if_pos h2, show B - (k + 1) = j by omega]
theorem tot_e1 {l : List Rg} {n : Int} {B k : Nat} {s : Int} (h : k < B) (h1 : (wgt l n k).2 ≠ 0) : totRun l n (B - k) k s = (0, 3) := by
  obtain ⟨j, hj⟩ : ∃ j, B - k = j + 1 := ⟨B - k - 1, by omega⟩
  rw [hj, totRun, if_neg h1]
theorem tot_e2 {l : List Rg} {n : Int} {B k : Nat} {s : Int} (h : k < B) (h2 : cE (s + (wgt l n k).1) ≠ 0) : totRun l n (B - k) k s = (0, 3) := by
  obtain ⟨j, hj⟩ : ∃ j, B - k = j + 1 := ⟨B - k - 1, by omega⟩
  rw [hj, totRun]
  by_cases h1 : (wgt l n k).2 = 0
  · rw [if_pos h1, if_neg h2]
  · rw [if_neg h1]
theorem tot_end {l : List Rg} {n : Int} {B : Nat} {s : Int} : totRun l n (B - B) B s = (s, 0) := by rw [Nat.sub_self, totRun]
def wl (l : List Rg) (n : Int) (k : Nat) : List Int := (List.range k).map fun v : Nat => (wgt l n (v : Int)).1
theorem wl_len (l : List Rg) (n : Int) (k : Nat) : (wl l n k).length = k := by simp [wl]
theorem wl_succ (l : List Rg) (n : Int) (k : Nat) : wl l n (k + 1) = wl l n k ++ [(wgt l n k).1] := by simp [wl, List.range_succ]
theorem wl_get (l : List Rg) (n : Int) (B k : Nat) (h : k < B) : (wl l n B).getD k 0 = (wgt l n k).1 := by simp [wl, List.getD_eq_getElem?_getD, h]
/-- The total, or the error. -/
def two (wd : Int) : Nat := 2 ^ wd.toNat
def tot (l : List Rg) (wd : Int) : Int × Int := if vld l wd ≠ 0 then (0, vld l wd) else if (scl l).2 ≠ 0 then (0, (scl l).2) else totRun l (scl l).1 (two wd) 0 0
def twl (l : List Rg) (wd : Int) : List Int := if (tot l wd).2 = 0 then wl l (scl l).1 (two wd) else []
theorem pow_nat {wd : Int} (h1 : 1 ≤ wd) (h2 : wd ≤ 8) : ∃ B : Nat, B = two wd ∧ 2 ≤ B ∧ B ≤ 256 ∧ IntKind.i64.wrap (2 ^ wd.toNat) = (B : Int) := by
  have : wd = 1 ∨ wd = 2 ∨ wd = 3 ∨ wd = 4 ∨ wd = 5 ∨ wd = 6 ∨ wd = 7 ∨ wd = 8 := by omega
  rcases this with rfl | rfl | rfl | rfl | rfl | rfl | rfl | rfl <;> exact ⟨_, rfl, by decide, by decide, by decide⟩

end Go.Proofs.Ytiiacapilffhnaa
