/-
  Natural numbers as lists of digits of base 10000, the least one first. No program in sight.
-/
import Derived.Test.YtbaalbmchhgmnaaDoorSpec
namespace Go.Proofs.YtbaalbmchhgmnaaDoor
open Go.RowKit
set_option linter.unusedVariables false

theorem drew_ex {w w' : World} (h : ∃ n, w' = w.drewN n) (k : Nat) : ∃ n, w'.drewN k = w.drewN n := by
  obtain ⟨n, rfl⟩ := h; exact ⟨n + k, by simp⟩
/-- The powers of the base. -/
def PW (k : Nat) : Nat := 10000 ^ k
theorem PW_zero : PW 0 = 1 := rfl
theorem PW_succ (k : Nat) : PW (k + 1) = PW k * 10000 := by unfold PW; rw [Nat.pow_succ]
theorem PW_add (j k : Nat) : PW (j + k) = PW j * PW k := by unfold PW; rw [Nat.pow_add]
theorem PW_pos (k : Nat) : 0 < PW k := Nat.pow_pos (by decide)
theorem PW_lt {j k : Nat} : PW j < PW k ↔ j < k := Nat.pow_lt_pow_iff_right (by decide)
theorem PW_le {j k : Nat} : PW j ≤ PW k ↔ j ≤ k := Nat.pow_le_pow_iff_right (by decide)

/-- The value of a list of digits (or of greater numbers). -/
def vl : List Int → Int
  | [] => 0
  | d :: l => d + 10000 * vl l
theorem vl_append : ∀ (l m : List Int), vl (l ++ m) = vl l + (PW l.length : Int) * vl m
  | [], m => by simp [vl, PW_zero]
  | d :: l, m => by
    rw [List.cons_append, vl, vl_append l m, vl, List.length_cons, PW_succ, Int.natCast_mul, Int.mul_add]
    have : (10000 : Int) * ((PW l.length : Int) * vl m) = (PW l.length : Int) * ((10000 : Nat) : Int) * vl m := by
      rw [Int.mul_left_comm, Int.mul_assoc]; rfl
    omega
theorem vl_one (d : Int) : vl [d] = d := by simp [vl]
/-- Numbers that are not negative. -/
def NN (l : List Int) : Prop := ∀ d ∈ l, 0 ≤ d
/-- Digits. -/
def Dg (l : List Int) : Prop := ∀ d ∈ l, 0 ≤ d ∧ d < 10000
theorem Dg.nn {l : List Int} (h : Dg l) : NN l := fun d hd => (h d hd).1
theorem vl_nonneg : ∀ {l : List Int}, NN l → 0 ≤ vl l
  | [], _ => Int.le_refl _
  | d :: l, h => by
    have h1 := h d (by simp)
    have h2 := vl_nonneg (l := l) (fun x hx => h x (by simp [hx]))
    rw [vl]; omega
theorem vl_lt : ∀ {l : List Int}, Dg l → vl l < PW l.length
  | [], _ => by simp [vl, PW_zero]
  | d :: l, h => by
    have h1 := h d (by simp)
    have h2 := vl_lt (l := l) (fun x hx => h x (by simp [hx]))
    rw [vl, List.length_cons, PW_succ]
    have : ((PW l.length * 10000 : Nat) : Int) = (PW l.length : Int) * 10000 := by simp
    omega
theorem Dg.append {l m : List Int} (h : Dg l) (k : Dg m) : Dg (l ++ m) := fun d hd => by
  rcases List.mem_append.1 hd with hd | hd
  · exact h d hd
  · exact k d hd
theorem Dg.one {d : Int} (h : 0 ≤ d ∧ d < 10000) : Dg [d] := fun x hx => by simp at hx; subst hx; exact h
theorem Dg.nil : Dg [] := fun d hd => by cases hd
theorem Dg.take {l : List Int} (h : Dg l) (k : Nat) : Dg (l.take k) := fun d hd => h d (List.mem_of_mem_take hd)

/-- The digits of a number, without zeros at the end. -/
def dg (n : Nat) : List Int := if h : n = 0 then [] else ((n % 10000 : Nat) : Int) :: dg (n / 10000)
  termination_by n
  decreasing_by omega
theorem dg_zero : dg 0 = [] := by rw [dg]; rfl
theorem dg_pos {n : Nat} (h : n ≠ 0) : dg n = ((n % 10000 : Nat) : Int) :: dg (n / 10000) := by rw [dg, dif_neg h]
theorem vl_dg (n : Nat) : vl (dg n) = n := by
  induction n using Nat.strongRecOn with
  | _ n ih =>
    by_cases h : n = 0
    · subst h; rw [dg_zero]; rfl
    · rw [dg_pos h, vl, ih (n / 10000) (by omega)]; omega
theorem Dg_dg (n : Nat) : Dg (dg n) := by
  induction n using Nat.strongRecOn with
  | _ n ih =>
    by_cases h : n = 0
    · subst h; rw [dg_zero]; exact Dg.nil
    · rw [dg_pos h]
      intro d hd
      rcases List.mem_cons.1 hd with rfl | hd
      · omega
      · exact ih (n / 10000) (by omega) d hd
theorem dg_getD (n : Nat) : ∀ i, (dg n).getD i 0 = ((n / PW i % 10000 : Nat) : Int) := by
  induction n using Nat.strongRecOn with
  | _ n ih =>
    intro i
    by_cases h : n = 0
    · subst h; rw [dg_zero]; simp
    · rw [dg_pos h]
      cases i with
      | zero => simp [PW_zero]
      | succ i =>
        rw [List.getD_cons_succ, ih (n / 10000) (by omega) i, PW_succ, Nat.div_div_eq_div_mul, Nat.mul_comm 10000]
theorem dg_len (n : Nat) : ∀ k, (dg n).length ≤ k ↔ n < PW k := by
  induction n using Nat.strongRecOn with
  | _ n ih =>
    intro k
    by_cases h : n = 0
    · subst h; rw [dg_zero]; simp [PW_pos]
    · rw [dg_pos h, List.length_cons]
      cases k with
      | zero => rw [PW_zero]; omega
      | succ k => rw [Nat.succ_le_succ_iff, ih (n / 10000) (by omega) k, PW_succ]; omega
theorem dg_lt_len {n i : Nat} : i < (dg n).length ↔ PW i ≤ n := by
  have := dg_len n i; omega
theorem dg_empty {n : Nat} : (dg n).length = 0 ↔ n = 0 := by
  have := dg_len n 0; rw [PW_zero] at this; omega
/-- Digits whose last one is not 0 are the digits of their value. -/
theorem dg_unique : ∀ (l : List Int), Dg l → (∀ d, l.getLast? = some d → d ≠ 0) → l = dg (vl l).toNat
  | [], _, _ => by rw [show (vl []).toNat = 0 by rfl, dg_zero]
  | d :: l, h, hl => by
    have h1 := h d (by simp)
    have hD : Dg l := fun x hx => h x (by simp [hx])
    have h2 := vl_nonneg hD.nn
    have hll : ∀ e, l.getLast? = some e → e ≠ 0 := fun e he => by
      refine hl e ?_
      cases l with
      | nil => simp at he
      | cons a m => rw [List.getLast?_cons_cons]; exact he
    have ih := dg_unique l hD hll
    have hne : (vl (d :: l)).toNat ≠ 0 := by
      rw [vl]
      cases l with
      | nil =>
        have := hl d (by simp)
        simp [vl]; omega
      | cons a m =>
        have hpos : (dg (vl (a :: m)).toNat).length ≠ 0 := by rw [← ih]; simp
        have := mt dg_empty.2 hpos
        omega
    rw [dg_pos hne]
    have e1 : (vl (d :: l)).toNat % 10000 = d.toNat := by rw [vl]; omega
    have e2 : (vl (d :: l)).toNat / 10000 = (vl l).toNat := by rw [vl]; omega
    rw [e1, e2, ← ih]
    congr 1
    omega
theorem dg_self (n : Nat) : dg (vl (dg n)).toNat = dg n := by rw [vl_dg]; simp
theorem vl_drop {l : List Int} {k : Nat} (h : k < l.length) : vl (l.drop k) = l.getD k 0 + 10000 * vl (l.drop (k + 1)) := by
  rw [List.drop_eq_getElem_cons h, vl, List.getD_eq_getElem?_getD, List.getElem?_eq_getElem h]; rfl
theorem vl_drop_end {l : List Int} {k : Nat} (h : l.length ≤ k) : vl (l.drop k) = 0 := by rw [List.drop_eq_nil_of_le h]; rfl
theorem vl_drop_any (l : List Int) (k : Nat) : vl (l.drop k) = l.getD k 0 + 10000 * vl (l.drop (k + 1)) := by
  by_cases h : k < l.length
  · exact vl_drop h
  · rw [vl_drop_end (by omega), vl_drop_end (by omega), List.getD_eq_getElem?_getD, List.getElem?_eq_none (by omega)]; rfl
theorem NN.getD {l : List Int} (h : NN l) (k : Nat) : 0 ≤ l.getD k 0 := by
  rw [List.getD_eq_getElem?_getD]
  by_cases hk : k < l.length
  · rw [List.getElem?_eq_getElem hk]; exact h _ (List.getElem_mem hk)
  · rw [List.getElem?_eq_none (by omega)]; exact Int.le_refl _
theorem NN.drop {l : List Int} (h : NN l) (k : Nat) : NN (l.drop k) := fun d hd => h d (List.mem_of_mem_drop hd)
/-- A zero at the end may go. -/
theorem vl_take_zero {l : List Int} {m : Nat} (h : m < l.length) (h0 : l.getD m 0 = 0) : vl (l.take (m + 1)) = vl (l.take m) := by
  rw [List.take_succ_eq_append_getElem h, vl_append, vl_one]
  rw [List.getD_eq_getElem?_getD, List.getElem?_eq_getElem h] at h0
  have : l[m] = 0 := h0
  rw [this]; omega
theorem trim_done {l : List Int} {m : Nat} (hm : m ≤ l.length) (hd : Dg l) (h : m = 0 ∨ l.getD (m - 1) 0 ≠ 0) (hv : vl (l.take m) = vl l) : l.take m = dg (vl l).toNat := by
  rw [← hv]
  refine dg_unique _ (hd.take m) fun d hd' => ?_
  rcases h with rfl | h
  · simp at hd'
  · by_cases h0 : m = 0
    · subst h0; simp at hd'
    · rw [List.getLast?_eq_getElem?, List.length_take, Nat.min_eq_left hm, List.getElem?_take_of_lt (by omega)] at hd'
      rw [List.getD_eq_getElem?_getD, hd'] at h
      exact h

end Go.Proofs.YtbaalbmchhgmnaaDoor
