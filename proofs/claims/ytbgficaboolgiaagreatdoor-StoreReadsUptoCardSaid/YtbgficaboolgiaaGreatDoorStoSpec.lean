/-
  Stored results: what can be stored, a record's body, its seal. No program in sight.
-/
import Derived.Test.YtbgficaboolgiaaGreatDoorHashB
import Derived.Test.YtbgficaboolgiaaGreatDoorRowsI
namespace Go.Proofs.YtbgficaboolgiaaGreatDoor
section
open Go.RowKit
set_option linter.unusedVariables false
set_option linter.unusedSimpArgs false

structure Res where
  test : ByteArray
  seed : Nat
  design : ByteArray
  sign : ByteArray
  cycle : Int
  sent : Int
  got : Int
  pts : List (List Int)
  crs : List (List Int)
  smp : Int
  ill : Int
def res0 : Res := ⟨⟨#[]⟩, 0, ⟨#[]⟩, ⟨#[]⟩, 0, 0, 0, [], [], 0, 0⟩
/-- A result's value, with its two lists. -/
def resV (p q : Value) (r : Res) : Value := .agg #[.string r.test, .int .u64 (r.seed : Nat), .string r.design, .string r.sign, .int .i64 r.cycle, .int .i64 r.sent, .int .i64 r.got, p, q, .int .i64 r.smp, .int .i64 r.ill]
/-- Is a number from 0 to a limit? -/
def wiB (n m : Int) : Bool := decide (0 ≤ n) && decide (n ≤ m)
/-- May a list of counts not be stored? -/
def cntB (c : List Int) : Bool := decide (256 < c.length) || c.any fun n => !wiB n 1099511627776
def lstB (l : List (List Int)) : Bool := decide (l.length ≤ 16) && !(l.any cntB)
def stoB (r : Res) : Bool :=
  (((decide (r.test.size ≤ 64) && decide (r.design.size ≤ 64)) && decide (r.sign.size ≤ 64)) && ((wiB r.cycle 4096 && wiB r.sent 4096) && wiB r.got 4096)) && lstB r.pts && lstB r.crs && wiB r.smp 1099511627776 && wiB r.ill 1099511627776
/-- A result whose parts are no longer than a program's. -/
def ResZ (r : Res) : Prop := r.test.size ≤ maxLen ∧ r.design.size ≤ maxLen ∧ r.sign.size ≤ maxLen ∧ r.seed < 18446744073709551616 ∧ I64 r.cycle ∧ I64 r.sent ∧ I64 r.got ∧ I64 r.smp ∧ I64 r.ill ∧ (r.pts.length ≤ 9223372036854775807 ∧ ∀ c ∈ r.pts, c.length ≤ 9223372036854775807) ∧ (r.crs.length ≤ 9223372036854775807 ∧ ∀ c ∈ r.crs, c.length ≤ 9223372036854775807)
theorem wiB_iff {n m : Int} : wiB n m = true ↔ 0 ≤ n ∧ n ≤ m := by unfold wiB; simp
theorem lst_parts {l : List (List Int)} (h : lstB l = true) : l.length ≤ 16 ∧ ∀ c ∈ l, c.length ≤ 256 ∧ ∀ n ∈ c, 0 ≤ n ∧ n ≤ 1099511627776 := by
  unfold lstB at h
  simp only [Bool.and_eq_true, decide_eq_true_eq, Bool.not_eq_true'] at h
  refine ⟨h.1, fun c hc => ?_⟩
  have h2 := List.any_eq_false.1 h.2 c hc
  unfold cntB at h2
  simp only [Bool.or_eq_true, decide_eq_true_eq, not_or] at h2
  refine ⟨by omega, fun n hn => ?_⟩
  have h3 := h2.2
  simp only [List.any_eq_true, not_exists, not_and] at h3
  have h4 := h3 n hn
  simp only [Bool.not_eq_true', Bool.not_eq_false] at h4
  exact wiB_iff.1 h4
theorem sto_parts {r : Res} (h : stoB r = true) : (r.test.size ≤ 64 ∧ r.design.size ≤ 64 ∧ r.sign.size ≤ 64) ∧ ((0 ≤ r.cycle ∧ r.cycle ≤ 4096) ∧ (0 ≤ r.sent ∧ r.sent ≤ 4096) ∧ 0 ≤ r.got ∧ r.got ≤ 4096) ∧ lstB r.pts = true ∧ lstB r.crs = true ∧ (0 ≤ r.smp ∧ r.smp ≤ 1099511627776) ∧ 0 ≤ r.ill ∧ r.ill ≤ 1099511627776 := by
  unfold stoB at h
  simp only [Bool.and_eq_true, decide_eq_true_eq, wiB_iff] at h
  obtain ⟨⟨⟨⟨⟨⟨⟨a, b⟩, c⟩, ⟨d, e⟩, f⟩, g⟩, i⟩, j⟩, k⟩ := h
  exact ⟨⟨a, b, c⟩, ⟨d, e, f⟩, g, i, j, k⟩
/-- Lists of counts, packed. -/
def cntL (c : List Int) : List UInt8 := pNum c.length ++ c.flatMap pNum
def lstL (l : List (List Int)) : List UInt8 := pNum l.length ++ l.flatMap cntL
def hexS (x : Nat) : ByteArray := ⟨(hexL x 16).toArray⟩
def bodyL (r : Res) : List UInt8 := pText r.test ++ (pText (hexS r.seed) ++ (pText r.design ++ (pText r.sign ++ (pNum r.cycle ++ (pNum r.sent ++ (pNum r.got ++ (lstL r.pts ++ (lstL r.crs ++ (pNum r.smp ++ pNum r.ill)))))))))
def encT (r : Res) : ByteArray × Int := if stoB r = true then (mkS (sealL (bodyL r)), 0) else (⟨#[]⟩, 1)
theorem flatM_len {α : Type} (f : α → List UInt8) (B : Nat) : ∀ l : List α, (∀ x ∈ l, (f x).length ≤ B) → (l.flatMap f).length ≤ l.length * B
  | [], _ => by simp
  | x :: l, h => by
    have h1 := h x (by simp)
    have h2 := flatM_len f B l (fun y hy => h y (List.mem_cons_of_mem _ hy))
    rw [List.flatMap_cons, List.length_append, List.length_cons, Nat.succ_mul]
    omega
theorem cntL_len {c : List Int} (h : c.length ≤ 256 ∧ ∀ n ∈ c, 0 ≤ n ∧ n ≤ 1099511627776) : (cntL c).length ≤ 6000 := by
  unfold cntL
  have h1 := pNum_len c.length (by omega) (by omega)
  have h2 := flatM_len pNum 22 c (fun n hn => by have := h.2 n hn; exact pNum_len n (by omega) (by omega))
  rw [List.length_append]; omega
theorem lstL_len {l : List (List Int)} (h : lstB l = true) : (lstL l).length ≤ 100000 := by
  obtain ⟨h1, h2⟩ := lst_parts h
  unfold lstL
  have h3 := pNum_len l.length (by omega) (by omega)
  have h4 := flatM_len cntL 6000 l (fun c hc => cntL_len (h2 c hc))
  rw [List.length_append]; omega
theorem hexS_size (x : Nat) : (hexS x).size = 16 := by unfold hexS; rw [Lib.size_eq, List.toList_toArray, hexL_len]
theorem body_len {r : Res} (h : stoB r = true) : (bodyL r).length ≤ 300000 := by
  obtain ⟨⟨a, b, c⟩, ⟨d, e, f⟩, g, i, j, k⟩ := sto_parts h
  have p1 := pText_len r.test (by omega)
  have p2 := pText_len (hexS r.seed) (by rw [hexS_size]; omega)
  rw [hexS_size] at p2
  have p3 := pText_len r.design (by omega)
  have p4 := pText_len r.sign (by omega)
  have p5 := pNum_len r.cycle (by omega) (by omega)
  have p6 := pNum_len r.sent (by omega) (by omega)
  have p7 := pNum_len r.got (by omega) (by omega)
  have p8 := lstL_len g
  have p9 := lstL_len i
  have p10 := pNum_len r.smp (by omega) (by omega)
  have p11 := pNum_len r.ill (by omega) (by omega)
  unfold bodyL
  simp only [List.length_append]
  omega
end

end Go.Proofs.YtbgficaboolgiaaGreatDoor
