/-
  Contracts of rat.times, less, plus: numbers of 128 bits.
-/
import Derived.Test.YtbaalbmchhgmnaaDoorRatB
import Derived.Shelf.Spec.BitsCarry
namespace Go.Proofs.YtbaalbmchhgmnaaDoor
open Go.RowKit
set_option linter.unusedVariables false
set_option linter.unusedSimpArgs false

def B64 : Nat := 18446744073709551616
def HI (m : Nat) : Nat := m / 18446744073709551616
def LO (m : Nat) : Nat := m % 18446744073709551616
theorem HI_lt {m : Nat} (h : m < 340282366920938463463374607431768211456) : HI m < 18446744073709551616 := by unfold HI; omega
theorem LO_lt (m : Nat) : LO m < 18446744073709551616 := by unfold LO; omega
theorem HILO (m : Nat) : m = HI m * 18446744073709551616 + LO m := by unfold HI LO; omega
/-- A number of 128 bits with a sign. -/
def W128 (neg : Bool) (m : Nat) : Value := .agg #[.bool neg, .int .u64 (HI m), .int .u64 (LO m)]

set_option maxRecDepth 100000 in
set_option maxHeartbeats 4000000 in
theorem ratTimes (a : Int) (b : Nat) (w : World) (ha : I64 a) (hb : b < 18446744073709551616) :
    Calls Tryd.prog 45 #[.int .i64 a, .int .u64 b] w fun e w' => e = .returned (W128 (decide (a < 0)) (a.natAbs * b)) ∧ Below w.heap.size w w' := by
  have SZ := Lib.hid (fun w => ratSize a w ha.1 ha.2)
  have hx : a.natAbs < 18446744073709551616 := by unfold I64 at ha; omega
  have MU : Hid (∀ w, Calls Tryd.prog 61 #[.int .u64 a.natAbs, .int .u64 b] w fun e w' => e = .returned (.tuple #[.int .u64 (HI (a.natAbs * b)), .int .u64 (LO (a.natAbs * b))]) ∧ w = w') := Lib.hid fun w => (Tryd.bits_Mul64 a.natAbs b hx hb w).mono fun e w' ⟨he, hw⟩ => ⟨he, hw.symm⟩
  unfold W128
  generalize HI (a.natAbs * b) = h at *
  generalize LO (a.natAbs * b) = l at *
  generalize a.natAbs = n at *
  have HA := Lib.hid ha
  obtain ⟨p, hp⟩ : ∃ p : Bool, p = decide (a < 0) := ⟨_, rfl⟩
  have f1 : decide (a < 0) = p := hp.symm
  clear ha hb hx hp
  go_enter Tryd.func45, Tryd.ntmps45
  go_wp2_with fail
  refine (SZ.out _).mono ?_; rintro e w1 ⟨rfl, rfl⟩
  go_wp2_with fail
  refine (MU.out _).mono ?_; rintro e w2 ⟨rfl, rfl⟩
  go_wp2_with fail
  refine bodyPost_ret (v := .agg #[.bool (decide (a < 0)), .int .u64 h, .int .u64 l]) (by simp [results, Tryd.results45, go_sem, f1]) rfl ⟨rfl, ?_⟩
  exact below_alloc _ _

/-! The order. -/
theorem less_law {m n : Nat} : decide (m < n) = (decide (HI m < HI n) || (decide (HI m = HI n) && decide (LO m < LO n))) := by
  rw [Bool.eq_iff_iff]; simp; unfold HI LO; omega

set_option maxRecDepth 100000 in
set_option maxHeartbeats 4000000 in
theorem ratLess (s1 s2 : Bool) (m1 m2 : Nat) (w : World) :
    Calls Tryd.prog 46 #[W128 s1 m1, W128 s2 m2] w fun e w' => e = .returned (.bool (decide (m1 < m2))) ∧ Below w.heap.size w w' := by
  have HL := Lib.hid (less_law (m := m1) (n := m2))
  unfold W128
  generalize HI m1 = h1 at *
  generalize HI m2 = h2 at *
  generalize LO m1 = l1 at *
  generalize LO m2 = l2 at *
  by_cases c1 : h1 < h2
  · have f1 : decide (h1 < h2) = true := decide_eq_true c1
    have HE : Hid (decide (m1 < m2) = true) := Lib.hid (by rw [HL.out, f1]; rfl)
    clear c1
    go_enter Tryd.func46, Tryd.ntmps46
    go_wp2_with fail
    go_ret
    exact ⟨by rw [HE.out]; rfl, below_step (below_alloc _ _) (below_alloc _ _)⟩
  · have f1 : decide (h1 < h2) = false := decide_eq_false c1
    by_cases c2 : h1 = h2
    · subst c2
      by_cases c3 : l1 < l2
      · have f3 : decide (l1 < l2) = true := decide_eq_true c3
        have HE : Hid (decide (m1 < m2) = true) := Lib.hid (by rw [HL.out, f1, f3]; simp)
        clear c1 c3
        go_enter Tryd.func46, Tryd.ntmps46
        go_wp2_with fail
        go_ret
        exact ⟨by rw [HE.out]; rfl, below_step (below_alloc _ _) (below_alloc _ _)⟩
      · have f3 : decide (l1 < l2) = false := decide_eq_false c3
        have HE : Hid (decide (m1 < m2) = false) := Lib.hid (by rw [HL.out, f1, f3]; simp)
        clear c1 c3
        go_enter Tryd.func46, Tryd.ntmps46
        go_wp2_with fail
        go_ret
        exact ⟨by rw [HE.out]; rfl, below_step (below_alloc _ _) (below_alloc _ _)⟩
    · have f2 : ((h1 : Int) == (h2 : Int)) = false := by
        have : ¬ (h1 : Int) = h2 := by omega
        simpa using this
      have HE : Hid (decide (m1 < m2) = false) := Lib.hid (by rw [HL.out, f1, decide_eq_false c2]; rfl)
      clear c1 c2
      go_enter Tryd.func46, Tryd.ntmps46
      go_wp2_with fail
      go_ret
      exact ⟨by rw [HE.out]; rfl, below_step (below_alloc _ _) (below_alloc _ _)⟩

/-! The sum. -/
theorem run_Add64 (x y c : Nat) (hc : c ≤ 1) (w : World) : (callFunc 74 #[.int .u64 x, .int .u64 y, .int .u64 c]).run Tryd.prog w =
    .ok (.value (.tuple #[.int .u64 (((x + y + c) % 18446744073709551616 : Nat) : Int), .int .u64 (((x + y + c) / 18446744073709551616 : Nat) : Int)])) w := by
  rw [run_callFunc_extern Tryd.func74 (by kernel_rfl) (by kernel_rfl) (by kernel_rfl) (e := add64Entry) (by kernel_rfl), run_add64 x y c (by omega) (by omega) (by omega) (by omega)]
  simp only [Result.andThen]
  congr 5 <;> omega
theorem run_Sub64 (x y b : Nat) (hb : b ≤ 1) (w : World) : (callFunc 75 #[.int .u64 x, .int .u64 y, .int .u64 b]).run Tryd.prog w =
    .ok (.value (.tuple #[.int .u64 (((x + 18446744073709551616 - y - b) % 18446744073709551616 : Nat) : Int), .int .u64 ((if x < y + b then 1 else 0 : Nat) : Int)])) w := by
  rw [run_callFunc_extern Tryd.func75 (by kernel_rfl) (by kernel_rfl) (by kernel_rfl) (e := sub64Entry) (by kernel_rfl), run_sub64 x y b hb]
  rfl
theorem add_lo (m n : Nat) (w : World) : ∃ c : Nat, c ≤ 1 ∧ (callFunc 74 #[.int .u64 (LO m), .int .u64 (LO n), .int .u64 0]).run Tryd.prog w = .ok (.value (.tuple #[.int .u64 (LO (m + n)), .int .u64 c])) w ∧ c = (LO m + LO n) / 18446744073709551616 := by
  refine ⟨(LO m + LO n) / 18446744073709551616, by unfold LO; omega, ?_, rfl⟩
  have := run_Add64 (LO m) (LO n) 0 (by omega) w
  have e1 : (LO m + LO n + 0) % 18446744073709551616 = LO (m + n) := by unfold LO; omega
  rw [e1, Nat.add_zero] at this
  exact this
theorem add_hi (m n c : Nat) (hc : c = (LO m + LO n) / 18446744073709551616) (h : m + n < 340282366920938463463374607431768211456) (w : World) : (callFunc 74 #[.int .u64 (HI m), .int .u64 (HI n), .int .u64 c]).run Tryd.prog w = .ok (.value (.tuple #[.int .u64 (HI (m + n)), .int .u64 0])) w := by
  have := run_Add64 (HI m) (HI n) c (by rw [hc]; unfold LO; omega) w
  have e1 : (HI m + HI n + c) % 18446744073709551616 = HI (m + n) := by rw [hc]; unfold HI LO; omega
  have e2 : (HI m + HI n + c) / 18446744073709551616 = 0 := by rw [hc]; unfold HI LO; omega
  rw [e1, e2] at this
  exact this
theorem sub_lo (m n : Nat) (h : n ≤ m) (w : World) : (callFunc 75 #[.int .u64 (LO m), .int .u64 (LO n), .int .u64 0]).run Tryd.prog w = .ok (.value (.tuple #[.int .u64 (LO (m - n)), .int .u64 ((if LO m < LO n then 1 else 0 : Nat) : Int)])) w := by
  have := run_Sub64 (LO m) (LO n) 0 (by omega) w
  have e1 : (LO m + 18446744073709551616 - LO n - 0) % 18446744073709551616 = LO (m - n) := by unfold LO; omega
  rw [e1, Nat.add_zero] at this
  exact this
theorem sub_hi (m n c : Nat) (hc : c = (if LO m < LO n then 1 else 0)) (hm : m < 340282366920938463463374607431768211456) (h : n ≤ m) (w : World) : (callFunc 75 #[.int .u64 (HI m), .int .u64 (HI n), .int .u64 c]).run Tryd.prog w = .ok (.value (.tuple #[.int .u64 (HI (m - n)), .int .u64 0])) w := by
  have hc1 : c ≤ 1 := by rw [hc]; split <;> omega
  have := run_Sub64 (HI m) (HI n) c hc1 w
  have hk : HI n + c ≤ HI m := by rw [hc]; unfold HI LO; split <;> omega
  have e1 : (HI m + 18446744073709551616 - HI n - c) % 18446744073709551616 = HI (m - n) := by rw [hc]; unfold HI LO; split <;> omega
  rw [e1, if_neg (by omega)] at this
  exact this
theorem bits_or_u64 {a b : Nat} (ha : a < 18446744073709551616) (hb : b < 18446744073709551616) : bits .or .u64 (a : Int) (b : Int) = ((a ||| b : Nat) : Int) := by
  have e1 : (BitVec.ofInt 64 (a : Int)).toNat = a := by rw [BitVec.ofInt_natCast, BitVec.toNat_ofNat]; exact Nat.mod_eq_of_lt (by omega)
  have e2 : (BitVec.ofInt 64 (b : Int)).toNat = b := by rw [BitVec.ofInt_natCast, BitVec.toNat_ofNat]; exact Nat.mod_eq_of_lt (by omega)
  have hx : a ||| b < 2 ^ 64 := Nat.or_lt_two_pow (by omega) (by omega)
  show IntKind.u64.wrap ((BitVec.ofInt 64 (a : Int) ||| BitVec.ofInt 64 (b : Int)).toNat : Int) = _
  rw [BitVec.toNat_or, e1, e2, IntKind.wrap_u64]
  omega
theorem or_zero (m : Nat) (h : m < 340282366920938463463374607431768211456) : (bits .or .u64 (HI m) (LO m) != 0) = decide (m ≠ 0) := by
  have h1 := HI_lt h
  have h2 := LO_lt m
  have h3 : m ≠ 0 ↔ (HI m ||| LO m) ≠ 0 := by
    rw [Ne, Ne, Nat.or_eq_zero_iff]; unfold HI LO; omega
  rw [bits_or_u64 h1 h2]
  rw [Bool.eq_iff_iff]
  simp only [bne_iff_ne, ne_eq, decide_eq_true_eq]
  rw [← ne_eq m 0, h3]
  omega

set_option maxRecDepth 100000 in
set_option maxHeartbeats 4000000 in
theorem ratPlus (s1 s2 : Bool) (m1 m2 : Nat) (w : World) (h1 : m1 < 170141183460469231731687303715884105728) (h2 : m2 < 170141183460469231731687303715884105728) :
    Calls Tryd.prog 59 #[W128 s1 m1, W128 s2 m2] w fun e w' => e = .returned (W128 (plusS s1 m1 s2 m2) (plusM s1 m1 s2 m2)) ∧ Below w.heap.size w w' := by
  by_cases hs : s1 = s2
  · subst hs
    have HE : Hid (W128 (plusS s1 m1 s1 m2) (plusM s1 m1 s1 m2) = .agg #[.bool s1, .int .u64 (HI (m1 + m2)), .int .u64 (LO (m1 + m2))]) := Lib.hid (by unfold plusS plusM; rw [if_pos rfl, if_pos rfl]; rfl)
    obtain ⟨c, hc1, _, hc⟩ := add_lo m1 m2 w
    have A1 : ∀ w, (callFunc 74 #[.int .u64 (LO m1), .int .u64 (LO m2), .int .u64 0]).run Tryd.prog w = .ok (.value (.tuple #[.int .u64 (LO (m1 + m2)), .int .u64 c])) w := fun w => by
      obtain ⟨c', _, h, hc'⟩ := add_lo m1 m2 w
      rw [hc, ← hc']; exact h
    have A2 := add_hi m1 m2 c hc (by omega)
    unfold W128
    generalize HI (m1 + m2) = h3 at *
    generalize LO (m1 + m2) = l3 at *
    generalize HI m1 = x1 at *
    generalize HI m2 = x2 at *
    generalize LO m1 = y1 at *
    generalize LO m2 = y2 at *
    clear h1 h2 hc
    cases s1
    all_goals
      go_enter Tryd.func59, Tryd.ntmps59
      go_wp2_with fail
      refine bodyPost_ret (v := .agg #[.bool _, .int .u64 h3, .int .u64 l3]) (by simp [results, Tryd.results59, go_sem]; rfl) rfl ⟨by rw [← HE.out]; rfl, ?_⟩
      exact below_step (below_step (below_alloc _ _) (below_alloc _ _)) (below_alloc _ _)
  · by_cases hl : m1 < m2
    · have HE : Hid (W128 (plusS s1 m1 s2 m2) (plusM s1 m1 s2 m2) = .agg #[.bool (s2 && decide (m2 - m1 ≠ 0)), .int .u64 (HI (m2 - m1)), .int .u64 (LO (m2 - m1))]) := Lib.hid (by unfold plusS plusM; rw [if_neg hs, if_pos hl, if_neg hs, if_pos hl]; rfl)
      have LS : Hid (∀ w, Calls Tryd.prog 46 #[W128 s1 m1, W128 s2 m2] w fun e w' => e = .returned (.bool true) ∧ Below w.heap.size w w') := Lib.hid fun w => by
        have := ratLess s1 s2 m1 m2 w
        rwa [decide_eq_true hl] at this
      have A1 := sub_lo m2 m1 (by omega)
      have A2 := sub_hi m2 m1 _ rfl (by omega) (by omega)
      have NE := or_zero (m2 - m1) (by omega)
      unfold W128 at LS ⊢
      generalize decide (m2 - m1 ≠ 0) = dz at *
      generalize (if LO m2 < LO m1 then 1 else 0 : Nat) = c at *
      generalize HI (m2 - m1) = h3 at *
      generalize LO (m2 - m1) = l3 at *
      generalize HI m1 = x1 at *
      generalize HI m2 = x2 at *
      generalize LO m1 = y1 at *
      generalize LO m2 = y2 at *
      clear h1 h2 hl
      have key : (s1 = true ∧ s2 = false) ∨ (s1 = false ∧ s2 = true) := by revert hs; cases s1 <;> cases s2 <;> simp
      clear hs
      rcases key with ⟨rfl, rfl⟩ | ⟨rfl, rfl⟩
      · go_enter Tryd.func59, Tryd.ntmps59
        go_wp2_with fail
        refine (LS.out _).mono ?_; rintro e w1 ⟨rfl, hb⟩
        have HB := Lib.hid (below_step (below_step (below_step (below_alloc w _) (below_alloc _ _)) (below_alloc _ _)) hb)
        have X0 := (((Box.new w _ _).below (below_alloc _ _)).below (below_alloc _ _)).below hb
        have X1 := ((box1 w _ _ _).below (below_alloc _ _)).below hb
        have X2 := (box2 w _ _ _ _).below hb
        have p0 := X0.at_ 0 _ rfl
        have p1 := X0.at_ 1 _ rfl
        have p2 := X0.at_ 2 _ rfl
        have p3 := X1.at_ 0 _ rfl
        have p4 := X1.at_ 1 _ rfl
        have p5 := X1.at_ 2 _ rfl
        have z0 := X0.frozen 0
        have z1 := X0.frozen 1
        have z2 := X0.frozen 2
        have z3 := X1.frozen 0
        have z4 := X1.frozen 1
        have z5 := X1.frozen 2
        have z6 := X2.frozen 0
        have z7 := X2.frozen 1
        have z8 := X2.frozen 2
        have q0 := X2.at_ 0 _ rfl
        have q1 := X2.at_ 1 _ rfl
        have q2 := X2.at_ 2 _ rfl
        clear hb X0 X1 X2
        go_wp2_with fail
        refine bodyPost_ret (v := .agg #[.bool (false && dz), .int .u64 h3, .int .u64 l3]) (by simp [results, Tryd.results59, go_sem, q0, q1, q2]) rfl ⟨by rw [← HE.out]; rfl, ?_⟩
        repeat (refine Below.setCell ?_ (by simp; try omega) _)
        exact HB.out
      · go_enter Tryd.func59, Tryd.ntmps59
        go_wp2_with fail
        refine (LS.out _).mono ?_; rintro e w1 ⟨rfl, hb⟩
        have HB := Lib.hid (below_step (below_step (below_step (below_alloc w _) (below_alloc _ _)) (below_alloc _ _)) hb)
        have X0 := (((Box.new w _ _).below (below_alloc _ _)).below (below_alloc _ _)).below hb
        have X1 := ((box1 w _ _ _).below (below_alloc _ _)).below hb
        have X2 := (box2 w _ _ _ _).below hb
        have p0 := X0.at_ 0 _ rfl
        have p1 := X0.at_ 1 _ rfl
        have p2 := X0.at_ 2 _ rfl
        have p3 := X1.at_ 0 _ rfl
        have p4 := X1.at_ 1 _ rfl
        have p5 := X1.at_ 2 _ rfl
        have z0 := X0.frozen 0
        have z1 := X0.frozen 1
        have z2 := X0.frozen 2
        have z3 := X1.frozen 0
        have z4 := X1.frozen 1
        have z5 := X1.frozen 2
        have z6 := X2.frozen 0
        have z7 := X2.frozen 1
        have z8 := X2.frozen 2
        have q0 := X2.at_ 0 _ rfl
        have q1 := X2.at_ 1 _ rfl
        have q2 := X2.at_ 2 _ rfl
        clear hb X0 X1 X2
        go_wp2_with fail
        refine bodyPost_ret (v := .agg #[.bool (true && dz), .int .u64 h3, .int .u64 l3]) (by simp [results, Tryd.results59, go_sem, q0, q1, q2]) rfl ⟨by rw [← HE.out]; rfl, ?_⟩
        repeat (refine Below.setCell ?_ (by simp; try omega) _)
        exact HB.out
    · have HE : Hid (W128 (plusS s1 m1 s2 m2) (plusM s1 m1 s2 m2) = .agg #[.bool (s1 && decide (m1 - m2 ≠ 0)), .int .u64 (HI (m1 - m2)), .int .u64 (LO (m1 - m2))]) := Lib.hid (by unfold plusS plusM; rw [if_neg hs, if_neg hl, if_neg hs, if_neg hl]; rfl)
      have LS : Hid (∀ w, Calls Tryd.prog 46 #[W128 s1 m1, W128 s2 m2] w fun e w' => e = .returned (.bool false) ∧ Below w.heap.size w w') := Lib.hid fun w => by
        have := ratLess s1 s2 m1 m2 w
        rwa [decide_eq_false hl] at this
      have A1 := sub_lo m1 m2 (by omega)
      have A2 := sub_hi m1 m2 _ rfl (by omega) (by omega)
      have NE := or_zero (m1 - m2) (by omega)
      unfold W128 at LS ⊢
      generalize decide (m1 - m2 ≠ 0) = dz at *
      generalize (if LO m1 < LO m2 then 1 else 0 : Nat) = c at *
      generalize HI (m1 - m2) = h3 at *
      generalize LO (m1 - m2) = l3 at *
      generalize HI m1 = x1 at *
      generalize HI m2 = x2 at *
      generalize LO m1 = y1 at *
      generalize LO m2 = y2 at *
      clear h1 h2 hl
      have key : (s1 = true ∧ s2 = false) ∨ (s1 = false ∧ s2 = true) := by revert hs; cases s1 <;> cases s2 <;> simp
      clear hs
      rcases key with ⟨rfl, rfl⟩ | ⟨rfl, rfl⟩
      · go_enter Tryd.func59, Tryd.ntmps59
        go_wp2_with fail
        refine (LS.out _).mono ?_; rintro e w1 ⟨rfl, hb⟩
        have HB := Lib.hid (below_step (below_step (below_step (below_alloc w _) (below_alloc _ _)) (below_alloc _ _)) hb)
        have X0 := (((Box.new w _ _).below (below_alloc _ _)).below (below_alloc _ _)).below hb
        have X1 := ((box1 w _ _ _).below (below_alloc _ _)).below hb
        have X2 := (box2 w _ _ _ _).below hb
        have p0 := X0.at_ 0 _ rfl
        have p1 := X0.at_ 1 _ rfl
        have p2 := X0.at_ 2 _ rfl
        have p3 := X1.at_ 0 _ rfl
        have p4 := X1.at_ 1 _ rfl
        have p5 := X1.at_ 2 _ rfl
        have z0 := X0.frozen 0
        have z1 := X0.frozen 1
        have z2 := X0.frozen 2
        have z3 := X1.frozen 0
        have z4 := X1.frozen 1
        have z5 := X1.frozen 2
        have z6 := X2.frozen 0
        have z7 := X2.frozen 1
        have z8 := X2.frozen 2
        have q0 := X2.at_ 0 _ rfl
        have q1 := X2.at_ 1 _ rfl
        have q2 := X2.at_ 2 _ rfl
        clear hb X0 X1 X2
        go_wp2_with fail
        refine bodyPost_ret (v := .agg #[.bool (true && dz), .int .u64 h3, .int .u64 l3]) (by simp [results, Tryd.results59, go_sem, q0, q1, q2]) rfl ⟨by rw [← HE.out]; rfl, ?_⟩
        repeat (refine Below.setCell ?_ (by simp; try omega) _)
        exact HB.out
      · go_enter Tryd.func59, Tryd.ntmps59
        go_wp2_with fail
        refine (LS.out _).mono ?_; rintro e w1 ⟨rfl, hb⟩
        have HB := Lib.hid (below_step (below_step (below_step (below_alloc w _) (below_alloc _ _)) (below_alloc _ _)) hb)
        have X0 := (((Box.new w _ _).below (below_alloc _ _)).below (below_alloc _ _)).below hb
        have X1 := ((box1 w _ _ _).below (below_alloc _ _)).below hb
        have X2 := (box2 w _ _ _ _).below hb
        have p0 := X0.at_ 0 _ rfl
        have p1 := X0.at_ 1 _ rfl
        have p2 := X0.at_ 2 _ rfl
        have p3 := X1.at_ 0 _ rfl
        have p4 := X1.at_ 1 _ rfl
        have p5 := X1.at_ 2 _ rfl
        have z0 := X0.frozen 0
        have z1 := X0.frozen 1
        have z2 := X0.frozen 2
        have z3 := X1.frozen 0
        have z4 := X1.frozen 1
        have z5 := X1.frozen 2
        have z6 := X2.frozen 0
        have z7 := X2.frozen 1
        have z8 := X2.frozen 2
        have q0 := X2.at_ 0 _ rfl
        have q1 := X2.at_ 1 _ rfl
        have q2 := X2.at_ 2 _ rfl
        clear hb X0 X1 X2
        go_wp2_with fail
        refine bodyPost_ret (v := .agg #[.bool (false && dz), .int .u64 h3, .int .u64 l3]) (by simp [results, Tryd.results59, go_sem, q0, q1, q2]) rfl ⟨by rw [← HE.out]; rfl, ?_⟩
        repeat (refine Below.setCell ?_ (by simp; try omega) _)
        exact HB.out

end Go.Proofs.YtbaalbmchhgmnaaDoor
