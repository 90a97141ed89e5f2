/-
  The examples of chapter 52: the law's own check.
-/
import Derived.Test.YtldafnjbgjagiaaDoorBrdM
namespace Go.Proofs.YtldafnjbgjagiaaDoor
open Go.RowKit
set_option linter.unusedVariables false
set_option linter.unusedSimpArgs false

/-- A transaction of one field, held in two blocks. -/
def TX (W : World) (g1 g2 : Nat) (t : Tx) : Prop := txR.R W [.slice (some ⟨g1, 0, none⟩) 1 1, .slice (some ⟨g2, 0, none⟩) 1 1] t anyB
theorem TX.below {w w' : World} {g1 g2 : Nat} {t : Tx} (h : TX w g1 g2 t) (hb : Below w.heap.size w w') : TX w' g1 g2 t := by
  obtain ⟨u1, u2, e, s1, s2, i1, i2⟩ := h
  exact ⟨u1, u2, e, s1.below hb, s2.below hb, i1, i2⟩
theorem awk_one (w : World) (s : ByteArray) (z : Int) : Calls Tryd.prog 35 #[.string s, .int .i64 z] w fun e w' => ∃ g1 g2, e = .returned (.agg #[.slice (some ⟨g1, 0, none⟩) 1 1, .slice (some ⟨g2, 0, none⟩) 1 1]) ∧ TX w' g1 g2 (one1 s z) ∧ Below w.heap.size w w' := lawOne w s z
theorem tx_one {w : World} {g a1 a2 : Nat} {s1 : Tx} (h1 : TX w a1 a2 s1)
    (hx : Box w g #[.slice (some ⟨a1, 0, none⟩) 1 1, .slice (some ⟨a2, 0, none⟩) 1 1] 28) : Rs txR w (.slice (some ⟨g, 0, none⟩) 1 1) [s1] anyB :=
  rs_of_box (uss := [[.slice (some ⟨a1, 0, none⟩) 1 1, .slice (some ⟨a2, 0, none⟩) 1 1]]) (xs := [s1]) hx rfl fun j x hj => by
    match j with
    | 0 => cases hj; exact h1
theorem tx_two {w : World} {g a1 a2 b1 b2 : Nat} {s1 s2 : Tx} (h1 : TX w a1 a2 s1) (h2 : TX w b1 b2 s2)
    (hx : Box w g #[.slice (some ⟨a1, 0, none⟩) 1 1, .slice (some ⟨a2, 0, none⟩) 1 1, .slice (some ⟨b1, 0, none⟩) 1 1, .slice (some ⟨b2, 0, none⟩) 1 1] 28) : Rs txR w (.slice (some ⟨g, 0, none⟩) 2 2) [s1, s2] anyB :=
  rs_of_box (uss := [[.slice (some ⟨a1, 0, none⟩) 1 1, .slice (some ⟨a2, 0, none⟩) 1 1], [.slice (some ⟨b1, 0, none⟩) 1 1, .slice (some ⟨b2, 0, none⟩) 1 1]]) (xs := [s1, s2]) hx rfl fun j x hj => by
    match j with
    | 0 => cases hj; exact h1
    | 1 => cases hj; exact h2
theorem tx_three {w : World} {g a1 a2 b1 b2 c1 c2 : Nat} {s1 s2 s3 : Tx} (h1 : TX w a1 a2 s1) (h2 : TX w b1 b2 s2) (h3 : TX w c1 c2 s3)
    (hx : Box w g #[.slice (some ⟨a1, 0, none⟩) 1 1, .slice (some ⟨a2, 0, none⟩) 1 1, .slice (some ⟨b1, 0, none⟩) 1 1, .slice (some ⟨b2, 0, none⟩) 1 1, .slice (some ⟨c1, 0, none⟩) 1 1, .slice (some ⟨c2, 0, none⟩) 1 1] 28) : Rs txR w (.slice (some ⟨g, 0, none⟩) 3 3) [s1, s2, s3] anyB :=
  rs_of_box (uss := [[.slice (some ⟨a1, 0, none⟩) 1 1, .slice (some ⟨a2, 0, none⟩) 1 1], [.slice (some ⟨b1, 0, none⟩) 1 1, .slice (some ⟨b2, 0, none⟩) 1 1], [.slice (some ⟨c1, 0, none⟩) 1 1, .slice (some ⟨c2, 0, none⟩) 1 1]]) (xs := [s1, s2, s3]) hx rfl fun j x hj => by
    match j with
    | 0 => cases hj; exact h1
    | 1 => cases hj; exact h2
    | 2 => cases hj; exact h3
theorem one_tz (s : ByteArray) (z : Int) (h : s.size ≤ 9223372036854775807) : TZ (one1 s z) := ⟨show 1 ≤ 9223372036854775807 by decide, show 1 ≤ 9223372036854775807 by decide, fun u hu => by
  obtain rfl : u = s := by simpa [one1] using hu
  exact h⟩
def exA : Bd := ⟨true, ⟨#[]⟩, [], 1, [⟨#[109, 105, 115, 109, 97, 116, 99, 104, 32, 49]⟩, ⟨#[101, 120, 116, 114, 97, 32, 50]⟩]⟩
def exB : Bd := ⟨false, ⟨#[107]⟩, [], 1, [⟨#[108, 111, 115, 116, 32, 49]⟩]⟩
theorem exA_bz : BZ exA := ⟨by decide, by decide, fun t ht => by simp [exA] at ht⟩
theorem exB_bz : BZ exB := ⟨by decide, by decide, fun t ht => by simp [exB] at ht⟩
theorem awk_run1 (W : World) (wv gv : Value) (hk : KW W) (hm : MLen W) (ht : Tab W) (h1 : Rs txR W wv [one1 ⟨#[97]⟩ 1, one1 ⟨#[97]⟩ 2] anyB) (h2 : Rs txR W gv [one1 ⟨#[97]⟩ 1, one1 ⟨#[97]⟩ 3, one1 ⟨#[97]⟩ 4] anyB) :
    Calls Tryd.prog 22 #[.bool true, .string ⟨#[]⟩, wv, gv] W fun e w' => ∃ A c A2 c2, e = .returned (.agg #[.bool true, .string ⟨#[]⟩, .slice A 0 c, .int .i64 1, .slice A2 2 c2]) ∧ BDF w' 0 (.agg #[.bool true, .string ⟨#[]⟩, .slice A 0 c, .int .i64 1, .slice A2 2 c2]) exA ∧ Below W.heap.size W w' := by
  refine (brdRun W true ⟨#[]⟩ wv gv _ _ h1 h2 (by decide) (by decide) (fun t ht => ?_) (fun t ht => ?_) hk hm ht).mono ?_
  · simp only [List.mem_cons, List.not_mem_nil, or_false] at ht; rcases ht with rfl | rfl <;> exact one_tz _ _ (by decide)
  · simp only [List.mem_cons, List.not_mem_nil, or_false] at ht; rcases ht with rfl | rfl | rfl <;> exact one_tz _ _ (by decide)
  · rintro e w' ⟨v, rfl, hv, hb⟩
    rw [run_ex1] at hv
    obtain ⟨A, c, A2, c2, rfl, -⟩ := hv.rd
    exact ⟨A, c, A2, c2, rfl, hv, hb⟩
theorem awk_run2 (W : World) (wv gv : Value) (hk : KW W) (hm : MLen W) (ht : Tab W) (h1 : Rs txR W wv [one1 ⟨#[107]⟩ 1, one1 ⟨#[107]⟩ 2] anyB) (h2 : Rs txR W gv [one1 ⟨#[107]⟩ 2] anyB) :
    Calls Tryd.prog 22 #[.bool false, .string ⟨#[107]⟩, wv, gv] W fun e w' => ∃ A c A2 c2, e = .returned (.agg #[.bool false, .string ⟨#[107]⟩, .slice A 0 c, .int .i64 1, .slice A2 1 c2]) ∧ BDF w' 0 (.agg #[.bool false, .string ⟨#[107]⟩, .slice A 0 c, .int .i64 1, .slice A2 1 c2]) exB ∧ Below W.heap.size W w' := by
  refine (brdRun W false ⟨#[107]⟩ wv gv _ _ h1 h2 (by decide) (by decide) (fun t ht => ?_) (fun t ht => ?_) hk hm ht).mono ?_
  · simp only [List.mem_cons, List.not_mem_nil, or_false] at ht; rcases ht with rfl | rfl <;> exact one_tz _ _ (by decide)
  · simp only [List.mem_cons, List.not_mem_nil, or_false] at ht; rcases ht with rfl; exact one_tz _ _ (by decide)
  · rintro e w' ⟨v, rfl, hv, hb⟩
    rw [run_ex2] at hv
    obtain ⟨A, c, A2, c2, rfl, -⟩ := hv.rd
    exact ⟨A, c, A2, c2, rfl, hv, hb⟩
theorem awk_same1 (W : World) (g : Nat) (A A2 : Option Addr) (c c2 : Nat) (h : BDF W 0 (.agg #[.bool true, .string ⟨#[]⟩, .slice A 0 c, .int .i64 1, .slice A2 2 c2]) exA) (hx : Box W g #[.string ⟨#[109, 105, 115, 109, 97, 116, 99, 104, 32, 49]⟩, .string ⟨#[101, 120, 116, 114, 97, 32, 50]⟩] 9) :
    Calls Tryd.prog 11 #[.agg #[.bool true, .string ⟨#[]⟩, .slice A 0 c, .int .i64 1, .slice A2 2 c2], .agg #[.bool true, .string ⟨#[]⟩, .slice none 0 0, .int .i64 1, .slice (some ⟨g, 0, none⟩) 2 2]] W fun e w' => e = .returned (.bool true) ∧ Below W.heap.size W w' := by
  obtain ⟨-, -, -, h1, h2⟩ := h.args
  refine (brrSame W exA exA A A2 none (some ⟨g, 0, none⟩) c c2 0 2 h1 h2 (Rs.nil _ _ _) (SL.of_box hx _ 2 (by decide) rfl) exA_bz exA_bz).mono ?_
  rintro e w' ⟨rfl, hb⟩
  exact ⟨by rw [show sameBd exA exA = true from decide_eq_true rfl], hb⟩
theorem awk_same2 (W : World) (g : Nat) (A A2 : Option Addr) (c c2 : Nat) (h : BDF W 0 (.agg #[.bool false, .string ⟨#[107]⟩, .slice A 0 c, .int .i64 1, .slice A2 1 c2]) exB) (hx : Box W g #[.string ⟨#[108, 111, 115, 116, 32, 49]⟩] 9) :
    Calls Tryd.prog 11 #[.agg #[.bool false, .string ⟨#[107]⟩, .slice A 0 c, .int .i64 1, .slice A2 1 c2], .agg #[.bool false, .string ⟨#[107]⟩, .slice none 0 0, .int .i64 1, .slice (some ⟨g, 0, none⟩) 1 1]] W fun e w' => e = .returned (.bool true) ∧ Below W.heap.size W w' := by
  obtain ⟨-, -, -, h1, h2⟩ := h.args
  refine (brrSame W exB exB A A2 none (some ⟨g, 0, none⟩) c c2 0 1 h1 h2 (Rs.nil _ _ _) (SL.of_box hx _ 1 (by decide) rfl) exB_bz exB_bz).mono ?_
  rintro e w' ⟨rfl, hb⟩
  exact ⟨by rw [show sameBd exB exB = true from decide_eq_true rfl], hb⟩
theorem awk_clean (W : World) (A A2 : Option Addr) (c c2 : Nat) : Calls Tryd.prog 14 #[.agg #[.bool true, .string ⟨#[]⟩, .slice A 0 c, .int .i64 1, .slice A2 2 c2]] W fun e w' => e = .returned (.bool false) ∧ Below W.heap.size W w' := brdClean W exA A A2 c c2

set_option maxRecDepth 100000 in
set_option maxHeartbeats 16000000 in
theorem lawAwake (w : World) (hk : KW w) (hm : MLen w) (ht : Tab w) : Calls Tryd.prog 16 #[] w fun e w' => e = .returned (.bool true) ∧ Below w.heap.size w w' := by
  have HK := Lib.hid hk
  have HM := Lib.hid hm
  have HT := Lib.hid ht
  clear hk hm ht
  go_enter Tryd.func16, Tryd.ntmps16
  go_wp2_with fail
  have HB := Lib.hid (Below.refl w.heap.size w)
  refine (awk_one w _ _).mono ?_; rintro e w1 ⟨p1, p2, rfl, hx1, hb⟩
  replace HB := Lib.hid (below_step HB.out hb)
  clear hb
  have T1 := Lib.hid hx1
  clear hx1
  go_wp2_with fail
  refine (awk_one w1 _ _).mono ?_; rintro e w2 ⟨q1, q2, rfl, hx1, hb⟩
  replace T1 := Lib.hid (T1.out.below hb)
  replace HB := Lib.hid (below_step HB.out hb)
  clear hb
  have T2 := Lib.hid hx1
  clear hx1
  go_wp2_with fail
  have XW := Lib.hid (box_new (W := w2) (g := w2.heap.size) 28 #[.slice (some ⟨p1, 0, none⟩) 1 1, .slice (some ⟨p2, 0, none⟩) 1 1, .slice (some ⟨q1, 0, none⟩) 1 1, .slice (some ⟨q2, 0, none⟩) 1 1] (by simp))
  have hba := (below_alloc w2 (.cells #[.slice (some ⟨p1, 0, none⟩) 1 1, .slice (some ⟨p2, 0, none⟩) 1 1, .slice (some ⟨q1, 0, none⟩) 1 1, .slice (some ⟨q2, 0, none⟩) 1 1] 28))
  replace T1 := Lib.hid (T1.out.below hba)
  replace T2 := Lib.hid (T2.out.below hba)
  replace HB := Lib.hid (below_step HB.out hba)
  clear hba
  generalize w2.alloc (.cells #[.slice (some ⟨p1, 0, none⟩) 1 1, .slice (some ⟨p2, 0, none⟩) 1 1, .slice (some ⟨q1, 0, none⟩) 1 1, .slice (some ⟨q2, 0, none⟩) 1 1] 28) = w3 at *
  refine (awk_one w3 _ _).mono ?_; rintro e w4 ⟨r1, r2, rfl, hx1, hb⟩
  replace T1 := Lib.hid (T1.out.below hb)
  replace T2 := Lib.hid (T2.out.below hb)
  replace XW := Lib.hid (XW.out.below hb)
  replace HB := Lib.hid (below_step HB.out hb)
  clear hb
  have T3 := Lib.hid hx1
  clear hx1
  go_wp2_with fail
  refine (awk_one w4 _ _).mono ?_; rintro e w5 ⟨s1, s2, rfl, hx1, hb⟩
  replace T1 := Lib.hid (T1.out.below hb)
  replace T2 := Lib.hid (T2.out.below hb)
  replace XW := Lib.hid (XW.out.below hb)
  replace T3 := Lib.hid (T3.out.below hb)
  replace HB := Lib.hid (below_step HB.out hb)
  clear hb
  have T4 := Lib.hid hx1
  clear hx1
  go_wp2_with fail
  refine (awk_one w5 _ _).mono ?_; rintro e w6 ⟨t1, t2, rfl, hx1, hb⟩
  replace T1 := Lib.hid (T1.out.below hb)
  replace T2 := Lib.hid (T2.out.below hb)
  replace XW := Lib.hid (XW.out.below hb)
  replace T3 := Lib.hid (T3.out.below hb)
  replace T4 := Lib.hid (T4.out.below hb)
  replace HB := Lib.hid (below_step HB.out hb)
  clear hb
  have T5 := Lib.hid hx1
  clear hx1
  go_wp2_with fail
  have XG := Lib.hid (box_new (W := w6) (g := w6.heap.size) 28 #[.slice (some ⟨r1, 0, none⟩) 1 1, .slice (some ⟨r2, 0, none⟩) 1 1, .slice (some ⟨s1, 0, none⟩) 1 1, .slice (some ⟨s2, 0, none⟩) 1 1, .slice (some ⟨t1, 0, none⟩) 1 1, .slice (some ⟨t2, 0, none⟩) 1 1] (by simp))
  have hba := (below_alloc w6 (.cells #[.slice (some ⟨r1, 0, none⟩) 1 1, .slice (some ⟨r2, 0, none⟩) 1 1, .slice (some ⟨s1, 0, none⟩) 1 1, .slice (some ⟨s2, 0, none⟩) 1 1, .slice (some ⟨t1, 0, none⟩) 1 1, .slice (some ⟨t2, 0, none⟩) 1 1] 28))
  replace T1 := Lib.hid (T1.out.below hba)
  replace T2 := Lib.hid (T2.out.below hba)
  replace XW := Lib.hid (XW.out.below hba)
  replace T3 := Lib.hid (T3.out.below hba)
  replace T4 := Lib.hid (T4.out.below hba)
  replace T5 := Lib.hid (T5.out.below hba)
  replace HB := Lib.hid (below_step HB.out hba)
  clear hba
  generalize w6.alloc (.cells #[.slice (some ⟨r1, 0, none⟩) 1 1, .slice (some ⟨r2, 0, none⟩) 1 1, .slice (some ⟨s1, 0, none⟩) 1 1, .slice (some ⟨s2, 0, none⟩) 1 1, .slice (some ⟨t1, 0, none⟩) 1 1, .slice (some ⟨t2, 0, none⟩) 1 1] 28) = w7 at *
  refine (awk_run1 w7 _ _ (HK.out.below HB.out) (HM.out.below HB.out) (HT.out.below HB.out) (tx_two T1.out T2.out XW.out) (tx_three T3.out T4.out T5.out XG.out)).mono ?_; rintro e w8 ⟨A1, c1, A2, c2, rfl, hx1, hb⟩
  replace T1 := Lib.hid (T1.out.below hb)
  replace T2 := Lib.hid (T2.out.below hb)
  replace XW := Lib.hid (XW.out.below hb)
  replace T3 := Lib.hid (T3.out.below hb)
  replace T4 := Lib.hid (T4.out.below hb)
  replace T5 := Lib.hid (T5.out.below hb)
  replace XG := Lib.hid (XG.out.below hb)
  replace HB := Lib.hid (below_step HB.out hb)
  clear hb
  have BA := Lib.hid hx1
  clear hx1 T1 T2 T3 T4 T5 XW XG
  go_upto_region 2 with fail
  have XA := Lib.hid (box_new (W := w8) (g := w8.heap.size) 25 #[.bool true, .string ⟨#[]⟩, .slice A1 0 c1, .int .i64 1, .slice A2 2 c2] (by simp))
  have hba := (below_alloc w8 (.cells #[.bool true, .string ⟨#[]⟩, .slice A1 0 c1, .int .i64 1, .slice A2 2 c2] 25))
  replace BA := Lib.hid (BA.out.below hba)
  replace HB := Lib.hid (below_step HB.out hba)
  clear hba
  generalize w8.alloc (.cells #[.bool true, .string ⟨#[]⟩, .slice A1 0 c1, .int .i64 1, .slice A2 2 c2] 25) = w9 at *
  go_wp2_with fail
  refine (awk_one w9 _ _).mono ?_; rintro e w10 ⟨p1, p2, rfl, hx1, hb⟩
  replace BA := Lib.hid (BA.out.below hb)
  replace XA := Lib.hid (XA.out.below hb)
  replace HB := Lib.hid (below_step HB.out hb)
  clear hb
  have T1 := Lib.hid hx1
  clear hx1
  go_wp2_with fail
  refine (awk_one w10 _ _).mono ?_; rintro e w11 ⟨q1, q2, rfl, hx1, hb⟩
  replace BA := Lib.hid (BA.out.below hb)
  replace XA := Lib.hid (XA.out.below hb)
  replace T1 := Lib.hid (T1.out.below hb)
  replace HB := Lib.hid (below_step HB.out hb)
  clear hb
  have T2 := Lib.hid hx1
  clear hx1
  go_wp2_with fail
  have XW := Lib.hid (box_new (W := w11) (g := w11.heap.size) 28 #[.slice (some ⟨p1, 0, none⟩) 1 1, .slice (some ⟨p2, 0, none⟩) 1 1, .slice (some ⟨q1, 0, none⟩) 1 1, .slice (some ⟨q2, 0, none⟩) 1 1] (by simp))
  have hba := (below_alloc w11 (.cells #[.slice (some ⟨p1, 0, none⟩) 1 1, .slice (some ⟨p2, 0, none⟩) 1 1, .slice (some ⟨q1, 0, none⟩) 1 1, .slice (some ⟨q2, 0, none⟩) 1 1] 28))
  replace BA := Lib.hid (BA.out.below hba)
  replace XA := Lib.hid (XA.out.below hba)
  replace T1 := Lib.hid (T1.out.below hba)
  replace T2 := Lib.hid (T2.out.below hba)
  replace HB := Lib.hid (below_step HB.out hba)
  clear hba
  generalize w11.alloc (.cells #[.slice (some ⟨p1, 0, none⟩) 1 1, .slice (some ⟨p2, 0, none⟩) 1 1, .slice (some ⟨q1, 0, none⟩) 1 1, .slice (some ⟨q2, 0, none⟩) 1 1] 28) = w12 at *
  refine (awk_one w12 _ _).mono ?_; rintro e w13 ⟨r1, r2, rfl, hx1, hb⟩
  replace BA := Lib.hid (BA.out.below hb)
  replace XA := Lib.hid (XA.out.below hb)
  replace T1 := Lib.hid (T1.out.below hb)
  replace T2 := Lib.hid (T2.out.below hb)
  replace XW := Lib.hid (XW.out.below hb)
  replace HB := Lib.hid (below_step HB.out hb)
  clear hb
  have T3 := Lib.hid hx1
  clear hx1
  go_wp2_with fail
  have XG := Lib.hid (box_new (W := w13) (g := w13.heap.size) 28 #[.slice (some ⟨r1, 0, none⟩) 1 1, .slice (some ⟨r2, 0, none⟩) 1 1] (by simp))
  have hba := (below_alloc w13 (.cells #[.slice (some ⟨r1, 0, none⟩) 1 1, .slice (some ⟨r2, 0, none⟩) 1 1] 28))
  replace BA := Lib.hid (BA.out.below hba)
  replace XA := Lib.hid (XA.out.below hba)
  replace T1 := Lib.hid (T1.out.below hba)
  replace T2 := Lib.hid (T2.out.below hba)
  replace XW := Lib.hid (XW.out.below hba)
  replace T3 := Lib.hid (T3.out.below hba)
  replace HB := Lib.hid (below_step HB.out hba)
  clear hba
  generalize w13.alloc (.cells #[.slice (some ⟨r1, 0, none⟩) 1 1, .slice (some ⟨r2, 0, none⟩) 1 1] 28) = w14 at *
  refine (awk_run2 w14 _ _ (HK.out.below HB.out) (HM.out.below HB.out) (HT.out.below HB.out) (tx_two T1.out T2.out XW.out) (tx_one T3.out XG.out)).mono ?_; rintro e w15 ⟨B1, d1, B2, d2, rfl, hx1, hb⟩
  replace BA := Lib.hid (BA.out.below hb)
  replace XA := Lib.hid (XA.out.below hb)
  replace T1 := Lib.hid (T1.out.below hb)
  replace T2 := Lib.hid (T2.out.below hb)
  replace XW := Lib.hid (XW.out.below hb)
  replace T3 := Lib.hid (T3.out.below hb)
  replace XG := Lib.hid (XG.out.below hb)
  replace HB := Lib.hid (below_step HB.out hb)
  clear hb
  have BB := Lib.hid hx1
  clear hx1 T1 T2 T3 XW XG
  go_upto_region 3 with fail
  have XB := Lib.hid (box_new (W := w15) (g := w15.heap.size) 25 #[.bool false, .string ⟨#[107]⟩, .slice B1 0 d1, .int .i64 1, .slice B2 1 d2] (by simp))
  have hba := (below_alloc w15 (.cells #[.bool false, .string ⟨#[107]⟩, .slice B1 0 d1, .int .i64 1, .slice B2 1 d2] 25))
  replace BA := Lib.hid (BA.out.below hba)
  replace XA := Lib.hid (XA.out.below hba)
  replace BB := Lib.hid (BB.out.below hba)
  replace HB := Lib.hid (below_step HB.out hba)
  clear hba
  generalize w15.alloc (.cells #[.bool false, .string ⟨#[107]⟩, .slice B1 0 d1, .int .i64 1, .slice B2 1 d2] 25) = w16 at *
  have XA_0 := XA.out.at_ 0 _ rfl
  have XA_1 := XA.out.at_ 1 _ rfl
  have XA_2 := XA.out.at_ 2 _ rfl
  have XA_3 := XA.out.at_ 3 _ rfl
  have XA_4 := XA.out.at_ 4 _ rfl
  have XB_0 := XB.out.at_ 0 _ rfl
  have XB_1 := XB.out.at_ 1 _ rfl
  have XB_2 := XB.out.at_ 2 _ rfl
  have XB_3 := XB.out.at_ 3 _ rfl
  have XB_4 := XB.out.at_ 4 _ rfl
  go_wp2_with fail
  have XS := Lib.hid (box_new (W := w16) (g := w16.heap.size) 9 #[.string ⟨#[109, 105, 115, 109, 97, 116, 99, 104, 32, 49]⟩, .string ⟨#[101, 120, 116, 114, 97, 32, 50]⟩] (by simp))
  have hba := (below_alloc w16 (.cells #[.string ⟨#[109, 105, 115, 109, 97, 116, 99, 104, 32, 49]⟩, .string ⟨#[101, 120, 116, 114, 97, 32, 50]⟩] 9))
  replace BA := Lib.hid (BA.out.below hba)
  replace XA := Lib.hid (XA.out.below hba)
  replace BB := Lib.hid (BB.out.below hba)
  replace XB := Lib.hid (XB.out.below hba)
  replace HB := Lib.hid (below_step HB.out hba)
  clear hba
  generalize w16.alloc (.cells #[.string ⟨#[109, 105, 115, 109, 97, 116, 99, 104, 32, 49]⟩, .string ⟨#[101, 120, 116, 114, 97, 32, 50]⟩] 9) = w17 at *
  refine (awk_same1 w17 _ _ _ _ _ BA.out XS.out).mono ?_; rintro e w18 ⟨rfl, hb⟩
  clear XA_0 XA_1 XA_2 XA_3 XA_4 XB_0 XB_1 XB_2 XB_3 XB_4
  replace BA := Lib.hid (BA.out.below hb)
  replace XA := Lib.hid (XA.out.below hb)
  replace BB := Lib.hid (BB.out.below hb)
  replace XB := Lib.hid (XB.out.below hb)
  replace XS := Lib.hid (XS.out.below hb)
  replace HB := Lib.hid (below_step HB.out hb)
  clear hb
  have XA_0 := XA.out.at_ 0 _ rfl
  have XA_1 := XA.out.at_ 1 _ rfl
  have XA_2 := XA.out.at_ 2 _ rfl
  have XA_3 := XA.out.at_ 3 _ rfl
  have XA_4 := XA.out.at_ 4 _ rfl
  have XB_0 := XB.out.at_ 0 _ rfl
  have XB_1 := XB.out.at_ 1 _ rfl
  have XB_2 := XB.out.at_ 2 _ rfl
  have XB_3 := XB.out.at_ 3 _ rfl
  have XB_4 := XB.out.at_ 4 _ rfl
  go_wp2_with fail
  have XV := Lib.hid (box_new (W := w18) (g := w18.heap.size) 9 #[.string ⟨#[108, 111, 115, 116, 32, 49]⟩] (by simp))
  have hba := (below_alloc w18 (.cells #[.string ⟨#[108, 111, 115, 116, 32, 49]⟩] 9))
  replace BA := Lib.hid (BA.out.below hba)
  replace XA := Lib.hid (XA.out.below hba)
  replace BB := Lib.hid (BB.out.below hba)
  replace XB := Lib.hid (XB.out.below hba)
  replace XS := Lib.hid (XS.out.below hba)
  replace HB := Lib.hid (below_step HB.out hba)
  clear hba
  generalize w18.alloc (.cells #[.string ⟨#[108, 111, 115, 116, 32, 49]⟩] 9) = w19 at *
  refine (awk_same2 w19 _ _ _ _ _ BB.out XV.out).mono ?_; rintro e w20 ⟨rfl, hb⟩
  clear XA_0 XA_1 XA_2 XA_3 XA_4 XB_0 XB_1 XB_2 XB_3 XB_4
  replace BA := Lib.hid (BA.out.below hb)
  replace XA := Lib.hid (XA.out.below hb)
  replace BB := Lib.hid (BB.out.below hb)
  replace XB := Lib.hid (XB.out.below hb)
  replace XS := Lib.hid (XS.out.below hb)
  replace XV := Lib.hid (XV.out.below hb)
  replace HB := Lib.hid (below_step HB.out hb)
  clear hb
  have XA_0 := XA.out.at_ 0 _ rfl
  have XA_1 := XA.out.at_ 1 _ rfl
  have XA_2 := XA.out.at_ 2 _ rfl
  have XA_3 := XA.out.at_ 3 _ rfl
  have XA_4 := XA.out.at_ 4 _ rfl
  have XB_0 := XB.out.at_ 0 _ rfl
  have XB_1 := XB.out.at_ 1 _ rfl
  have XB_2 := XB.out.at_ 2 _ rfl
  have XB_3 := XB.out.at_ 3 _ rfl
  have XB_4 := XB.out.at_ 4 _ rfl
  go_wp2_with fail
  refine (awk_clean w20 _ _ _ _).mono ?_; rintro e w21 ⟨rfl, hb⟩
  clear XA_0 XA_1 XA_2 XA_3 XA_4 XB_0 XB_1 XB_2 XB_3 XB_4
  replace BA := Lib.hid (BA.out.below hb)
  replace XA := Lib.hid (XA.out.below hb)
  replace BB := Lib.hid (BB.out.below hb)
  replace XB := Lib.hid (XB.out.below hb)
  replace XS := Lib.hid (XS.out.below hb)
  replace XV := Lib.hid (XV.out.below hb)
  replace HB := Lib.hid (below_step HB.out hb)
  clear hb
  go_wp2_with fail
  go_ret
  exact ⟨rfl, HB.out⟩

end Go.Proofs.YtldafnjbgjagiaaDoor
