/-
  The contract of num.Format, and that the examples of awake hold.
-/
import Derived.Test.YtdnfeibjdjcomaaDoorParse
import Derived.WalkSmall
namespace Go.Proofs.YtdnfeibjdjcomaaDoor
open Go.RowKit

/-- The table that strconv reads is as the library's text lays it. -/
def Tab (w : World) : Prop := Lib.TabIs Tryd.prog w "internal/strconv.uint64pow10" .u64 Lib.pow10Tab
theorem gPow : Tryd.prog.globalNamed "internal/strconv.uint64pow10" = some 0 := by kernel_rfl
theorem Tab.lt {w : World} (h : Tab w) : 0 < w.heap.size := by
  have := Lib.TabIs.cell h gPow 0 (by decide)
  exact World.block_lt_of_cell? _ _ this
theorem Tab.below {w w' : World} (h : Tab w) (hb : Below w.heap.size w w') : Tab w' :=
  var?_below hb gPow h.lt h
theorem Tab.drewN {w : World} (h : Tab w) (n : Nat) : Tab (w.drewN n) := h
theorem below_drewN {B : Nat} {a w : World} (h : Below B a w) (n : Nat) : Below B a (w.drewN n) := ⟨h.os, h.tape, h.output, h.size, h.block⟩
theorem below_grow (w : World) (n : Nat) (os : Array Obj) : Below w.heap.size w (Go.Sort.grow (w.drewN n) os) :=
  ⟨rfl, rfl, rfl, by show w.heap.size ≤ (w.heap ++ os).size; simp, fun k hk => by show (w.heap ++ os)[k]? = _; rw [Array.getElem?_append_left hk]⟩

/-- The decimal form of a number, as a string. -/
def fmtS (n : Int) : ByteArray := ⟨(Lib.itoa n).toArray⟩

theorem numFormat (n : Int) (w : World) (h0 : -9223372036854775808 ≤ n) (h1 : n ≤ 9223372036854775807) (ht : Tab w) :
    Calls Tryd.prog 22 #[.int .i64 n] w fun e w' => e = .returned (.string (fmtS n)) ∧ Below w.heap.size w w' := by
  have H := Lib.hid ht
  clear ht
  go_enter Tryd.func22, Tryd.ntmps22
  go_wp2_with fail
  refine (Tryd.strconv_Itoa n h0 h1 _ H.out).mono ?_; rintro e w' ⟨rfl, k, os, rfl⟩
  go_wp2_with fail
  go_ret
  exact ⟨rfl, below_grow w k os⟩

theorem twelve : parV ⟨#[45, 49, 50]⟩ = -12 ∧ parE ⟨#[45, 49, 50]⟩ = 0 := by
  have hb : body ⟨#[45, 49, 50]⟩ = ⟨#[49, 50]⟩ := by decide
  have hn : isNeg ⟨#[45, 49, 50]⟩ = true := by decide
  have hg : ¬ badForm ⟨#[45, 49, 50]⟩ := by
    unfold badForm
    rw [hb]
    intro h
    rcases h with h | h | h
    · exact absurd h (by decide)
    · refine h ?_
      have : ∀ j, j < 2 → 48 ≤ byt ⟨#[49, 50]⟩ j ∧ byt ⟨#[49, 50]⟩ j ≤ 57 := by decide
      exact this
    · exact absurd h.1 (by decide)
  obtain ⟨p1, p2⟩ := par_good hg
  have hd : den ⟨#[45, 49, 50]⟩ = -12 := by unfold den; rw [hn, hb]; decide
  rw [p1, p2, hd]
  exact ⟨by decide, by decide⟩

set_option maxRecDepth 100000 in
set_option maxHeartbeats 1000000 in
theorem awake (w : World) (ht : Tab w) :
    Calls Tryd.prog 12 #[] w fun e w' => e = .returned (.bool true) ∧ Below w.heap.size w w' := by
  have c1 : ∀ w, Calls Tryd.prog 10 #[.int .i64 (-7), .int .i64 2] w fun e w' => e = .returned (.tuple #[.int .i64 (-4), .int .i64 0]) ∧ w = w' := fun w =>
    (numDiv (-7) 2 w (by omega) (by omega) (by omega) (by omega))
  have c2 : ∀ w, Calls Tryd.prog 13 #[.int .i64 (-2), .int .i64 63] w fun e w' => e = .returned (.tuple #[.int .i64 (-9223372036854775808), .int .i64 0]) ∧ w = w' := fun w =>
    (numPow (-2) 63 w (by omega) (by omega) (by omega) (by omega)).mono fun e w' ⟨he, hw⟩ => ⟨by rw [he]; exact ret2 (by decide +kernel) (by decide +kernel), hw⟩
  have c3 : ∀ w, Calls Tryd.prog 16 #[.int .i64 (-4), .int .i64 6] w fun e w' => e = .returned (.tuple #[.int .i64 12, .int .i64 0]) ∧ ∃ n, w' = w.drewN n := fun w =>
    (numLcm (-4) 6 w (by omega) (by omega) (by omega) (by omega)).mono fun e w' ⟨he, hw⟩ => ⟨by rw [he]; exact ret2 (by decide +kernel) (by decide +kernel), hw⟩
  have c4 : ∀ w, Calls Tryd.prog 20 #[.string ⟨#[45, 49, 50]⟩] w fun e w' => e = .returned (.tuple #[.int .i64 (-12), .int .i64 0]) ∧ Below w.heap.size w w' := fun w =>
    (numParse ⟨#[45, 49, 50]⟩ w (by decide)).mono fun e w' ⟨he, hw⟩ => ⟨by rw [he]; exact ret2 twelve.1 twelve.2, hw⟩
  have c5 : ∀ w, Calls Tryd.prog 15 #[.int .i64 4294967296, .int .i64 2147483648] w fun e w' => e = .returned (.tuple #[.int .i64 0, .int .i64 3]) ∧ w = w' := fun w =>
    (numMul 4294967296 2147483648 w (by omega) (by omega) (by omega) (by omega)).mono fun e w' ⟨he, hw⟩ => ⟨by rw [he]; exact ret2 (by decide +kernel) (by decide +kernel), hw⟩
  have c6 : ∀ w, Calls Tryd.prog 18 #[.int .i64 (-4), .int .i64 6] w fun e w' => e = .returned (.int .i64 2) ∧ ∃ n, w' = w.drewN n := fun w =>
    (numGcd (-4) 6 w (by omega) (by omega) (by omega) (by omega)).mono fun e w' ⟨he, hw⟩ => ⟨by rw [he]; exact ret1 (by decide +kernel), hw⟩
  have hf : fmtS (-12) = ⟨#[45, 49, 50]⟩ := by
    have : Lib.itoa (-12) = [45, 49, 50] := by
      rw [show (-12 : Int) = -((12 : Nat) : Int) by decide, Lib.itoa_neg 12 (by decide)]
      rw [Lib.decDigits, dif_neg (by decide), Lib.decDigits, dif_pos (by decide)]
      decide
    unfold fmtS; rw [this]
  have c7 : ∀ w, Tab w → Calls Tryd.prog 22 #[.int .i64 (-12)] w fun e w' => e = .returned (.string ⟨#[45, 49, 50]⟩) ∧ Below w.heap.size w w' := fun w h => by
    rw [← hf]; exact numFormat (-12) w (by omega) (by omega) h
  have C1 := Lib.hid c1
  have C2 := Lib.hid c2
  have C3 := Lib.hid c3
  have C4 := Lib.hid c4
  have C5 := Lib.hid c5
  have C6 := Lib.hid c6
  have C7 := Lib.hid c7
  have HT := Lib.hid ht
  clear c1 c2 c3 c4 c5 c6 c7 ht hf
  go_enter Tryd.func12, Tryd.ntmps12
  go_wp2_with fail
  refine (C1.out _).mono ?_; rintro e w' ⟨rfl, rfl⟩
  go_wp2_with fail
  refine (C2.out _).mono ?_; rintro e w' ⟨rfl, rfl⟩
  go_wp2_with fail
  refine (C3.out _).mono ?_; rintro e w' ⟨rfl, n1, rfl⟩
  go_wp2_with fail
  refine (C4.out _).mono ?_; rintro e w1 ⟨rfl, hb1⟩
  have HB1 : Hid (Below w.heap.size w w1) := ⟨hb1.os, hb1.tape, hb1.output, hb1.size, hb1.block⟩
  clear hb1
  go_wp2_with fail
  refine (C5.out _).mono ?_; rintro e w' ⟨rfl, rfl⟩
  go_wp2_with fail
  refine (C6.out _).mono ?_; rintro e w' ⟨rfl, n2, rfl⟩
  go_wp2_with fail
  refine (C7.out _ ((HT.out.below HB1.out).drewN n2)).mono ?_; rintro e w2 ⟨rfl, hb2⟩
  have HB2 : Hid (Below w1.heap.size w1 w2) := ⟨hb2.os, hb2.tape, hb2.output, hb2.size, hb2.block⟩
  clear hb2
  go_wp2_with fail
  go_ret
  exact ⟨rfl, HB1.out.trans (HB2.out.mono HB1.out.size)⟩
end Go.Proofs.YtdnfeibjdjcomaaDoor
