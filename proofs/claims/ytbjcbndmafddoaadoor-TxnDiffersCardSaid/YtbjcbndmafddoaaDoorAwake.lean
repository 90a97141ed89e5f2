/-
  The contract of num.Format, and that the examples of awake hold.
-/
import Derived.Test.YtbjcbndmafddoaaDoorParse
import Derived.WalkSmall
namespace Go.Proofs.YtbjcbndmafddoaaDoor
open Go.RowKit

/-- The table that strconv reads is as the library's text lays it. -/
def Tab (w : World) : Prop := Lib.TabIs Tryd.prog w "internal/strconv.uint64pow10" .u64 Lib.pow10Tab
theorem gPow : Tryd.prog.globalNamed "internal/strconv.uint64pow10" = some 4 := by kernel_rfl
theorem Tab.lt {w : World} (h : Tab w) : 4 < w.heap.size := by
  have := Lib.TabIs.cell h gPow 0 (by decide)
  exact World.block_lt_of_cell? _ _ this
theorem Tab.below {w w' : World} (h : Tab w) (hb : Below w.heap.size w w') : Tab w' :=
  var?_below hb gPow h.lt h
theorem Tab.drewN {w : World} (h : Tab w) (n : Nat) : Tab (w.drewN n) := h
theorem below_grow (w : World) (n : Nat) (os : Array Obj) : Below w.heap.size w (Go.Sort.grow (w.drewN n) os) :=
  ⟨rfl, rfl, rfl, by show w.heap.size ≤ (w.heap ++ os).size; simp, fun k hk => by show (w.heap ++ os)[k]? = _; rw [Array.getElem?_append_left hk]⟩

/-- The decimal form of a number, as a string. -/
def fmtS (n : Int) : ByteArray := ⟨(Lib.itoa n).toArray⟩

theorem numFormat (n : Int) (w : World) (h0 : -9223372036854775808 ≤ n) (h1 : n ≤ 9223372036854775807) (ht : Tab w) :
    Calls Tryd.prog 41 #[.int .i64 n] w fun e w' => e = .returned (.string (fmtS n)) ∧ Below w.heap.size w w' := by
  have H := Lib.hid ht
  clear ht
  go_enter Tryd.func41, Tryd.ntmps41
  go_wp2_with fail
  refine (Tryd.strconv_Itoa n h0 h1 _ H.out).mono ?_; rintro e w' ⟨rfl, k, os, rfl⟩
  go_wp2_with fail
  go_ret
  exact ⟨rfl, below_grow w k os⟩

theorem twelve : parV ⟨#[45, 49, 50]⟩ = -12 ∧ parE ⟨#[45, 49, 50]⟩ = 0 := by
  have hb : body ⟨#[45, 49, 50]⟩ = ⟨#[49, 50]⟩ := by decide
  have hn : isNeg ⟨#[45, 49, 50]⟩ = true := by decide
  have hg : ¬ badForm ⟨#[45, 49, 50]⟩ := by
    unfold badForm
    rw [hb]
    intro h
    rcases h with h | h | h
    · exact absurd h (by decide)
    · refine h ?_
      have : ∀ j, j < 2 → 48 ≤ byt ⟨#[49, 50]⟩ j ∧ byt ⟨#[49, 50]⟩ j ≤ 57 := by decide
      exact this
    · exact absurd h.1 (by decide)
  obtain ⟨p1, p2⟩ := par_good hg
  have hd : den ⟨#[45, 49, 50]⟩ = -12 := by unfold den; rw [hn, hb]; decide
  rw [p1, p2, hd]
  exact ⟨by decide, by decide⟩

end Go.Proofs.YtbjcbndmafddoaaDoor
