/-
  The walks of the laws on num's numbers: each returns true, whatever the input.
-/
import Derived.Test.YtdnfeibjdjcomaaDoorAwake
namespace Go.Proofs.YtdnfeibjdjcomaaDoor
open Go.RowKit

def I64 (a : Int) : Prop := -9223372036854775808 ≤ a ∧ a ≤ 9223372036854775807

theorem walkNumQuotients (a : Int) (wa : I64 a) (b : Int) (wb : I64 b) (w : World) (ht : Tab w) :
    Calls Tryd.prog 3 #[.int .i64 a, .int .i64 b] w fun e w' => e = .returned (.bool true) ∧ Below w.heap.size w w' := by
  obtain ⟨ha, ha'⟩ := wa
  obtain ⟨hb, hb'⟩ := wb
  have HT := Lib.hid ht
  clear ht
  go_enter Tryd.func3, Tryd.ntmps3
  go_wp2_with fail
  refine (numDiv a b _ ha ha' hb hb').mono ?_; rintro e w' ⟨rfl, rfl⟩
  go_wp2_with fail
  refine (refDiv a b _ ha ha' hb hb').mono ?_; rintro e w' ⟨rfl, rfl⟩
  go_wp2_with fail
  refine (awake _ HT.out).mono ?_; rintro e w' ⟨rfl, hw⟩
  go_wp2_with fail
  go_ret
  exact ⟨rfl, hw⟩
end Go.Proofs.YtdnfeibjdjcomaaDoor
