/-
  The walk of the law on decimal forms.
-/
import Derived.Test.YtdnfeibjdjcomaaDoorLawsA
import Derived.Test.YtdnfeibjdjcomaaDoorRefParse
import Derived.Test.YtdnfeibjdjcomaaDoorRefFormat
import Derived.Test.YtdnfeibjdjcomaaDoorText
namespace Go.Proofs.YtdnfeibjdjcomaaDoor
open Go.RowKit

theorem string_beq (s : ByteArray) : (s.toList == s.toList) = true := by simp

set_option maxRecDepth 100000 in
set_option maxHeartbeats 4000000 in
theorem walkNumTexts (s : ByteArray) (ws : s.size ≤ maxLen) (n : Int) (wn : I64 n) (w : World) (ht : Tab w) :
    Calls Tryd.prog 8 #[.string s, .int .i64 n] w fun e w' => e = .returned (.bool true) ∧ Below w.heap.size w w' := by
  obtain ⟨hn, hn'⟩ := wn
  have ws' := ws
  unfold maxLen at ws'
  have HT := Lib.hid ht
  clear ht
  by_cases hl : 60 < s.size
  · go_enter Tryd.func8, Tryd.ntmps8
    go_wp2_with fail
    refine (awake _ HT.out).mono ?_; rintro e w' ⟨rfl, hw⟩
    go_wp2_with fail
    go_ret
    exact ⟨rfl, hw⟩
  have hfs := fmt_size n hn hn'
  obtain ⟨q1, q2⟩ := par_fmt n hn hn'
  have cq : ∀ w, Calls Tryd.prog 20 #[.string (fmtS n)] w fun e w' => e = .returned (.tuple #[.int .i64 n, .int .i64 0]) ∧ Below w.heap.size w w' := fun w =>
    (numParse (fmtS n) w (by unfold maxLen; omega)).mono fun e w' ⟨he, hw⟩ => ⟨by rw [he, q1, q2], hw⟩
  have CQ := Lib.hid cq
  have WS := Lib.hid ws
  clear cq q1 q2 hfs ws
  have hend : ((parE s == 0) = true ∧ fmtS (parV s) = s ∧ -9223372036854775808 ≤ parV s ∧ parV s ≤ 9223372036854775807) ∨ (parE s == 0) = false := by
    by_cases e : parE s = 0
    · exact .inl ⟨by simpa using e, fmt_par s e⟩
    · exact .inr (by simpa using e)
  rcases hend with ⟨f0, f1, f2, f3⟩ | f0
  · have HF := Lib.hid f1
    clear f1
    go_enter Tryd.func8, Tryd.ntmps8
    go_wp2_with fail
    refine (numParse s _ WS.out).mono ?_; rintro e w1 ⟨rfl, hb1⟩
    have HB1 := Lib.hid hb1
    clear hb1
    go_wp2_with fail
    refine (refParse s _ WS.out).mono ?_; rintro e w' ⟨rfl, rfl⟩
    go_wp2_with fail
    refine (numFormat n _ hn hn' (HT.out.below HB1.out)).mono ?_; rintro e w2 ⟨rfl, hb2⟩
    have HB2 : Hid (Below w.heap.size w w2) := HB1.out.trans (hb2.mono HB1.out.size)
    clear hb2
    go_wp2_with fail
    refine (CQ.out _).mono ?_; rintro e w3 ⟨rfl, hb3⟩
    have HB3 : Hid (Below w.heap.size w w3) := HB2.out.trans (hb3.mono HB2.out.size)
    clear hb3
    go_wp2_with fail
    refine (numFormat (parV s) _ f2 f3 (HT.out.below HB3.out)).mono ?_; rintro e w4 ⟨rfl, hb4⟩
    have HB4 : Hid (Below w.heap.size w w4) := HB3.out.trans (hb4.mono HB3.out.size)
    clear hb4
    rw [HF.out]
    go_wp2_with fail
    refine (refFormat n _ hn hn').mono ?_; rintro e w5 ⟨rfl, hb5⟩
    have HB5 : Hid (Below w.heap.size w w5) := HB4.out.trans (hb5.mono HB4.out.size)
    clear hb5
    go_wp2_with fail
    refine (awake _ (HT.out.below HB5.out)).mono ?_; rintro e w6 ⟨rfl, hb6⟩
    have HB6 : Hid (Below w.heap.size w w6) := HB5.out.trans (hb6.mono HB5.out.size)
    clear hb6
    go_wp2_with fail
    go_ret
    exact ⟨rfl, HB6.out⟩
  · go_enter Tryd.func8, Tryd.ntmps8
    go_wp2_with fail
    refine (numParse s _ WS.out).mono ?_; rintro e w1 ⟨rfl, hb1⟩
    have HB1 := Lib.hid hb1
    clear hb1
    go_wp2_with fail
    refine (refParse s _ WS.out).mono ?_; rintro e w' ⟨rfl, rfl⟩
    go_wp2_with fail
    refine (numFormat n _ hn hn' (HT.out.below HB1.out)).mono ?_; rintro e w2 ⟨rfl, hb2⟩
    have HB2 : Hid (Below w.heap.size w w2) := HB1.out.trans (hb2.mono HB1.out.size)
    clear hb2
    go_wp2_with fail
    refine (CQ.out _).mono ?_; rintro e w3 ⟨rfl, hb3⟩
    have HB3 : Hid (Below w.heap.size w w3) := HB2.out.trans (hb3.mono HB2.out.size)
    clear hb3
    go_wp2_with fail
    refine (refFormat n _ hn hn').mono ?_; rintro e w5 ⟨rfl, hb5⟩
    have HB5 : Hid (Below w.heap.size w w5) := HB3.out.trans (hb5.mono HB3.out.size)
    clear hb5
    go_wp2_with fail
    refine (awake _ (HT.out.below HB5.out)).mono ?_; rintro e w6 ⟨rfl, hb6⟩
    have HB6 : Hid (Below w.heap.size w w6) := HB5.out.trans (hb6.mono HB5.out.size)
    clear hb6
    go_wp2_with fail
    go_ret
    exact ⟨rfl, HB6.out⟩
end Go.Proofs.YtdnfeibjdjcomaaDoor
