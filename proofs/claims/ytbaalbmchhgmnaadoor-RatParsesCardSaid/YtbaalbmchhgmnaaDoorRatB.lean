/-
  Contracts of rat.Valid, both, times, less, plus.
-/
import Derived.Test.YtbaalbmchhgmnaaDoorRatA
import Derived.Test.YtbaalbmchhgmnaaDoorRatLaw
namespace Go.Proofs.YtbaalbmchhgmnaaDoor
open Go.RowKit
set_option linter.unusedVariables false
set_option linter.unusedSimpArgs false

set_option maxRecDepth 100000 in
set_option maxHeartbeats 4000000 in
theorem ratValid (n d : Int) (w : World) (hn : I64 n) (hd : I64 d) :
    Calls Tryd.prog 15 #[.agg #[.int .i64 n, .int .i64 d]] w fun e w' => e = .returned (.bool (ratV n d)) ∧ Below w.heap.size w w' := by
  have HV := Lib.hid (ratV_of hn hd)
  have MK := Lib.hid (fun w => ratMake n d w hn.1 hn.2 hd.1 hd.2)
  obtain ⟨n0, n1⟩ := hn
  obtain ⟨d0, d1⟩ := hd
  by_cases h1 : 1 ≤ d
  · have f1 : ¬ d < 1 := by omega
    have HV2 : Hid (ratV n d = decide (mk n d = (n, d, 0))) := Lib.hid (by rw [HV.out, decide_eq_true h1]; rfl)
    clear HV
    obtain ⟨⟨a, b, er⟩, hm⟩ : ∃ r, r = mk n d := ⟨_, rfl⟩
    rw [← hm] at MK HV2
    simp only [ret3r] at MK
    clear hm h1
    have key : (er ≠ 0 ∧ ratV n d = false) ∨ (er = 0 ∧ a = n ∧ b = d ∧ ratV n d = true) ∨ (er = 0 ∧ ¬ (a = n ∧ b = d) ∧ ratV n d = false) := by
      rw [HV2.out]
      by_cases h : er = 0
      · by_cases h2 : a = n ∧ b = d
        · right; left; exact ⟨h, h2.1, h2.2, decide_eq_true (by rw [h, h2.1, h2.2])⟩
        · right; right; exact ⟨h, h2, decide_eq_false (by simp [h]; omega)⟩
      · left; exact ⟨h, decide_eq_false (by simp [h])⟩
    clear HV2
    generalize ratV n d = r at *
    rcases key with ⟨h, rfl⟩ | ⟨rfl, rfl, rfl, rfl⟩ | ⟨rfl, h, rfl⟩
    · have f2 : (er == 0) = false := by simpa using h
      clear h
      go_enter Tryd.func15, Tryd.ntmps15
      go_wp2_with fail
      refine (MK.out _).mono ?_; rintro e w1 ⟨rfl, hb⟩
      have X1 := (Box.new w 23 #[.int .i64 n, .int .i64 d]).below hb
      have HB := Lib.hid (below_step (below_alloc w (.cells #[.int .i64 n, .int .i64 d] 23)) hb)
      have x0 := X1.at_ 0 _ rfl
      have x1 := X1.at_ 1 _ rfl
      clear hb X1
      go_wp2_with fail
      go_ret
      exact ⟨rfl, below_step HB.out (below_alloc _ _)⟩
    · go_enter Tryd.func15, Tryd.ntmps15
      go_wp2_with fail
      refine (MK.out _).mono ?_; rintro e w1 ⟨rfl, hb⟩
      have X1 := (Box.new w 23 #[.int .i64 a, .int .i64 b]).below hb
      have HB := Lib.hid (below_step (below_alloc w (.cells #[.int .i64 a, .int .i64 b] 23)) hb)
      have x0 := X1.at_ 0 _ rfl
      have x1 := X1.at_ 1 _ rfl
      have x2 := X1.lt
      clear hb X1
      go_wp2_with fail
      go_ret
      exact ⟨rfl, below_step HB.out (below_alloc _ _)⟩
    · go_enter Tryd.func15, Tryd.ntmps15
      go_wp2_with fail
      refine (MK.out _).mono ?_; rintro e w1 ⟨rfl, hb⟩
      have X1 := (Box.new w 23 #[.int .i64 n, .int .i64 d]).below hb
      have HB := Lib.hid (below_step (below_alloc w (.cells #[.int .i64 n, .int .i64 d] 23)) hb)
      have x0 := X1.at_ 0 _ rfl
      have x1 := X1.at_ 1 _ rfl
      have x2 := X1.lt
      clear hb X1
      by_cases h2 : a = n
      · have f3 : (b == d) = false := by
          have : ¬ b = d := fun h3 => h ⟨h2, h3⟩
          simpa using this
        subst h2
        clear h
        go_wp2_with fail
        go_ret
        exact ⟨rfl, below_step HB.out (below_alloc _ _)⟩
      · have f3 : (a == n) = false := by simpa using h2
        clear h h2
        go_wp2_with fail
        go_ret
        exact ⟨rfl, below_step HB.out (below_alloc _ _)⟩
  · have f1 : d < 1 := by omega
    have HV2 : Hid (ratV n d = false) := Lib.hid (by rw [HV.out, decide_eq_false h1]; rfl)
    clear h1
    go_enter Tryd.func15, Tryd.ntmps15
    go_wp2_with fail
    go_ret
    exact ⟨by rw [HV2.out]; rfl, below_alloc _ _⟩

set_option maxRecDepth 100000 in
set_option maxHeartbeats 4000000 in
theorem ratBoth (an ad bn bd : Int) (w : World) (h1 : I64 an) (h2 : I64 ad) (h3 : I64 bn) (h4 : I64 bd) :
    Calls Tryd.prog 39 #[.agg #[.int .i64 an, .int .i64 ad], .agg #[.int .i64 bn, .int .i64 bd]] w fun e w' => e = .returned (.bool (ratV an ad && ratV bn bd)) ∧ Below w.heap.size w w' := by
  have V1 := Lib.hid (fun w => ratValid an ad w h1 h2)
  have V2 := Lib.hid (fun w => ratValid bn bd w h3 h4)
  generalize ratV an ad = r1 at *
  generalize ratV bn bd = r2 at *
  clear h1 h2 h3 h4
  cases r1
  · go_enter Tryd.func39, Tryd.ntmps39
    go_wp2_with fail
    refine (V1.out _).mono ?_; rintro e w1 ⟨rfl, hb⟩
    have HB := Lib.hid (below_step (below_step (below_alloc _ _) (below_alloc _ _)) hb)
    clear hb
    go_wp2_with fail
    go_ret
    exact ⟨rfl, HB.out⟩
  · go_enter Tryd.func39, Tryd.ntmps39
    go_wp2_with fail
    refine (V1.out _).mono ?_; rintro e w1 ⟨rfl, hb⟩
    have X1 := (Box.new (w.alloc (.cells #[.int .i64 an, .int .i64 ad] 23)) 23 #[.int .i64 bn, .int .i64 bd]).below hb
    have hz : (w.alloc (.cells #[.int .i64 an, .int .i64 ad] 23)).heap.size = w.heap.size + 1 := by simp
    rw [hz] at X1
    have x0 := X1.at_ 0 _ rfl
    have x1 := X1.at_ 1 _ rfl
    have HB := Lib.hid (below_step (below_step (below_alloc w (.cells #[.int .i64 an, .int .i64 ad] 23)) (below_alloc _ (.cells #[.int .i64 bn, .int .i64 bd] 23))) hb)
    clear hb X1 hz
    go_wp2_with fail
    refine (V2.out _).mono ?_; rintro e w2 ⟨rfl, hb⟩
    have HB2 := Lib.hid (below_step HB.out hb)
    clear hb
    go_wp2_with fail
    go_ret
    exact ⟨by simp, HB2.out⟩

end Go.Proofs.YtbaalbmchhgmnaaDoor
