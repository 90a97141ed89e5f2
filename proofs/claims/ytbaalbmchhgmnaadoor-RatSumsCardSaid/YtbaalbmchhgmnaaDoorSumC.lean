/-
  The law RatSums: the walk.
-/
import Derived.Test.YtbaalbmchhgmnaaDoorSumB
namespace Go.Proofs.YtbaalbmchhgmnaaDoor
open Go.RowKit Go.WideShapes Go.ChangeShapes Go.Deep
set_option linter.unusedVariables false
set_option linter.unusedSimpArgs false

set_option maxRecDepth 100000 in
set_option maxHeartbeats 8000000 in
theorem walkRatSums {H : Type} {enc : TypeId × Value → H} {base : Nat} (v : Value) (d : DataW H) (p : List MemPlace) {w : World} (h : DataW.Trod enc Tryd.prog w 0 (fun _ => true) true 34 v d p) (hv : Value.okWide Tryd.prog w .any base 34 v) (ht : Tab w) :
    Calls Tryd.prog 8 #[v] w fun e w' => e = .returned (.bool true) ∧ Below w.heap.size w w' := by
  obtain ⟨l, hq, hf⟩ := arg_rats h hv
  have HT := Lib.hid ht
  have C1 := Lib.hid (fun w h => ratSum w v l h hf)
  have C2 := Lib.hid (fun w h => refSums w v l h hf)
  have HQ := Lib.hid hq
  have h0 : l.length = 0 → sumR l = (0, 1, 0) := fun h => by rw [List.eq_nil_of_length_eq_zero h]; rfl
  obtain ⟨⟨x, y, er⟩, hR⟩ : ∃ R, R = sumR l := ⟨_, rfl⟩
  rw [← hR] at C1 C2 h0
  simp only [ret3r] at C1 C2
  obtain ⟨A, c, rfl, hc, hm, _⟩ := hq
  obtain ⟨N, hN⟩ : ∃ N, N = l.length := ⟨_, rfl⟩
  rw [← hN] at C1 C2 HQ h0 hc ⊢
  clear hN hR h hv hf ht
  by_cases hn : (30 : Int) < N
  · clear h0
    go_enter Tryd.func8, Tryd.ntmps8
    go_wp2_with fail
    refine (awake05 _ HT.out).mono ?_; rintro e w1 ⟨rfl, hb⟩
    go_wp2_with fail
    go_ret
    exact ⟨rfl, hb⟩
  by_cases hz : N = 0
  · subst hz
    obtain ⟨rfl, hh⟩ := Prod.mk.inj (h0 rfl)
    obtain ⟨rfl, rfl⟩ := Prod.mk.inj hh
    clear h0 hn hh
    go_enter Tryd.func8, Tryd.ntmps8
    go_wp2_with fail
    refine (C1.out _ HQ.out).mono ?_; rintro e w1 ⟨rfl, hb⟩
    have HB := Lib.hid hb
    clear hb
    go_wp2_with fail
    refine (C2.out _ (HQ.out.below (below_step HB.out (below_alloc w1 (.cells #[.int .i64 0, .int .i64 1] 23))))).mono ?_; rintro e w2 ⟨rfl, hb⟩
    have X1 := Lib.hid ((Box.new w1 23 #[.int .i64 0, .int .i64 1]).below hb)
    replace HB := Lib.hid (below_step HB.out (below_step (below_alloc w1 (.cells #[.int .i64 0, .int .i64 1] 23)) hb))
    clear hb
    go_wp2_with fail
    have X2 := Lib.hid (Box.new w2 23 #[.int .i64 0, .int .i64 1])
    replace X1 := Lib.hid (X1.out.below (below_alloc w2 (.cells #[.int .i64 0, .int .i64 1] 23)))
    replace HB := Lib.hid (below_step HB.out (below_alloc w2 (.cells #[.int .i64 0, .int .i64 1] 23)))
    generalize w2.alloc (.cells #[.int .i64 0, .int .i64 1] 23) = w3 at *
    have HT2 := Lib.hid (HT.out.below HB.out)
    have AW := Lib.hid (fun p : Lat w3 => awake05 p.w (HT2.out.below p.h))
    have LO := Lib.hid (fun p : Lat w3 => lawOf 0 1 p.w)
    have l0 := X1.out.lat 0 _ rfl
    have l1 := X1.out.lat 1 _ rfl
    have l2 := X2.out.lat 0 _ rfl
    have l3 := X2.out.lat 1 _ rfl
    refine wp_region_lat (by kernel_rfl) (by kernel_rfl) ?_
    repeat (go_big_quiet_step (first | (with_reducible exact lat_call (LO.out _)) | (with_reducible exact lat_call (AW.out _))))
    refine wpQuiet_nil ?_; intro w13 hb
    replace HB := Lib.hid (below_step HB.out hb)
    clear hb l0 l1 l2 l3
    go_wp2_with fail
    go_ret
    exact ⟨rfl, HB.out⟩
  · have g0 : (0 : Int) < N := by omega
    have g1 : 0 < N := by omega
    have g2 : decide (0 < N) = true := by simpa using g1
    have b1 : (x == x) = true := by simp
    have b2 : (y == y) = true := by simp
    have b3 : (er == er) = true := by simp
    clear h0 hz
    go_enter Tryd.func8, Tryd.ntmps8
    go_wp2_with fail
    refine (C1.out _ HQ.out).mono ?_; rintro e w1 ⟨rfl, hb⟩
    have HB := Lib.hid hb
    clear hb
    go_wp2_with fail
    refine (C2.out _ (HQ.out.below (below_step HB.out (below_alloc w1 (.cells #[.int .i64 x, .int .i64 y] 23))))).mono ?_; rintro e w2 ⟨rfl, hb⟩
    have X1 := Lib.hid ((Box.new w1 23 #[.int .i64 x, .int .i64 y]).below hb)
    replace HB := Lib.hid (below_step HB.out (below_step (below_alloc w1 (.cells #[.int .i64 x, .int .i64 y] 23)) hb))
    clear hb
    go_wp2_with fail
    have X2 := Lib.hid (Box.new w2 23 #[.int .i64 x, .int .i64 y])
    replace X1 := Lib.hid (X1.out.below (below_alloc w2 (.cells #[.int .i64 x, .int .i64 y] 23)))
    replace HB := Lib.hid (below_step HB.out (below_alloc w2 (.cells #[.int .i64 x, .int .i64 y] 23)))
    generalize w2.alloc (.cells #[.int .i64 x, .int .i64 y] 23) = w3 at *
    have HT2 := Lib.hid (HT.out.below HB.out)
    have AW := Lib.hid (fun p : Lat w3 => awake05 p.w (HT2.out.below p.h))
    have LO := Lib.hid (fun p : Lat w3 => lawOf 0 1 p.w)
    have l0 := X1.out.lat 0 _ rfl
    have l1 := X1.out.lat 1 _ rfl
    have l2 := X2.out.lat 0 _ rfl
    have l3 := X2.out.lat 1 _ rfl
    refine wp_region_lat (by kernel_rfl) (by kernel_rfl) ?_
    repeat (go_big_quiet_step (first | (with_reducible exact lat_call (LO.out _)) | (with_reducible exact lat_call (AW.out _))))
    refine wpQuiet_nil ?_; intro w13 hb
    replace HB := Lib.hid (below_step HB.out hb)
    clear hb l0 l1 l2 l3
    go_wp2_with fail
    go_ret
    exact ⟨rfl, HB.out⟩

end Go.Proofs.YtbaalbmchhgmnaaDoor
