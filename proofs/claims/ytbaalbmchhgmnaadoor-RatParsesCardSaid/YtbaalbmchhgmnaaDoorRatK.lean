/-
  Contracts of rat.Format and of the law's own functions; that the examples of chapter 5 hold.
-/
import Derived.Test.YtbaalbmchhgmnaaDoorRatJ
import Derived.Test.YtbaalbmchhgmnaaDoorAwake
import Derived.Test.YtbaalbmchhgmnaaDoorText
namespace Go.Proofs.YtbaalbmchhgmnaaDoor
open Go.RowKit
set_option linter.unusedVariables false
set_option linter.unusedSimpArgs false

/-- The text of a rational number. -/
def ratFmt (n d : Int) : ByteArray := if ratV n d = true then (if d = 1 then fmtS n else fmtS n ++ ⟨#[47]⟩ ++ fmtS d) else ⟨#[]⟩

theorem lawOf (n d : Int) (w : World) :
    Calls Tryd.prog 25 #[.int .i64 n, .int .i64 d] w fun e w' => e = .returned (.agg #[.int .i64 n, .int .i64 d]) ∧ Below w.heap.size w w' := by
  go_enter Tryd.func25, Tryd.ntmps25
  go_wp2_with fail
  refine bodyPost_ret (v := .agg #[.int .i64 n, .int .i64 d]) (by simp [results, Tryd.results25, go_sem]) rfl ⟨rfl, ?_⟩
  exact below_alloc _ _

set_option maxRecDepth 100000 in
set_option maxHeartbeats 4000000 in
theorem ratFormat (n d : Int) (w : World) (hn : I64 n) (hd : I64 d) (ht : Tab w) :
    Calls Tryd.prog 30 #[.agg #[.int .i64 n, .int .i64 d]] w fun e w' => e = .returned (.string (ratFmt n d)) ∧ Below w.heap.size w w' := by
  have CV := Lib.hid (fun w => ratValid n d w hn hd)
  have F1 := Lib.hid (fun w h => numFormat n w hn.1 hn.2 h)
  have F2 := Lib.hid (fun w h => numFormat d w hd.1 hd.2 h)
  have HT := Lib.hid ht
  have HE : Hid (ratFmt n d = if ratV n d = true then (if d = 1 then fmtS n else fmtS n ++ ⟨#[47]⟩ ++ fmtS d) else ⟨#[]⟩) := Lib.hid rfl
  have z1 := fmt_size n hn.1 hn.2
  have z2 := fmt_size d hd.1 hd.2
  generalize ratFmt n d = res at *
  generalize fmtS n = sn at *
  generalize fmtS d = sd at *
  obtain ⟨r, hr⟩ : ∃ r, r = ratV n d := ⟨_, rfl⟩
  rw [← hr] at CV HE
  clear hr ht hn hd
  cases r
  · go_enter Tryd.func30, Tryd.ntmps30
    go_wp2_with fail
    refine (CV.out _).mono ?_; rintro e w1 ⟨rfl, hb⟩
    have HB := Lib.hid (below_step (below_alloc _ _) hb)
    go_wp2_with fail
    go_ret
    exact ⟨by rw [HE.out, if_neg (by decide)]; rfl, HB.out⟩
  · by_cases h1 : d = 1
    · have HE2 : Hid (res = sn) := Lib.hid (by rw [HE.out, if_pos rfl, if_pos h1])
      subst h1
      clear HE
      go_enter Tryd.func30, Tryd.ntmps30
      go_wp2_with fail
      refine (CV.out _).mono ?_; rintro e w1 ⟨rfl, hb⟩
      have X1 := Lib.hid ((Box.new w 23 #[.int .i64 n, .int .i64 1]).below hb)
      have HB := Lib.hid (below_step (below_alloc _ _) hb)
      clear hb
      have x0 := X1.out.at_ 0 _ rfl
      have x1 := X1.out.at_ 1 _ rfl
      go_wp2_with fail
      refine (F1.out _ (HT.out.below HB.out)).mono ?_; rintro e w2 ⟨rfl, hb⟩
      replace HB := Lib.hid (below_step HB.out hb)
      clear hb
      go_wp2_with fail
      go_ret
      exact ⟨by rw [HE2.out]; rfl, HB.out⟩
    · have HE2 : Hid (res = sn ++ ⟨#[47]⟩ ++ sd) := Lib.hid (by rw [HE.out, if_pos rfl, if_neg h1])
      have f1 : (d == 1) = false := by simpa using h1
      clear HE h1
      go_enter Tryd.func30, Tryd.ntmps30
      go_wp2_with fail
      refine (CV.out _).mono ?_; rintro e w1 ⟨rfl, hb⟩
      have X1 := Lib.hid ((Box.new w 23 #[.int .i64 n, .int .i64 d]).below hb)
      have HB := Lib.hid (below_step (below_alloc _ _) hb)
      clear hb
      have x1 := X1.out.at_ 1 _ rfl
      go_wp2_with fail
      clear x1
      have l0 := X1.out.lat 0 _ rfl
      have l1 := X1.out.lat 1 _ rfl
      have HT1 := Lib.hid (HT.out.below HB.out)
      have G1 := Lib.hid (fun p : Lat w1 => F1.out p.w (HT1.out.below p.h))
      have G2 := Lib.hid (fun p : Lat w1 => F2.out p.w (HT1.out.below p.h))
      refine wp_region_lat (by kernel_rfl) (by kernel_rfl) ?_
      repeat (go_big_quiet_step (first | (with_reducible exact lat_call (G1.out _)) | (with_reducible exact lat_call (G2.out _))))
      refine wpQuiet_nil ?_; intro w2 hb
      replace HB := Lib.hid (below_step HB.out hb)
      clear hb l0 l1
      go_wp2_with fail
      go_ret
      exact ⟨by rw [HE2.out]; rfl, HB.out⟩

theorem aw_mk : mk 2 (-4) = (-1, 2, 0) := by decide +kernel
theorem aw_add : addR 1 2 1 3 = (5, 6, 0) := by decide +kernel
theorem aw_mul : mulR 4611686018427387904 1 1 4611686018427387904 = (1, 1, 0) := by decide +kernel
theorem aw_fmt : ratFmt (-5) 4 = ⟨#[45, 53, 47, 52]⟩ := by decide +kernel

set_option maxRecDepth 100000 in
set_option maxHeartbeats 4000000 in
theorem awake05 (w : World) (ht : Tab w) : Calls Tryd.prog 14 #[] w fun e w' => e = .returned (.bool true) ∧ Below w.heap.size w w' := by
  have HT := Lib.hid ht
  have C1 : Hid (∀ w, Calls Tryd.prog 12 #[.int .i64 2, .int .i64 (-4)] w fun e w' => e = .returned (.tuple #[.agg #[.int .i64 (-1), .int .i64 2], .int .i64 0]) ∧ Below w.heap.size w w') := Lib.hid fun w => by
    have := ratMake 2 (-4) w (by omega) (by omega) (by omega) (by omega); rwa [aw_mk] at this
  have C2 : Hid (∀ w, Calls Tryd.prog 17 #[.agg #[.int .i64 1, .int .i64 2], .agg #[.int .i64 1, .int .i64 3]] w fun e w' => e = .returned (.tuple #[.agg #[.int .i64 5, .int .i64 6], .int .i64 0]) ∧ Below w.heap.size w w') := Lib.hid fun w => by
    have := ratAdd 1 2 1 3 w (by unfold I64; omega) (by unfold I64; omega) (by unfold I64; omega) (by unfold I64; omega); rwa [aw_add] at this
  have C3 : Hid (∀ w, Calls Tryd.prog 21 #[.agg #[.int .i64 4611686018427387904, .int .i64 1], .agg #[.int .i64 1, .int .i64 4611686018427387904]] w fun e w' => e = .returned (.tuple #[.agg #[.int .i64 1, .int .i64 1], .int .i64 0]) ∧ Below w.heap.size w w') := Lib.hid fun w => by
    have := ratMul 4611686018427387904 1 1 4611686018427387904 w (by unfold I64; omega) (by unfold I64; omega) (by unfold I64; omega) (by unfold I64; omega); rwa [aw_mul] at this
  have C4 : Hid (∀ w, Tab w → Calls Tryd.prog 30 #[.agg #[.int .i64 (-5), .int .i64 4]] w fun e w' => e = .returned (.string ⟨#[45, 53, 47, 52]⟩) ∧ Below w.heap.size w w') := Lib.hid fun w h => by
    have := ratFormat (-5) 4 w (by unfold I64; omega) (by unfold I64; omega) h; rwa [aw_fmt] at this
  clear ht
  go_enter Tryd.func14, Tryd.ntmps14
  go_wp2_with fail
  refine (C1.out _).mono ?_; rintro e w1 ⟨rfl, hb⟩
  have HB := Lib.hid hb
  clear hb
  go_wp2_with fail
  refine (lawOf _ _ _).mono ?_; rintro e w2 ⟨rfl, hb⟩
  have X1 := Lib.hid ((Box.new w1 23 #[.int .i64 (-1), .int .i64 2]).below hb)
  replace HB := Lib.hid (below_step HB.out (below_step (below_alloc w1 (.cells #[.int .i64 (-1), .int .i64 2] 23)) hb))
  clear hb
  go_wp2_with fail
  refine (lawOf _ _ _).mono ?_; rintro e w3 ⟨rfl, hb⟩
  replace X1 := Lib.hid (X1.out.below hb); replace HB := Lib.hid (below_step HB.out hb)
  clear hb
  go_wp2_with fail
  refine (C2.out _).mono ?_; rintro e w4 ⟨rfl, hb⟩
  replace X1 := Lib.hid (X1.out.below hb); replace HB := Lib.hid (below_step HB.out hb)
  clear hb
  go_wp2_with fail
  refine (lawOf _ _ _).mono ?_; rintro e w5 ⟨rfl, hb⟩
  have hb2 := below_step (below_alloc w4 (.cells #[.int .i64 5, .int .i64 6] 23)) hb
  have X2 := Lib.hid ((Box.new w4 23 #[.int .i64 5, .int .i64 6]).below hb)
  replace X1 := Lib.hid (X1.out.below hb2); replace HB := Lib.hid (below_step HB.out hb2)
  clear hb hb2
  go_wp2_with fail
  refine (lawOf _ _ _).mono ?_; rintro e w6 ⟨rfl, hb⟩
  replace X1 := Lib.hid (X1.out.below hb); replace X2 := Lib.hid (X2.out.below hb); replace HB := Lib.hid (below_step HB.out hb)
  clear hb
  go_wp2_with fail
  refine (C3.out _).mono ?_; rintro e w7 ⟨rfl, hb⟩
  have hb2 := below_step hb (below_alloc w7 (.cells #[.int .i64 1, .int .i64 1] 23))
  have X3 := Lib.hid (Box.new w7 23 #[.int .i64 1, .int .i64 1])
  replace X1 := Lib.hid (X1.out.below hb2); replace X2 := Lib.hid (X2.out.below hb2); replace HB := Lib.hid (below_step HB.out hb2)
  clear hb hb2
  go_wp2_with fail
  generalize w7.alloc (.cells #[.int .i64 1, .int .i64 1] 23) = w8 at *
  have G4 := Lib.hid (fun p : Lat w8 => C4.out p.w (HT.out.below (HB.out.trans (p.h.mono HB.out.size))))
  have l0 := X1.out.lat 0 _ rfl
  have l1 := X1.out.lat 1 _ rfl
  have l2 := X2.out.lat 0 _ rfl
  have l3 := X2.out.lat 1 _ rfl
  have l4 := X3.out.lat 0 _ rfl
  have l5 := X3.out.lat 1 _ rfl
  refine wp_region_lat (by kernel_rfl) (by kernel_rfl) ?_
  repeat (go_big_quiet_step (first | (with_reducible exact lat_call (lawOf _ _ _)) | (with_reducible exact lat_call (G4.out _))))
  refine wpQuiet_nil ?_; intro w9 hb
  replace HB := Lib.hid (below_step HB.out hb)
  clear hb l0 l1 l2 l3 l4 l5
  go_wp2_with fail
  go_ret
  exact ⟨rfl, HB.out⟩

end Go.Proofs.YtbaalbmchhgmnaaDoor
