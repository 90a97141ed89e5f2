/-
  Contracts of the reference's reader: text, number, seed.
-/
import Derived.Test.YtbgficaboolgiaaGreatDoorStoHb
import Derived.Test.YtbgficaboolgiaaGreatDoorStoHd
import Derived.Test.YtbgficaboolgiaaGreatDoorStoG
namespace Go.Proofs.YtbgficaboolgiaaGreatDoor
open Go.RowKit
set_option linter.unusedVariables false
set_option linter.unusedSimpArgs false

set_option maxRecDepth 100000 in
set_option maxHeartbeats 4000000 in
theorem refRdT (s : ByteArray) (hs : s.size ≤ maxLen) (a0 er : Int) (hm : StOk s (a0, er)) (a : Int) (ha : er = 0 → a = a0) (w : World) (g : Nat) (hb : Box w g #[.string s, .int .i64 a, .int .i64 er] 78) :
    Calls Tryz.prog 41 #[.pointer (some ⟨g, 0, none⟩)] w fun e w' => ∃ (t : ByteArray) (a' : Int), e = .returned (.string t) ∧ ((rdT s (a0, er)).2.2 = 0 → a' = (rdT s (a0, er)).2.1 ∧ t = (rdT s (a0, er)).1) ∧
      Box w' g #[.string s, .int .i64 a', .int .i64 (rdT s (a0, er)).2.2] 78 ∧ w.grownBy w' (some g) := by
  obtain ⟨⟨m1, m2⟩, m3, m4⟩ := hm
  simp only at m1 m2 m3 m4
  have HR : Hid (rdT s (a0, er) = if er ≠ 0 then (⟨#[]⟩, (a0, er)) else if (tt s a0).2.2 ≠ 0 then (⟨#[]⟩, (a0, (tt s a0).2.2)) else if 64 < (tt s a0).1.size then (⟨#[]⟩, (a0, 1)) else ((tt s a0).1, ((tt s a0).2.1, 0))) := Lib.hid rfl
  have XR := Lib.hid hb
  have HB := Lib.hid (Below.refl w.heap.size w)
  by_cases h0 : er = 0
  case neg =>
    generalize rdT s (a0, er) = r at *
    have f1 : (er != 0) = true := by simpa using h0
    have HR2 : Hid (r = (⟨#[]⟩, (a0, er))) := Lib.hid (by rw [HR.out, if_pos h0])
    have HE := Lib.hid h0
    clear HR h0 m1 m2 m3 m4 hb hs ha
    go_enter Tryz.func41, Tryz.ntmps41
    have XR_2 := XR.out.at_ 2 _ rfl
    go_wp2_with fail
    go_ret
    exact ⟨_, a, rfl, fun h => absurd (by rw [HR2.out] at h; exact h) HE.out, by rw [HR2.out]; exact XR.out, grown_of_below HB.out _⟩
  case pos =>
    subst h0
    obtain rfl := ha rfl
    obtain ⟨q, hq⟩ : ∃ q, q = tt s a := ⟨_, rfl⟩
    have hqz : q.1.size ≤ maxLen := by rw [hq]; exact Nat.le_trans (tt_size s a) hs
    have CT : Hid (∀ W, Calls Tryz.prog 68 #[.string s, .int .i64 a] W fun e w' => e = ret3t q ∧ Below W.heap.size W w') := Lib.hid fun W => by
      rw [hq]; unfold maxLen at hs
      exact (refTakeText s a W hs (by omega) (by omega)).mono fun e w' ⟨h1, h2⟩ => ⟨h1, h2 ▸ Below.refl _ _⟩
    rw [← hq] at HR
    rw [if_neg (by simp)] at HR
    generalize rdT s (a, 0) = r at *
    clear hq m1 m2 m3 m4 hb hs ha
    obtain ⟨v, nx, te⟩ := q
    unfold ret3t at CT
    simp only at CT HR hqz
    go_enter Tryz.func41, Tryz.ntmps41
    have XR_2 := XR.out.at_ 2 _ rfl
    go_upto_region 3 with fail
    clear XR_2
    have l1 := XR.out.lat 0 _ rfl
    have l2 := XR.out.lat 1 _ rfl
    have V1 := Lib.hid (fun p : Lat w => CT.out p.w)
    refine wp_region_lat (by kernel_rfl) (by kernel_rfl) ?_
    repeat (go_big_quiet_step (with_reducible exact lat_call (V1.out _)))
    refine wpQuiet_nil ?_; intro w2 hb
    clear l1 l2 V1 CT
    replace XR := Lib.hid (XR.out.below hb)
    replace HB := Lib.hid (below_step HB.out hb)
    clear hb
    by_cases h1 : te = 0
    case neg =>
      have f1 : (te == 0) = false := by simpa using h1
      have HR2 : Hid (r = (⟨#[]⟩, (a, te))) := Lib.hid (by rw [HR.out, if_pos h1])
      have HE := Lib.hid h1
      clear HR h1
      have bx0 : Box _ g #[.string s, (.int .i64 a), (.int .i64 te)] 78 := XR.out.set_ 2 (.int .i64 te)
      have bx1 : Box _ g #[.string s, (.int .i64 nx), (.int .i64 te)] 78 := bx0.set_ 1 (.int .i64 nx)
      have HG : Hid (w.grownBy _ (some g)) := Lib.hid (grown_setC (g := g) (i := 1) (u := .int .i64 nx) (grown_set (g := g) (i := 2) (u := .int .i64 te) HB.out))
      have BX := Lib.hid bx1
      clear bx0 bx1
      have XR_1 := XR.out.at_ 1 _ rfl
      have XR_2 := XR.out.at_ 2 _ rfl
      have XR_l := XR.out.lt
      have XR_z1 := XR.out.frozen 1
      have XR_z2 := XR.out.frozen 2
      go_wp2_with fail
      go_ret
      first | exact ⟨_, _, rfl, fun h => absurd (by rw [HR2.out] at h; exact h) HE.out, by rw [HR2.out]; exact BX.out, HG.out⟩ | exact ⟨_, rfl, _, fun h => absurd (by rw [HR2.out] at h; exact h) HE.out, by rw [HR2.out]; exact BX.out, HG.out⟩
    subst h1
    rw [if_neg (by simp)] at HR
    by_cases h2 : 64 < v.size
    · have f2 : 64 < (v.size : Int) := by omega
      have HR2 : Hid (r = (⟨#[]⟩, (a, 1))) := Lib.hid (by rw [HR.out, if_pos h2])
      have HE : Hid (¬ (1 : Int) = 0) := Lib.hid (by decide)
      clear HR h2
      have bx0 : Box _ g #[.string s, (.int .i64 a), (.int .i64 1)] 78 := XR.out.set_ 2 (.int .i64 1)
      have bx1 : Box _ g #[.string s, (.int .i64 nx), (.int .i64 1)] 78 := bx0.set_ 1 (.int .i64 nx)
      have HG : Hid (w.grownBy _ (some g)) := Lib.hid (grown_setC (g := g) (i := 1) (u := .int .i64 nx) (grown_set (g := g) (i := 2) (u := .int .i64 1) HB.out))
      have BX := Lib.hid bx1
      clear bx0 bx1
      have XR_1 := XR.out.at_ 1 _ rfl
      have XR_2 := XR.out.at_ 2 _ rfl
      have XR_l := XR.out.lt
      have XR_z1 := XR.out.frozen 1
      have XR_z2 := XR.out.frozen 2
      go_wp2_with fail
      go_ret
      first | exact ⟨_, _, rfl, fun h => absurd (by rw [HR2.out] at h; exact h) HE.out, by rw [HR2.out]; exact BX.out, HG.out⟩ | exact ⟨_, rfl, _, fun h => absurd (by rw [HR2.out] at h; exact h) HE.out, by rw [HR2.out]; exact BX.out, HG.out⟩
    · have f2 : ¬ 64 < (v.size : Int) := by omega
      have HR2 : Hid (r = (v, (nx, 0))) := Lib.hid (by rw [HR.out, if_neg h2])
      clear HR h2
      have bx0 : Box _ g #[.string s, (.int .i64 a), (.int .i64 0)] 78 := XR.out.set_ 2 (.int .i64 0)
      have bx1 : Box _ g #[.string s, (.int .i64 nx), (.int .i64 0)] 78 := bx0.set_ 1 (.int .i64 nx)
      have HG : Hid (w.grownBy _ (some g)) := Lib.hid (grown_setC (g := g) (i := 1) (u := .int .i64 nx) (grown_set (g := g) (i := 2) (u := .int .i64 0) HB.out))
      have BX := Lib.hid bx1
      clear bx0 bx1
      have XR_1 := XR.out.at_ 1 _ rfl
      have XR_2 := XR.out.at_ 2 _ rfl
      have XR_l := XR.out.lt
      have XR_z1 := XR.out.frozen 1
      have XR_z2 := XR.out.frozen 2
      go_wp2_with fail
      go_ret
      first | exact ⟨_, _, rfl, fun _ => by rw [HR2.out]; exact ⟨rfl, rfl⟩, by rw [HR2.out]; exact BX.out, HG.out⟩ | exact ⟨_, rfl, _, fun _ => by rw [HR2.out]; exact ⟨rfl, rfl⟩, by rw [HR2.out]; exact BX.out, HG.out⟩

set_option maxRecDepth 100000 in
set_option maxHeartbeats 4000000 in
theorem refRdN (t0 : Int) (s : ByteArray) (hs : s.size ≤ maxLen) (a0 er : Int) (hm : StOk s (a0, er)) (a : Int) (ha : er = 0 → a = a0) (w : World) (g : Nat) (hb : Box w g #[.string s, .int .i64 a, .int .i64 er] 78) :
    Calls Tryz.prog 43 #[.pointer (some ⟨g, 0, none⟩), .int .i64 t0] w fun e w' => ∃ (t : Int) (a' : Int), e = .returned (.int .i64 t) ∧ ((rdN s t0 (a0, er)).2.2 = 0 → a' = (rdN s t0 (a0, er)).2.1 ∧ t = (rdN s t0 (a0, er)).1) ∧
      Box w' g #[.string s, .int .i64 a', .int .i64 (rdN s t0 (a0, er)).2.2] 78 ∧ w.grownBy w' (some g) := by
  obtain ⟨⟨m1, m2⟩, m3, m4⟩ := hm
  simp only at m1 m2 m3 m4
  have HR : Hid (rdN s t0 (a0, er) = if er ≠ 0 then (0, (a0, er)) else if (tn s a0).2.2 ≠ 0 then (0, (a0, (tn s a0).2.2)) else if wiB (tn s a0).1 t0 = false then (0, (a0, 1)) else ((tn s a0).1, ((tn s a0).2.1, 0))) := Lib.hid rfl
  have XR := Lib.hid hb
  have HB := Lib.hid (Below.refl w.heap.size w)
  by_cases h0 : er = 0
  case neg =>
    generalize rdN s t0 (a0, er) = r at *
    have f1 : (er != 0) = true := by simpa using h0
    have HR2 : Hid (r = (0, (a0, er))) := Lib.hid (by rw [HR.out, if_pos h0])
    have HE := Lib.hid h0
    clear HR h0 m1 m2 m3 m4 hb hs ha
    go_enter Tryz.func43, Tryz.ntmps43
    have XR_2 := XR.out.at_ 2 _ rfl
    go_wp2_with fail
    go_ret
    exact ⟨_, a, rfl, fun h => absurd (by rw [HR2.out] at h; exact h) HE.out, by rw [HR2.out]; exact XR.out, grown_of_below HB.out _⟩
  case pos =>
    subst h0
    obtain rfl := ha rfl
    obtain ⟨q, hq⟩ : ∃ q, q = tn s a := ⟨_, rfl⟩
    have hqz : True := trivial
    have CT : Hid (∀ W, Calls Tryz.prog 70 #[.string s, .int .i64 a] W fun e w' => e = ret3n q ∧ Below W.heap.size W w') := Lib.hid fun W => by
      rw [hq]; unfold maxLen at hs
      exact (refTakeNumber s a W hs (by omega) (by omega)).mono fun e w' ⟨h1, h2⟩ => ⟨h1, h2 ▸ Below.refl _ _⟩
    rw [← hq] at HR
    rw [if_neg (by simp)] at HR
    generalize rdN s t0 (a, 0) = r at *
    clear hq m1 m2 m3 m4 hb hs ha
    obtain ⟨v, nx, te⟩ := q
    unfold ret3n at CT
    simp only at CT HR hqz
    go_enter Tryz.func43, Tryz.ntmps43
    have XR_2 := XR.out.at_ 2 _ rfl
    go_upto_region 3 with fail
    clear XR_2
    have l1 := XR.out.lat 0 _ rfl
    have l2 := XR.out.lat 1 _ rfl
    have V1 := Lib.hid (fun p : Lat w => CT.out p.w)
    refine wp_region_lat (by kernel_rfl) (by kernel_rfl) ?_
    repeat (go_big_quiet_step (with_reducible exact lat_call (V1.out _)))
    refine wpQuiet_nil ?_; intro w2 hb
    clear l1 l2 V1 CT
    replace XR := Lib.hid (XR.out.below hb)
    replace HB := Lib.hid (below_step HB.out hb)
    clear hb
    by_cases h1 : te = 0
    case neg =>
      have f1 : (te == 0) = false := by simpa using h1
      have HR2 : Hid (r = (0, (a, te))) := Lib.hid (by rw [HR.out, if_pos h1])
      have HE := Lib.hid h1
      clear HR h1
      have bx0 : Box _ g #[.string s, (.int .i64 a), (.int .i64 te)] 78 := XR.out.set_ 2 (.int .i64 te)
      have bx1 : Box _ g #[.string s, (.int .i64 nx), (.int .i64 te)] 78 := bx0.set_ 1 (.int .i64 nx)
      have HG : Hid (w.grownBy _ (some g)) := Lib.hid (grown_setC (g := g) (i := 1) (u := .int .i64 nx) (grown_set (g := g) (i := 2) (u := .int .i64 te) HB.out))
      have BX := Lib.hid bx1
      clear bx0 bx1
      have XR_1 := XR.out.at_ 1 _ rfl
      have XR_2 := XR.out.at_ 2 _ rfl
      have XR_l := XR.out.lt
      have XR_z1 := XR.out.frozen 1
      have XR_z2 := XR.out.frozen 2
      go_wp2_with fail
      go_ret
      first | exact ⟨_, _, rfl, fun h => absurd (by rw [HR2.out] at h; exact h) HE.out, by rw [HR2.out]; exact BX.out, HG.out⟩ | exact ⟨_, rfl, _, fun h => absurd (by rw [HR2.out] at h; exact h) HE.out, by rw [HR2.out]; exact BX.out, HG.out⟩
    subst h1
    rw [if_neg (by simp)] at HR
    have CW := Lib.hid (fun W => refWithin v t0 W)
    cases h2 : wiB v t0
    · rw [h2] at CW HR
      have HR2 : Hid (r = (0, (a, 1))) := Lib.hid (by rw [HR.out, if_pos rfl])
      have HE : Hid (¬ (1 : Int) = 0) := Lib.hid (by decide)
      clear HR h2
      go_wp2_with fail
      refine (CW.out _).mono ?_; rintro e w3 ⟨rfl, rfl⟩
      clear CW
      have bx0 : Box _ g #[.string s, (.int .i64 a), (.int .i64 1)] 78 := XR.out.set_ 2 (.int .i64 1)
      have bx1 : Box _ g #[.string s, (.int .i64 nx), (.int .i64 1)] 78 := bx0.set_ 1 (.int .i64 nx)
      have HG : Hid (w.grownBy _ (some g)) := Lib.hid (grown_setC (g := g) (i := 1) (u := .int .i64 nx) (grown_set (g := g) (i := 2) (u := .int .i64 1) HB.out))
      have BX := Lib.hid bx1
      clear bx0 bx1
      have XR_1 := XR.out.at_ 1 _ rfl
      have XR_2 := XR.out.at_ 2 _ rfl
      have XR_l := XR.out.lt
      have XR_z1 := XR.out.frozen 1
      have XR_z2 := XR.out.frozen 2
      go_wp2_with fail
      go_ret
      first | exact ⟨_, _, rfl, fun h => absurd (by rw [HR2.out] at h; exact h) HE.out, by rw [HR2.out]; exact BX.out, HG.out⟩ | exact ⟨_, rfl, _, fun h => absurd (by rw [HR2.out] at h; exact h) HE.out, by rw [HR2.out]; exact BX.out, HG.out⟩
    · rw [h2] at CW HR
      have HR2 : Hid (r = (v, (nx, 0))) := Lib.hid (by rw [HR.out, if_neg (by simp)])
      clear HR h2
      go_wp2_with fail
      refine (CW.out _).mono ?_; rintro e w3 ⟨rfl, rfl⟩
      clear CW
      have bx0 : Box _ g #[.string s, (.int .i64 a), (.int .i64 0)] 78 := XR.out.set_ 2 (.int .i64 0)
      have bx1 : Box _ g #[.string s, (.int .i64 nx), (.int .i64 0)] 78 := bx0.set_ 1 (.int .i64 nx)
      have HG : Hid (w.grownBy _ (some g)) := Lib.hid (grown_setC (g := g) (i := 1) (u := .int .i64 nx) (grown_set (g := g) (i := 2) (u := .int .i64 0) HB.out))
      have BX := Lib.hid bx1
      clear bx0 bx1
      have XR_1 := XR.out.at_ 1 _ rfl
      have XR_2 := XR.out.at_ 2 _ rfl
      have XR_l := XR.out.lt
      have XR_z1 := XR.out.frozen 1
      have XR_z2 := XR.out.frozen 2
      go_wp2_with fail
      go_ret
      first | exact ⟨_, _, rfl, fun _ => by rw [HR2.out]; exact ⟨rfl, rfl⟩, by rw [HR2.out]; exact BX.out, HG.out⟩ | exact ⟨_, rfl, _, fun _ => by rw [HR2.out]; exact ⟨rfl, rfl⟩, by rw [HR2.out]; exact BX.out, HG.out⟩

set_option maxRecDepth 100000 in
set_option maxHeartbeats 4000000 in
theorem refRdS (s : ByteArray) (hs : s.size ≤ maxLen) (a0 er : Int) (hm : StOk s (a0, er)) (a : Int) (ha : er = 0 → a = a0) (w : World) (g : Nat) (hb : Box w g #[.string s, .int .i64 a, .int .i64 er] 78) :
    Calls Tryz.prog 42 #[.pointer (some ⟨g, 0, none⟩)] w fun e w' => ∃ (t : Nat) (a' : Int), e = .returned (.int .u64 (t : Nat)) ∧ ((rdS s (a0, er)).2.2 = 0 → a' = (rdS s (a0, er)).2.1 ∧ t = (rdS s (a0, er)).1) ∧
      Box w' g #[.string s, .int .i64 a', .int .i64 (rdS s (a0, er)).2.2] 78 ∧ w.grownBy w' (some g) := by
  obtain ⟨⟨m1, m2⟩, m3, m4⟩ := hm
  simp only at m1 m2 m3 m4
  have HR : Hid (rdS s (a0, er) = if er ≠ 0 then (0, (a0, er)) else if (tt s a0).2.2 ≠ 0 then (0, (a0, (tt s a0).2.2)) else if (uxT (tt s a0).1).2 ≠ 0 then (0, (a0, (uxT (tt s a0).1).2)) else ((uxT (tt s a0).1).1, ((tt s a0).2.1, 0))) := Lib.hid rfl
  have XR := Lib.hid hb
  have HB := Lib.hid (Below.refl w.heap.size w)
  by_cases h0 : er = 0
  case neg =>
    generalize rdS s (a0, er) = r at *
    have f1 : (er != 0) = true := by simpa using h0
    have HR2 : Hid (r = (0, (a0, er))) := Lib.hid (by rw [HR.out, if_pos h0])
    have HE := Lib.hid h0
    clear HR h0 m1 m2 m3 m4 hb hs ha
    go_enter Tryz.func42, Tryz.ntmps42
    have XR_2 := XR.out.at_ 2 _ rfl
    go_wp2_with fail
    go_ret
    exact ⟨_, a, rfl, fun h => absurd (by rw [HR2.out] at h; exact h) HE.out, by rw [HR2.out]; exact XR.out, grown_of_below HB.out _⟩
  case pos =>
    subst h0
    obtain rfl := ha rfl
    obtain ⟨q, hq⟩ : ∃ q, q = tt s a := ⟨_, rfl⟩
    have hqz : q.1.size ≤ maxLen := by rw [hq]; exact Nat.le_trans (tt_size s a) hs
    have CT : Hid (∀ W, Calls Tryz.prog 68 #[.string s, .int .i64 a] W fun e w' => e = ret3t q ∧ Below W.heap.size W w') := Lib.hid fun W => by
      rw [hq]; unfold maxLen at hs
      exact (refTakeText s a W hs (by omega) (by omega)).mono fun e w' ⟨h1, h2⟩ => ⟨h1, h2 ▸ Below.refl _ _⟩
    rw [← hq] at HR
    rw [if_neg (by simp)] at HR
    generalize rdS s (a, 0) = r at *
    clear hq m1 m2 m3 m4 hb hs ha
    obtain ⟨v, nx, te⟩ := q
    unfold ret3t at CT
    simp only at CT HR hqz
    go_enter Tryz.func42, Tryz.ntmps42
    have XR_2 := XR.out.at_ 2 _ rfl
    go_upto_region 3 with fail
    clear XR_2
    have l1 := XR.out.lat 0 _ rfl
    have l2 := XR.out.lat 1 _ rfl
    have V1 := Lib.hid (fun p : Lat w => CT.out p.w)
    refine wp_region_lat (by kernel_rfl) (by kernel_rfl) ?_
    repeat (go_big_quiet_step (with_reducible exact lat_call (V1.out _)))
    refine wpQuiet_nil ?_; intro w2 hb
    clear l1 l2 V1 CT
    replace XR := Lib.hid (XR.out.below hb)
    replace HB := Lib.hid (below_step HB.out hb)
    clear hb
    by_cases h1 : te = 0
    case neg =>
      have f1 : (te != 0) = true := by simpa using h1
      have HR2 : Hid (r = (0, (a, te))) := Lib.hid (by rw [HR.out, if_pos h1])
      have HE := Lib.hid h1
      clear HR h1
      have bx0 : Box _ g #[.string s, (.int .i64 nx), (.int .i64 0)] 78 := XR.out.set_ 1 (.int .i64 nx)
      have bx1 : Box _ g #[.string s, (.int .i64 nx), (.int .i64 te)] 78 := bx0.set_ 2 (.int .i64 te)
      have HG : Hid (w.grownBy _ (some g)) := Lib.hid (grown_setC (g := g) (i := 2) (u := .int .i64 te) (grown_set (g := g) (i := 1) (u := .int .i64 nx) HB.out))
      have BX := Lib.hid bx1
      clear bx0 bx1
      have XR_1 := XR.out.at_ 1 _ rfl
      have XR_2 := XR.out.at_ 2 _ rfl
      have XR_l := XR.out.lt
      have XR_z1 := XR.out.frozen 1
      have XR_z2 := XR.out.frozen 2
      go_wp2_with fail
      go_ret
      first | exact ⟨_, _, rfl, fun h => absurd (by rw [HR2.out] at h; exact h) HE.out, by rw [HR2.out]; exact BX.out, HG.out⟩ | exact ⟨_, rfl, _, fun h => absurd (by rw [HR2.out] at h; exact h) HE.out, by rw [HR2.out]; exact BX.out, HG.out⟩
    subst h1
    rw [if_neg (by simp)] at HR
    have CU := Lib.hid (fun W => refUnhex v hqz W)
    generalize uxT v = q at *
    obtain ⟨x, f⟩ := q
    simp only at CU HR
    have bx0 : Box _ g #[.string s, .int .i64 nx, .int .i64 0] 78 := XR.out.set_ 1 (.int .i64 nx)
    have bx1 : Box _ g #[.string s, .int .i64 nx, .int .i64 0] 78 := bx0.set_ 2 (.int .i64 0)
    have bx2 : Box _ g #[.string s, .int .i64 nx, .int .i64 f] 78 := bx1.set_ 2 (.int .i64 f)
    have HG : Hid (w.grownBy _ (some g)) := Lib.hid (grown_setC (g := g) (i := 2) (u := .int .i64 f) (grown_setC (g := g) (i := 2) (u := .int .i64 0) (grown_set (g := g) (i := 1) (u := .int .i64 nx) HB.out)))
    have BX := Lib.hid bx2
    clear bx0 bx1 bx2
    have XR_1 := XR.out.at_ 1 _ rfl
    have XR_2 := XR.out.at_ 2 _ rfl
    have XR_l := XR.out.lt
    have XR_z1 := XR.out.frozen 1
    have XR_z2 := XR.out.frozen 2
    go_wp2_with fail
    refine (CU.out _).mono ?_; rintro e w3 ⟨rfl, rfl⟩
    go_wp2_with fail
    go_ret
    by_cases h2 : f = 0
    · subst h2
      have HR2 : Hid (r = (x, (nx, 0))) := Lib.hid (by rw [HR.out, if_neg (by simp)])
      first | exact ⟨_, _, rfl, fun _ => by rw [HR2.out]; exact ⟨rfl, rfl⟩, by rw [HR2.out]; exact BX.out, HG.out⟩ | exact ⟨_, rfl, _, fun _ => by rw [HR2.out]; exact ⟨rfl, rfl⟩, by rw [HR2.out]; exact BX.out, HG.out⟩
    · have HR2 : Hid (r = (0, (a, f))) := Lib.hid (by rw [HR.out, if_pos h2])
      have HE := Lib.hid h2
      first | exact ⟨_, _, rfl, fun h => absurd (by rw [HR2.out] at h; exact h) HE.out, by rw [HR2.out]; exact BX.out, HG.out⟩ | exact ⟨_, rfl, _, fun h => absurd (by rw [HR2.out] at h; exact h) HE.out, by rw [HR2.out]; exact BX.out, HG.out⟩

end Go.Proofs.YtbgficaboolgiaaGreatDoor
