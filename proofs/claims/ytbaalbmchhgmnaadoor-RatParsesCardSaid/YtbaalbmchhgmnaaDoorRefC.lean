/-
  Contracts of the reference's rational numbers: Make, Valid.
-/
import Derived.Test.YtbaalbmchhgmnaaDoorRefB
namespace Go.Proofs.YtbaalbmchhgmnaaDoor
open Go.RowKit
set_option linter.unusedVariables false
set_option linter.unusedSimpArgs false

theorem mk_quo {n d : Int} (h : d ≠ 0) : mk n d = quoR (decide (n < 0) != decide (d < 0)) n.natAbs d.natAbs := by
  unfold mk quoR; rw [if_neg h]; rfl
theorem i64_PW {a : Int} (h : I64 a) : a.natAbs < PW 5 := by unfold I64 at h; show a.natAbs < 10000 ^ 5; omega

set_option maxRecDepth 100000 in
set_option maxHeartbeats 4000000 in
theorem refMake (n d : Int) (w : World) (hn : I64 n) (hd : I64 d) :
    Calls Tryd.prog 13 #[.int .i64 n, .int .i64 d] w fun e w' => e = ret3r (mk n d) ∧ Below w.heap.size w w' := by
  by_cases h0 : d = 0
  · have HE : Hid (mk n d = (0, 0, 4)) := Lib.hid (by unfold mk; rw [if_pos h0])
    have f : (d == 0) = true := by simpa using h0
    clear h0 hn hd
    go_enter Tryd.func13, Tryd.ntmps13
    go_wp2_with fail
    refine bodyPost_ret (v := .tuple #[.agg #[.int .i64 0, .int .i64 0], .int .i64 4]) (by simp [results, Tryd.results13, go_sem]) rfl ⟨by rw [HE.out]; rfl, ?_⟩
    exact below_alloc _ _
  · have hE := mk_quo (n := n) h0
    have f : (d == 0) = false := by simpa using h0
    have S1 := Lib.hid (fun w => bigSize w n hn.1 hn.2)
    have S2 := Lib.hid (fun w => bigSize w d hd.1 hd.2)
    have CQ : Hid (∀ w s v1 v2, BN w v1 n.natAbs → BN w v2 d.natAbs → Calls Tryd.prog 37 #[.bool s, v1, v2] w fun e w' => e = ret3r (quoR s n.natAbs d.natAbs) ∧ Below w.heap.size w w') := Lib.hid fun w s v1 v2 h1 h2 =>
      bigQuotient w s v1 v2 _ _ h1 h2 (Nat.lt_trans (i64_PW hn) (PW_lt.2 (by omega))) (Nat.lt_trans (i64_PW hd) (PW_lt.2 (by omega))) (by omega)
    obtain ⟨p, hp⟩ : ∃ p : Bool, p = decide (n < 0) := ⟨_, rfl⟩
    obtain ⟨q, hq⟩ : ∃ p : Bool, p = decide (d < 0) := ⟨_, rfl⟩
    have f1 : decide (n < 0) = p := hp.symm
    have f2 : decide (d < 0) = q := hq.symm
    obtain ⟨s, hs⟩ : ∃ s : Bool, s = (p != q) := ⟨_, rfl⟩
    have u1 : (!(p == q)) = s := by rw [hs]; rfl
    have u2 : (p != q) = s := hs.symm
    rw [f1, f2, u2] at hE
    have CQ2 := Lib.hid (fun w v1 v2 h1 h2 => CQ.out w s v1 v2 h1 h2)
    rw [← hE] at CQ2
    generalize mk n d = res at *
    obtain ⟨ra, rb, re⟩ := res
    simp only [ret3r] at CQ2 ⊢
    generalize n.natAbs = x at *
    generalize d.natAbs = y at *
    clear hE hn hd hp hq hs CQ h0
    go_enter Tryd.func13, Tryd.ntmps13
    go_wp2_with fail
    have XR := Lib.hid (Box.new w 23 #[.int .i64 0, .int .i64 0])
    have HB := Lib.hid (below_alloc w (.cells #[.int .i64 0, .int .i64 0] 23))
    generalize w.alloc (.cells #[.int .i64 0, .int .i64 0] 23) = w1 at *
    refine (S1.out _).mono ?_; rintro e w2 ⟨v5, rfl, hn5, hb⟩
    replace XR := Lib.hid (XR.out.below hb); replace HB := Lib.hid (below_step HB.out hb)
    have HN5 := Lib.hid hn5
    clear hb hn5
    go_wp2_with fail
    refine (S2.out _).mono ?_; rintro e w3 ⟨v6, rfl, hn6, hb⟩
    replace XR := Lib.hid (XR.out.below hb); replace HB := Lib.hid (below_step HB.out hb); replace HN5 := Lib.hid (HN5.out.below hb)
    have HN6 := Lib.hid hn6
    clear hb hn6
    go_wp2_with fail
    refine (CQ2.out _ _ _ HN5.out HN6.out).mono ?_; rintro e w4 ⟨rfl, hb⟩
    replace XR := Lib.hid (XR.out.below hb); replace HB := Lib.hid (below_step HB.out hb)
    clear hb
    have r0 := XR.out.at_ 0 _ rfl
    have r1 := XR.out.at_ 1 _ rfl
    have z0 := XR.out.frozen 0
    have z1 := XR.out.frozen 1
    go_wp2_with fail
    refine bodyPost_ret (v := .tuple #[.agg #[.int .i64 ra, .int .i64 rb], .int .i64 re]) (by simp [results, Tryd.results13, go_sem, r0, r1]) rfl ⟨rfl, ?_⟩
    exact (HB.out.setCell (by simp) _).setCell (by simp) _

set_option maxRecDepth 100000 in
set_option maxHeartbeats 4000000 in
theorem refValid05 (n d : Int) (w : World) (hn : I64 n) (hd : I64 d) :
    Calls Tryd.prog 16 #[.agg #[.int .i64 n, .int .i64 d]] w fun e w' => e = .returned (.bool (ratV n d)) ∧ Below w.heap.size w w' := by
  have HV := Lib.hid (ratV_of hn hd)
  have MK := Lib.hid (fun w => refMake n d w hn hd)
  obtain ⟨n0, n1⟩ := hn
  obtain ⟨d0, d1⟩ := hd
  by_cases h1 : 1 ≤ d
  · have f1 : ¬ d < 1 := by omega
    have HV2 : Hid (ratV n d = decide (mk n d = (n, d, 0))) := Lib.hid (by rw [HV.out, decide_eq_true h1]; rfl)
    clear HV
    obtain ⟨⟨a, b, er⟩, hm⟩ : ∃ r, r = mk n d := ⟨_, rfl⟩
    rw [← hm] at MK HV2
    simp only [ret3r] at MK
    clear hm h1
    have key : (er ≠ 0 ∧ ratV n d = false) ∨ (er = 0 ∧ a = n ∧ b = d ∧ ratV n d = true) ∨ (er = 0 ∧ ¬ (a = n ∧ b = d) ∧ ratV n d = false) := by
      rw [HV2.out]
      by_cases h : er = 0
      · by_cases h2 : a = n ∧ b = d
        · right; left; exact ⟨h, h2.1, h2.2, decide_eq_true (by rw [h, h2.1, h2.2])⟩
        · right; right; exact ⟨h, h2, decide_eq_false (by simp [h]; omega)⟩
      · left; exact ⟨h, decide_eq_false (by simp [h])⟩
    clear HV2
    generalize ratV n d = r at *
    rcases key with ⟨h, rfl⟩ | ⟨rfl, rfl, rfl, rfl⟩ | ⟨rfl, h, rfl⟩
    · have f2 : (er == 0) = false := by simpa using h
      clear h
      go_enter Tryd.func16, Tryd.ntmps16
      go_wp2_with fail
      refine (MK.out _).mono ?_; rintro e w1 ⟨rfl, hb⟩
      have X1 := (Box.new w 23 #[.int .i64 n, .int .i64 d]).below hb
      have HB := Lib.hid (below_step (below_alloc w (.cells #[.int .i64 n, .int .i64 d] 23)) hb)
      have x0 := X1.at_ 0 _ rfl
      have x1 := X1.at_ 1 _ rfl
      clear hb X1
      go_wp2_with fail
      go_ret
      exact ⟨rfl, below_step HB.out (below_alloc _ _)⟩
    · go_enter Tryd.func16, Tryd.ntmps16
      go_wp2_with fail
      refine (MK.out _).mono ?_; rintro e w1 ⟨rfl, hb⟩
      have X1 := (Box.new w 23 #[.int .i64 a, .int .i64 b]).below hb
      have HB := Lib.hid (below_step (below_alloc w (.cells #[.int .i64 a, .int .i64 b] 23)) hb)
      have x0 := X1.at_ 0 _ rfl
      have x1 := X1.at_ 1 _ rfl
      have x2 := X1.lt
      clear hb X1
      go_wp2_with fail
      go_ret
      exact ⟨rfl, below_step HB.out (below_alloc _ _)⟩
    · go_enter Tryd.func16, Tryd.ntmps16
      go_wp2_with fail
      refine (MK.out _).mono ?_; rintro e w1 ⟨rfl, hb⟩
      have X1 := (Box.new w 23 #[.int .i64 n, .int .i64 d]).below hb
      have HB := Lib.hid (below_step (below_alloc w (.cells #[.int .i64 n, .int .i64 d] 23)) hb)
      have x0 := X1.at_ 0 _ rfl
      have x1 := X1.at_ 1 _ rfl
      have x2 := X1.lt
      clear hb X1
      by_cases h2 : a = n
      · have f3 : (b == d) = false := by
          have : ¬ b = d := fun h3 => h ⟨h2, h3⟩
          simpa using this
        subst h2
        clear h
        go_wp2_with fail
        go_ret
        exact ⟨rfl, below_step HB.out (below_alloc _ _)⟩
      · have f3 : (a == n) = false := by simpa using h2
        clear h h2
        go_wp2_with fail
        go_ret
        exact ⟨rfl, below_step HB.out (below_alloc _ _)⟩
  · have f1 : d < 1 := by omega
    have HV2 : Hid (ratV n d = false) := Lib.hid (by rw [HV.out, decide_eq_false h1]; rfl)
    clear h1
    go_enter Tryd.func16, Tryd.ntmps16
    go_wp2_with fail
    go_ret
    exact ⟨by rw [HV2.out]; rfl, below_alloc _ _⟩

end Go.Proofs.YtbaalbmchhgmnaaDoor
