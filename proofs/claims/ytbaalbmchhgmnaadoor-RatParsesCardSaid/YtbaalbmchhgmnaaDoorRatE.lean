/-
  Contracts of rat.join, Add, Sub.
-/
import Derived.Test.YtbaalbmchhgmnaaDoorRatD
import Derived.Test.YtbaalbmchhgmnaaDoorFresh
namespace Go.Proofs.YtbaalbmchhgmnaaDoor
open Go.RowKit
set_option linter.unusedVariables false
set_option linter.unusedSimpArgs false

theorem allocWide : AllocRun Tryd.prog 59 #[.bool false, .int .u64 0, .int .u64 0] := fun o ho a w => by
  unfold execOp; rw [ho]; kernel_rfl
theorem joinH_le (an : Int) (p : Nat) (bn : Int) (q : Nat) (h : 0 < q) : joinH an p bn q ≤ q ∧ joinH an p bn q ≤ Nat.gcd p q := by
  unfold joinH
  rw [Int.natAbs_natCast, Int.natAbs_natCast]
  have h1 := Nat.gcd_le_left ((joinT an p bn q).natAbs % Nat.gcd p q) (Nat.gcd_pos_of_pos_right p h)
  have h2 := Nat.gcd_le_right p h
  exact ⟨Nat.le_trans h1 h2, h1⟩
theorem lt_mul {a b A B C : Nat} (ha : a ≤ A) (hb : b ≤ B) (hc : A * B < C) : a * b < C := Nat.lt_of_le_of_lt (Nat.mul_le_mul ha hb) hc

set_option maxRecDepth 100000 in
set_option maxHeartbeats 8000000 in
theorem ratJoin (an bn : Int) (p q : Nat) (t : Bool) (w : World) (ha : ratV an p = true) (hb : ratV bn q = true) (h1 : I64 an) (h2 : I64 (p : Int)) (h3 : I64 bn) (h4 : I64 (q : Int)) :
    Calls Tryd.prog 40 #[.agg #[.int .i64 an, .int .i64 p], .agg #[.int .i64 bn, .int .i64 q], .bool t] w fun e w' => e = ret3r (ratQ (an * q + turn t bn * p) (p * q)) ∧ Below w.heap.size w w' := by
  obtain ⟨x, y, hx, hy, hy0, hc, hQ, hh0⟩ := join_law (an := an) (ad := p) (bn := turn t bn) (bd := q) ha (by rw [ratV_turn]; exact hb)
  obtain ⟨jm, js⟩ := join_nat an p bn q t
  obtain ⟨hp1, _⟩ := ratV_iff.1 ha
  obtain ⟨hq1, _⟩ := ratV_iff.1 hb
  obtain ⟨hhq, hhg⟩ := joinH_le an p (turn t bn) q (by omega)
  rw [show ((p : Int) * (q : Int)).natAbs = p * q by rw [Int.natAbs_mul, Int.natAbs_natCast, Int.natAbs_natCast]] at hQ
  unfold I64 at h1 h2 h3 h4
  have hg0 : 0 < Nat.gcd p q := Nat.gcd_pos_of_pos_right _ (by omega)
  have hgp : Nat.gcd p q ≤ p := Nat.gcd_le_left _ (by omega)
  have hpg : p / Nat.gcd p q ≤ p := Nat.div_le_self _ _
  have hqg : q / Nat.gcd p q ≤ q := Nat.div_le_self _ _
  have m1 : an.natAbs * (q / Nat.gcd p q) < 170141183460469231731687303715884105728 := lt_mul (show an.natAbs ≤ 9223372036854775808 by omega) (show q / Nat.gcd p q ≤ 9223372036854775807 by omega) (by decide)
  have m2 : bn.natAbs * (p / Nat.gcd p q) < 170141183460469231731687303715884105728 := lt_mul (show bn.natAbs ≤ 9223372036854775808 by omega) (show p / Nat.gcd p q ≤ 9223372036854775807 by omega) (by decide)
  have hTl : (joinT an p (turn t bn) q).natAbs < 340282366920938463463374607431768211456 := by
    rw [← jm]; unfold plusM; split
    · omega
    · split <;> omega
  unfold joinN at hx
  unfold joinD at hy
  rw [Int.natAbs_natCast, Int.natAbs_natCast] at hy
  have eH : joinH an p (turn t bn) q = Nat.gcd (Nat.gcd p q) ((joinT an p (turn t bn) q).natAbs % Nat.gcd p q) := by
    unfold joinH; rw [Int.natAbs_natCast, Int.natAbs_natCast]
  have CP := Lib.hid (ratPlus (decide (an < 0)) (decide (bn < 0) != t) (an.natAbs * (q / Nat.gcd p q)) (bn.natAbs * (p / Nat.gcd p q)))
  have CT1 := Lib.hid (fun w => ratTimes bn (p / Nat.gcd p q) w h3 (by omega))
  have CT2 := Lib.hid (fun w => ratTimes an (q / Nat.gcd p q) w h1 (by omega))
  have CG1 := Lib.hid (fun w => ratGcd p q w (by omega) (by omega))
  rw [jm] at CP
  replace CP := Lib.hid (fun w => CP.out w m1 m2)
  have hrest := Nat.mod_lt (joinT an p (turn t bn) q).natAbs hg0
  have hgl : Nat.gcd p q ≤ 9223372036854775807 := by omega
  have CG2 := Lib.hid (fun w => ratGcd (Nat.gcd p q) ((joinT an p (turn t bn) q).natAbs % Nat.gcd p q) w (by omega) (by omega))
  rw [← eH] at CG2
  have CB1 := Lib.hid (fun s w => ratBy s (joinT an p (turn t bn) q).natAbs (Nat.gcd p q) w hTl (by omega) hg0)
  have CB2 := Lib.hid (fun s w => ratBy s (joinT an p (turn t bn) q).natAbs (joinH an p (turn t bn) q) w hTl (by omega) hh0)
  rw [hx] at CB2
  have hqh : q / joinH an p (turn t bn) q ≤ q := Nat.div_le_self _ _
  have MU : Hid (∀ w, Calls Tryd.prog 61 #[.int .u64 ((p / Nat.gcd p q : Nat) : Int), .int .u64 ((q / joinH an p (turn t bn) q : Nat) : Int)] w fun e w' => e = .returned (.tuple #[.int .u64 (HI y), .int .u64 (LO y)]) ∧ w = w') := Lib.hid fun w => by
    rw [← hy]
    exact (Tryd.bits_Mul64 (p / Nat.gcd p q) (q / joinH an p (turn t bn) q) (by omega) (by omega) w).mono fun e w' ⟨he, hw⟩ => ⟨he, hw.symm⟩
  have hxl : x < 340282366920938463463374607431768211456 := by rw [← hx]; exact Nat.lt_of_le_of_lt (Nat.div_le_self _ _) hTl
  have HSG : Hid (x ≠ 0 → plusS (decide (an < 0)) (an.natAbs * (q / Nat.gcd p q)) (decide (bn < 0) != t) (bn.natAbs * (p / Nat.gcd p q)) = decide (joinT an p (turn t bn) q < 0)) := Lib.hid fun h => js (fun h0 => h (by rw [← hx, h0, Nat.zero_div]))
  obtain ⟨S, hS⟩ : ∃ S, S = plusS (decide (an < 0)) (an.natAbs * (q / Nat.gcd p q)) (decide (bn < 0) != t) (bn.natAbs * (p / Nat.gcd p q)) := ⟨_, rfl⟩
  have HRES : Hid (ratQ (an * q + turn t bn * p) (p * q) = ratF S x y) := Lib.hid (by
    rw [hQ]
    by_cases h0 : x = 0
    · rw [h0, ratF_zero]; exact (ratF_zero _ _).symm
    · rw [← HSG.out h0, ← hS])
  rw [← hS] at CP
  clear hS HSG hQ js jm
  have w1 : IntKind.u64.wrap ((p : Nat) : Int) = (p : Int) := wrapu (by omega)
  have w2 : IntKind.u64.wrap ((q : Nat) : Int) = (q : Int) := wrapu (by omega)
  have d1 : ((Nat.gcd p q : Nat) : Int) ≠ 0 := by omega
  have d2 : ((joinH an p (turn t bn) q : Nat) : Int) ≠ 0 := by omega
  have q1 : (p : Int) / ((Nat.gcd p q : Nat) : Int) = ((p / Nat.gcd p q : Nat) : Int) := by simp
  have q2 : (q : Int) / ((Nat.gcd p q : Nat) : Int) = ((q / Nat.gcd p q : Nat) : Int) := by simp
  have q3 : (q : Int) / ((joinH an p (turn t bn) q : Nat) : Int) = ((q / joinH an p (turn t bn) q : Nat) : Int) := by simp
  have v1 : IntKind.u64.wrap ((p : Int) / ((Nat.gcd p q : Nat) : Int)) = ((p / Nat.gcd p q : Nat) : Int) := by rw [q1]; exact wrapu (by omega)
  have v2 : IntKind.u64.wrap ((q : Int) / ((Nat.gcd p q : Nat) : Int)) = ((q / Nat.gcd p q : Nat) : Int) := by rw [q2]; exact wrapu (by omega)
  have v3 : IntKind.u64.wrap ((q : Int) / ((joinH an p (turn t bn) q : Nat) : Int)) = ((q / joinH an p (turn t bn) q : Nat) : Int) := by rw [q3]; exact wrapu (by omega)
  have z1 : (((Nat.gcd p q : Nat) : Int) == 0) = false := by simpa using d1
  have z2 : (((joinH an p (turn t bn) q : Nat) : Int) == 0) = false := by simpa using d2
  generalize ratQ (an * q + turn t bn * p) (p * q) = res at *
  obtain ⟨h, hh⟩ : ∃ h, h = joinH an p (turn t bn) q := ⟨_, rfl⟩
  obtain ⟨T, hT⟩ : ∃ T, T = (joinT an p (turn t bn) q).natAbs := ⟨_, rfl⟩
  obtain ⟨g, hg⟩ : ∃ g, g = Nat.gcd p q := ⟨_, rfl⟩
  simp only [← hg, ← hT, ← hh] at *
  clear hh hT hg q1 q2 q3 hy hx hqh hhg hpg hqg hgp eH m1 m2
  obtain ⟨pg, hpg⟩ : ∃ k, k = p / g := ⟨_, rfl⟩
  obtain ⟨qg, hqg⟩ : ∃ k, k = q / g := ⟨_, rfl⟩
  obtain ⟨qh, hqh⟩ : ∃ k, k = q / h := ⟨_, rfl⟩
  obtain ⟨rs, hrs⟩ : ∃ k, k = T % g := ⟨_, rfl⟩
  obtain ⟨tg, htg⟩ : ∃ k, k = T / g := ⟨_, rfl⟩
  rw [← hpg] at CP CT1 MU v1
  rw [← hqg] at CP CT2 v2
  rw [← hqh] at MU v3
  rw [← hrs] at CG2 CB1 hrest
  rw [← htg] at CB1
  generalize hs1 : T % h = rs2 at *
  clear hpg hqg hqh hrs htg hs1
  have CR := Lib.hid (fun w => ratReduced S x y w)
  have CF := Lib.hid (fun w => ratRat S x y w)
  unfold W128 at CP CT1 CT2 CB1 CB2
  generalize HI (bn.natAbs * pg) = bh at *
  generalize LO (bn.natAbs * pg) = bl at *
  generalize HI (an.natAbs * qg) = ah at *
  generalize LO (an.natAbs * qg) = al at *
  generalize HI T = th at *
  generalize LO T = tl at *
  generalize HI tg = gh at *
  generalize LO tg = gl at *
  obtain ⟨sa, hsa⟩ : ∃ s : Bool, s = decide (an < 0) := ⟨_, rfl⟩
  obtain ⟨sb, hsb⟩ : ∃ s : Bool, s = decide (bn < 0) := ⟨_, rfl⟩
  obtain ⟨su, hsu⟩ : ∃ s : Bool, s = (decide (bn < 0) != t) := ⟨_, rfl⟩
  rw [← hsa] at CT2 CP
  rw [← hsu] at CP
  rw [← hsb] at CT1 hsu
  have u1 : (!(sb == t)) = su := by rw [hsu]; rfl
  have u2 : (sb != t) = su := hsu.symm
  clear hsa hsb hsu
  go_enter Tryd.func40, Tryd.ntmps40
  go_wp2_with fail
  have XA := Lib.hid (((Box.new w 23 #[.int .i64 an, .int .i64 p]).below (below_alloc _ (.cells #[.int .i64 bn, .int .i64 q] 23))).below (below_alloc _ (.cells #[.int .i64 0, .int .i64 0] 23)))
  have XB := Lib.hid ((box1 w (.cells #[.int .i64 an, .int .i64 p] 23) 23 #[.int .i64 bn, .int .i64 q]).below (below_alloc _ (.cells #[.int .i64 0, .int .i64 0] 23)))
  have XR := Lib.hid (box2 w (.cells #[.int .i64 an, .int .i64 p] 23) (.cells #[.int .i64 bn, .int .i64 q] 23) 23 #[.int .i64 0, .int .i64 0])
  have HB := Lib.hid (below_step (below_step (below_alloc w (.cells #[.int .i64 an, .int .i64 p] 23)) (below_alloc _ (.cells #[.int .i64 bn, .int .i64 q] 23))) (below_alloc _ (.cells #[.int .i64 0, .int .i64 0] 23)))
  generalize ((w.alloc (.cells #[.int .i64 an, .int .i64 p] 23)).alloc (.cells #[.int .i64 bn, .int .i64 q] 23)).alloc (.cells #[.int .i64 0, .int .i64 0] 23) = w1 at *
  have la := XA.out.lat 1 _ rfl
  have lb := XB.out.lat 1 _ rfl
  refine wp_region_lat (by kernel_rfl) (by kernel_rfl) ?_
  repeat (go_big_quiet_step (fail))
  refine wpQuiet_nil ?_; intro w2 hb2
  clear la lb
  replace XA := Lib.hid (XA.out.below hb2); replace XB := Lib.hid (XB.out.below hb2); replace XR := Lib.hid (XR.out.below hb2); replace HB := Lib.hid (below_step HB.out hb2)
  clear hb2
  go_wp2_with fail
  refine (CG1.out _).mono ?_; rintro e w3 ⟨rfl, n3, rfl⟩
  replace XA := Lib.hid (XA.out.below (below_drewN (Below.refl _ _) n3)); replace XB := Lib.hid (XB.out.below (below_drewN (Below.refl _ _) n3)); replace XR := Lib.hid (XR.out.below (below_drewN (Below.refl _ _) n3)); replace HB := Lib.hid (below_drewN HB.out n3)
  generalize w2.drewN n3 = w3 at *
  go_wp2_with fail
  refine wp_region_fresh 7 (fun _ => #[.bool false, .int .u64 0, .int .u64 0]) (by kernel_rfl) (fun γ => by kernel_rfl) (by kernel_rfl) (by kernel_rfl) (allocs_ok ?_) ?_
  · repeat (first | exact List.forall_mem_nil _ | refine List.forall_mem_cons.2 ⟨by first | trivial | exact ⟨rfl, allocWide⟩, ?_⟩)
  intro γ C hC hne
  have lb := XB.out.latC (C := C) 0 _ rfl
  simp only [pseL, pseO, Nat.zero_add, Nat.reduceAdd, List.take_succ_cons, List.take_zero, List.drop_succ_cons, List.drop_zero]
  repeat (go_big_quiet_step (exact latC_call hC (CT1.out _)))
  refine wpQuiet_nil ?_; intro w4 hb4 hbx _
  obtain ⟨Y, hgb⟩ := hbx 6 _ (by omega) ⟨_, rfl, rfl⟩
  clear lb hbx hC hne
  generalize γ 6 = gb at *
  have y0 := Y.at_ 0 _ rfl
  have y1 := Y.at_ 1 _ rfl
  have y2 := Y.at_ 2 _ rfl
  have z3 := Y.frozen 0
  have z4 := Y.frozen 1
  have z5 := Y.frozen 2
  have HY := Lib.hid ((((Y.set_ 0 (.bool sb)).set_ 1 (.int .u64 bh)).set_ 2 (.int .u64 bl)).set_ 0 (.bool su))
  have HB4 := Lib.hid ((((hb4.setCell (p := ⟨gb, 0, none⟩) hgb (.bool sb)).setCell (p := ⟨gb, 1, none⟩) hgb (.int .u64 bh)).setCell (p := ⟨gb, 2, none⟩) hgb (.int .u64 bl)).setCell (p := ⟨gb, 0, none⟩) hgb (.bool su))
  clear Y hb4
  go_wp2_with fail
  clear y0 y1 y2 z3 z4 z5
  generalize (((w4.setCell ⟨gb, 0, none⟩ (.bool sb)).setCell ⟨gb, 1, none⟩ (.int .u64 bh)).setCell ⟨gb, 2, none⟩ (.int .u64 bl)).setCell ⟨gb, 0, none⟩ (.bool su) = w5 at *
  have HYB : Hid (Box w5 gb #[.bool su, .int .u64 bh, .int .u64 bl] 59) := HY
  clear HY
  replace XA := Lib.hid (XA.out.below HB4.out); replace XB := Lib.hid (XB.out.below HB4.out); replace XR := Lib.hid (XR.out.below HB4.out); replace HB := Lib.hid (below_step HB.out HB4.out)
  clear HB4 hgb
  refine wp_region_fresh 9 (fun _ => #[.bool false, .int .u64 0, .int .u64 0]) (by kernel_rfl) (fun γ => by kernel_rfl) (by kernel_rfl) (by kernel_rfl) (allocs_ok ?_) ?_
  · repeat (first | exact List.forall_mem_nil _ | refine List.forall_mem_cons.2 ⟨by first | trivial | exact ⟨rfl, allocWide⟩, ?_⟩)
  intro γ C hC hne
  have lb := XA.out.latC (C := C) 0 _ rfl
  have l0 := HYB.out.latC (C := C) 0 _ rfl
  have l1 := HYB.out.latC (C := C) 1 _ rfl
  have l2 := HYB.out.latC (C := C) 2 _ rfl
  simp only [pseL, pseO, Nat.zero_add, Nat.reduceAdd, List.take_succ_cons, List.take_zero, List.drop_succ_cons, List.drop_zero]
  repeat (go_big_quiet_step (first | exact latC_call hC (CT2.out _) | exact latC_call hC (CP.out _)))
  refine wpQuiet_nil ?_; intro w6 hb6 hbx _
  obtain ⟨Y, hgb⟩ := hbx 8 _ (by omega) ⟨_, rfl, rfl⟩
  clear lb l0 l1 l2 hbx hC hne
  generalize γ 8 = gs at *
  have y0 := Y.at_ 0 _ rfl
  have y1 := Y.at_ 1 _ rfl
  have y2 := Y.at_ 2 _ rfl
  have z3 := Y.frozen 0
  have z4 := Y.frozen 1
  have z5 := Y.frozen 2
  have HY := Lib.hid (((Y.set_ 0 (.bool S)).set_ 1 (.int .u64 th)).set_ 2 (.int .u64 tl))
  have HB4 := Lib.hid (((hb6.setCell (p := ⟨gs, 0, none⟩) hgb (.bool S)).setCell (p := ⟨gs, 1, none⟩) hgb (.int .u64 th)).setCell (p := ⟨gs, 2, none⟩) hgb (.int .u64 tl))
  clear Y hb6
  go_wp2_with fail
  clear y0 y1 y2 z3 z4 z5
  generalize ((w6.setCell ⟨gs, 0, none⟩ (.bool S)).setCell ⟨gs, 1, none⟩ (.int .u64 th)).setCell ⟨gs, 2, none⟩ (.int .u64 tl) = w7 at *
  have XS : Hid (Box w7 gs #[.bool S, .int .u64 th, .int .u64 tl] 59) := HY
  clear HY
  have hlt : w.heap.size + 1 + 1 ≠ gs := by have := XR.out.lt; omega
  have hgs : w.heap.size ≤ gs := Nat.le_trans HB.out.size hgb
  replace XR := Lib.hid (XR.out.below HB4.out)
  replace HB := Lib.hid (below_step HB.out HB4.out)
  clear HB4 HYB XA XB hgb
  refine (CB1.out _ _).mono ?_; rintro e w8 ⟨rfl, hb8⟩
  replace XS := Lib.hid (XS.out.below hb8); replace XR := Lib.hid (XR.out.below hb8); replace HB := Lib.hid (below_step HB.out hb8)
  clear hb8
  go_wp2_with fail
  refine (CG2.out _).mono ?_; rintro e w9 ⟨rfl, n9, rfl⟩
  have hb9 := below_drewN (below_alloc w8 (.cells #[.bool S, .int .u64 gh, .int .u64 gl] 59)) n9
  generalize (w8.alloc (.cells #[.bool S, .int .u64 gh, .int .u64 gl] 59)).drewN n9 = w9 at *
  replace XS := Lib.hid (XS.out.below hb9); replace XR := Lib.hid (XR.out.below hb9); replace HB := Lib.hid (below_step HB.out hb9)
  clear hb9
  have y0 := XS.out.at_ 0 _ rfl
  have y1 := XS.out.at_ 1 _ rfl
  have y2 := XS.out.at_ 2 _ rfl
  go_wp2_with fail
  refine (CB2.out _ _).mono ?_; rintro e w10 ⟨rfl, hb10⟩
  clear y0 y1 y2
  replace XS := Lib.hid (XS.out.below hb10); replace XR := Lib.hid (XR.out.below hb10); replace HB := Lib.hid (below_step HB.out hb10)
  clear hb10
  have y0 := XS.out.at_ 0 _ rfl
  have y1 := XS.out.at_ 1 _ rfl
  have y2 := XS.out.at_ 2 _ rfl
  have z3 := XS.out.frozen 0
  have z4 := XS.out.frozen 1
  have z5 := XS.out.frozen 2
  replace XS := Lib.hid (((XS.out.set_ 0 (.bool S)).set_ 1 (.int .u64 (HI x))).set_ 2 (.int .u64 (LO x)))
  replace XR := Lib.hid (((XR.out.setNe (p := ⟨gs, 0, none⟩) (Ne.symm hlt) (.bool S)).setNe (p := ⟨gs, 1, none⟩) (Ne.symm hlt) (.int .u64 (HI x))).setNe (p := ⟨gs, 2, none⟩) (Ne.symm hlt) (.int .u64 (LO x)))
  replace HB := Lib.hid (((HB.out.setCell (p := ⟨gs, 0, none⟩) hgs (.bool S)).setCell (p := ⟨gs, 1, none⟩) hgs (.int .u64 (HI x))).setCell (p := ⟨gs, 2, none⟩) hgs (.int .u64 (LO x)))
  go_wp2_with fail
  clear y0 y1 y2 z3 z4 z5
  generalize ((w10.setCell ⟨gs, 0, none⟩ (.bool S)).setCell ⟨gs, 1, none⟩ (.int .u64 (HI x))).setCell ⟨gs, 2, none⟩ (.int .u64 (LO x)) = w11 at *
  refine wp_region_lat (by kernel_rfl) (by kernel_rfl) ?_
  repeat (go_big_quiet_step (exact lat_same (MU.out _)))
  refine wpQuiet_nil ?_; intro w12 hb12
  replace XS : Hid (Box w12 gs #[.bool S, .int .u64 (HI x), .int .u64 (LO x)] 59) := Lib.hid (Box.below (cs := #[.bool S, .int .u64 (HI x), .int .u64 (LO x)]) XS.out hb12)
  replace XR := Lib.hid (XR.out.below hb12); replace HB := Lib.hid (below_step HB.out hb12)
  clear hb12
  have y0 := XS.out.at_ 0 _ rfl
  have y1 := XS.out.at_ 1 _ rfl
  have y2 := XS.out.at_ 2 _ rfl
  have r0 := XR.out.at_ 0 _ rfl
  have r1 := XR.out.at_ 1 _ rfl
  have zr0 := XR.out.frozen 0
  have zr1 := XR.out.frozen 1
  clear MU CB1 CB2 CG1 CG2 CT1 CT2 CP
  have HXX : Hid (HI x = 0 → LO x = x ∧ x < 18446744073709551616) := Lib.hid fun h => by have h1 := HILO x; have h2 := LO_lt x; omega
  have HYY : Hid (HI y = 0 → LO y = y ∧ y < 18446744073709551616) := Lib.hid fun h => by have h1 := HILO y; have h2 := LO_lt y; omega
  have HXB : Hid (HI x ≠ 0 → res = (0, 0, 3)) := Lib.hid fun h => by rw [HRES.out]; exact ratF_big (by have h1 := HILO x; omega)
  have HYB : Hid (HI y ≠ 0 → res = (0, 0, 3)) := Lib.hid fun h => by rw [HRES.out]; exact ratF_big (by have h1 := HILO y; omega)
  have HC2 := Lib.hid hc
  clear hc
  generalize HI x = xh at *
  generalize LO x = xl at *
  generalize HI y = yh at *
  generalize LO y = yl at *
  clear hxl hTl hrest
  by_cases c1 : xh = 0
  · subst c1
    by_cases c2 : yh = 0
    · subst c2
      obtain ⟨e1, hxx⟩ := HXX.out rfl
      obtain ⟨e2, hyy⟩ := HYY.out rfl
      subst e1 e2
      have CR2 := Lib.hid (fun w => CR.out w hxx hyy (by rw [HC2.out]; exact Nat.one_pos))
      have CF2 := Lib.hid (fun w => CF.out w hxx hyy)
      rw [HC2.out, Nat.div_one, Nat.div_one] at CR2
      rw [← HRES.out] at CF2
      clear CR CF hxx hyy HXX HYY HXB HYB
      obtain ⟨ra, rb, re⟩ := res
      simp only [ret3r] at CF2 ⊢
      go_wp2_with fail
      refine (CR2.out _).mono ?_; rintro e w13 ⟨rfl, hb13⟩
      replace XR := Lib.hid (XR.out.below hb13); replace HB := Lib.hid (below_step HB.out hb13)
      clear hb13 y0 y1 y2 r0 r1 zr0 zr1
      go_wp2_with fail
      refine (CF2.out _).mono ?_; rintro e w14 ⟨rfl, hb14⟩
      replace XR := Lib.hid (XR.out.below hb14); replace HB := Lib.hid (below_step HB.out hb14)
      clear hb14
      have r0 := XR.out.at_ 0 _ rfl
      have r1 := XR.out.at_ 1 _ rfl
      have zr0 := XR.out.frozen 0
      have zr1 := XR.out.frozen 1
      go_wp2_with fail
      refine bodyPost_ret (v := .tuple #[.agg #[.int .i64 ra, .int .i64 rb], .int .i64 re]) (by simp [results, Tryd.results40, go_sem, r0, r1]) rfl ⟨rfl, ?_⟩
      exact (HB.out.setCell (by simp; omega) _).setCell (by simp; omega) _
    · have HE := Lib.hid (HYB.out c2)
      have f1 : ((yh : Int) == 0) = false := by
        have : ¬ (yh : Int) = 0 := by omega
        simpa using this
      clear CR CF c2 HXX HYY HXB HYB
      go_wp2_with fail
      refine bodyPost_ret (v := .tuple #[.agg #[.int .i64 0, .int .i64 0], .int .i64 3]) (by simp [results, Tryd.results40, go_sem, r0, r1]) rfl ⟨by rw [HE.out]; rfl, ?_⟩
      exact (HB.out.setCell (by simp; omega) _).setCell (by simp; omega) _
  · have HE := Lib.hid (HXB.out c1)
    have f1 : ((xh : Int) == 0) = false := by
      have : ¬ (xh : Int) = 0 := by omega
      simpa using this
    clear CR CF c1 HXX HYY HXB HYB
    go_wp2_with fail
    refine bodyPost_ret (v := .tuple #[.agg #[.int .i64 0, .int .i64 0], .int .i64 3]) (by simp [results, Tryd.results40, go_sem, r0, r1]) rfl ⟨by rw [HE.out]; rfl, ?_⟩
    exact (HB.out.setCell (by simp; omega) _).setCell (by simp; omega) _

end Go.Proofs.YtbaalbmchhgmnaaDoor
