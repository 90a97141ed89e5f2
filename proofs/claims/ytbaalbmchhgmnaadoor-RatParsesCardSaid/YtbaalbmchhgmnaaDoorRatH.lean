/-
  Contracts of rat.product, Mul, Div.
-/
import Derived.Test.YtbaalbmchhgmnaaDoorRatG
namespace Go.Proofs.YtbaalbmchhgmnaaDoor
open Go.RowKit
set_option linter.unusedVariables false
set_option linter.unusedSimpArgs false

set_option maxRecDepth 100000 in
set_option maxHeartbeats 8000000 in
theorem ratProduct (s1 s2 : Bool) (x z y u : Nat) (w : World) (h1 : Nat.gcd x z = 1) (h2 : Nat.gcd y u = 1) (hz : 0 < z) (hu : 0 < u) (lx : x ≤ 9223372036854775808) (lz : z ≤ 9223372036854775808) (ly : y ≤ 9223372036854775808) (lu : u ≤ 9223372036854775808) :
    Calls Tryd.prog 44 #[.agg #[.bool s1, .int .u64 x, .int .u64 z], .agg #[.bool s2, .int .u64 y, .int .u64 u]] w fun e w' => e = ret3r (quoR (s1 != s2) (x * y) (z * u)) ∧ Below w.heap.size w w' := by
  obtain ⟨p1, p2, p3⟩ := prod_law h1 h2 hz hu
  have hg0 : 0 < Nat.gcd x u := Nat.gcd_pos_of_pos_right _ hu
  have hh0 : 0 < Nat.gcd y z := Nat.gcd_pos_of_pos_right _ hz
  have G1 := Lib.hid (fun w => ratGcd x u w (by omega) (by omega))
  have G2 := Lib.hid (fun w => ratGcd y z w (by omega) (by omega))
  have k1 := Nat.div_le_self x (Nat.gcd x u)
  have k2 := Nat.div_le_self u (Nat.gcd x u)
  have k3 := Nat.div_le_self y (Nat.gcd y z)
  have k4 := Nat.div_le_self z (Nat.gcd y z)
  have M1 : Hid (∀ w, Calls Tryd.prog 61 #[.int .u64 ((x / Nat.gcd x u : Nat) : Int), .int .u64 ((y / Nat.gcd y z : Nat) : Int)] w fun e w' => e = .returned (.tuple #[.int .u64 (HI ((x / Nat.gcd x u) * (y / Nat.gcd y z))), .int .u64 (LO ((x / Nat.gcd x u) * (y / Nat.gcd y z)))]) ∧ w = w') := Lib.hid fun w =>
    (Tryd.bits_Mul64 (x / Nat.gcd x u) (y / Nat.gcd y z) (by omega) (by omega) w).mono fun e w' ⟨he, hw⟩ => ⟨he, hw.symm⟩
  have M2 : Hid (∀ w, Calls Tryd.prog 61 #[.int .u64 ((z / Nat.gcd y z : Nat) : Int), .int .u64 ((u / Nat.gcd x u : Nat) : Int)] w fun e w' => e = .returned (.tuple #[.int .u64 (HI ((z / Nat.gcd y z) * (u / Nat.gcd x u))), .int .u64 (LO ((z / Nat.gcd y z) * (u / Nat.gcd x u)))]) ∧ w = w') := Lib.hid fun w =>
    (Tryd.bits_Mul64 (z / Nat.gcd y z) (u / Nat.gcd x u) (by omega) (by omega) w).mono fun e w' ⟨he, hw⟩ => ⟨he, hw.symm⟩
  have hres : quoR (s1 != s2) (x * y) (z * u) = ratF (s1 != s2) ((x / Nat.gcd x u) * (y / Nat.gcd y z)) ((z / Nat.gcd y z) * (u / Nat.gcd x u)) := by
    unfold quoR; rw [p1, p2]
  have v1 : IntKind.u64.wrap ((x : Int) / ((Nat.gcd x u : Nat) : Int)) = ((x / Nat.gcd x u : Nat) : Int) := by rw [← Int.natCast_ediv]; exact wrapu (by omega)
  have v2 : IntKind.u64.wrap ((u : Int) / ((Nat.gcd x u : Nat) : Int)) = ((u / Nat.gcd x u : Nat) : Int) := by rw [← Int.natCast_ediv]; exact wrapu (by omega)
  have v3 : IntKind.u64.wrap ((y : Int) / ((Nat.gcd y z : Nat) : Int)) = ((y / Nat.gcd y z : Nat) : Int) := by rw [← Int.natCast_ediv]; exact wrapu (by omega)
  have v4 : IntKind.u64.wrap ((z : Int) / ((Nat.gcd y z : Nat) : Int)) = ((z / Nat.gcd y z : Nat) : Int) := by rw [← Int.natCast_ediv]; exact wrapu (by omega)
  obtain ⟨g, hg⟩ : ∃ g, g = Nat.gcd x u := ⟨_, rfl⟩
  obtain ⟨h, hh⟩ : ∃ h, h = Nat.gcd y z := ⟨_, rfl⟩
  rw [← hg] at hg0 G1 M1 M2 v1 v2 hres p3
  rw [← hh] at hh0 G2 M1 M2 v3 v4 hres p3
  have d1 : ((g : Nat) : Int) ≠ 0 := by omega
  have d2 : ((h : Nat) : Int) ≠ 0 := by omega
  have z1 : ((g : Int) == 0) = false := by simpa using d1
  have z2 : ((h : Int) == 0) = false := by simpa using d2
  clear hg hh p1 p2 k1 k2 k3 k4 h1 h2
  obtain ⟨xg, hxg⟩ : ∃ k, k = x / g := ⟨_, rfl⟩
  obtain ⟨ug, hug⟩ : ∃ k, k = u / g := ⟨_, rfl⟩
  obtain ⟨yh, hyh⟩ : ∃ k, k = y / h := ⟨_, rfl⟩
  obtain ⟨zh, hzh⟩ : ∃ k, k = z / h := ⟨_, rfl⟩
  rw [← hxg] at v1 M1 hres p3
  rw [← hug] at v2 M2 hres p3
  rw [← hyh] at v3 M1 hres p3
  rw [← hzh] at v4 M2 hres p3
  obtain ⟨sx, hsx⟩ : ∃ s : Bool, s = (s1 != s2) := ⟨_, rfl⟩
  have u1 : (!(s1 == s2)) = sx := by rw [hsx]; rfl
  have u2 : (s1 != s2) = sx := hsx.symm
  rw [← hsx] at hres ⊢
  generalize quoR sx (x * y) (z * u) = res at *
  obtain ⟨n, hn⟩ : ∃ n, n = xg * yh := ⟨_, rfl⟩
  obtain ⟨d, hd⟩ : ∃ d, d = zh * ug := ⟨_, rfl⟩
  rw [← hn] at M1 hres p3
  rw [← hd] at M2 hres p3
  have HRES := Lib.hid hres
  have CR := Lib.hid (fun f w => ratReduced f n d w)
  have CF := Lib.hid (fun f w => ratRat f n d w)
  have HNN : Hid (HI n = 0 → LO n = n ∧ n < 18446744073709551616) := Lib.hid fun h => by have h1 := HILO n; have h2 := LO_lt n; omega
  have HDD : Hid (HI d = 0 → LO d = d ∧ d < 18446744073709551616) := Lib.hid fun h => by have h1 := HILO d; have h2 := LO_lt d; omega
  have HNB : Hid (HI n ≠ 0 → res = (0, 0, 3)) := Lib.hid fun h => by rw [HRES.out]; exact ratF_big (by have h1 := HILO n; omega)
  have HDB : Hid (HI d ≠ 0 → res = (0, 0, 3)) := Lib.hid fun h => by rw [HRES.out]; exact ratF_big (by have h1 := HILO d; omega)
  have HC := Lib.hid p3
  clear hres p3 hn hd hxg hug hyh hzh hsx
  generalize HI n = nh at *
  generalize LO n = nl at *
  generalize HI d = dh at *
  generalize LO d = dl at *
  go_enter Tryd.func44, Tryd.ntmps44
  go_wp2_with fail
  have XA := Lib.hid (((Box.new w 44 #[.bool s1, .int .u64 x, .int .u64 z]).below (below_alloc _ (.cells #[.bool s2, .int .u64 y, .int .u64 u] 44))).below (below_alloc _ (.cells #[.int .i64 0, .int .i64 0] 23)))
  have XB := Lib.hid ((box1 w (.cells #[.bool s1, .int .u64 x, .int .u64 z] 44) 44 #[.bool s2, .int .u64 y, .int .u64 u]).below (below_alloc _ (.cells #[.int .i64 0, .int .i64 0] 23)))
  have XR := Lib.hid (box2 w (.cells #[.bool s1, .int .u64 x, .int .u64 z] 44) (.cells #[.bool s2, .int .u64 y, .int .u64 u] 44) 23 #[.int .i64 0, .int .i64 0])
  have HB := Lib.hid (below_step (below_step (below_alloc w (.cells #[.bool s1, .int .u64 x, .int .u64 z] 44)) (below_alloc _ (.cells #[.bool s2, .int .u64 y, .int .u64 u] 44))) (below_alloc _ (.cells #[.int .i64 0, .int .i64 0] 23)))
  generalize ((w.alloc (.cells #[.bool s1, .int .u64 x, .int .u64 z] 44)).alloc (.cells #[.bool s2, .int .u64 y, .int .u64 u] 44)).alloc (.cells #[.int .i64 0, .int .i64 0] 23) = w1 at *
  have l1 := XA.out.lat 1 _ rfl
  have l2 := XA.out.lat 2 _ rfl
  have l3 := XB.out.lat 1 _ rfl
  have l4 := XB.out.lat 2 _ rfl
  refine wp_region_lat (by kernel_rfl) (by kernel_rfl) ?_
  repeat (go_big_quiet_step (first | (with_reducible exact lat_drew (G1.out _)) | (with_reducible exact lat_drew (G2.out _))))
  refine wpQuiet_nil ?_; intro w2 hb2
  clear l1 l2 l3 l4
  replace XA := Lib.hid (XA.out.below hb2); replace XB := Lib.hid (XB.out.below hb2); replace XR := Lib.hid (XR.out.below hb2); replace HB := Lib.hid (below_step HB.out hb2)
  clear hb2
  have l1 := XA.out.lat 1 _ rfl
  have l3 := XB.out.lat 1 _ rfl
  go_wp2_with fail
  refine wp_region_lat (by kernel_rfl) (by kernel_rfl) ?_
  repeat (go_big_quiet_step (with_reducible exact lat_same (M1.out _)))
  refine wpQuiet_nil ?_; intro w3 hb3
  clear l1 l3
  replace XA := Lib.hid (XA.out.below hb3); replace XB := Lib.hid (XB.out.below hb3); replace XR := Lib.hid (XR.out.below hb3); replace HB := Lib.hid (below_step HB.out hb3)
  clear hb3
  have l2 := XA.out.lat 2 _ rfl
  have l4 := XB.out.lat 2 _ rfl
  go_wp2_with fail
  refine wp_region_lat (by kernel_rfl) (by kernel_rfl) ?_
  repeat (go_big_quiet_step (with_reducible exact lat_same (M2.out _)))
  refine wpQuiet_nil ?_; intro w4 hb4
  clear l2 l4
  replace XA := Lib.hid (XA.out.below hb4); replace XB := Lib.hid (XB.out.below hb4); replace XR := Lib.hid (XR.out.below hb4); replace HB := Lib.hid (below_step HB.out hb4)
  clear hb4 M1 M2 G1 G2
  have r0 := XR.out.at_ 0 _ rfl
  have r1 := XR.out.at_ 1 _ rfl
  have zr0 := XR.out.frozen 0
  have zr1 := XR.out.frozen 1
  have a0 := XA.out.at_ 0 _ rfl
  have b0 := XB.out.at_ 0 _ rfl
  by_cases c1 : nh = 0
  · subst c1
    by_cases c2 : dh = 0
    · subst c2
      obtain ⟨e1, hxx⟩ := HNN.out rfl
      obtain ⟨e2, hyy⟩ := HDD.out rfl
      subst e1 e2
      have key : ∃ f : Bool, (sx && !((nl : Int) == 0)) = f ∧ ((sx = false ∧ f = false) ∨ (sx = true ∧ (((nl : Int) == 0) = true ∧ ((nl : Int) != 0) = false) ∧ f = false) ∨ (sx = true ∧ (((nl : Int) == 0) = false ∧ ((nl : Int) != 0) = true) ∧ f = true)) := by
        refine ⟨_, rfl, ?_⟩
        cases sx
        · left; exact ⟨rfl, rfl⟩
        · right; cases hz : ((nl : Int) == 0)
          · right; exact ⟨rfl, ⟨rfl, by rw [bne, hz]; rfl⟩, rfl⟩
          · left; exact ⟨rfl, ⟨rfl, by rw [bne, hz]; rfl⟩, rfl⟩
      obtain ⟨f, hf, hk⟩ := key
      have CR2 := Lib.hid (fun w => CR.out f w hxx hyy (by rw [HC.out]; exact Nat.one_pos))
      have CF2 := Lib.hid (fun w => CF.out f w hxx hyy)
      have HR2 : Hid (res = ratF f nl dl) := Lib.hid (by
        rw [HRES.out]
        rcases hk with ⟨rfl, rfl⟩ | ⟨rfl, h0, rfl⟩ | ⟨rfl, _, rfl⟩
        · rfl
        · have : nl = 0 := by have := beq_iff_eq.1 h0.1; omega
          rw [this]; exact ratF_zero _ _
        · rfl)
      rw [HC.out, Nat.div_one, Nat.div_one] at CR2
      rw [← HR2.out] at CF2
      clear CR CF hxx hyy HNN HDD HNB HDB hf
      obtain ⟨ra, rb, re⟩ := res
      simp only [ret3r] at CF2 ⊢
      rcases hk with ⟨rfl, rfl⟩ | ⟨rfl, ⟨h0, h0'⟩, rfl⟩ | ⟨rfl, ⟨h0, h0'⟩, rfl⟩
      all_goals
        go_wp2_with fail
        refine (CR2.out _).mono ?_; rintro e w13 ⟨rfl, hb13⟩
        replace XR := Lib.hid (XR.out.below hb13); replace HB := Lib.hid (below_step HB.out hb13)
        clear hb13 r0 r1 zr0 zr1 a0 b0
        go_wp2_with fail
        refine (CF2.out _).mono ?_; rintro e w14 ⟨rfl, hb14⟩
        replace XR := Lib.hid (XR.out.below hb14); replace HB := Lib.hid (below_step HB.out hb14)
        clear hb14
        have r0 := XR.out.at_ 0 _ rfl
        have r1 := XR.out.at_ 1 _ rfl
        have zr0 := XR.out.frozen 0
        have zr1 := XR.out.frozen 1
        go_wp2_with fail
        refine bodyPost_ret (v := .tuple #[.agg #[.int .i64 ra, .int .i64 rb], .int .i64 re]) (by simp [results, Tryd.results44, go_sem, r0, r1]) rfl ⟨rfl, ?_⟩
        exact (HB.out.setCell (by simp; omega) _).setCell (by simp; omega) _
    · have HE := Lib.hid (HDB.out c2)
      have f1 : ((dh : Int) == 0) = false := by
        have : ¬ (dh : Int) = 0 := by omega
        simpa using this
      clear CR CF c2 HNN HDD HNB HDB
      go_wp2_with fail
      refine bodyPost_ret (v := .tuple #[.agg #[.int .i64 0, .int .i64 0], .int .i64 3]) (by simp [results, Tryd.results44, go_sem, r0, r1]) rfl ⟨by rw [HE.out]; rfl, ?_⟩
      exact (HB.out.setCell (by simp; omega) _).setCell (by simp; omega) _
  · have HE := Lib.hid (HNB.out c1)
    have f1 : ((nh : Int) == 0) = false := by
      have : ¬ (nh : Int) = 0 := by omega
      simpa using this
    clear CR CF c1 HNN HDD HNB HDB
    go_wp2_with fail
    refine bodyPost_ret (v := .tuple #[.agg #[.int .i64 0, .int .i64 0], .int .i64 3]) (by simp [results, Tryd.results44, go_sem, r0, r1]) rfl ⟨by rw [HE.out]; rfl, ?_⟩
    exact (HB.out.setCell (by simp; omega) _).setCell (by simp; omega) _

end Go.Proofs.YtbaalbmchhgmnaaDoor
