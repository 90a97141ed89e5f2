/-
  The law DistCounts: the walk.
-/
import Derived.Test.YtiiacapilffhnaaDistK
import Derived.Test.YtiiacapilffhnaaDistLaw
namespace Go.Proofs.Ytiiacapilffhnaa
open Go.RowKit Go.WideShapes Go.ChangeShapes Go.Deep
set_option linter.unusedVariables false
set_option linter.unusedSimpArgs false

set_option maxRecDepth 100000 in
set_option maxHeartbeats 8000000 in
theorem walkDistCounts {H : Type} {enc : TypeId × Value → H} {base : Nat} (v : Value) (d : DataW H) (p : List MemPlace) (w : World)
    (h : DataW.Trod enc Try.prog w 0 (fun _ => true) true 22 v d p) (hv : Value.okWide Try.prog w .any base 22 v) (wd : Int) (hw : I64 wd) :
    Calls Try.prog 8 #[v, .int .i64 wd] w fun e w' => e = .returned (.bool true) ∧ Below w.heap.size w w' := by
  obtain ⟨l, hd, hf⟩ := arg_weights h hv
  obtain ⟨w0, w1⟩ := hw
  have C1 := Lib.hid (fun w h => distTotal w v l wd h hf w0 w1)
  have C2 : Hid (∀ (x : Int), -9223372036854775808 ≤ x → x ≤ 9223372036854775807 → ∀ w, DL w v l → Calls Try.prog 13 #[v, .int .i64 wd, .int .i64 x] w fun e w' => e = .returned (.tuple #[.int .i64 (nth l wd x).1, .int .i64 (nth l wd x).2]) ∧ Below w.heap.size w w') := Lib.hid (fun x x0 x1 w h => distNth w v l wd x h hf w0 w1 x0 x1)
  have C3 : Hid (∀ (x : Int), -9223372036854775808 ≤ x → x ≤ 9223372036854775807 → ∀ w, DL w v l → Calls Try.prog 24 #[v, .int .i64 x] w fun e w' => e = .returned (.tuple #[.int .i64 (wgtE l x).1, .int .i64 (wgtE l x).2]) ∧ Below w.heap.size w w') := Lib.hid (fun x x0 x1 w h => distWeightAll w v l x h hf x0 x1)
  have HD := Lib.hid hd
  have hsp := nth_spec (l := l) (wd := wd)
  obtain ⟨A, c, rfl, _, _, _⟩ := hd
  obtain ⟨N, hN⟩ : ∃ N, N = l.length := ⟨_, rfl⟩
  rw [← hN] at HD C1 C2 C3 ⊢
  clear h hv hf hN
  by_cases hn : (30 : Int) < N
  · clear hsp
    go_enter Try.func8, Try.ntmps8
    go_wp2_with fail
    refine (awake _).mono ?_; rintro e w1 ⟨rfl, hb⟩
    go_wp2_with fail
    go_ret
    exact ⟨rfl, hb⟩
  by_cases ht : (tot l wd).2 = 0
  case neg =>
    have f : ((tot l wd).2 != 0) = true := by simpa using ht
    clear ht hsp
    go_enter Try.func8, Try.ntmps8
    go_wp2_with fail
    refine (C1.out _ HD.out).mono ?_; rintro e w1 ⟨rfl, hb⟩
    have HB1 := Lib.hid hb
    clear hb
    go_wp2_with fail
    refine (awake _).mono ?_; rintro e w2 ⟨rfl, hb⟩
    have HB2 := Lib.hid (below_step HB1.out hb)
    go_wp2_with fail
    go_ret
    exact ⟨rfl, HB2.out⟩
  obtain ⟨n, B, hB, n0, hvl, hp, t0, hwg, hwe, hnt, hne⟩ := hsp ht
  have hte : tot l wd = ((tot l wd).1, 0) := Prod.ext rfl ht
  rw [hte] at C1
  simp only at C1
  obtain ⟨g1, g2, _, _, _⟩ := vld_zero hvl
  obtain ⟨B', hB', B1, B2, hwr⟩ := pow_nat g1 g2
  obtain rfl : B' = B := by rw [hB', hB]
  have hmono : ∀ a b : Nat, a ≤ b → b ≤ B' → pre l n a ≤ pre l n b := fun a b h1 h2 => by
    have := pre_mono l n B' hwg (b - a) a (by omega)
    rwa [show a + (b - a) = b by omega] at this
  generalize (tot l wd).1 = t at *
  by_cases h5 : 500 < t
  · clear hte hp hnt hne hwe hwg hmono hB hB' ht
    go_enter Try.func8, Try.ntmps8
    go_wp2_with fail
    refine (C1.out _ HD.out).mono ?_; rintro e w1 ⟨rfl, hb⟩
    have HB1 := Lib.hid hb
    clear hb
    go_wp2_with fail
    refine (awake _).mono ?_; rintro e w2 ⟨rfl, hb⟩
    have HB2 := Lib.hid (below_step HB1.out hb)
    go_wp2_with fail
    go_ret
    exact ⟨rfl, HB2.out⟩
  obtain ⟨T, rfl⟩ := Int.eq_ofNat_of_zero_le t0
  have hpre0 := pre_zero l n
  have hpre1 : 0 ≤ pre l n 1 := by have := hmono 0 1 (by omega) (by omega); omega
  have HP := Lib.hid hp
  have HNT := Lib.hid hnt
  have HNE := Lib.hid hne
  have HWE := Lib.hid hwe
  have HWG := Lib.hid hwg
  have HM := Lib.hid hmono
  have hT : T ≤ 500 := by omega
  clear hte hp hnt hne hwe hwg hmono hB hB' ht
  go_enter Try.func8, Try.ntmps8
  go_wp2_with fail
  refine (C1.out _ HD.out).mono ?_; rintro e w1 ⟨rfl, hb⟩
  have HB1 := Lib.hid hb
  clear hb
  go_wp2_with fail
  go_loopw [9, 7, 8] (fun c la q wr => ∃ (k L : Nat) (y : Int), k ≤ T ∧ c = .int .i64 k ∧ la = .int .i64 L ∧ q = .int .i64 y ∧ L < B' ∧ y = k - pre l n L ∧ 0 ≤ y ∧ y ≤ 500 ∧ k ≤ pre l n (L + 1) ∧ Below w.heap.size w wr) (fun c _ _ _ => T - (intOf c).toNat)
  case atStart => exact ⟨0, 0, 0, Nat.zero_le _, rfl, rfl, rfl, by omega, by rw [hpre0]; simp, by omega, by omega, by simpa using hpre1, HB1.out⟩
  case round =>
    obtain ⟨k, L, y, hk, rfl, rfl, rfl, hL, hy, y0, y1, hk1, hb⟩ := hrel
    have HBL := Lib.hid hb
    clear hb
    have hsu := pre_succ l n L
    have hweL := HWE.out L hL
    have hwgL := HWG.out L hL
    have C3L := C3.out L (by omega) (by omega)
    rw [hweL] at C3L
    simp only at C3L
    by_cases hlt : k < T
    · have hlt2 : (k : Int) < T := by omega
      obtain ⟨u, e1, u1, u2, u3⟩ := HNT.out k (by omega) (by omega)
      have C2k := C2.out k (by omega) (by omega)
      rw [e1] at C2k
      simp only at C2k
      have hLu : L ≤ u := Classical.byContradiction fun hc => by
        have := HM.out (u + 1) L (by omega) (by omega)
        omega
      have CN := Lib.hid C2k
      have CW := Lib.hid C3L
      have a1 : ¬ u < L := by omega
      have a2 : ¬ B' ≤ u := by omega
      have a3 : ¬ (u : Int) < L := by omega
      have a4 : ¬ (B' : Int) ≤ u := by omega
      clear hpre1 hpre0 hweL C2k C3L e1
      by_cases huL : L < u
      · have hm1 := HM.out (L + 1) u (by omega) (by omega)
        have hyw : y = (wgt l n L).1 := by omega
        have hkp : (k : Int) = pre l n u := by omega
        generalize (wgt l n L).1 = g at *
        subst hyw
        have b1 : (L : Int) < u := by omega
        have HR : Hid ((1 : Int) = ((k + 1 : Nat) : Int) - pre l n u ∧ ((k + 1 : Nat) : Int) ≤ pre l n (u + 1)) := Lib.hid ⟨by omega, by omega⟩
        clear hm1 hkp hsu hy u2 u3 hk1
        go_wp2_with fail
        refine (CN.out _ (HD.out.below HBL.out)).mono ?_; rintro e w3 ⟨rfl, hb⟩
        have HB3 := Lib.hid (below_step HBL.out hb)
        clear hb
        go_wp2_with fail
        refine (CW.out _ (HD.out.below HB3.out)).mono ?_; rintro e w4 ⟨rfl, hb⟩
        have HB4 := Lib.hid (below_step HB3.out hb)
        clear hb
        go_wp2_with fail
        go_roundw
        case rel => exact ⟨k + 1, u, 1, by omega, by go_num, rfl, rfl, u1, HR.out.1, by omega, by omega, HR.out.2, HB4.out⟩
        case measure => simp [intOf]; omega
      · obtain rfl : u = L := by omega
        have b1 : ¬ (u : Int) < u := by omega
        have HR : Hid ((y + 1 : Int) = ((k + 1 : Nat) : Int) - pre l n u ∧ ((k + 1 : Nat) : Int) ≤ pre l n (u + 1) ∧ y + 1 ≤ 500) := by
          refine Lib.hid ⟨by omega, by omega, ?_⟩
          have h0 := HM.out 0 u (by omega) (by omega)
          have h00 := pre_zero l n
          omega
        clear hsu hy u2 u3 hk1
        go_wp2_with fail
        refine (CN.out _ (HD.out.below HBL.out)).mono ?_; rintro e w3 ⟨rfl, hb⟩
        have HB3 := Lib.hid (below_step HBL.out hb)
        clear hb
        go_wp2_with fail
        go_roundw
        case rel => exact ⟨k + 1, u, y + 1, by omega, by go_num, rfl, rfl, u1, HR.out.1, by omega, HR.out.2.2, HR.out.2.1, HB3.out⟩
        case measure => simp [intOf]; omega
    · have hkn : k = T := by omega
      have hlt2 : ¬ (k : Int) < T := by omega
      subst hkn
      have C2k := C2.out k (by omega) (by omega)
      rw [HNE.out] at C2k
      simp only at C2k
      have CN := Lib.hid C2k
      have CW := Lib.hid C3L
      have key : ((k : Int) == 0) = true ∨ (((k : Int) == 0) = false ∧ y = (wgt l n L).1) := by
        by_cases hz : k = 0
        · exact .inl (by simpa using hz)
        · refine .inr ⟨by simpa using hz, ?_⟩
          have hm := HM.out (L + 1) B' (by omega) (by omega)
          have := HP.out
          omega
      clear hsu hweL hwgL C2k C3L hy hk1 hpre1 hpre0
      generalize (wgt l n L).1 = g at *
      rcases key with z1 | ⟨z1, rfl⟩
      all_goals
        go_wp2_with fail
        refine (CN.out _ (HD.out.below HBL.out)).mono ?_; rintro e w3 ⟨rfl, hb⟩
        have HB3 := Lib.hid (below_step HBL.out hb)
        clear hb
        go_wp2_with fail
        refine (CW.out _ (HD.out.below HB3.out)).mono ?_; rintro e w4 ⟨rfl, hb⟩
        have HB4 := Lib.hid (below_step HB3.out hb)
        clear hb
        go_wp2_with fail
        refine (awake _).mono ?_; rintro e w5 ⟨rfl, hb⟩
        have HB5 := Lib.hid (below_step HB4.out hb)
        clear hb
        go_wp2_with fail
        go_ret
        exact ⟨rfl, HB5.out⟩

end Go.Proofs.Ytiiacapilffhnaa
