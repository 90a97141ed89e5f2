/-
  The law DistExact: the walk.
-/
import Derived.Test.YtiiacapilffhnaaDistK
import Derived.Test.YtiiacapilffhnaaExactLaw
import Derived.Test.YtiiacapilffhnaaRefE
namespace Go.Proofs.Ytiiacapilffhnaa
open Go.RowKit Go.WideShapes Go.ChangeShapes Go.Deep
set_option linter.unusedVariables false
set_option linter.unusedSimpArgs false

set_option maxRecDepth 100000 in
set_option maxHeartbeats 8000000 in
theorem walkDistExact {H : Type} {enc : TypeId × Value → H} {base : Nat} (v : Value) (d : DataW H) (p : List MemPlace) (w : World)
    (h : DataW.Trod enc Try.prog w 0 (fun _ => true) true 22 v d p) (hv : Value.okWide Try.prog w .any base 22 v) (wd : Int) (hw : I64 wd) :
    Calls Try.prog 5 #[v, .int .i64 wd] w fun e w' => e = .returned (.bool true) ∧ Below w.heap.size w w' := by
  obtain ⟨l, hd, hf⟩ := arg_weights h hv
  obtain ⟨w0, w1⟩ := hw
  have C0 := Lib.hid (fun w h => distValid w v l wd h hf w0 w1)
  have C1 := Lib.hid (fun w h => distTotal w v l wd h hf w0 w1)
  have C2 := Lib.hid (fun w h => distSupport w v l wd h hf w0 w1)
  have C3 : Hid (∀ (x : Int), -9223372036854775808 ≤ x → x ≤ 9223372036854775807 → ∀ w, DL w v l → Calls Try.prog 18 #[v, .int .i64 wd, .int .i64 x] w fun e w' => e = ret3r (prob l wd x) ∧ Below w.heap.size w w') := Lib.hid (fun x x0 x1 w h => distProb w v l wd x h hf w0 w1 x0 x1)
  have HD := Lib.hid hd
  have hsp := exact_spec (l := l) (wd := wd)
  obtain ⟨A, c, rfl, _, _, _⟩ := hd
  obtain ⟨N, hN⟩ : ∃ N, N = l.length := ⟨_, rfl⟩
  rw [← hN] at HD C0 C1 C2 C3 ⊢
  clear h hv hf hN
  by_cases hn : (30 : Int) < N
  · clear hsp
    go_enter Try.func5, Try.ntmps5
    go_wp2_with fail
    refine (awake _).mono ?_; rintro e w1 ⟨rfl, hb⟩
    go_wp2_with fail
    go_ret
    exact ⟨rfl, hb⟩
  by_cases h5 : 5 < wd
  · clear hsp
    go_enter Try.func5, Try.ntmps5
    go_wp2_with fail
    refine (awake _).mono ?_; rintro e w1 ⟨rfl, hb⟩
    go_wp2_with fail
    go_ret
    exact ⟨rfl, hb⟩
  by_cases hvl : vld l wd = 0
  case neg =>
    have f : (vld l wd != 0) = true := by simpa using hvl
    clear hsp hvl
    go_enter Try.func5, Try.ntmps5
    go_wp2_with fail
    refine (C0.out _ HD.out).mono ?_; rintro e w1 ⟨rfl, hb⟩
    have HB := Lib.hid hb
    clear hb
    go_wp2_with fail
    refine (awake _).mono ?_; rintro e w2 ⟨rfl, hb⟩
    replace HB := Lib.hid (below_step HB.out hb)
    clear hb
    go_wp2_with fail
    go_ret
    exact ⟨rfl, HB.out⟩
  obtain ⟨g1, g2, _, _, _⟩ := vld_zero hvl
  rw [hvl] at C0
  by_cases ht : (tot l wd).2 = 0
  case neg =>
    have f : ((tot l wd).2 != 0) = true := by simpa using ht
    clear ht hsp hvl
    go_enter Try.func5, Try.ntmps5
    go_wp2_with fail
    refine (C0.out _ HD.out).mono ?_; rintro e w1 ⟨rfl, hb⟩
    have HB := Lib.hid hb
    clear hb
    go_wp2_with fail
    refine (C1.out _ (HD.out.below HB.out)).mono ?_; rintro e w2 ⟨rfl, hb⟩
    replace HB := Lib.hid (below_step HB.out hb)
    clear hb
    go_wp2_with fail
    refine (awake _).mono ?_; rintro e w3 ⟨rfl, hb⟩
    replace HB := Lib.hid (below_step HB.out hb)
    clear hb
    go_wp2_with fail
    go_ret
    exact ⟨rfl, HB.out⟩
  obtain ⟨n, B, hB, _, t0, t1, hsu, hz, hst⟩ := hsp ht
  have hte : tot l wd = ((tot l wd).1, 0) := Prod.ext rfl ht
  rw [hte] at C1
  rw [hsu] at C2
  simp only at C1
  obtain ⟨B', hB', B1, B2, hwr⟩ := pow_nat g1 g2
  obtain rfl : B' = B := by rw [hB', hB]
  generalize (tot l wd).1 = T at *
  clear hte hvl ht hsu hB hB'
  by_cases hT : T = 0
  · have hs0 := hz hT
    rw [hs0] at C2
    subst hT
    clear hz hs0 hst
    go_enter Try.func5, Try.ntmps5
    go_wp2_with fail
    refine (C0.out _ HD.out).mono ?_; rintro e w1 ⟨rfl, hb⟩
    have HB := Lib.hid hb
    clear hb
    go_wp2_with fail
    refine (C1.out _ (HD.out.below HB.out)).mono ?_; rintro e w2 ⟨rfl, hb⟩
    replace HB := Lib.hid (below_step HB.out hb)
    clear hb
    go_wp2_with fail
    refine (C2.out _ (HD.out.below HB.out)).mono ?_; rintro e w3 ⟨v3, rfl, ⟨A3, c3, rfl, _⟩, hb⟩
    replace HB := Lib.hid (below_step HB.out hb)
    clear hb
    go_wp2_with fail
    refine (awake _).mono ?_; rintro e w4 ⟨rfl, hb⟩
    replace HB := Lib.hid (below_step HB.out hb)
    clear hb
    go_wp2_with fail
    go_ret
    exact ⟨rfl, HB.out⟩
  obtain ⟨m0, mB, hst⟩ := hst (by omega)
  have f : (T == 0) = false := by simpa using hT
  have HST := Lib.hid hst
  have HM0 := Lib.hid m0
  have HMB := Lib.hid mB
  clear hz hst hT m0 mB
  go_enter Try.func5, Try.ntmps5
  go_wp2_with fail
  refine (C0.out _ HD.out).mono ?_; rintro e w1 ⟨rfl, hb⟩
  have HB := Lib.hid hb
  clear hb
  go_wp2_with fail
  refine (C1.out _ (HD.out.below HB.out)).mono ?_; rintro e w2 ⟨rfl, hb⟩
  replace HB := Lib.hid (below_step HB.out hb)
  clear hb
  go_wp2_with fail
  refine (C2.out _ (HD.out.below HB.out)).mono ?_; rintro e w3 ⟨v3, rfl, hil, hb⟩
  replace HB := Lib.hid (below_step HB.out hb)
  clear hb
  have HIL := Lib.hid hil
  obtain ⟨A3, c3, rfl, hc3, hcl⟩ := hil
  have HCL := Lib.hid hcl
  obtain ⟨Q, hQ⟩ : ∃ Q, Q = (supRun l B').length := ⟨_, rfl⟩
  have HQ := Lib.hid hQ
  have hQl := supRun_len l B'
  rw [← hQ] at hQl hc3 HCL ⊢
  clear hcl hQ
  go_wp2_with fail
  have HB0 := HB
  replace HB := Lib.hid (Below.refl w3.heap.size w3)
  have XS := Lib.hid (box_new (W := w3) (g := w3.heap.size) 33 #[.int .i64 0, .int .i64 1] (by simp))
  have hba := (below_alloc w3 (.cells #[.int .i64 0, .int .i64 1] 33))
  replace HB := Lib.hid (below_step HB.out hba)
  clear hba
  generalize w3.alloc (.cells #[.int .i64 0, .int .i64 1] 33) = w4 at *
  go_loopw [8, 10] (fun c8 c10 wr => ∃ (k : Nat) (a b : Int), k ≤ B' ∧ c10 = .int .i64 k ∧ c8 = .int .i64 ((supRun l k).length : Nat) ∧ mk (pre l n k) T = (a, b, 0) ∧ Box wr w3.heap.size #[.int .i64 a, .int .i64 b] 33 ∧ Below w3.heap.size w3 wr) (fun _ c10 _ => B' - (intOf c10).toNat)
  case atStart => exact ⟨0, 0, 1, Nat.zero_le _, rfl, rfl, HM0.out, XS.out, HB.out⟩
  case round =>
    obtain ⟨k, a, b, hk, rfl, rfl, hab, hx, hb⟩ := hrel
    clear XS HB HM0
    have XS := Lib.hid hx
    have HB := Lib.hid hb
    clear hx hb
    have hql := supRun_len l k
    by_cases hlt : k < B'
    · have hlt2 : (k : Int) < B' := by omega
      obtain ⟨ia, ib, c, d, x, y, e1, e2, e3, c0, c1, ic, id⟩ := HST.out k a b hlt hab
      have C3k := C3.out k (by omega) (by omega)
      rw [e1] at C3k
      simp only [ret3r] at C3k
      have CP := Lib.hid C3k
      have CA := Lib.hid (fun w => refAdd05 a b c d w ia ib ic id)
      rw [e2] at CA
      simp only [ret3r] at CA
      have HN := Lib.hid e3
      have a0 : ¬ c < 0 := by omega
      clear e1 e2 e3 C3k ia ib ic id hab
      by_cases hs : supB l k = true
      · obtain ⟨q1, q2⟩ := supRun_at hlt hs
        have hsy := sup_yes hs
        have hc : 0 < c := c1.2 hs
        have HSY := Lib.hid hsy
        rw [← HQ.out] at q1
        obtain ⟨a3, rfl, hl3, hcell⟩ := HCL.out (by omega)
        have hcq := hcell (supRun l k).length q1
        rw [q2] at hcq
        have HCQ : Hid (∀ W, Below w3.heap.size w3 W → W.cell? (a3.add (supRun l k).length) = some (.int .i64 k)) := Lib.hid fun W hW => by rw [hW.cell (by rw [block_of_add]; exact hl3)]; exact hcq
        have b0 : ((k : Int) != k) = false := by simp
        have HLL : Hid ((((supRun l (k + 1)).length : Nat) : Int) = ((supRun l k).length : Nat) + 1) := Lib.hid (by rw [hsy]; simp)
        clear hsy q2 hcell hcq hs c1 hl3
        have hq0 : (0 : Int) ≤ ((supRun l k).length : Nat) := by omega
        generalize (supRun l k).length = q at *
        go_wp2_with fail
        refine (CP.out _ (HD.out.below (below_step HB0.out HB.out))).mono ?_; rintro e w5 ⟨rfl, hb⟩
        replace XS := Lib.hid (XS.out.below hb)
        replace HB := Lib.hid (below_step HB.out hb)
        clear hb
        have cq := HCQ.out _ HB.out
        have cq2 := HCQ.out _ (below_step HB.out (below_alloc w5 (.cells #[.int .i64 c, .int .i64 d] 33)))
        have XS_0 := XS.out.at_ 0 _ rfl
        have XS_1 := XS.out.at_ 1 _ rfl
        have XS_l := XS.out.lt
        go_wp2_with fail
        clear XS_0 XS_1 XS_l
        clear cq cq2
        have XP := Lib.hid (box_new (W := w5) (g := w5.heap.size) 33 #[.int .i64 c, .int .i64 d] (by simp))
        have hba := (below_alloc w5 (.cells #[.int .i64 c, .int .i64 d] 33))
        replace XS := Lib.hid (XS.out.below hba)
        replace HB := Lib.hid (below_step HB.out hba)
        clear hba
        generalize w5.alloc (.cells #[.int .i64 c, .int .i64 d] 33) = w6 at *
        refine (CA.out _).mono ?_; rintro e w7 ⟨rfl, hb⟩
        replace XS := Lib.hid (XS.out.below hb)
        replace XP := Lib.hid (XP.out.below hb)
        replace HB := Lib.hid (below_step HB.out hb)
        clear hb
        have XS_0 := XS.out.at_ 0 _ rfl
        have XS_1 := XS.out.at_ 1 _ rfl
        have XS_l := XS.out.lt
        have XS_z0 := XS.out.frozen 0
        have XS_z1 := XS.out.frozen 1
        have XP_0 := XP.out.at_ 0 _ rfl
        have XP_1 := XP.out.at_ 1 _ rfl
        go_wp2_with fail
        clear XS_0 XS_1 XS_l XS_z0 XS_z1 XP_0 XP_1
        go_roundw
        case rel =>
          refine ⟨k + 1, x, y, by omega, by go_num, by rw [HLL.out], HN.out, ?_, ?_⟩
          · exact (((XS.out.set_ 0 (.int .i64 x)).set_ 1 (.int .i64 y)).below (below_alloc _ _))
          · exact below_step ((HB.out.setCell (p := ⟨w3.heap.size, 0, none⟩) (Nat.le_refl _) _).setCell (p := ⟨w3.heap.size, 1, none⟩) (Nat.le_refl _) _) (below_alloc _ _)
        case measure => simp [intOf]; omega
      · have hc : ¬ 0 < c := fun h => hs (c1.1 h)
        have HSY := Lib.hid (sup_no (l := l) (k := k) (by simpa using hs))
        clear c1 hs
        go_wp2_with fail
        refine (CP.out _ (HD.out.below (below_step HB0.out HB.out))).mono ?_; rintro e w5 ⟨rfl, hb⟩
        replace XS := Lib.hid (XS.out.below hb)
        replace HB := Lib.hid (below_step HB.out hb)
        clear hb
        have XS_0 := XS.out.at_ 0 _ rfl
        have XS_1 := XS.out.at_ 1 _ rfl
        have XS_l := XS.out.lt
        go_wp2_with fail
        clear XS_0 XS_1 XS_l
        have XP := Lib.hid (box_new (W := w5) (g := w5.heap.size) 33 #[.int .i64 c, .int .i64 d] (by simp))
        have hba := (below_alloc w5 (.cells #[.int .i64 c, .int .i64 d] 33))
        replace XS := Lib.hid (XS.out.below hba)
        replace HB := Lib.hid (below_step HB.out hba)
        clear hba
        generalize w5.alloc (.cells #[.int .i64 c, .int .i64 d] 33) = w6 at *
        refine (CA.out _).mono ?_; rintro e w7 ⟨rfl, hb⟩
        replace XS := Lib.hid (XS.out.below hb)
        replace XP := Lib.hid (XP.out.below hb)
        replace HB := Lib.hid (below_step HB.out hb)
        clear hb
        have XS_0 := XS.out.at_ 0 _ rfl
        have XS_1 := XS.out.at_ 1 _ rfl
        have XS_l := XS.out.lt
        have XS_z0 := XS.out.frozen 0
        have XS_z1 := XS.out.frozen 1
        have XP_0 := XP.out.at_ 0 _ rfl
        have XP_1 := XP.out.at_ 1 _ rfl
        go_wp2_with fail
        clear XS_0 XS_1 XS_l XS_z0 XS_z1 XP_0 XP_1
        go_roundw
        case rel =>
          refine ⟨k + 1, x, y, by omega, by go_num, by rw [HSY.out], HN.out, ?_, ?_⟩
          · exact (((XS.out.set_ 0 (.int .i64 x)).set_ 1 (.int .i64 y)).below (below_alloc _ _))
          · exact below_step ((HB.out.setCell (p := ⟨w3.heap.size, 0, none⟩) (Nat.le_refl _) _).setCell (p := ⟨w3.heap.size, 1, none⟩) (Nat.le_refl _) _) (below_alloc _ _)
        case measure => simp [intOf]; omega
    · obtain rfl : k = B' := by omega
      have hlt2 : ¬ (k : Int) < k := by omega
      obtain ⟨rfl, h2⟩ := Prod.mk.inj (hab.symm.trans HMB.out)
      obtain ⟨rfl, _⟩ := Prod.mk.inj h2
      have f2 : ((Q : Int) == Q) = true := by simp
      rw [← HQ.out]
      clear hab h2
      have XS_0 := XS.out.at_ 0 _ rfl
      have XS_1 := XS.out.at_ 1 _ rfl
      go_wp2_with fail
      refine (awake _).mono ?_; rintro e w5 ⟨rfl, hb⟩
      clear XS_0 XS_1
      replace XS := Lib.hid (XS.out.below hb)
      replace HB := Lib.hid (below_step HB.out hb)
      clear hb
      go_wp2_with fail
      go_ret
      exact ⟨rfl, below_step HB0.out HB.out⟩

end Go.Proofs.Ytiiacapilffhnaa
