/-
  Contracts of dist.weights, of Total and of its reference.
-/
import Derived.Test.YtiiacapilffhnaaDistE
import Derived.Test.YtiiacapilffhnaaDistSpec2
namespace Go.Proofs.Ytiiacapilffhnaa
open Go.RowKit
set_option linter.unusedVariables false
set_option linter.unusedSimpArgs false

theorem iint : (Try.prog.info? 3).map (fun i => (i.zero, i.size, i.bytes)) = some (some (.int .i64 0), 1, 8) := by kernel_rfl
/-- The post of weights. -/
def WTL (w : World) (r : Int × Int) (zs : List Int) (e : Ending) (w' : World) : Prop := ∃ v, e = .returned (.tuple #[v, .int .i64 r.1, .int .i64 r.2]) ∧ (IL w' v zs ∧ Below w.heap.size w w')
theorem WTL.of {w w' : World} {r r' : Int × Int} {zs zs' : List Int} {v : Value} (h : r = r') (h2 : zs = zs') (hi : IL w' v zs) (hb : Below w.heap.size w w') : WTL w r' zs' (.returned (.tuple #[v, .int .i64 r.1, .int .i64 r.2])) w' := by
  subst h h2; exact ⟨v, rfl, hi, hb⟩
/-- The total of a valid distribution whose scale fits. -/
theorem tot_ok {l : List Rg} {wd : Int} (h1 : vld l wd = 0) (h2 : (scl l).2 = 0) : tot l wd = totRun l (scl l).1 (two wd) 0 0 := by
  unfold tot; rw [if_neg (by rw [h1]; decide), if_neg (by rw [h2]; decide)]
theorem tot_vld {l : List Rg} {wd : Int} (h1 : vld l wd ≠ 0) : tot l wd = (0, vld l wd) := by unfold tot; rw [if_pos h1]
theorem tot_scl {l : List Rg} {wd : Int} (h1 : vld l wd = 0) (h2 : (scl l).2 ≠ 0) : tot l wd = (0, (scl l).2) := by
  unfold tot; rw [if_neg (by rw [h1]; decide), if_pos h2]
theorem twl_err {l : List Rg} {wd e : Int} (h : tot l wd = (0, e)) (he : e ≠ 0) : twl l wd = [] := by unfold twl; rw [h, if_neg he]
theorem twl_ok {l : List Rg} {wd s : Int} (h : tot l wd = (s, 0)) : twl l wd = wl l (scl l).1 (two wd) := by unfold twl; rw [h, if_pos rfl]

set_option maxRecDepth 100000 in
set_option maxHeartbeats 8000000 in
theorem distWeights (w : World) (v : Value) (l : List Rg) (wd : Int) (h : DL w v l) (hf : LF l) (w0 : -9223372036854775808 ≤ wd) (w1 : wd ≤ 9223372036854775807) :
    Calls Try.prog 28 #[v, .int .i64 wd] w (WTL w (tot l wd) (twl l wd)) := by
  obtain ⟨i0, hi, hz0, hz1, hz2⟩ := info_parts iint
  have HI := Lib.hid hi
  have HZ0 := Lib.hid hz0
  have HZ1 := Lib.hid hz1
  have HZ2 := Lib.hid hz2
  have HVL : Hid (∀ w, DL w v l → Calls Try.prog 20 #[v, .int .i64 wd] w fun e w' => e = .returned (.int .i64 (vld l wd)) ∧ Below w.heap.size w w') := Lib.hid fun w h => distValid w v l wd h hf w0 w1
  have HD := Lib.hid h
  clear hi hz0 hz1 hz2 h
  by_cases hv : vld l wd = 0
  case neg =>
    have HT := Lib.hid (tot_vld hv)
    have HL := Lib.hid (twl_err (tot_vld hv) hv)
    have f : (vld l wd != 0) = true := by simpa using hv
    clear hv
    go_enter Try.func28, Try.ntmps28
    go_wp2_with fail
    refine (HVL.out _ HD.out).mono ?_; rintro e w1 ⟨rfl, hb⟩
    have HB1 := Lib.hid hb
    clear hb
    go_wp2_with fail
    go_ret3
    exact WTL.of HT.out.symm HL.out.symm (IL.nil _) HB1.out
  have hrv := vld_RV hv
  have hsb := scl_bd hv
  obtain ⟨g1, g2, _, _, _⟩ := vld_zero hv
  obtain ⟨B, hB, B1, B2, hwr⟩ := pow_nat g1 g2
  have htv := fun h => tot_ok (l := l) (wd := wd) hv h
  have hts := fun h => tot_scl (l := l) (wd := wd) hv h
  have hlv := fun s => twl_ok (l := l) (wd := wd) (s := s)
  rw [← hB] at htv hlv
  rw [hv] at HVL
  have HSC : Hid (∀ w, DL w v l → Calls Try.prog 40 #[v] w fun e w' => e = .returned (.tuple #[.int .i64 (scl l).1, .int .i64 (scl l).2]) ∧ Below w.heap.size w w') := Lib.hid fun w h => distScale w v l h hrv
  generalize scl l = sc at *
  obtain ⟨n, se⟩ := sc
  simp only at htv hts hlv HSC
  clear hv hB
  rcases hsb with hsb | ⟨rfl, n0, n1⟩
  · have HT := Lib.hid (hts (by rw [show se = 3 from (Prod.mk.inj hsb).2]; decide))
    have hse : se = 3 := (Prod.mk.inj hsb).2
    have HL := Lib.hid (twl_err (hts (by rw [hse]; decide)) (by rw [hse]; decide))
    have f : (se != 0) = true := by rw [hse]; rfl
    clear hts htv hlv hsb hse
    go_enter Try.func28, Try.ntmps28
    go_wp2_with fail
    refine (HVL.out _ HD.out).mono ?_; rintro e w1 ⟨rfl, hb⟩
    have HB1 := Lib.hid hb
    clear hb
    go_wp2_with fail
    refine (HSC.out _ (HD.out.below HB1.out)).mono ?_; rintro e w2 ⟨rfl, hb⟩
    have HB2 := Lib.hid (below_step HB1.out hb)
    clear hb
    go_wp2_with fail
    go_ret3
    exact WTL.of HT.out.symm HL.out.symm (IL.nil _) HB2.out
  have HT := Lib.hid (htv rfl)
  have HTW := Lib.hid hlv
  have HRV := Lib.hid hrv
  clear htv hts hlv hrv
  go_enter Try.func28, Try.ntmps28
  go_wp2_with fail
  refine (HVL.out _ HD.out).mono ?_; rintro e w1 ⟨rfl, hb⟩
  have HB1 := Lib.hid hb
  clear hb
  go_wp2_with fail
  refine (HSC.out _ (HD.out.below HB1.out)).mono ?_; rintro e w2 ⟨rfl, hb⟩
  have HB2 := Lib.hid (below_step HB1.out hb)
  clear hb HB1
  go_wp2_with fail
  go_loopw [31, 11, 10] (fun c s o wr => ∃ (k : Nat) (sm : Int) (v0 : Value), k ≤ B ∧ v0 = o ∧ c = .int .i64 k ∧ s = .int .i64 sm ∧ 0 ≤ sm ∧ sm ≤ 9223372036854775807 ∧ totRun l n (B - k) k sm = tot l wd ∧ wr.ownsRow w.heap.size 3 1 v0 k (icells (wl l n k)) ∧ Below w.heap.size w wr) (fun c _ _ _ => B - (intOf c).toNat)
  case atStart => exact ⟨0, 0, _, Nat.zero_le _, rfl, rfl, rfl, by omega, by omega, HT.out.symm, World.ownsRow_nil _ _ _ _, HB2.out⟩
  case round =>
    obtain ⟨k, sm, v0, hk, rfl, rfl, rfl, s0, s1, hg, hown, hb⟩ := hrel
    have HG := Lib.hid hg
    have HOWN := Lib.hid hown
    have HBL := Lib.hid hb
    clear hg hown hb
    by_cases hlt : k < B
    · have hlt2 : (k : Int) < B := by omega
      have hww := wgt_ways HRV.out n0 k
      have hgo := tot_go (l := l) (n := n) (s := sm) hlt
      have he1 := tot_e1 (l := l) (n := n) (s := sm) hlt
      have he2 := tot_e2 (l := l) (n := n) (s := sm) hlt
      have hsu := wl_succ l n k
      have hwt : ∀ w, DL w v l → Calls Try.prog 42 #[v, .int .i64 n, .int .i64 k] w fun e w' => e = .returned (.tuple #[.int .i64 (wgt l n k).1, .int .i64 (wgt l n k).2]) ∧ Below w.heap.size w w' := fun w h => distWeight w v l n k h HRV.out n0 n1 (by omega) (by omega)
      rw [HG.out] at hgo he1 he2
      generalize wgt l n k = r at *
      obtain ⟨x, er⟩ := r
      simp only at hww hgo he1 he2 hsu hwt
      have HWT := Lib.hid hwt
      clear hwt HG
      rcases hww with ⟨rfl, x0, x1⟩ | hww
      · have had : ∀ w, Calls Try.prog 44 #[.int .i64 sm, .int .i64 x] w fun e w' => e = .returned (.tuple #[.int .i64 (cV (sm + x)), .int .i64 (cE (sm + x))]) ∧ w = w' := fun w => numAdd sm x w (by omega) (by omega) (by omega) (by omega)
        rcases c_ways (sm + x) with ⟨e1, e2, e3, e4⟩ | ⟨e1, e2, e3⟩
        · simp only [e1, e2] at had
          have HAD := Lib.hid had
          have HG := Lib.hid (hgo rfl e2)
          have HSU := Lib.hid hsu
          have HBIG : Hid ((k + 1) * 8 ≤ 140737488355328) := Lib.hid (by omega)
          clear hgo he1 he2 had e1 e2 hsu
          go_wp2_with fail
          refine (HWT.out _ (HD.out.below HBL.out)).mono ?_; rintro e w3 ⟨rfl, hb3⟩
          have HOWN2 := Lib.hid (own_below HOWN.out hb3)
          have HBL2 := Lib.hid (below_step HBL.out hb3)
          clear hb3 HOWN HBL
          go_wp2_with fail
          refine (HAD.out _).mono ?_; rintro e w4 ⟨rfl, rfl⟩
          go_wp2_with (at_builtin; refine wpList_append_own _ rfl _ _ 29 rfl w.heap.size 3 i0 (.int .i64 0) 1 8 Try.underlying29 HI.out HZ0.out HZ1.out HZ2.out rfl (by decide) v0 k (icells (wl l n k)) rfl (HOWN2.out.alloc _) ⟨w3.heap.size, 0, none⟩ 1 1 [.int .i64 x] rfl rfl ?c1 ?c2 ?c3 ?c4 ?c5 ?_)
          case c1 => exact cell_one_new _ _ _
          case c2 => intro u hu; simp at hu; subst hu; rfl
          case c3 => unfold maxLen; omega
          case c4 => exact HBIG.out
          case c5 => exact Nat.le_trans HBL2.out.size (by simp)
          intro v' w5 hown5 hgrow _
          have HOWN5 : Hid (w5.ownsRow w.heap.size 3 1 v' (k + 1) (icells (wl l n (k + 1)))) := by
            rw [HSU.out]
            unfold icells at hown5 ⊢; rw [List.map_append]; exact hown5
          have HBL5 := Lib.hid (below_grown HBL2.out HBL2.out.size HOWN2.out hgrow)
          clear hown5 hgrow
          go_wp2_with fail
          go_roundw
          case rel => exact ⟨k + 1, sm + x, v', by omega, rfl, by go_num, rfl, by omega, by omega, HG.out.symm, HOWN5.out, HBL5.out⟩
          case measure => simp [intOf]; omega
        · simp only [e1, e2] at had
          have HAD := Lib.hid had
          have hE := he2 (by rw [e2]; decide)
          have HE := Lib.hid hE
          have HL := Lib.hid (twl_err hE (by decide))
          clear hgo he1 he2 had e1 e2 e3 hsu hE
          go_wp2_with fail
          refine (HWT.out _ (HD.out.below HBL.out)).mono ?_; rintro e w3 ⟨rfl, hb3⟩
          have HBL2 := Lib.hid (below_step HBL.out hb3)
          clear hb3 HOWN HBL
          go_wp2_with fail
          refine (HAD.out _).mono ?_; rintro e w4 ⟨rfl, rfl⟩
          go_wp2_with fail
          go_ret3
          exact WTL.of HE.out.symm HL.out.symm (IL.nil _) HBL2.out
      · obtain ⟨rfl, rfl⟩ := Prod.mk.inj hww
        have hE := he1 (by decide)
        have HE := Lib.hid hE
        have HL := Lib.hid (twl_err hE (by decide))
        clear hgo he1 he2 hsu hE hww
        go_wp2_with fail
        refine (HWT.out _ (HD.out.below HBL.out)).mono ?_; rintro e w3 ⟨rfl, hb3⟩
        have HBL2 := Lib.hid (below_step HBL.out hb3)
        clear hb3 HOWN HBL
        go_wp2_with fail
        go_ret3
        exact WTL.of HE.out.symm HL.out.symm (IL.nil _) HBL2.out
    · have hkn : k = B := by omega
      have hlt2 : ¬ (k : Int) < B := by omega
      subst hkn
      have hE : (sm, 0) = tot l wd := by have := HG.out; rwa [tot_end] at this
      have HL := Lib.hid (HTW.out _ hE.symm)
      have HE := Lib.hid hE
      have HIL := Lib.hid (IL.of_own HOWN.out)
      clear hE
      go_wp2_with fail
      go_ret3
      exact WTL.of HE.out HL.out.symm HIL.out HBL.out

theorem distTotal (w : World) (v : Value) (l : List Rg) (wd : Int) (h : DL w v l) (hf : LF l) (w0 : -9223372036854775808 ≤ wd) (w1 : wd ≤ 9223372036854775807) :
    Calls Try.prog 11 #[v, .int .i64 wd] w fun e w' => e = .returned (.tuple #[.int .i64 (tot l wd).1, .int .i64 (tot l wd).2]) ∧ Below w.heap.size w w' := by
  have HW := Lib.hid (distWeights w v l wd h hf w0 w1)
  generalize tot l wd = r at *
  generalize twl l wd = zs at *
  obtain ⟨s, er⟩ := r
  clear h hf
  go_enter Try.func11, Try.ntmps11
  go_wp2_with fail
  refine (HW.out).mono ?_; rintro e w1 ⟨v1, rfl, _, hb⟩
  have HB1 := Lib.hid hb
  clear hb
  go_wp2_with fail
  go_ret2
  exact ⟨rfl, HB1.out⟩

end Go.Proofs.Ytiiacapilffhnaa
