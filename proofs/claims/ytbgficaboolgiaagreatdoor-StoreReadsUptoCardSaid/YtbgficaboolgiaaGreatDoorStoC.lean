/-
  Contracts of store's storable and Encode.
-/
import Derived.Test.YtbgficaboolgiaaGreatDoorStoB
import Derived.Test.YtbgficaboolgiaaGreatDoorGenM
import Derived.Deep.CutBlock
import Derived.Deep.CutRange
namespace Go.Proofs.YtbgficaboolgiaaGreatDoor
open Go.RowKit
set_option linter.unusedVariables false
set_option linter.unusedSimpArgs false

set_option maxRecDepth 100000 in
set_option maxHeartbeats 8000000 in
theorem stoStorable (w : World) (p q : Value) (r : Res) (hp : Rs ilR w p r.pts anyB) (hq : Rs ilR w q r.crs anyB) (hz : ResZ r) :
    Calls Tryz.prog 20 #[resV p q r] w fun e w' => e = .returned (.bool (stoB r)) ∧ Below w.heap.size w w' := by
  obtain ⟨z1, z2, z3, z4, z5, z6, z7, z8, z9, ⟨z10, z10'⟩, ⟨z11, z11'⟩⟩ := hz
  have CL1 := Lib.hid (fun W (hW : Below w.heap.size w W) => stoLists W p r.pts (hp.below hW) z10 z10')
  have CL2 := Lib.hid (fun W (hW : Below w.heap.size w W) => stoLists W q r.crs (hq.below hW) z11 z11')
  have HR : Hid (stoB r = ((((decide (r.test.size ≤ 64) && decide (r.design.size ≤ 64)) && decide (r.sign.size ≤ 64)) && ((wiB r.cycle 4096 && wiB r.sent 4096) && wiB r.got 4096)) && lstB r.pts && lstB r.crs && wiB r.smp 1099511627776 && wiB r.ill 1099511627776)) := Lib.hid rfl
  obtain ⟨A2, c2, rfl, hc2⟩ := hp.slice
  obtain ⟨A1, c1, rfl, hc1⟩ := hq.slice
  unfold resV
  unfold maxLen at z1 z2 z3
  obtain ⟨te, se, de, si, cy, sn, gt, ps, cs, sm, il⟩ := r
  simp only at CL1 CL2 HR z1 z2 z3 z4 ⊢
  have CW := Lib.hid (fun n m W => stoWithin n m W)
  generalize lstB ps = b1 at *
  generalize lstB cs = b2 at *
  generalize ps.length = M at *
  generalize cs.length = N at *
  obtain ⟨T, hT⟩ : ∃ T, T = ((decide (te.size ≤ 64) && decide (de.size ≤ 64)) && decide (si.size ≤ 64)) := ⟨_, rfl⟩
  obtain ⟨U, hU⟩ : ∃ U, U = ((wiB cy 4096 && wiB sn 4096) && wiB gt 4096) := ⟨_, rfl⟩
  rw [← hT, ← hU] at HR
  have HT := Lib.hid hT
  have HU := Lib.hid hU
  generalize stoB _ = rr at *
  clear hT hU hp hq hc1 hc2 z10 z10' z11 z11'
  go_enter Tryz.func20, Tryz.ntmps20
  go_upto_region 1 with fail
  have XA := Lib.hid (box_new (W := w) (g := w.heap.size) 28 #[.string te, .int .u64 se, .string de, .string si, .int .i64 cy, .int .i64 sn, .int .i64 gt, .slice A2 M c2, .slice A1 N c1, .int .i64 sm, .int .i64 il] (by simp))
  have HB := Lib.hid (below_alloc w (.cells #[.string te, .int .u64 se, .string de, .string si, .int .i64 cy, .int .i64 sn, .int .i64 gt, .slice A2 M c2, .slice A1 N c1, .int .i64 sm, .int .i64 il] 28))
  generalize w.alloc (.cells #[.string te, .int .u64 se, .string de, .string si, .int .i64 cy, .int .i64 sn, .int .i64 gt, .slice A2 M c2, .slice A1 N c1, .int .i64 sm, .int .i64 il] 28) = w1 at *
  go_cut [0, 1, 2, 3] from 6 to 21 (fun s0 s1 s2 s3 wx => s1 = .pointer (some ⟨w.heap.size, 0, none⟩) ∧ s2 = .bool false ∧ s3 = .bool T ∧ wx = w1)
  case first =>
    have XA_0 := XA.out.at_ 0 _ rfl
    have XA_2 := XA.out.at_ 2 _ rfl
    have XA_3 := XA.out.at_ 3 _ rfl
    by_cases t1 : te.size ≤ 64
    · have t1' : (te.size : Int) ≤ 64 := by omega
      by_cases t2 : de.size ≤ 64
      · have t2' : (de.size : Int) ≤ 64 := by omega
        by_cases t3 : si.size ≤ 64
        · have t3' : (si.size : Int) ≤ 64 := by omega
          have HT2 : Hid (T = true) := Lib.hid (by rw [HT.out]; simp [t1, t2, t3])
          go_wp2_with fail
          go_meet
          exact ⟨rfl, rfl, by rw [HT2.out], rfl⟩
        · have t3' : ¬ (si.size : Int) ≤ 64 := by omega
          have HT2 : Hid (T = false) := Lib.hid (by rw [HT.out]; simp [t1, t2, t3])
          go_wp2_with fail
          go_meet
          exact ⟨rfl, rfl, by rw [HT2.out], rfl⟩
      · have t2' : ¬ (de.size : Int) ≤ 64 := by omega
        have HT2 : Hid (T = false) := Lib.hid (by rw [HT.out]; simp [t1, t2])
        go_wp2_with fail
        go_meet
        exact ⟨rfl, rfl, by rw [HT2.out], rfl⟩
    · have t1' : ¬ (te.size : Int) ≤ 64 := by omega
      have HT2 : Hid (T = false) := Lib.hid (by rw [HT.out]; simp [t1])
      go_wp2_with fail
      go_meet
      exact ⟨rfl, rfl, by rw [HT2.out], rfl⟩
  case rest =>
    obtain ⟨rfl, rfl, rfl, rfl⟩ := hcut
    clear HT
    have W1 := Lib.hid (CW.out cy 4096)
    have W2 := Lib.hid (CW.out sn 4096)
    have W3 := Lib.hid (CW.out gt 4096)
    have W4 := Lib.hid (CW.out sm 1099511627776)
    have W5 := Lib.hid (CW.out il 1099511627776)
    generalize wiB cy 4096 = y1 at *
    generalize wiB sn 4096 = y2 at *
    generalize wiB gt 4096 = y3 at *
    generalize wiB sm 1099511627776 = y4 at *
    generalize wiB il 1099511627776 = y5 at *
    clear CW
    go_upto_region 2 with fail
    go_cut [0, 1, 2, 3, 4] from 22 to 34 (fun s0 s1 s2 s3 s4 wx => s1 = .pointer (some ⟨w.heap.size, 0, none⟩) ∧ s2 = .bool false ∧ s3 = .bool T ∧ s4 = .bool U ∧ wx = wc)
    case first =>
      have XA_4 := XA.out.at_ 4 _ rfl
      have XA_5 := XA.out.at_ 5 _ rfl
      have XA_6 := XA.out.at_ 6 _ rfl
      cases y1
      · have HU2 : Hid (U = false) := Lib.hid (by rw [HU.out]; rfl)
        go_wp2_with fail
        refine (W1.out _).mono ?_; rintro e w2 ⟨rfl, rfl⟩
        go_wp2_with fail
        go_meet
        exact ⟨rfl, rfl, rfl, by rw [HU2.out], rfl⟩
      · cases y2
        · have HU2 : Hid (U = false) := Lib.hid (by rw [HU.out]; rfl)
          go_wp2_with fail
          refine (W1.out _).mono ?_; rintro e w2 ⟨rfl, rfl⟩
          go_wp2_with fail
          refine (W2.out _).mono ?_; rintro e w2 ⟨rfl, rfl⟩
          go_wp2_with fail
          go_meet
          exact ⟨rfl, rfl, rfl, by rw [HU2.out], rfl⟩
        · have HU2 : Hid (U = y3) := Lib.hid (by rw [HU.out]; rfl)
          go_wp2_with fail
          refine (W1.out _).mono ?_; rintro e w2 ⟨rfl, rfl⟩
          go_wp2_with fail
          refine (W2.out _).mono ?_; rintro e w2 ⟨rfl, rfl⟩
          go_wp2_with fail
          refine (W3.out _).mono ?_; rintro e w2 ⟨rfl, rfl⟩
          go_wp2_with fail
          go_meet
          exact ⟨rfl, rfl, rfl, by rw [HU2.out], rfl⟩
    case rest =>
      obtain ⟨rfl, rfl, rfl, rfl, rfl⟩ := hcut
      clear HU W1 W2 W3
      have XA_7 := XA.out.at_ 7 _ rfl
      have XA_8 := XA.out.at_ 8 _ rfl
      have XA_9 := XA.out.at_ 9 _ rfl
      have XA_10 := XA.out.at_ 10 _ rfl
      go_upto_region 4 with fail
      clear XA_10
      have XC := Lib.hid (box_new (W := wc) (g := wc.heap.size) 26 #[.slice A2 M c2, .slice A1 N c1, .int .i64 sm, .int .i64 il] (by simp))
      have hba := (below_alloc wc (.cells #[.slice A2 M c2, .slice A1 N c1, .int .i64 sm, .int .i64 il] 26))
      replace HB := Lib.hid (below_step HB.out hba)
      clear hba
      generalize wc.alloc (.cells #[.slice A2 M c2, .slice A1 N c1, .int .i64 sm, .int .i64 il] 26) = w2 at *
      have XC_0 := XC.out.at_ 0 _ rfl
      have XC_1 := XC.out.at_ 1 _ rfl
      have XC_2 := XC.out.at_ 2 _ rfl
      have XC_3 := XC.out.at_ 3 _ rfl
      cases T
      · have HR2 : Hid (rr = false) := Lib.hid (by rw [HR.out]; rfl)
        go_wp2_with fail
        go_ret
        exact ⟨by rw [HR2.out]; rfl, HB.out⟩
      cases U
      · have HR2 : Hid (rr = false) := Lib.hid (by rw [HR.out]; rfl)
        go_wp2_with fail
        go_ret
        exact ⟨by rw [HR2.out]; rfl, HB.out⟩
      cases b1
      · have HR2 : Hid (rr = false) := Lib.hid (by rw [HR.out]; rfl)
        go_wp2_with fail
        refine (CL1.out _ HB.out).mono ?_; rintro e w3 ⟨rfl, hb⟩
        clear XC_0 XC_1 XC_2 XC_3
        replace XC := Lib.hid (XC.out.below hb)
        replace HB := Lib.hid (below_step HB.out hb)
        clear hb
        go_wp2_with fail
        go_ret
        exact ⟨by rw [HR2.out]; rfl, HB.out⟩
      cases b2
      · have HR2 : Hid (rr = false) := Lib.hid (by rw [HR.out]; rfl)
        go_wp2_with fail
        refine (CL1.out _ HB.out).mono ?_; rintro e w3 ⟨rfl, hb⟩
        clear XC_0 XC_1 XC_2 XC_3
        replace XC := Lib.hid (XC.out.below hb)
        replace HB := Lib.hid (below_step HB.out hb)
        clear hb
        have XC_0 := XC.out.at_ 0 _ rfl
        have XC_1 := XC.out.at_ 1 _ rfl
        have XC_2 := XC.out.at_ 2 _ rfl
        have XC_3 := XC.out.at_ 3 _ rfl
        go_wp2_with fail
        clear XC_0 XC_1 XC_2 XC_3
        refine (CL2.out _ HB.out).mono ?_; rintro e w4 ⟨rfl, hb⟩
        replace XC := Lib.hid (XC.out.below hb)
        replace HB := Lib.hid (below_step HB.out hb)
        clear hb
        go_wp2_with fail
        go_ret
        exact ⟨by rw [HR2.out]; rfl, HB.out⟩
      cases y4
      · have HR2 : Hid (rr = false) := Lib.hid (by rw [HR.out]; rfl)
        go_wp2_with fail
        refine (CL1.out _ HB.out).mono ?_; rintro e w3 ⟨rfl, hb⟩
        clear XC_0 XC_1 XC_2 XC_3
        replace XC := Lib.hid (XC.out.below hb)
        replace HB := Lib.hid (below_step HB.out hb)
        clear hb
        have XC_0 := XC.out.at_ 0 _ rfl
        have XC_1 := XC.out.at_ 1 _ rfl
        have XC_2 := XC.out.at_ 2 _ rfl
        have XC_3 := XC.out.at_ 3 _ rfl
        go_wp2_with fail
        clear XC_0 XC_1 XC_2 XC_3
        refine (CL2.out _ HB.out).mono ?_; rintro e w4 ⟨rfl, hb⟩
        replace XC := Lib.hid (XC.out.below hb)
        replace HB := Lib.hid (below_step HB.out hb)
        clear hb
        have XC_0 := XC.out.at_ 0 _ rfl
        have XC_1 := XC.out.at_ 1 _ rfl
        have XC_2 := XC.out.at_ 2 _ rfl
        have XC_3 := XC.out.at_ 3 _ rfl
        go_wp2_with fail
        clear XC_0 XC_1 XC_2 XC_3
        refine (W4.out _).mono ?_; rintro e w5 ⟨rfl, rfl⟩
        go_wp2_with fail
        go_ret
        exact ⟨by rw [HR2.out]; rfl, HB.out⟩
      · have HR2 : Hid (rr = y5) := Lib.hid (by rw [HR.out]; rfl)
        go_wp2_with fail
        refine (CL1.out _ HB.out).mono ?_; rintro e w3 ⟨rfl, hb⟩
        clear XC_0 XC_1 XC_2 XC_3
        replace XC := Lib.hid (XC.out.below hb)
        replace HB := Lib.hid (below_step HB.out hb)
        clear hb
        have XC_0 := XC.out.at_ 0 _ rfl
        have XC_1 := XC.out.at_ 1 _ rfl
        have XC_2 := XC.out.at_ 2 _ rfl
        have XC_3 := XC.out.at_ 3 _ rfl
        go_wp2_with fail
        clear XC_0 XC_1 XC_2 XC_3
        refine (CL2.out _ HB.out).mono ?_; rintro e w4 ⟨rfl, hb⟩
        replace XC := Lib.hid (XC.out.below hb)
        replace HB := Lib.hid (below_step HB.out hb)
        clear hb
        have XC_0 := XC.out.at_ 0 _ rfl
        have XC_1 := XC.out.at_ 1 _ rfl
        have XC_2 := XC.out.at_ 2 _ rfl
        have XC_3 := XC.out.at_ 3 _ rfl
        go_wp2_with fail
        clear XC_0 XC_1 XC_2 XC_3
        refine (W4.out _).mono ?_; rintro e w5 ⟨rfl, rfl⟩
        have XC_0 := XC.out.at_ 0 _ rfl
        have XC_1 := XC.out.at_ 1 _ rfl
        have XC_2 := XC.out.at_ 2 _ rfl
        have XC_3 := XC.out.at_ 3 _ rfl
        go_wp2_with fail
        clear XC_0 XC_1 XC_2 XC_3
        refine (W5.out _).mono ?_; rintro e w6 ⟨rfl, rfl⟩
        go_wp2_with fail
        go_ret
        exact ⟨by rw [HR2.out]; rfl, HB.out⟩

end Go.Proofs.YtbgficaboolgiaaGreatDoor
