/-
  Contract of store's Encode.
-/
import Derived.Test.YtbgficaboolgiaaGreatDoorStoC
namespace Go.Proofs.YtbgficaboolgiaaGreatDoor
open Go.RowKit
set_option linter.unusedVariables false
set_option linter.unusedSimpArgs false

theorem mkS_bl (s : ByteArray) : mkS s.data.toList = s := bytes_eq (by show bl (mkS _) = bl s; unfold bl; rw [mkS_data])

set_option maxRecDepth 100000 in
set_option maxHeartbeats 8000000 in
theorem stoEncode (w : World) (p q : Value) (r : Res) (hp : Rs ilR w p r.pts anyB) (hq : Rs ilR w q r.crs anyB) (hz : ResZ r) (ht : Tab w) :
    Calls Tryz.prog 11 #[resV p q r] w fun e w' => e = .returned (.tuple #[.string (encT r).1, .int .i64 (encT r).2]) ∧ Below w.heap.size w w' := by
  have CS := Lib.hid (fun W (hW : Below w.heap.size w W) => stoStorable W p q r (hp.below hW) (hq.below hW) hz)
  have HE : Hid (encT r = if stoB r = true then (mkS (sealL (bodyL r)), 0) else (⟨#[]⟩, 1)) := Lib.hid rfl
  cases hv : stoB r
  · have HR : Hid (encT r = (⟨#[]⟩, 1)) := Lib.hid (by rw [HE.out, hv]; rfl)
    rw [hv] at CS
    obtain ⟨A2, c2, rfl, hc2⟩ := hp.slice
    obtain ⟨A1, c1, rfl, hc1⟩ := hq.slice
    generalize encT r = en at *
    clear HE hv hp hq hz ht hc1 hc2
    obtain ⟨te, se, de, si, cy, sn, gt, ps, cs, sm, il⟩ := r
    unfold resV at CS ⊢
    simp only at CS ⊢
    generalize ps.length = M at *
    generalize cs.length = N at *
    go_enter Tryz.func11, Tryz.ntmps11
    go_upto_region 1 with fail
    have XA := Lib.hid (box_new (W := w) (g := w.heap.size) 28 #[.string te, .int .u64 se, .string de, .string si, .int .i64 cy, .int .i64 sn, .int .i64 gt, .slice A2 M c2, .slice A1 N c1, .int .i64 sm, .int .i64 il] (by simp))
    have HB := Lib.hid (below_alloc w (.cells #[.string te, .int .u64 se, .string de, .string si, .int .i64 cy, .int .i64 sn, .int .i64 gt, .slice A2 M c2, .slice A1 N c1, .int .i64 sm, .int .i64 il] 28))
    generalize w.alloc (.cells #[.string te, .int .u64 se, .string de, .string si, .int .i64 cy, .int .i64 sn, .int .i64 gt, .slice A2 M c2, .slice A1 N c1, .int .i64 sm, .int .i64 il] 28) = w1 at *
    have XA_0 := XA.out.at_ 0 _ rfl
    have XA_1 := XA.out.at_ 1 _ rfl
    have XA_2 := XA.out.at_ 2 _ rfl
    have XA_3 := XA.out.at_ 3 _ rfl
    have XA_4 := XA.out.at_ 4 _ rfl
    have XA_5 := XA.out.at_ 5 _ rfl
    have XA_6 := XA.out.at_ 6 _ rfl
    have XA_7 := XA.out.at_ 7 _ rfl
    have XA_8 := XA.out.at_ 8 _ rfl
    have XA_9 := XA.out.at_ 9 _ rfl
    have XA_10 := XA.out.at_ 10 _ rfl
    go_wp2_with fail
    clear XA_10
    refine (CS.out _ HB.out).mono ?_; rintro e w2 ⟨rfl, hb⟩
    clear XA_0 XA_1 XA_2 XA_3 XA_4 XA_5 XA_6 XA_7 XA_8 XA_9
    replace XA := Lib.hid (XA.out.below hb)
    replace HB := Lib.hid (below_step HB.out hb)
    clear hb
    go_wp2_with fail
    go_ret2
    exact ⟨by rw [HR.out]; rfl, HB.out⟩
  rw [hv] at CS
  have HR : Hid (encT r = (mkS (sealL (bodyL r)), 0)) := Lib.hid (by rw [HE.out, hv]; rfl)
  obtain ⟨⟨s1, s2, s3⟩, ⟨⟨n1, n1'⟩, ⟨n2, n2'⟩, n3, n3'⟩, l1, l2, ⟨n4, n4'⟩, n5, n5'⟩ := sto_parts hv
  have hblen := body_len hv
  have hse := hz.2.2.2.1
  have T1 := Lib.hid (fun W (hW : Below w.heap.size w W) => packText W r.test (by omega) (ht.below hW))
  have T0 := Lib.hid (fun W => hashHex r.seed hse W)
  have T2 := Lib.hid (fun W (hW : Below w.heap.size w W) => packText W (hexS r.seed) (by rw [hexS_size]; omega) (ht.below hW))
  have T3 := Lib.hid (fun W (hW : Below w.heap.size w W) => packText W r.design (by omega) (ht.below hW))
  have T4 := Lib.hid (fun W (hW : Below w.heap.size w W) => packText W r.sign (by omega) (ht.below hW))
  have N1 := Lib.hid (fun W (hW : Below w.heap.size w W) => packNumber W r.cycle (by omega) (by omega) (ht.below hW))
  have N2 := Lib.hid (fun W (hW : Below w.heap.size w W) => packNumber W r.sent (by omega) (by omega) (ht.below hW))
  have N3 := Lib.hid (fun W (hW : Below w.heap.size w W) => packNumber W r.got (by omega) (by omega) (ht.below hW))
  have P1 := Lib.hid (fun W (hW : Below w.heap.size w W) => stoPacked W p r.pts (hp.below hW) l1 (ht.below hW))
  have P2 := Lib.hid (fun W (hW : Below w.heap.size w W) => stoPacked W q r.crs (hq.below hW) l2 (ht.below hW))
  have N4 := Lib.hid (fun W (hW : Below w.heap.size w W) => packNumber W r.smp (by omega) (by omega) (ht.below hW))
  have N5 := Lib.hid (fun W (hW : Below w.heap.size w W) => packNumber W r.ill (by omega) (by omega) (ht.below hW))
  have HBL : Hid (bodyL r = pText r.test ++ (pText (hexS r.seed) ++ (pText r.design ++ (pText r.sign ++ (pNum r.cycle ++ (pNum r.sent ++ (pNum r.got ++ (lstL r.pts ++ (lstL r.crs ++ (pNum r.smp ++ pNum r.ill)))))))))) := Lib.hid rfl
  have hs0 : (⟨(hexL r.seed 16).toArray⟩ : ByteArray) = hexS r.seed := rfl
  rw [hs0] at T0
  obtain ⟨A2, c2, rfl, hc2⟩ := hp.slice
  obtain ⟨A1, c1, rfl, hc1⟩ := hq.slice
  generalize encT r = en at *
  generalize bodyL r = bd at *
  clear HE hv hp hq hz ht hc1 hc2 s1 s2 s3 n1 n1' n2 n2' n3 n3' n4 n4' n5 n5' l1 l2 hs0
  obtain ⟨te, se, de, si, cy, sn, gt, ps, cs, sm, il⟩ := r
  unfold resV at CS ⊢
  simp only at CS T0 T1 T2 T3 T4 N1 N2 N3 N4 N5 P1 P2 HBL ⊢
  generalize ps.length = M at *
  generalize cs.length = N at *
  generalize hexS se = hx at *
  generalize pText te = x1 at *
  generalize pText hx = x2 at *
  generalize pText de = x3 at *
  generalize pText si = x4 at *
  generalize pNum cy = x5 at *
  generalize pNum sn = x6 at *
  generalize pNum gt = x7 at *
  generalize lstL ps = x8 at *
  generalize lstL cs = x9 at *
  generalize pNum sm = xa at *
  generalize pNum il = xb at *
  have hl := hblen
  rw [HBL.out] at hl
  simp only [List.length_append] at hl
  have CSe := Lib.hid (fun W => hashSeal (mkS bd) (by rw [mkS_size]; omega) W)
  rw [mkS_data] at CSe
  clear hblen
  go_enter Tryz.func11, Tryz.ntmps11
  go_upto_region 1 with fail
  have XA := Lib.hid (box_new (W := w) (g := w.heap.size) 28 #[.string te, .int .u64 se, .string de, .string si, .int .i64 cy, .int .i64 sn, .int .i64 gt, .slice A2 M c2, .slice A1 N c1, .int .i64 sm, .int .i64 il] (by simp))
  have HB := Lib.hid (below_alloc w (.cells #[.string te, .int .u64 se, .string de, .string si, .int .i64 cy, .int .i64 sn, .int .i64 gt, .slice A2 M c2, .slice A1 N c1, .int .i64 sm, .int .i64 il] 28))
  generalize w.alloc (.cells #[.string te, .int .u64 se, .string de, .string si, .int .i64 cy, .int .i64 sn, .int .i64 gt, .slice A2 M c2, .slice A1 N c1, .int .i64 sm, .int .i64 il] 28) = w1 at *
  have XA_0 := XA.out.at_ 0 _ rfl
  have XA_1 := XA.out.at_ 1 _ rfl
  have XA_2 := XA.out.at_ 2 _ rfl
  have XA_3 := XA.out.at_ 3 _ rfl
  have XA_4 := XA.out.at_ 4 _ rfl
  have XA_5 := XA.out.at_ 5 _ rfl
  have XA_6 := XA.out.at_ 6 _ rfl
  have XA_7 := XA.out.at_ 7 _ rfl
  have XA_8 := XA.out.at_ 8 _ rfl
  have XA_9 := XA.out.at_ 9 _ rfl
  have XA_10 := XA.out.at_ 10 _ rfl
  go_wp2_with fail
  clear XA_10
  refine (CS.out _ HB.out).mono ?_; rintro e w2 ⟨rfl, hb⟩
  clear XA_0 XA_1 XA_2 XA_3 XA_4 XA_5 XA_6 XA_7 XA_8 XA_9
  replace XA := Lib.hid (XA.out.below hb)
  replace HB := Lib.hid (below_step HB.out hb)
  clear hb
  clear CS
  have z1 : (mkS x1).size = x1.length := mkS_size _
  have z2 : (mkS x2).size = x2.length := mkS_size _
  have z3 : (mkS x3).size = x3.length := mkS_size _
  have z4 : (mkS x4).size = x4.length := mkS_size _
  have f1 : ¬ 9223372036854775807 < (mkS x1).size + (mkS x2).size := by omega
  have f2 : ¬ 9223372036854775807 < (mkS x1 ++ mkS x2).size + (mkS x3).size := by rw [ByteArray.size_append]; omega
  have f2' : ¬ 9223372036854775807 < (mkS x1).size + (mkS x2).size + (mkS x3).size := by omega
  have f3 : ¬ 9223372036854775807 < ((mkS x1 ++ mkS x2) ++ mkS x3).size + (mkS x4).size := by rw [ByteArray.size_append, ByteArray.size_append]; omega
  have f3' : ¬ 9223372036854775807 < (mkS x1).size + (mkS x2).size + (mkS x3).size + (mkS x4).size := by omega
  clear z1 z2 z3 z4
  go_upto_region 3 with fail
  have l0 := XA.out.lat 0 _ rfl
  have l1 := XA.out.lat 1 _ rfl
  have l2 := XA.out.lat 2 _ rfl
  have l3 := XA.out.lat 3 _ rfl
  have V1 := Lib.hid (fun p : Lat w2 => T1.out p.w (below_step HB.out p.h))
  have V0 := Lib.hid (fun p : Lat w2 => T0.out p.w)
  have V2 := Lib.hid (fun p : Lat w2 => T2.out p.w (below_step HB.out p.h))
  have V3 := Lib.hid (fun p : Lat w2 => T3.out p.w (below_step HB.out p.h))
  have V4 := Lib.hid (fun p : Lat w2 => T4.out p.w (below_step HB.out p.h))
  refine wp_region_lat (by kernel_rfl) (by kernel_rfl) ?_
  repeat (go_big_quiet_step (first | with_reducible exact lat_call (V1.out _) | with_reducible exact lat_call (V0.out _) | with_reducible exact lat_call (V2.out _) | with_reducible exact lat_call (V3.out _) | with_reducible exact lat_call (V4.out _)))
  refine wpQuiet_nil ?_; intro w3 hb
  clear l0 l1 l2 l3 V0 V1 V2 V3 V4 f1 f2 f2' f3 f3' T0 T1 T2 T3 T4
  replace XA := Lib.hid (XA.out.below hb)
  replace HB := Lib.hid (below_step HB.out hb)
  clear hb
  rw [mkS_app, mkS_app, mkS_app]
  obtain ⟨a1, ha1⟩ : ∃ a, a = ((x1 ++ x2) ++ x3) ++ x4 := ⟨_, rfl⟩
  rw [← ha1]
  have HA1 := Lib.hid ha1
  have la1 : a1.length ≤ 300000 := by rw [ha1]; simp only [List.length_append]; omega
  clear ha1
  have z0 : (mkS a1).size = a1.length := mkS_size _
  have z1 : (mkS x5).size = x5.length := mkS_size _
  have z2 : (mkS x6).size = x6.length := mkS_size _
  have z3 : (mkS x7).size = x7.length := mkS_size _
  have f1 : ¬ 9223372036854775807 < (mkS x5).size + (mkS x6).size := by omega
  have f2 : ¬ 9223372036854775807 < (mkS x5 ++ mkS x6).size + (mkS x7).size := by rw [ByteArray.size_append]; omega
  have f2' : ¬ 9223372036854775807 < (mkS x5).size + (mkS x6).size + (mkS x7).size := by omega
  have f3 : ¬ 9223372036854775807 < (mkS a1).size + ((mkS x5 ++ mkS x6) ++ mkS x7).size := by rw [ByteArray.size_append, ByteArray.size_append]; omega
  have f3' : ¬ 9223372036854775807 < (mkS a1).size + ((mkS x5).size + (mkS x6).size + (mkS x7).size) := by omega
  clear z0 z1 z2 z3
  go_upto_region 4 with fail
  have l4 := XA.out.lat 4 _ rfl
  have l5 := XA.out.lat 5 _ rfl
  have l6 := XA.out.lat 6 _ rfl
  have V1 := Lib.hid (fun p : Lat w3 => N1.out p.w (below_step HB.out p.h))
  have V2 := Lib.hid (fun p : Lat w3 => N2.out p.w (below_step HB.out p.h))
  have V3 := Lib.hid (fun p : Lat w3 => N3.out p.w (below_step HB.out p.h))
  refine wp_region_lat (by kernel_rfl) (by kernel_rfl) ?_
  repeat (go_big_quiet_step (first | with_reducible exact lat_call (V1.out _) | with_reducible exact lat_call (V2.out _) | with_reducible exact lat_call (V3.out _)))
  refine wpQuiet_nil ?_; intro w4 hb
  clear l4 l5 l6 V1 V2 V3 f1 f2 f2' f3 f3' N1 N2 N3
  replace XA := Lib.hid (XA.out.below hb)
  replace HB := Lib.hid (below_step HB.out hb)
  clear hb
  rw [mkS_app, mkS_app, mkS_app]
  obtain ⟨a2, ha2⟩ : ∃ a, a = a1 ++ ((x5 ++ x6) ++ x7) := ⟨_, rfl⟩
  rw [← ha2]
  have HA2 := Lib.hid ha2
  have la2 : a2.length ≤ 600000 := by rw [ha2]; simp only [List.length_append]; omega
  clear ha2
  have z0 : (mkS a2).size = a2.length := mkS_size _
  have z1 : (mkS x8).size = x8.length := mkS_size _
  have z2 : (mkS x9).size = x9.length := mkS_size _
  have f1 : ¬ 9223372036854775807 < (mkS x8).size + (mkS x9).size := by omega
  have f3 : ¬ 9223372036854775807 < (mkS a2).size + (mkS x8 ++ mkS x9).size := by rw [ByteArray.size_append]; omega
  have f3' : ¬ 9223372036854775807 < (mkS a2).size + ((mkS x8).size + (mkS x9).size) := by omega
  clear z0 z1 z2
  go_upto_region 5 with fail
  have l7 := XA.out.lat 7 _ rfl
  have l8 := XA.out.lat 8 _ rfl
  have V1 := Lib.hid (fun p : Lat w4 => P1.out p.w (below_step HB.out p.h))
  have V2 := Lib.hid (fun p : Lat w4 => P2.out p.w (below_step HB.out p.h))
  refine wp_region_lat (by kernel_rfl) (by kernel_rfl) ?_
  repeat (go_big_quiet_step (first | with_reducible exact lat_call (V1.out _) | with_reducible exact lat_call (V2.out _)))
  refine wpQuiet_nil ?_; intro w5 hb
  clear l7 l8 V1 V2 f1 f3 f3' P1 P2
  replace XA := Lib.hid (XA.out.below hb)
  replace HB := Lib.hid (below_step HB.out hb)
  clear hb
  rw [mkS_app, mkS_app]
  obtain ⟨a3, ha3⟩ : ∃ a, a = a2 ++ (x8 ++ x9) := ⟨_, rfl⟩
  rw [← ha3]
  have HA3 := Lib.hid ha3
  have la3 : a3.length ≤ 900000 := by rw [ha3]; simp only [List.length_append]; omega
  clear ha3
  have z0 : (mkS a3).size = a3.length := mkS_size _
  have z1 : (mkS xa).size = xa.length := mkS_size _
  have z2 : (mkS xb).size = xb.length := mkS_size _
  have f1 : ¬ 9223372036854775807 < (mkS xa).size + (mkS xb).size := by omega
  have f3 : ¬ 9223372036854775807 < (mkS a3).size + (mkS xa ++ mkS xb).size := by rw [ByteArray.size_append]; omega
  have f3' : ¬ 9223372036854775807 < (mkS a3).size + ((mkS xa).size + (mkS xb).size) := by omega
  clear z0 z1 z2
  go_upto_region 6 with fail
  have l9 := XA.out.lat 9 _ rfl
  have l10 := XA.out.lat 10 _ rfl
  have V1 := Lib.hid (fun p : Lat w5 => N4.out p.w (below_step HB.out p.h))
  have V2 := Lib.hid (fun p : Lat w5 => N5.out p.w (below_step HB.out p.h))
  refine wp_region_lat (by kernel_rfl) (by kernel_rfl) ?_
  repeat (go_big_quiet_step (first | with_reducible exact lat_call (V1.out _) | with_reducible exact lat_call (V2.out _)))
  refine wpQuiet_nil ?_; intro w6 hb
  clear l9 l10 V1 V2 f1 f3 f3' N4 N5
  replace XA := Lib.hid (XA.out.below hb)
  replace HB := Lib.hid (below_step HB.out hb)
  clear hb
  rw [mkS_app, mkS_app]
  have HEQ : Hid (a3 ++ (xa ++ xb) = bd) := Lib.hid (by rw [HA3.out, HA2.out, HA1.out, HBL.out]; simp only [List.append_assoc])
  rw [HEQ.out]
  clear HEQ HA1 HA2 HA3 HBL
  go_wp2_with fail
  refine (CSe.out _).mono ?_; rintro e w7 ⟨rfl, hb⟩
  replace XA := Lib.hid (XA.out.below hb)
  replace HB := Lib.hid (below_step HB.out hb)
  clear hb
  go_wp2_with fail
  go_ret2
  exact ⟨by rw [HR.out]; rfl, HB.out⟩

end Go.Proofs.YtbgficaboolgiaaGreatDoor
