/-
  Contracts of the reference's digits and Label.
-/
import Derived.Test.YtbgficaboolgiaaDoorStoFa
namespace Go.Proofs.YtbgficaboolgiaaDoor
open Go.RowKit
set_option linter.unusedVariables false
set_option linter.unusedSimpArgs false

set_option maxRecDepth 100000 in
set_option maxHeartbeats 4000000 in
theorem refDig (n : Nat) (hn : n < 18446744073709551616) (w : World) :
    Calls Tryd.prog 82 #[.int .u64 n] w fun e w' => e = .returned (.string (mkS (Lib.decDigits n))) ∧ Below w.heap.size w w' := by
  have HL : Hid ((Lib.decDigits n).length ≤ 20) := Lib.hid (dec_len20 hn)
  go_enter Tryd.func82, Tryd.ntmps82
  go_wp2_with fail
  go_loopw [0, 3] (fun nv sv wr => ∃ (y : Nat) (t : ByteArray), nv = .int .u64 y ∧ sv = .string t ∧ y < 18446744073709551616 ∧ t.size ≤ 20 ∧ Hid (mkS (Lib.decDigits n) = mkS (Lib.decDigits y) ++ t) ∧ Below w.heap.size w wr) (fun nv _ _ => (intOf nv).toNat)
  case atStart => exact ⟨n, ⟨#[]⟩, rfl, rfl, hn, by decide, Lib.hid (bytes_eq (by show _ = (mkS _ ++ _ : ByteArray).data.toList; rw [ByteArray.data_append, Array.toList_append]; simp)), Below.refl _ _⟩
  case round =>
    obtain ⟨y, t, rfl, rfl, hy, hts, HD, hb⟩ := hrel
    have HB := Lib.hid hb
    clear hb
    by_cases h10 : y < 10
    · have h9 : ¬ 9 < (y : Int) := by omega
      obtain ⟨c, hc⟩ : ∃ c : UInt8, c = UInt8.ofNat (48 + y) := ⟨_, rfl⟩
      have hct : (48 + (y : Int)) = (c.toNat : Int) := by
        have : c.toNat = 48 + y := by rw [hc]; simp; omega
        omega
      have hcv := conv_one (wr.alloc (.cells #[.int .u8 (48 + (y : Int))] 5)) wr.heap.size c (48 + (y : Int)) hct (by simp [go_sem])
      have w2 : IntKind.u64.wrap (48 + (y : Int)) = 48 + (y : Int) := IntWalk.u64_in _ (by omega)
      have w3 : IntKind.u8.wrap (48 + (y : Int)) = 48 + (y : Int) := by simp [IntKind.wrap, IntKind.bits, IntKind.signed]; omega
      have hd : mkS (Lib.decDigits n) = ⟨#[c]⟩ ++ t := by rw [HD.out, Lib.decDigits, dif_pos h10, ← hc]; rfl
      have HR := Lib.hid hd
      have f1 : ¬ 9223372036854775807 < (⟨#[c]⟩ : ByteArray).size + t.size := by show ¬ _ < 1 + t.size; omega
      have f1' : ¬ 9223372036854775807 < 1 + t.size := by omega
      clear hd hc hct HD
      go_wp2_with fail
      go_ret
      exact ⟨by rw [HR.out]; rfl, below_step HB.out (below_alloc _ _)⟩
    · have h9 : 9 < (y : Int) := by omega
      obtain ⟨q, hq⟩ : ∃ q, q = y / 10 := ⟨_, rfl⟩
      obtain ⟨r, hr⟩ : ∃ r, r = y % 10 := ⟨_, rfl⟩
      obtain ⟨c, hc⟩ : ∃ c : UInt8, c = UInt8.ofNat (48 + r) := ⟨_, rfl⟩
      have hct : (48 + (r : Int)) = (c.toNat : Int) := by
        have : c.toNat = 48 + r := by rw [hc]; simp; omega
        omega
      have hcv := conv_one (wr.alloc (.cells #[.int .u8 (48 + (r : Int))] 5)) wr.heap.size c (48 + (r : Int)) hct (by simp [go_sem])
      have e1 : (y : Int).tmod 10 = (r : Int) := by rw [Int.tmod_eq_emod_of_nonneg (by omega)]; omega
      have e2 : (y : Int).tdiv 10 = (q : Int) := by rw [Int.tdiv_eq_ediv_of_nonneg (by omega)]; omega
      have w0 : IntKind.u64.wrap (r : Int) = (r : Int) := IntWalk.u64_in _ (by omega)
      have w1 : IntKind.u64.wrap (q : Int) = (q : Int) := IntWalk.u64_in _ (by omega)
      have w2 : IntKind.u64.wrap (48 + (r : Int)) = 48 + (r : Int) := IntWalk.u64_in _ (by omega)
      have w3 : IntKind.u8.wrap (48 + (r : Int)) = 48 + (r : Int) := by simp [IntKind.wrap, IntKind.bits, IntKind.signed]; omega
      have hd : mkS (Lib.decDigits n) = mkS (Lib.decDigits q) ++ (⟨#[c]⟩ ++ t) := by
        rw [HD.out, ← ByteArray.append_assoc]
        congr 1
        refine bytes_eq ?_
        rw [mkS_data, Lib.decDigits, dif_neg h10, ← hq, ← hr, ← hc]
        simp [mkS]
      have HR := Lib.hid hd
      have hs1 : (⟨#[c]⟩ ++ t : ByteArray).size ≤ 20 := by
        have h1 := congrArg ByteArray.size hd
        rw [ByteArray.size_append, mkS_size] at h1
        have := HL.out
        rw [mkS_size] at h1
        omega
      have hq1 : q < 18446744073709551616 := by omega
      have hqy : q < y := by omega
      have f1 : ¬ 9223372036854775807 < (⟨#[c]⟩ : ByteArray).size + t.size := by show ¬ _ < 1 + t.size; omega
      have f1' : ¬ 9223372036854775807 < 1 + t.size := by omega
      have HB2 := Lib.hid (below_step HB.out (below_alloc wr (.cells #[.int .u8 (48 + (r : Int))] 5)))
      clear hd hc hct HD hq hr HB h10
      go_wp2_with fail
      go_roundw
      case rel => exact ⟨q, _, by first | rfl | go_num, rfl, hq1, hs1, HR, HB2.out⟩
      case measure => simp [intOf] <;> omega

set_option maxRecDepth 100000 in
set_option maxHeartbeats 4000000 in
theorem refLabel (w : World) (p q : Value) (r : Res) (hp : ∃ A n c, p = .slice A n c) (hq : ∃ A n c, q = .slice A n c) (hz : LabZ r) :
    Calls Tryd.prog 55 #[resV p q r] w fun e w' => e = .returned (.string (labS r)) ∧ Below w.heap.size w w' := by
  obtain ⟨h1, h2⟩ := hz
  have CF := Lib.hid (fun W => refDig r.seed h2 W)
  have HE := Lib.hid (lab_eq r)
  have hd : (mkS (Lib.decDigits r.seed)).size ≤ 20 := by rw [mkS_size]; exact dec_len20 h2
  generalize labS r = lb at *
  generalize mkS (Lib.decDigits r.seed) = ds at *
  obtain ⟨te, se, de, si, cy, sn, gt, ps, cs, sm, il⟩ := r
  obtain ⟨A2, M, c2, rfl⟩ := hp
  obtain ⟨A1, N, c1, rfl⟩ := hq
  unfold resV
  simp only at CF HE h1 h2 ⊢
  have f1 : ¬ 9223372036854775807 < te.size + 1 := by omega
  have f1' : ¬ 9223372036854775807 < te.size + (⟨#[32]⟩ : ByteArray).size := by show ¬ _ < te.size + 1; omega
  have f2 : ¬ 9223372036854775807 < (te ++ ⟨#[32]⟩).size + ds.size := by rw [ByteArray.size_append]; show ¬ _ < te.size + 1 + _; omega
  have f2' : ¬ 9223372036854775807 < te.size + 1 + ds.size := by omega
  have f2'' : ¬ 9223372036854775807 < te.size + (⟨#[32]⟩ : ByteArray).size + ds.size := by show ¬ _ < te.size + 1 + _; omega
  clear hd h1 h2
  go_enter Tryd.func55, Tryd.ntmps55
  go_upto_region 1 with fail
  have XA := Lib.hid (box_new (W := w) (g := w.heap.size) 27 #[.string te, .int .u64 se, .string de, .string si, .int .i64 cy, .int .i64 sn, .int .i64 gt, .slice A2 M c2, .slice A1 N c1, .int .i64 sm, .int .i64 il] (by simp))
  have HB := Lib.hid (below_alloc w (.cells #[.string te, .int .u64 se, .string de, .string si, .int .i64 cy, .int .i64 sn, .int .i64 gt, .slice A2 M c2, .slice A1 N c1, .int .i64 sm, .int .i64 il] 27))
  generalize w.alloc (.cells #[.string te, .int .u64 se, .string de, .string si, .int .i64 cy, .int .i64 sn, .int .i64 gt, .slice A2 M c2, .slice A1 N c1, .int .i64 sm, .int .i64 il] 27) = w1 at *
  have l0 := XA.out.lat 0 _ rfl
  have l1 := XA.out.lat 1 _ rfl
  have V1 := Lib.hid (fun p : Lat w1 => CF.out p.w)
  refine wp_region_lat (by kernel_rfl) (by kernel_rfl) ?_
  repeat (go_big_quiet_step (first | with_reducible exact lat_call (V1.out _)))
  refine wpQuiet_nil ?_; intro w3 hb
  clear l0 l1 V1 f1 f1' f2 f2' f2''
  replace XA := Lib.hid (XA.out.below hb)
  replace HB := Lib.hid (below_step HB.out hb)
  clear hb
  go_wp2_with fail
  go_ret
  exact ⟨by rw [HE.out]; rfl, HB.out⟩

end Go.Proofs.YtbgficaboolgiaaDoor
