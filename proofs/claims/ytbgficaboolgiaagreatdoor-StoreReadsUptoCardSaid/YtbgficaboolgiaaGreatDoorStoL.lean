/-
  Contracts of strconv.FormatUint at base 10, and of store's label.
-/
import Derived.Test.YtbgficaboolgiaaGreatDoorStoK
import Derived.Test.YtbgficaboolgiaaGreatDoorStoC
import Derived.Lib.AppendIntMem
namespace Go.Proofs.YtbgficaboolgiaaGreatDoor
open Go.RowKit Go.Sort
set_option linter.unusedVariables false
set_option linter.unusedSimpArgs false

set_option maxRecDepth 100000 in
set_option maxHeartbeats 8000000 in
theorem fmtUint (u : Nat) (hu64 : u < 18446744073709551616) (w : World) (ht : Tab w) :
    Calls Tryz.prog 86 #[.int .u64 u, .int .i64 10] w fun e w' => e = .returned (.string (mkS (Lib.decDigits u))) ∧ Below w.heap.size w w' := by
  by_cases hs : u < 100
  · have CS := Lib.hid (fun W => Tryz.internal_strconv_small u hs W)
    have iu : (u : Int) < 100 := by omega
    go_enter Tryz.func86, Tryz.ntmps86
    go_wp2_with fail
    refine (CS.out _).mono ?_; rintro e w' ⟨rfl, rfl⟩
    go_wp2_with fail
    go_ret
    exact ⟨rfl, Below.refl _ _⟩
  · have hu1 : 1 ≤ u := by omega
    have hnd20 : Lib.nDigits u ≤ 20 := by have := Lib.numDigits_eq u hu1 hu64; split at this <;> omega
    have hal : Tryz.prog.arrayLen 119 = 24 := by simp [Program.arrayLen, Tryz.underlying119]
    have hsl : ∀ W, (Instr.sliceAt 119 (.pointer (some ⟨w.heap.size, 0, none⟩)) none (some (.int .i64 (Lib.nDigits u : Int))) none).run Tryz.prog W = .ok (.slice (some ⟨w.heap.size, 0, none⟩) (Lib.nDigits u) 24) W := fun W => by
      rw [run_sliceAt_array_h W 119 ⟨w.heap.size, 0, none⟩ (by simp [Program.arrayLen, Program.elem, Tryz.underlying119]) .i64 (Lib.nDigits u : Int) (by omega) (by rw [hal]; omega)]
      go_simp
    have hH0 := Lib.holds_zero0 w 119 (Lib.nDigits u) (by omega)
    have hfmt := Tryz.internal_strconv_formatBase10 w.heap.size 0 24 u (Array.replicate (Lib.nDigits u) 0) (w.alloc (.cells Lib.zeros24 119)) hH0 (by rw [Array.size_replicate]; exact Lib.lt_pow_nDigits u) hu64 (by rw [Array.size_replicate]; omega)
    rw [Array.size_replicate] at hfmt
    have HH0 := Lib.hid hH0
    have CD := Lib.hid (fun W hW => Tryz.internal_strconv_numDigits u hu1 hu64 W hW)
    have HT := Lib.hid (Lib.tabIs_alloc ht (.cells Lib.zeros24 119))
    have iu : ¬ (u : Int) < 100 := by omega
    clear hH0 hal ht
    go_enter Tryz.func86, Tryz.ntmps86
    go_wp2_with fail
    refine (CD.out _ HT.out).mono ?_; rintro e w' ⟨rfl, rfl⟩
    go_wp2_with fail
    refine hfmt.mono ?_
    rintro e w' ⟨rfl, k, v', dk, rfl, hF⟩
    have hcv : (convert 90 9 (.slice (some ⟨w.heap.size, 0, none⟩) (Lib.nDigits u) 24)).run Tryz.prog ((putRow (fun (b : UInt8) => Value.int .u8 (b.toNat : Int)) (w.alloc (.cells Lib.zeros24 119)) w.heap.size 0 dk).drewN k) = .ok (.string ⟨(Lib.decDigits u).toArray⟩) ((putRow (fun (b : UInt8) => Value.int .u8 (b.toNat : Int)) (w.alloc (.cells Lib.zeros24 119)) w.heap.size 0 dk).drewN k) := by
      have h := run_convert_bytes_back (P := Tryz.prog) ((putRow (fun (b : UInt8) => Value.int .u8 (b.toNat : Int)) (w.alloc (.cells Lib.zeros24 119)) w.heap.size 0 dk).drewN k) 90 9 5 ⟨w.heap.size, 0, none⟩ 24 (Lib.decDigits u) Tryz.underlying90 Tryz.underlying5 Tryz.underlying9 (fun j hj => by
        rw [Lib.row_is_numeral hF j hj, Lib.add_plain, World.cell?_drewN]
        exact cell?_putRow (fun (b : UInt8) => Value.int .u8 (b.toNat : Int)) _ w.heap.size 0 _ dk HH0.out (by rw [hF.size, Array.size_replicate]) j (by rw [hF.size]; rw [Lib.decDigits_length] at hj; exact hj))
      rw [Lib.decDigits_length] at h
      exact h
    go_wp2_with fail
    go_ret
    obtain ⟨os, eo⟩ := Lib.fin_at w (.cells Lib.zeros24 119) dk k 0
    exact ⟨rfl, by rw [eo]; exact Lib.below_grow w.heap.size w (Nat.le_refl _) k os⟩

set_option maxRecDepth 100000 in
theorem fmtUintP (u : Nat) (hu64 : u < 18446744073709551616) (w : World) (ht : Tab w) :
    Calls Tryz.prog 71 #[.int .u64 u, .int .i64 10] w fun e w' => e = .returned (.string (mkS (Lib.decDigits u))) ∧ Below w.heap.size w w' := by
  have C := Lib.hid (fun W hW => fmtUint u hu64 W hW)
  generalize Lib.decDigits u = ds at *
  go_enter Tryz.func71, Tryz.ntmps71
  go_wp2_with fail
  refine (C.out _ ht).mono ?_; rintro e w2 ⟨rfl, hb⟩
  have HB := Lib.hid hb
  clear hb
  go_wp2_with fail
  go_ret
  exact ⟨rfl, HB.out⟩

theorem lab_eq (r : Res) : (r.test ++ ⟨#[32]⟩) ++ mkS (Lib.decDigits r.seed) = labS r := bytes_eq (by
  unfold labS
  show (((r.test ++ ⟨#[32]⟩) ++ mkS _ : ByteArray)).data.toList = (r.test ++ mkS _ : ByteArray).data.toList
  rw [ByteArray.data_append, ByteArray.data_append, ByteArray.data_append, Array.toList_append, Array.toList_append, Array.toList_append, mkS_data, mkS_data]
  simp)
/-- Room for a label. -/
def LabZ (r : Res) : Prop := r.test.size ≤ 140737488351232 ∧ r.seed < 18446744073709551616
theorem dec_len20 {u : Nat} (h : u < 18446744073709551616) : (Lib.decDigits u).length ≤ 20 := by
  rw [Lib.decDigits_length]
  by_cases h1 : 1 ≤ u
  · have := Lib.numDigits_eq u h1 h; split at this <;> omega
  · rw [show u = 0 by omega, Lib.nDigits_small (by decide)]; decide
set_option maxRecDepth 100000 in
set_option maxHeartbeats 4000000 in
theorem stoLabel (w : World) (p q : Value) (r : Res) (hp : ∃ A n c, p = .slice A n c) (hq : ∃ A n c, q = .slice A n c) (hz : LabZ r) (ht : Tab w) :
    Calls Tryz.prog 46 #[resV p q r] w fun e w' => e = .returned (.string (labS r)) ∧ Below w.heap.size w w' := by
  obtain ⟨h1, h2⟩ := hz
  have CF := Lib.hid (fun W hW => fmtUintP r.seed h2 W hW)
  have HE := Lib.hid (lab_eq r)
  have hd : (mkS (Lib.decDigits r.seed)).size ≤ 20 := by rw [mkS_size]; exact dec_len20 h2
  generalize labS r = lb at *
  generalize mkS (Lib.decDigits r.seed) = ds at *
  obtain ⟨te, se, de, si, cy, sn, gt, ps, cs, sm, il⟩ := r
  obtain ⟨A2, M, c2, rfl⟩ := hp
  obtain ⟨A1, N, c1, rfl⟩ := hq
  unfold resV
  simp only at CF HE h1 h2 ⊢
  have f1 : ¬ 9223372036854775807 < te.size + 1 := by omega
  have f1' : ¬ 9223372036854775807 < te.size + (⟨#[32]⟩ : ByteArray).size := by show ¬ _ < te.size + 1; omega
  have f2 : ¬ 9223372036854775807 < (te ++ ⟨#[32]⟩).size + ds.size := by rw [ByteArray.size_append]; show ¬ _ < te.size + 1 + _; omega
  have f2' : ¬ 9223372036854775807 < te.size + 1 + ds.size := by omega
  have f2'' : ¬ 9223372036854775807 < te.size + (⟨#[32]⟩ : ByteArray).size + ds.size := by show ¬ _ < te.size + 1 + _; omega
  clear hd h1 h2
  go_enter Tryz.func46, Tryz.ntmps46
  go_upto_region 1 with fail
  have XA := Lib.hid (box_new (W := w) (g := w.heap.size) 28 #[.string te, .int .u64 se, .string de, .string si, .int .i64 cy, .int .i64 sn, .int .i64 gt, .slice A2 M c2, .slice A1 N c1, .int .i64 sm, .int .i64 il] (by simp))
  have HB := Lib.hid (below_alloc w (.cells #[.string te, .int .u64 se, .string de, .string si, .int .i64 cy, .int .i64 sn, .int .i64 gt, .slice A2 M c2, .slice A1 N c1, .int .i64 sm, .int .i64 il] 28))
  generalize w.alloc (.cells #[.string te, .int .u64 se, .string de, .string si, .int .i64 cy, .int .i64 sn, .int .i64 gt, .slice A2 M c2, .slice A1 N c1, .int .i64 sm, .int .i64 il] 28) = w1 at *
  have l0 := XA.out.lat 0 _ rfl
  have l1 := XA.out.lat 1 _ rfl
  have V1 := Lib.hid (fun p : Lat w1 => CF.out p.w (ht.below (below_step HB.out p.h)))
  refine wp_region_lat (by kernel_rfl) (by kernel_rfl) ?_
  repeat (go_big_quiet_step (first | with_reducible exact lat_call (V1.out _)))
  refine wpQuiet_nil ?_; intro w3 hb
  clear l0 l1 V1 f1 f1' f2 f2' f2''
  replace XA := Lib.hid (XA.out.below hb)
  replace HB := Lib.hid (below_step HB.out hb)
  clear hb
  go_wp2_with fail
  go_ret
  exact ⟨by rw [HE.out]; rfl, HB.out⟩

end Go.Proofs.YtbgficaboolgiaaGreatDoor
