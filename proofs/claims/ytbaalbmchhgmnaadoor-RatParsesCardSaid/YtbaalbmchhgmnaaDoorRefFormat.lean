/-
  The contract of the reference's Format.
-/
import Derived.Test.YtbaalbmchhgmnaaDoorAwake
import Derived.Laws.IdiomStrings
import Derived.Lib.ItoaLen
namespace Go.Proofs.YtbaalbmchhgmnaaDoor
open Go.RowKit

theorem bytes_eq {b c : ByteArray} (h : b.data.toList = c.data.toList) : b = c := by
  obtain ⟨⟨l⟩⟩ := b
  obtain ⟨⟨m⟩⟩ := c
  simp at h
  rw [h]
theorem fmtS_data (n : Int) : (fmtS n).data.toList = Lib.itoa n := by simp [fmtS]
theorem dec_len {u : Nat} (h : u ≤ 9223372036854775808) : (Lib.decDigits u).length ≤ 21 := by
  by_cases hz : u = 0
  · subst hz
    rw [Lib.decDigits, dif_pos (by decide)]; simp
  · have h1 := Lib.itoa_neg u (by omega)
    have h2 := Lib.itoa_length_le (-(u : Int)) (by omega) (by omega)
    rw [h1] at h2
    simp at h2; omega

set_option maxHeartbeats 1000000 in
theorem refFormat (n : Int) (w : World) (h0 : -9223372036854775808 ≤ n) (h1 : n ≤ 9223372036854775807) :
    Calls Tryd.prog 48 #[.int .i64 n] w fun e w' => e = .returned (.string (fmtS n)) ∧ Below w.heap.size w w' := by
  obtain ⟨u, hu⟩ : ∃ u, u = n.natAbs := ⟨_, rfl⟩
  have hu' : u ≤ 9223372036854775808 := by omega
  have HU := Lib.hid hu
  have cb : ∀ w, Calls Tryd.prog 67 #[.int .i64 n] w fun e w' => e = .returned (.int .i64 (-(u : Int))) ∧ w = w' := fun w => by rw [hu]; exact refBelow n w h0 h1
  have CB := Lib.hid cb
  clear cb hu
  go_enter Tryd.func48, Tryd.ntmps48
  go_wp2_with fail
  refine (CB.out _).mono ?_; rintro e w' ⟨rfl, rfl⟩
  go_wp2_with fail
  go_loopw [3, 4] (fun s m wr => ∃ (x : Nat) (b : ByteArray), x ≤ 9223372036854775808 ∧ m = .int .i64 (-(x : Int)) ∧ s = .string b ∧ Lib.decDigits u = Lib.decDigits x ++ b.data.toList ∧ Below w.heap.size w wr) (fun _ m _ => (-(intOf m)).toNat)
  case atStart => exact ⟨u, ⟨#[]⟩, hu', rfl, rfl, by simp, Below.refl _ _⟩
  case round =>
    obtain ⟨x, b, hx, rfl, rfl, hdd, hbl⟩ := hrel
    have hbs : b.size ≤ 21 := by
      have h2 := dec_len hu'
      rw [hdd] at h2
      have h3 : b.size = b.data.toList.length := Lib.size_eq b
      rw [h3]; simp at h2 ⊢; omega
    have HDD := Lib.hid hdd
    have HBL := Lib.hid hbl
    clear hdd hbl
    obtain ⟨r, hr⟩ : ∃ r, r = x % 10 := ⟨_, rfl⟩
    obtain ⟨q, hq⟩ : ∃ q, q = x / 10 := ⟨_, rfl⟩
    have hr9 : r ≤ 9 := by omega
    have e1 : (-(x : Int)).tmod 10 = -(r : Int) := by rw [Int.neg_tmod, Int.tmod_eq_emod_of_nonneg (by omega)]; omega
    have e2 : (-(x : Int)).tdiv 10 = -(q : Int) := by rw [Int.neg_tdiv, Int.tdiv_eq_ediv_of_nonneg (by omega)]; omega
    have hq' : q ≤ 922337203685477580 := by omega
    obtain ⟨c, hcc⟩ : ∃ c, c = UInt8.ofNat (48 + r) := ⟨_, rfl⟩
    have hcv : (convert 82 9 (.slice (some ⟨wr.heap.size, 0, none⟩) 1 1)).run Tryd.prog (wr.alloc (.cells #[.int .u8 (48 + r)] 5)) = .ok (.string ⟨#[c]⟩) (wr.alloc (.cells #[.int .u8 (48 + r)] 5)) := by
      have hc : ((c.toNat : Nat) : Int) = 48 + r := by
        have : c.toNat = 48 + r := by rw [hcc]; simp; omega
        rw [this]; omega
      have := run_convert_bytes_back (P := Tryd.prog) (wr.alloc (.cells #[.int .u8 (48 + r)] 5)) 82 9 5 ⟨wr.heap.size, 0, none⟩ 1 [c] Tryd.underlying82 Tryd.underlying5 Tryd.underlying9 (fun j hj => by
        obtain rfl : j = 0 := by simpa using hj
        simp [Addr.add, go_sem, hc])
      simpa using this
    have HR := Lib.hid hr
    have HQ := Lib.hid hq
    have HCC := Lib.hid hcc
    have hlist : (ByteArray.mk #[c] ++ b).data.toList = c :: b.data.toList := by simp
    have HL := Lib.hid hlist
    clear hr hq hcc hlist
    by_cases hs : q = 0
    · have hs' : (-(q : Int) == 0) = true := by simp; omega
      have hfin : Lib.decDigits u = (ByteArray.mk #[c] ++ b).data.toList := by
        rw [HL.out, HDD.out, Lib.decDigits, dif_pos (by have := HQ.out; omega), HCC.out, HR.out, Nat.mod_eq_of_lt (by have := HQ.out; omega)]; rfl
      by_cases hn : n < 0
      · have hff : (ByteArray.mk #[45] ++ (ByteArray.mk #[c] ++ b)) = fmtS n := by
          refine bytes_eq ?_
          rw [fmtS_data]
          have e : n = -(u : Int) := by have := HU.out; omega
          rw [e, Lib.itoa_neg u (by omega), hfin]
          simp
        have HF := Lib.hid hff
        clear hff hfin hs
        go_wp2_with fail
        go_ret
        exact ⟨by rw [← HF.out]; rfl, HBL.out.alloc HBL.out.size _⟩
      · have hff : (ByteArray.mk #[c] ++ b) = fmtS n := by
          refine bytes_eq ?_
          rw [fmtS_data]
          have e : n = (u : Int) := by have := HU.out; omega
          rw [e, Lib.itoa_nonneg u, hfin]
        have HF := Lib.hid hff
        clear hff hfin hs
        go_wp2_with fail
        go_ret
        exact ⟨by rw [← HF.out]; rfl, HBL.out.alloc HBL.out.size _⟩
    · have hs' : (-(q : Int) == 0) = false := by simp; omega
      have hfin : Lib.decDigits u = Lib.decDigits q ++ (ByteArray.mk #[c] ++ b).data.toList := by
        rw [HL.out, HDD.out, Lib.decDigits, dif_neg (by have := HQ.out; omega), HCC.out, HR.out, HQ.out]; simp
      have HF := Lib.hid hfin
      clear hfin
      go_wp2_with fail
      go_roundw
      case rel => exact ⟨q, ByteArray.mk #[c] ++ b, by omega, rfl, rfl, HF.out, HBL.out.alloc HBL.out.size _⟩
      case measure => simp [intOf]; have := HQ.out; omega

end Go.Proofs.YtbaalbmchhgmnaaDoor
