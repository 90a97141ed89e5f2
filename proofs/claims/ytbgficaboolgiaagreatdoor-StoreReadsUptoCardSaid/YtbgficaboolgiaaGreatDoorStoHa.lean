/-
  Contracts of the reference's form, Hex, CRC, Seal (chapter 4).
-/
import Derived.Test.YtbgficaboolgiaaGreatDoorHashC
import Derived.Test.YtbgficaboolgiaaGreatDoorPkB
namespace Go.Proofs.YtbgficaboolgiaaGreatDoor
open Go.RowKit
set_option linter.unusedVariables false
set_option linter.unusedSimpArgs false

set_option maxRecDepth 100000 in
set_option maxHeartbeats 4000000 in
theorem refForm (x n : Nat) (hx : x < 18446744073709551616) (hn : n ≤ 16) (w : World) :
    Calls Tryz.prog 57 #[.int .u64 x, .int .i64 n] w fun e w' => e = .returned (.string ⟨(hexL x n).toArray⟩) ∧ w = w' := by
  go_enter Tryz.func57, Tryz.ntmps57
  go_wp2_with fail
  go_loopw [0, 5, 6] (fun xv sv iv wr => ∃ (i y : Nat) (t : ByteArray), i ≤ n ∧ iv = .int .i64 i ∧ xv = .int .u64 y ∧ sv = .string t ∧ y < 18446744073709551616 ∧ Hid (y = x / 16 ^ i) ∧ Hid (t = mkS (hexL x i)) ∧ w = wr) (fun _ _ iv _ => n - (intOf iv).toNat)
  case atStart => exact ⟨0, x, ⟨#[]⟩, Nat.zero_le _, rfl, rfl, rfl, hx, Lib.hid (by simp), Lib.hid rfl, rfl⟩
  case round =>
    obtain ⟨i, y, t, hi, rfl, rfl, rfl, hyl, HY, HT, rfl⟩ := hrel
    by_cases hlt : i < n
    · have hlt2 : (i : Int) < n := by omega
      have hi0 : (0 : Int) ≤ i := by omega
      have hts : t.size = i := by rw [HT.out, mkS_size, hexL_len]
      obtain ⟨q, hq⟩ : ∃ q, q = y / 16 := ⟨_, rfl⟩
      obtain ⟨r, hr⟩ : ∃ r, r = y % 16 := ⟨_, rfl⟩
      have hr16 : r < 16 := by omega
      have e1 : (y : Int).tmod 16 = (r : Int) := by rw [Int.tmod_eq_emod_of_nonneg (by omega)]; omega
      have e1' : (y : Int) % 16 = (r : Int) := by omega
      have e2 : (y : Int).tdiv 16 = (q : Int) := by rw [Int.tdiv_eq_ediv_of_nonneg (by omega)]; omega
      have e2' : (y : Int) / 16 = (q : Int) := by omega
      have w0 : IntKind.u64.wrap (r : Int) = (r : Int) := IntWalk.u64_in _ (by omega)
      have w1 : IntKind.u64.wrap (q : Int) = (q : Int) := IntWalk.u64_in _ (by omega)
      have w2 : IntKind.u64.wrap ((r : Int) + 1) = (r : Int) + 1 := IntWalk.u64_in _ (by omega)
      have t1 : (r : Int) ≤ (r : Int) + 1 := by omega
      have t2 : (r : Int) + 1 ≤ 16 := by omega
      have t3 : (0 : Int) ≤ (r : Int) := by omega
      have t4 : ((r : Int) + 1).toNat = r + 1 := by omega
      have HX : Hid ((⟨#[48, 49, 50, 51, 52, 53, 54, 55, 56, 57, 97, 98, 99, 100, 101, 102]⟩ : ByteArray).extract r (r + 1) = ⟨#[hexDig r]⟩) := Lib.hid (by
        have : ∀ d : Fin 16, (hxs.extract d.1 (d.1 + 1)) = ⟨#[hexDig d.1]⟩ := by decide
        exact this ⟨r, hr16⟩)
      have HS : Hid ((⟨#[hexDig r]⟩ : ByteArray) ++ t = mkS (hexL x (i + 1))) := Lib.hid (by
        rw [HT.out, hr, HY.out]
        refine bytes_eq ?_
        rw [mkS_data]
        show ((⟨#[hexDig (x / 16 ^ i % 16)]⟩ : ByteArray) ++ mkS (hexL x i)).data.toList = hexL x (i + 1)
        rw [ByteArray.data_append, Array.toList_append, mkS_data]; rfl)
      have HYQ : Hid (q = x / 16 ^ (i + 1)) := Lib.hid (by rw [hq, HY.out, Nat.div_div_eq_div_mul, ← Nat.pow_succ])
      have hql : q < 18446744073709551616 := by omega
      have f1 : ¬ 9223372036854775807 < (⟨#[hexDig r]⟩ : ByteArray).size + t.size := by show ¬ _ < 1 + t.size; omega
      have f1' : ¬ 9223372036854775807 < 1 + t.size := by omega
      have f2 : ((⟨#[48, 49, 50, 51, 52, 53, 54, 55, 56, 57, 97, 98, 99, 100, 101, 102]⟩ : ByteArray).extract r (r + 1)).size = 1 := by rw [HX.out]; rfl
      have f3 : ¬ 9223372036854775807 < ((⟨#[48, 49, 50, 51, 52, 53, 54, 55, 56, 57, 97, 98, 99, 100, 101, 102]⟩ : ByteArray).extract r (r + 1)).size + t.size := by rw [f2]; omega
      clear HY HT hq hr hts
      go_wp2_with fail
      go_roundw
      case rel => exact ⟨i + 1, q, _, by omega, by go_num, by first | rfl | go_num, rfl, hql, HYQ, Lib.hid (by rw [HX.out]; exact HS.out), by first | rfl | trivial⟩
      case measure => simp [intOf] <;> omega
    · have hlt2 : ¬ (i : Int) < n := by omega
      have HT2 : Hid (t = ⟨(hexL x n).toArray⟩) := Lib.hid (by rw [HT.out, show i = n by omega]; rfl)
      clear HT HY
      go_wp2_with fail
      go_ret
      exact ⟨by rw [HT2.out]; rfl, rfl⟩

set_option maxRecDepth 100000 in
theorem refHex (x : Nat) (hx : x < 18446744073709551616) (w : World) :
    Calls Tryz.prog 28 #[.int .u64 x] w fun e w' => e = .returned (.string ⟨(hexL x 16).toArray⟩) ∧ w = w' := by
  have C := Lib.hid (fun W => refForm x 16 hx (by decide) W)
  go_enter Tryz.func28, Tryz.ntmps28
  go_wp2_with fail
  refine (C.out _).mono ?_; rintro e w2 ⟨rfl, rfl⟩
  go_wp2_with fail
  go_ret
  exact ⟨rfl, rfl⟩

set_option maxRecDepth 100000 in
set_option maxHeartbeats 4000000 in
theorem refCRC (s : ByteArray) (w : World) (hs : s.size ≤ maxLen) :
    Calls Tryz.prog 58 #[.string s] w fun e w' => e = .returned (.int .u32 (crcS s : Nat)) ∧ w = w' := by
  unfold maxLen at hs
  have HR : Hid (bits BinOp.xor IntKind.u32 ((crcL s.data.toList 4294967295 : Nat) : Int) 4294967295 = ((crcS s : Nat) : Int)) := Lib.hid (by
    have h := crcL_lt s.data.toList (c := 4294967295) (by decide)
    rw [show (4294967295 : Int) = ((4294967295 : Nat) : Int) from rfl, bits_xor_u32_nat _ _ h (by decide)]; rfl)
  go_enter Tryz.func58, Tryz.ntmps58
  go_wp2_with fail
  go_loopw [3, 4] (fun cv i wr => ∃ (k : Nat) (c : Nat), k ≤ s.size ∧ i = .int .i64 k ∧ cv = .int .u32 c ∧ Hid (c = crcL (s.data.toList.take k) 4294967295) ∧ w = wr) (fun _ i _ => s.size - (intOf i).toNat)
  case atStart => exact ⟨0, 4294967295, Nat.zero_le _, rfl, rfl, Lib.hid rfl, rfl⟩
  case round =>
    obtain ⟨k, c, hk, rfl, rfl, HC, rfl⟩ := hrel
    have hclt : c < 4294967296 := by rw [HC.out]; exact crcL_lt _ (by decide)
    by_cases h : k < s.size
    · have h2 : (k : Int) < s.size := by omega
      have hk0 : (0 : Int) ≤ k := by omega
      have hb := byte_at s k h
      have hbl := s[k].toNat_lt
      have HC2 : Hid (crcN 8 (c ^^^ s[k].toNat) = crcL (s.data.toList.take (k + 1)) 4294967295) := Lib.hid (by
        rw [crcL_take (by rw [← Lib.size_eq]; exact h), ← HC.out, hb])
      have hx : bits BinOp.xor IntKind.u32 (c : Int) ((s[k].toNat : Int) % 4294967296) = ((c ^^^ s[k].toNat : Nat) : Int) := by
        rw [show (s[k].toNat : Int) % 4294967296 = ((s[k].toNat : Nat) : Int) by omega]
        exact bits_xor_u32_nat _ _ hclt (by omega)
      have HX := Lib.hid hx
      have hc2 := xor_byte hclt s[k]
      clear hb hx hbl hclt
      obtain ⟨wo, rfl⟩ : ∃ x : World, x = w := ⟨_, rfl⟩
      go_wp2_with fail
      rw [HX.out]
      generalize c ^^^ s[k].toNat = c0 at *
      go_loopw [3, 5] (fun cv i wx => ∃ (j : Nat) (d : Nat), j ≤ 8 ∧ i = .int .i64 j ∧ cv = .int .u32 d ∧ Hid (d = crcN j c0) ∧ wo = wx) (fun _ i _ => 8 - (intOf i).toNat)
      case atStart => exact ⟨0, c0, Nat.zero_le _, rfl, rfl, Lib.hid rfl, rfl⟩
      case round =>
        obtain ⟨j, d, hj, rfl, rfl, HD, rfl⟩ := hrel
        by_cases h8 : j < 8
        · have h9 : (j : Int) < 8 := by omega
          have hd : d < 4294967296 := by rw [HD.out]; exact crcN_lt hc2 j
          have w0 : IntKind.u32.wrap ((d % 2 : Nat) : Int) = ((d % 2 : Nat) : Int) := by simp [IntKind.wrap, IntKind.bits, IntKind.signed]; omega
          have w1 : IntKind.u32.wrap ((d : Int) / 2) = (d : Int) / 2 := by simp [IntKind.wrap, IntKind.bits, IntKind.signed]; omega
          by_cases hodd : d % 2 = 1
          · have f1 : (d : Int) % 2 = 1 := by omega
            have f1' : (d : Int).tmod 2 = 1 := by rw [Int.tmod_eq_emod_of_nonneg (by omega)]; omega
            have HX2 : Hid (bits BinOp.xor IntKind.u32 ((d : Int) / 2) 3988292384 = ((crcBit d : Nat) : Int)) := Lib.hid (by
              rw [show (d : Int) / 2 = ((d / 2 : Nat) : Int) by omega, show (3988292384 : Int) = ((3988292384 : Nat) : Int) from rfl, bits_xor_u32_nat _ _ (by omega) (by decide)]
              unfold crcBit; rw [if_pos hodd])
            clear hodd
            go_wp2_with fail
            go_roundw
            case rel => exact ⟨j + 1, crcBit d, by omega, by go_num, by rw [HX2.out], Lib.hid (by rw [HD.out]; rfl), by first | rfl | trivial⟩
            case measure => simp [intOf]; omega
          · have f1 : (d : Int) % 2 = 0 := by omega
            have f1' : (d : Int).tmod 2 = 0 := by rw [Int.tmod_eq_emod_of_nonneg (by omega)]; omega
            have HX2 : Hid ((d : Int) / 2 = ((crcBit d : Nat) : Int)) := Lib.hid (by unfold crcBit; rw [if_neg hodd]; omega)
            clear hodd
            go_wp2_with fail
            go_roundw
            case rel => exact ⟨j + 1, crcBit d, by omega, by go_num, by rw [HX2.out], Lib.hid (by rw [HD.out]; rfl), by first | rfl | trivial⟩
            case measure => simp [intOf]; omega
        · have h9 : ¬ (j : Int) < 8 := by omega
          obtain rfl : j = 8 := by omega
          go_wp2_with fail
          go_roundw
          case rel => exact ⟨k + 1, d, by omega, by go_num, rfl, Lib.hid (by rw [HD.out, HC2.out]), by first | rfl | trivial⟩
          case measure => simp [intOf]; omega
    · have h2 : ¬ (k : Int) < s.size := by omega
      have HC3 : Hid (c = crcL s.data.toList 4294967295) := Lib.hid (by
        have : k = s.data.toList.length := by rw [← Lib.size_eq]; omega
        rw [HC.out, this, List.take_length])
      go_wp2_with fail
      go_ret
      exact ⟨by rw [HC3.out, HR.out]; rfl, rfl⟩

set_option maxRecDepth 100000 in
theorem refSeal (s : ByteArray) (hs : s.size ≤ 140737488355328) (w : World) :
    Calls Tryz.prog 31 #[.string s] w fun e w' => e = .returned (.string (mkS (sealL s.data.toList))) ∧ w = w' := by
  have CC := Lib.hid (fun W => refCRC s W (by unfold maxLen; omega))
  have hc := crcS_lt s
  have CX := Lib.hid (fun W => refForm (crcS s) 8 (by omega) (by decide) W)
  have HR : Hid (mkS (sealL s.data.toList) = (s ++ ⟨#[35]⟩) ++ ⟨(hexL (crcS s) 8).toArray⟩) := Lib.hid (bytes_eq (by
    show bl (mkS _) = _
    unfold bl
    rw [mkS_data]
    unfold sealL
    show _ = ((s ++ ⟨#[35]⟩) ++ ⟨(hexL (crcS s) 8).toArray⟩ : ByteArray).data.toList
    simp [crcS]))
  have hz : (⟨(hexL (crcS s) 8).toArray⟩ : ByteArray).size = 8 := by rw [Lib.size_eq, List.toList_toArray, hexL_len]
  have hmod : ((crcS s : Nat) : Int) % 18446744073709551616 = ((crcS s : Nat) : Int) := by omega
  generalize mkS (sealL s.data.toList) = r at *
  generalize (⟨(hexL (crcS s) 8).toArray⟩ : ByteArray) = hx at *
  generalize crcS s = c at *
  have f1 : ¬ 9223372036854775807 < s.size + 1 := by omega
  have f2 : ¬ 9223372036854775807 < s.size + 1 + hx.size := by omega
  have f3 : ¬ 9223372036854775807 < (s ++ (⟨#[35]⟩ : ByteArray)).size + hx.size := by rw [ByteArray.size_append]; exact f2
  go_enter Tryz.func31, Tryz.ntmps31
  go_wp2_with fail
  refine (CC.out _).mono ?_; rintro e w2 ⟨rfl, rfl⟩
  go_wp2_with fail
  refine (CX.out _).mono ?_; rintro e w2 ⟨rfl, rfl⟩
  go_wp2_with fail
  go_ret
  exact ⟨by rw [HR.out]; rfl, rfl⟩

end Go.Proofs.YtbgficaboolgiaaGreatDoor
