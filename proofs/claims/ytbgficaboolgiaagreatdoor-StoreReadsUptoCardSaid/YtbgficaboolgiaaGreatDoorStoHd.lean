/-
  Contracts of the reference's read, Unhex, Open (chapter 4).
-/
import Derived.Test.YtbgficaboolgiaaGreatDoorStoHa
namespace Go.Proofs.YtbgficaboolgiaaGreatDoor
open Go.RowKit
set_option linter.unusedVariables false
set_option linter.unusedSimpArgs false

set_option maxRecDepth 100000 in
set_option maxHeartbeats 4000000 in
theorem refRead (s : ByteArray) (hs : s.size ≤ maxLen) (w : World) :
    Calls Tryz.prog 67 #[.string s] w fun e w' => e = .returned (.tuple #[.int .u64 ((unhT s).1 : Nat), .bool (unhT s).2]) ∧ w = w' := by
  unfold maxLen at hs
  have HU : Hid (unhT s = match unhL s.data.toList 0 with
    | none => (0, false)
    | some x => (x, true)) := Lib.hid rfl
  have hlen : s.data.toList.length = s.size := (Lib.size_eq s).symm
  go_enter Tryz.func67, Tryz.ntmps67
  go_wp2_with fail
  go_loopw [4, 5] (fun xv iv wr => ∃ (k x : Nat), k ≤ s.size ∧ iv = .int .i64 k ∧ xv = .int .u64 x ∧ x < 18446744073709551616 ∧ Hid (unhL s.data.toList 0 = unhL (s.data.toList.drop k) x) ∧ w = wr) (fun _ iv _ => s.size - (intOf iv).toNat)
  case atStart => exact ⟨0, 0, Nat.zero_le _, rfl, rfl, by decide, Lib.hid (by rw [List.drop_zero]), rfl⟩
  case round =>
    obtain ⟨k, x, hk, rfl, rfl, hx, HX, rfl⟩ := hrel
    by_cases h : k < s.size
    · have h2 : (k : Int) < s.size := by omega
      have hk0 : (0 : Int) ≤ k := by omega
      have hb := byte_at s k h
      have HD := unhL_drop (l := s.data.toList) (k := k) (by omega) x
      rw [← hb] at HD
      have HXD := Lib.hid (HX.out.trans HD)
      have hu := s[k].toNat_lt
      clear HD hb HX
      by_cases d1 : 48 ≤ s[k].toNat ∧ s[k].toNat ≤ 57
      · have t1 : (48 : Int) ≤ (s[k].toNat : Int) := by omega
        have t2 : (s[k].toNat : Int) ≤ 57 := by omega
        have hnib : nib s[k] = some (s[k].toNat - 48) := by unfold nib; rw [if_pos d1]
        rw [hnib] at HXD
        have w1 : IntKind.u8.wrap ((s[k].toNat : Int) - 48) = (s[k].toNat : Int) - 48 := by simp [IntKind.wrap, IntKind.bits, IntKind.signed]; omega
        have hlt : (x * 16 + (s[k].toNat - 48)) % 18446744073709551616 < 18446744073709551616 := Nat.mod_lt _ (by decide)
        clear hnib
        go_wp2_with fail
        go_roundw
        case rel => exact ⟨k + 1, _, by omega, by go_num, by (congr 1; simp [IntKind.wrap, IntKind.bits, IntKind.signed]; omega), hlt, HXD, by first | rfl | trivial⟩
        case measure => simp [intOf] <;> omega
      · by_cases d2 : 97 ≤ s[k].toNat ∧ s[k].toNat ≤ 102
        · have t1 : (48 : Int) ≤ (s[k].toNat : Int) := by omega
          have t2 : ¬ (s[k].toNat : Int) ≤ 57 := by omega
          have t3 : (97 : Int) ≤ (s[k].toNat : Int) := by omega
          have t4 : (s[k].toNat : Int) ≤ 102 := by omega
          have hnib : nib s[k] = some (s[k].toNat - 87) := by unfold nib; rw [if_neg d1, if_pos d2]
          rw [hnib] at HXD
          have w1 : IntKind.u8.wrap ((s[k].toNat : Int) - 97) = (s[k].toNat : Int) - 97 := by simp [IntKind.wrap, IntKind.bits, IntKind.signed]; omega
          have hlt : (x * 16 + (s[k].toNat - 87)) % 18446744073709551616 < 18446744073709551616 := Nat.mod_lt _ (by decide)
          clear hnib d1
          go_wp2_with fail
          go_roundw
          case rel => exact ⟨k + 1, _, by omega, by go_num, by (congr 1; simp [IntKind.wrap, IntKind.bits, IntKind.signed]; omega), hlt, HXD, by first | rfl | trivial⟩
          case measure => simp [intOf] <;> omega
        · have hnib : nib s[k] = none := by unfold nib; rw [if_neg d1, if_neg d2]
          rw [hnib] at HXD
          have HR : Hid (unhT s = (0, false)) := Lib.hid (by rw [HU.out, HXD.out])
          clear hnib HXD HU
          by_cases c1 : s[k].toNat < 48
          · have t1 : ¬ (48 : Int) ≤ (s[k].toNat : Int) := by omega
            have t3 : ¬ (97 : Int) ≤ (s[k].toNat : Int) := by omega
            clear d1 d2
            go_wp2_with fail
            go_ret2
            exact ⟨by rw [HR.out]; rfl, rfl⟩
          · have t1 : (48 : Int) ≤ (s[k].toNat : Int) := by omega
            have t2 : ¬ (s[k].toNat : Int) ≤ 57 := by omega
            by_cases c2 : s[k].toNat < 97
            · have t3 : ¬ (97 : Int) ≤ (s[k].toNat : Int) := by omega
              clear d1 d2
              go_wp2_with fail
              go_ret2
              exact ⟨by rw [HR.out]; rfl, rfl⟩
            · have t3 : (97 : Int) ≤ (s[k].toNat : Int) := by omega
              have t4 : ¬ (s[k].toNat : Int) ≤ 102 := by omega
              clear d1 d2
              go_wp2_with fail
              go_ret2
              exact ⟨by rw [HR.out]; rfl, rfl⟩
    · have h2 : ¬ (k : Int) < s.size := by omega
      have HXE : Hid (unhL s.data.toList 0 = some x) := Lib.hid (by rw [HX.out, List.drop_of_length_le (by omega)]; rfl)
      go_wp2_with fail
      go_ret2
      exact ⟨by rw [HU.out, HXE.out]; rfl, rfl⟩

set_option maxRecDepth 100000 in
theorem refUnhex (s : ByteArray) (hs : s.size ≤ maxLen) (w : World) :
    Calls Tryz.prog 69 #[.string s] w fun e w' => e = .returned (.tuple #[.int .u64 ((uxT s).1 : Nat), .int .i64 (uxT s).2]) ∧ w = w' := by
  have C := Lib.hid (fun W => refRead s hs W)
  have HR : Hid (uxT s = if (unhT s).2 = true ∧ s.size = 16 then ((unhT s).1, 0) else (0, 5)) := Lib.hid rfl
  generalize uxT s = r at *
  generalize unhT s = q at *
  obtain ⟨x, ok⟩ := q
  simp only at C
  by_cases h : s.size = 16
  · have f1 : ((s.size : Int) != 16) = false := by
      have : (s.size : Int) = 16 := by omega
      simpa using this
    cases ok
    · have HR2 : Hid (r = (0, 5)) := Lib.hid (by rw [HR.out, if_neg (by simp)])
      clear HR h
      go_enter Tryz.func69, Tryz.ntmps69
      go_wp2_with fail
      refine (C.out _).mono ?_; rintro e w2 ⟨rfl, rfl⟩
      go_wp2_with fail
      go_ret2
      exact ⟨by rw [HR2.out]; rfl, rfl⟩
    · have HR2 : Hid (r = (x, 0)) := Lib.hid (by rw [HR.out, if_pos ⟨rfl, h⟩])
      clear HR h
      go_enter Tryz.func69, Tryz.ntmps69
      go_wp2_with fail
      refine (C.out _).mono ?_; rintro e w2 ⟨rfl, rfl⟩
      go_wp2_with fail
      go_ret2
      exact ⟨by rw [HR2.out]; rfl, rfl⟩
  · have f1 : ((s.size : Int) != 16) = true := by
      have : ¬ (s.size : Int) = 16 := by omega
      simpa using this
    have HR2 : Hid (r = (0, 5)) := Lib.hid (by rw [HR.out, if_neg (fun hh => h hh.2)])
    clear HR h
    go_enter Tryz.func69, Tryz.ntmps69
    go_wp2_with fail
    refine (C.out _).mono ?_; rintro e w2 ⟨rfl, rfl⟩
    go_wp2_with fail
    go_ret2
    exact ⟨by rw [HR2.out]; rfl, rfl⟩

set_option maxRecDepth 100000 in
set_option maxHeartbeats 4000000 in
theorem refOpen (s : ByteArray) (hs : s.size ≤ maxLen) (w : World) :
    Calls Tryz.prog 40 #[.string s] w fun e w' => e = .returned (.tuple #[.string (openT s).1, .int .i64 (openT s).2]) ∧ w = w' := by
  unfold maxLen at hs
  have HO : Hid (openT s = if s.size < 9 then (⟨#[]⟩, 6)
    else if byt s (s.size - 9) ≠ 35 ∨ (unhT (s.extract (s.size - 8) s.size)).2 = false then (⟨#[]⟩, 5)
    else if (unhT (s.extract (s.size - 8) s.size)).1 ≠ crcS (s.extract 0 (s.size - 9)) then (⟨#[]⟩, 14)
    else (s.extract 0 (s.size - 9), 0)) := Lib.hid rfl
  generalize openT s = r at *
  by_cases h9 : s.size < 9
  · have f1 : (s.size : Int) - 9 < 0 := by omega
    have HR : Hid (r = (⟨#[]⟩, 6)) := Lib.hid (by rw [HO.out, if_pos h9])
    clear HO h9
    go_enter Tryz.func40, Tryz.ntmps40
    go_wp2_with fail
    go_ret2
    exact ⟨by rw [HR.out]; rfl, rfl⟩
  rw [if_neg h9] at HO
  have f1 : ¬ (s.size : Int) - 9 < 0 := by omega
  have f2 : 9 ≤ (s.size : Int) := by omega
  have x1 : ((s.size : Int) - 9).toNat = s.size - 9 := by omega
  have x2 : ((s.size : Int) - 9 + 1).toNat = s.size - 8 := by omega
  have y1 : (0 : Int) ≤ (s.size : Int) - 9 := by omega
  have y2 : (0 : Int) ≤ (s.size : Int) - 9 + 1 := by omega
  have y3 : (s.size : Int) - 9 + 1 ≤ (s.size : Int) := by omega
  have y4 : (s.size : Int) - 9 ≤ (s.size : Int) := by omega
  have y5 : (s.size : Int) - 9 < (s.size : Int) := by omega
  have l1 : s.size - 9 < s.size := by omega
  have l2 : s.size - 8 ≤ s.size := by omega
  have b1 := byt_at s _ l1
  have u1 := s[s.size - 9].toNat_lt
  rw [b1] at HO
  have hz : (s.extract (s.size - 8) s.size).size ≤ maxLen := by rw [extract_size _ _ _ (Nat.le_refl _)]; unfold maxLen; omega
  have hz2 : (s.extract 0 (s.size - 9)).size ≤ maxLen := by rw [extract_size _ _ _ (by omega)]; unfold maxLen; omega
  have CU := Lib.hid (fun W => refRead (s.extract (s.size - 8) s.size) hz W)
  have hux := unhT_lt (s.extract (s.size - 8) s.size)
  have CC := Lib.hid (fun W => refCRC (s.extract 0 (s.size - 9)) W hz2)
  have hc := crcS_lt (s.extract 0 (s.size - 9))
  generalize crcS (s.extract 0 (s.size - 9)) = c at *
  generalize unhT (s.extract (s.size - 8) s.size) = q at *
  obtain ⟨x, ok⟩ := q
  simp only at CU HO hux
  have hmod : (c : Int) % 18446744073709551616 = (c : Int) := by omega
  have HS := Lib.hid hs
  clear hz hz2 b1 h9
  by_cases k1 : (s[s.size - 9].toNat : Int) = 35
  case neg =>
    have g1 : ((s[s.size - 9].toNat : Int) != 35) = true := by simpa using k1
    have HR : Hid (r = (⟨#[]⟩, 5)) := Lib.hid (by rw [HO.out, if_pos (.inl k1)])
    clear HO k1
    go_enter Tryz.func40, Tryz.ntmps40
    go_wp2_with fail
    refine (CU.out _).mono ?_; rintro e w2 ⟨rfl, rfl⟩
    go_wp2_with fail
    go_ret2
    exact ⟨by rw [HR.out]; rfl, rfl⟩
  have g1 : ((s[s.size - 9].toNat : Int) != 35) = false := by simpa using k1
  cases ok
  · have HR : Hid (r = (⟨#[]⟩, 5)) := Lib.hid (by rw [HO.out, if_pos (.inr rfl)])
    clear HO k1
    go_enter Tryz.func40, Tryz.ntmps40
    go_wp2_with fail
    refine (CU.out _).mono ?_; rintro e w2 ⟨rfl, rfl⟩
    go_wp2_with fail
    go_ret2
    exact ⟨by rw [HR.out]; rfl, rfl⟩
  · rw [if_neg (by simp [k1])] at HO
    by_cases hxc : x = c
    · have g2 : ((x : Int) != (c : Int)) = false := by simp [hxc]
      have g3 : (x != c) = false := by simp [hxc]
      have HR : Hid (r = (s.extract 0 (s.size - 9), 0)) := Lib.hid (by rw [HO.out, if_neg (by simp [hxc])])
      clear HO k1 hxc
      go_enter Tryz.func40, Tryz.ntmps40
      go_wp2_with fail
      refine (CU.out _).mono ?_; rintro e w2 ⟨rfl, rfl⟩
      go_wp2_with fail
      refine (CC.out _).mono ?_; rintro e w3 ⟨rfl, rfl⟩
      go_wp2_with fail
      go_ret2
      exact ⟨by rw [HR.out]; rfl, rfl⟩
    · have g2 : ((x : Int) != (c : Int)) = true := by
        have : ¬ (x : Int) = c := by omega
        simpa using this
      have g3 : (x != c) = true := by simpa using hxc
      have HR : Hid (r = (⟨#[]⟩, 14)) := Lib.hid (by rw [HO.out, if_pos hxc])
      clear HO k1 hxc
      go_enter Tryz.func40, Tryz.ntmps40
      go_wp2_with fail
      refine (CU.out _).mono ?_; rintro e w2 ⟨rfl, rfl⟩
      go_wp2_with fail
      refine (CC.out _).mono ?_; rintro e w3 ⟨rfl, rfl⟩
      go_wp2_with fail
      go_ret2
      exact ⟨by rw [HR.out]; rfl, rfl⟩

end Go.Proofs.YtbgficaboolgiaaGreatDoor
