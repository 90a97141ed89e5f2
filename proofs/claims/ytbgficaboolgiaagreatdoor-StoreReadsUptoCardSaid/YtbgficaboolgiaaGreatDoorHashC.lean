/-
  The program's Open.
-/
import Derived.Test.YtbgficaboolgiaaGreatDoorHashB
namespace Go.Proofs.YtbgficaboolgiaaGreatDoor
open Go.RowKit
set_option linter.unusedVariables false
set_option linter.unusedSimpArgs false

set_option maxRecDepth 100000 in
set_option maxHeartbeats 4000000 in
theorem hashOpen (s : ByteArray) (hs : s.size ≤ maxLen) (w : World) :
    Calls Tryz.prog 32 #[.string s] w fun e w' => e = .returned (.tuple #[.string (openT s).1, .int .i64 (openT s).2]) ∧ w = w' := by
  unfold maxLen at hs
  have HO : Hid (openT s = if s.size < 9 then (⟨#[]⟩, 6)
    else if byt s (s.size - 9) ≠ 35 ∨ (unhT (s.extract (s.size - 8) s.size)).2 = false then (⟨#[]⟩, 5)
    else if (unhT (s.extract (s.size - 8) s.size)).1 ≠ crcS (s.extract 0 (s.size - 9)) then (⟨#[]⟩, 14)
    else (s.extract 0 (s.size - 9), 0)) := Lib.hid rfl
  generalize openT s = r at *
  by_cases h9 : s.size < 9
  · have f1 : (s.size : Int) - 9 < 0 := by omega
    have HR : Hid (r = (⟨#[]⟩, 6)) := Lib.hid (by rw [HO.out, if_pos h9])
    clear HO h9
    go_enter Tryz.func32, Tryz.ntmps32
    go_wp2_with fail
    go_ret2
    exact ⟨by rw [HR.out]; rfl, rfl⟩
  rw [if_neg h9] at HO
  have f1 : ¬ (s.size : Int) - 9 < 0 := by omega
  have f2 : 9 ≤ (s.size : Int) := by omega
  have x1 : ((s.size : Int) - 9).toNat = s.size - 9 := by omega
  have x2 : ((s.size : Int) - 9 + 1).toNat = s.size - 8 := by omega
  have y1 : (0 : Int) ≤ (s.size : Int) - 9 := by omega
  have y2 : (0 : Int) ≤ (s.size : Int) - 9 + 1 := by omega
  have y3 : (s.size : Int) - 9 + 1 ≤ (s.size : Int) := by omega
  have y4 : (s.size : Int) - 9 ≤ (s.size : Int) := by omega
  have y5 : (s.size : Int) - 9 < (s.size : Int) := by omega
  have l1 : s.size - 9 < s.size := by omega
  have l2 : s.size - 8 ≤ s.size := by omega
  have b1 := byt_at s _ l1
  have u1 := s[s.size - 9].toNat_lt
  rw [b1] at HO
  have hz : (s.extract (s.size - 8) s.size).size ≤ maxLen := by rw [extract_size _ _ _ (Nat.le_refl _)]; unfold maxLen; omega
  have hz2 : (s.extract 0 (s.size - 9)).size ≤ maxLen := by rw [extract_size _ _ _ (by omega)]; unfold maxLen; omega
  have CU := Lib.hid (fun W => hashUnhexn (s.extract (s.size - 8) s.size) hz W)
  have hux := unhT_lt (s.extract (s.size - 8) s.size)
  have CC := Lib.hid (fun W => hashCRC (s.extract 0 (s.size - 9)) W hz2)
  have hc := crcS_lt (s.extract 0 (s.size - 9))
  generalize crcS (s.extract 0 (s.size - 9)) = c at *
  generalize unhT (s.extract (s.size - 8) s.size) = q at *
  obtain ⟨x, ok⟩ := q
  simp only at CU HO hux
  have hmod : (c : Int) % 18446744073709551616 = (c : Int) := by omega
  have HS := Lib.hid hs
  clear hz hz2 b1 h9
  by_cases k1 : (s[s.size - 9].toNat : Int) = 35
  case neg =>
    have g1 : ((s[s.size - 9].toNat : Int) != 35) = true := by simpa using k1
    have HR : Hid (r = (⟨#[]⟩, 5)) := Lib.hid (by rw [HO.out, if_pos (.inl k1)])
    clear HO k1
    go_enter Tryz.func32, Tryz.ntmps32
    go_wp2_with fail
    refine (CU.out _).mono ?_; rintro e w2 ⟨rfl, rfl⟩
    go_wp2_with fail
    go_ret2
    exact ⟨by rw [HR.out]; rfl, rfl⟩
  have g1 : ((s[s.size - 9].toNat : Int) != 35) = false := by simpa using k1
  cases ok
  · have HR : Hid (r = (⟨#[]⟩, 5)) := Lib.hid (by rw [HO.out, if_pos (.inr rfl)])
    clear HO k1
    go_enter Tryz.func32, Tryz.ntmps32
    go_wp2_with fail
    refine (CU.out _).mono ?_; rintro e w2 ⟨rfl, rfl⟩
    go_wp2_with fail
    go_ret2
    exact ⟨by rw [HR.out]; rfl, rfl⟩
  · rw [if_neg (by simp [k1])] at HO
    by_cases hxc : x = c
    · have g2 : ((x : Int) != (c : Int)) = false := by simp [hxc]
      have g3 : (x != c) = false := by simp [hxc]
      have HR : Hid (r = (s.extract 0 (s.size - 9), 0)) := Lib.hid (by rw [HO.out, if_neg (by simp [hxc])])
      clear HO k1 hxc
      go_enter Tryz.func32, Tryz.ntmps32
      go_wp2_with fail
      refine (CU.out _).mono ?_; rintro e w2 ⟨rfl, rfl⟩
      go_wp2_with fail
      refine (CC.out _).mono ?_; rintro e w3 ⟨rfl, rfl⟩
      go_wp2_with fail
      go_ret2
      exact ⟨by rw [HR.out]; rfl, rfl⟩
    · have g2 : ((x : Int) != (c : Int)) = true := by
        have : ¬ (x : Int) = c := by omega
        simpa using this
      have g3 : (x != c) = true := by simpa using hxc
      have HR : Hid (r = (⟨#[]⟩, 14)) := Lib.hid (by rw [HO.out, if_pos hxc])
      clear HO k1 hxc
      go_enter Tryz.func32, Tryz.ntmps32
      go_wp2_with fail
      refine (CU.out _).mono ?_; rintro e w2 ⟨rfl, rfl⟩
      go_wp2_with fail
      refine (CC.out _).mono ?_; rintro e w3 ⟨rfl, rfl⟩
      go_wp2_with fail
      go_ret2
      exact ⟨by rw [HR.out]; rfl, rfl⟩

end Go.Proofs.YtbgficaboolgiaaGreatDoor
