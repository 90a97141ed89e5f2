/-
  Contracts of the small functions of pack and of its reference.
-/
import Derived.Test.YtljehdkjjgjpiaaDoorAwake
import Derived.Test.YtljehdkjjgjpiaaDoorPackSpec
namespace Go.Proofs.YtljehdkjjgjpiaaDoor
open Go.RowKit

theorem packDigit (c : Int) (w : World) (h0 : 0 ≤ c) (h1 : c ≤ 255) :
    Calls Tryd.prog 34 #[.int .u8 c] w fun e w' => e = .returned (.bool (decide (48 ≤ c ∧ c ≤ 57))) ∧ w = w' := by
  go_enter Tryd.func34, Tryd.ntmps34
  go_wp2
  all_goals
    go_ret
    refine ⟨retb ?_, rfl⟩
    first | (rw [eq_comm]; exact decide_eq_true (by omega)) | (rw [eq_comm]; exact decide_eq_false (by omega)) | (simp; omega)

set_option maxHeartbeats 1000000 in
theorem packNumeral (s : ByteArray) (a : Nat) (w : World) (hs : s.size ≤ maxLen) (ha : a ≤ s.size) :
    Calls Tryd.prog 26 #[.string s, .int .i64 a] w fun e w' => e = .returned (.int .i64 (dE1 s a)) ∧ w = w' := by
  unfold maxLen at hs
  go_enter Tryd.func26, Tryd.ntmps26
  go_wp2_with fail
  go_loop [1] (fun c => ∃ k : Nat, a ≤ k ∧ k ≤ s.size ∧ Hid (∀ j, a ≤ j → j < k → dig s j = true) ∧ c = .int .i64 k) (fun c => s.size - (intOf c).toNat)
  case atStart => exact ⟨a, Nat.le_refl _, ha, (fun j h1 h2 => by omega), rfl⟩
  case round =>
    obtain ⟨k, hk1, hk2, hd, rfl⟩ := hrel
    by_cases hlt : k < s.size
    · have hb := byt_bd s k
      have hbk := byt_at s k hlt
      rw [hbk] at hb
      have HB := Lib.hid hbk
      obtain ⟨hb0, hb1⟩ := hb
      clear hbk
      by_cases hg : 48 ≤ (s[k].toNat : Int) ∧ (s[k].toNat : Int) ≤ 57
      · have hdk : dig s k = true := by unfold dig; rw [HB.out]; exact decide_eq_true hg
        have HD : Hid (∀ j, a ≤ j → j < k + 1 → dig s j = true) := fun j h1 h2 => by
          by_cases e : j = k
          · rw [e]; exact hdk
          · exact hd.out j h1 (by omega)
        have hdec : decide (48 ≤ (s[k].toNat : Int) ∧ (s[k].toNat : Int) ≤ 57) = true := decide_eq_true hg
        have HDC := Lib.hid hdec
        clear hdk hg hd hdec
        go_wp2_with fail
        refine (packDigit (s[k].toNat : Int) _ hb0 hb1).mono ?_; rintro e w' ⟨rfl, rfl⟩
        rw [HDC.out]
        go_wp2_with fail
        go_round
        case rel => exact ⟨k + 1, by omega, by omega, HD, by go_num⟩
        case measure => simp [intOf]; omega
      · have hdk : dig s k = false := by unfold dig; rw [HB.out]; exact decide_eq_false hg
        have hdec : decide (48 ≤ (s[k].toNat : Int) ∧ (s[k].toNat : Int) ≤ 57) = false := decide_eq_false hg
        have HE := Lib.hid (dE1_unique s a k ha hk1 hk2 hd.out (fun _ => hdk))
        have HDC := Lib.hid hdec
        clear hdk hg hd hdec
        go_wp2_with fail
        refine (packDigit (s[k].toNat : Int) _ hb0 hb1).mono ?_; rintro e w' ⟨rfl, rfl⟩
        rw [HDC.out]
        go_wp2_with fail
        go_ret
        exact ⟨ret1 (by rw [← HE.out]), rfl⟩
    · obtain rfl : k = s.size := by omega
      have HE := Lib.hid (dE1_unique s a s.size ha hk1 (Nat.le_refl _) hd.out (fun h => by omega))
      go_wp2_with fail
      go_ret
      exact ⟨ret1 (by rw [← HE.out]), rfl⟩

set_option maxHeartbeats 1000000 in
theorem refNumeral (s : ByteArray) (a : Nat) (w : World) (hs : s.size ≤ maxLen) (ha : a ≤ s.size) :
    Calls Tryd.prog 29 #[.string s, .int .i64 a] w fun e w' => e = .returned (.int .i64 (dE1 s a)) ∧ w = w' := by
  unfold maxLen at hs
  go_enter Tryd.func29, Tryd.ntmps29
  go_wp2_with fail
  go_loop [1] (fun c => ∃ k : Nat, a ≤ k ∧ k ≤ s.size ∧ Hid (∀ j, a ≤ j → j < k → dig s j = true) ∧ c = .int .i64 k) (fun c => s.size - (intOf c).toNat)
  case atStart => exact ⟨a, Nat.le_refl _, ha, (fun j h1 h2 => by omega), rfl⟩
  case round =>
    obtain ⟨k, hk1, hk2, hd, rfl⟩ := hrel
    by_cases hlt : k < s.size
    · have hb := byt_bd s k
      have hbk := byt_at s k hlt
      rw [hbk] at hb
      have HB := Lib.hid hbk
      obtain ⟨hb0, hb1⟩ := hb
      clear hbk
      by_cases hg0 : 48 ≤ (s[k].toNat : Int)
      · by_cases hg1 : (s[k].toNat : Int) ≤ 57
        · have hdk : dig s k = true := by unfold dig; rw [HB.out]; exact decide_eq_true ⟨hg0, hg1⟩
          have HD : Hid (∀ j, a ≤ j → j < k + 1 → dig s j = true) := fun j h1 h2 => by
            by_cases e : j = k
            · rw [e]; exact hdk
            · exact hd.out j h1 (by omega)
          clear hdk hd
          go_wp2_with fail
          go_round
          case rel => exact ⟨k + 1, by omega, by omega, HD, by go_num⟩
          case measure => simp [intOf]; omega
        · have hdk : dig s k = false := by unfold dig; rw [HB.out]; exact decide_eq_false (by omega)
          have HE := Lib.hid (dE1_unique s a k ha hk1 hk2 hd.out (fun _ => hdk))
          clear hdk hd
          go_wp2_with fail
          go_ret
          exact ⟨ret1 (by rw [← HE.out]), rfl⟩
      · have hdk : dig s k = false := by unfold dig; rw [HB.out]; exact decide_eq_false (by omega)
        have HE := Lib.hid (dE1_unique s a k ha hk1 hk2 hd.out (fun _ => hdk))
        clear hdk hd
        go_wp2_with fail
        go_ret
        exact ⟨ret1 (by rw [← HE.out]), rfl⟩
    · obtain rfl : k = s.size := by omega
      have HE := Lib.hid (dE1_unique s a s.size ha hk1 (Nat.le_refl _) hd.out (fun h => by omega))
      go_wp2_with fail
      go_ret
      exact ⟨ret1 (by rw [← HE.out]), rfl⟩

theorem packWithin (s : ByteArray) (at_ : Int) (w : World) :
    Calls Tryd.prog 25 #[.string s, .int .i64 at_] w fun e w' => e = .returned (.bool (decide (0 ≤ at_ ∧ at_ ≤ s.size))) ∧ w = w' := by
  go_enter Tryd.func25, Tryd.ntmps25
  go_wp2
  all_goals
    go_ret
    refine ⟨retb ?_, rfl⟩
    first | (rw [eq_comm]; exact decide_eq_true (by omega)) | (rw [eq_comm]; exact decide_eq_false (by omega)) | (simp; omega)

theorem packPadded (d : ByteArray) (w : World) (hs : d.size ≤ maxLen) :
    Calls Tryd.prog 27 #[.string d] w fun e w' => e = .returned (.bool (decide (1 < d.size ∧ byt d 0 = 48))) ∧ w = w' := by
  unfold maxLen at hs
  by_cases h : 1 < d.size
  · have hb := byt_at d 0 (by omega)
    rw [hb]
    by_cases h8 : (d[0].toNat : Int) = 48
    · have f : ((d[0].toNat : Int) == 48) = true := by simpa using h8
      have hdec : decide (1 < d.size ∧ (d[0].toNat : Int) = 48) = true := decide_eq_true ⟨h, h8⟩
      rw [hdec]
      clear hb h8 hdec
      go_enter Tryd.func27, Tryd.ntmps27
      go_wp2
      go_ret
      exact ⟨rfl, rfl⟩
    · have f : ((d[0].toNat : Int) == 48) = false := by simpa using h8
      have hdec : decide (1 < d.size ∧ (d[0].toNat : Int) = 48) = false := decide_eq_false (fun e => h8 e.2)
      rw [hdec]
      clear hb h8 hdec
      go_enter Tryd.func27, Tryd.ntmps27
      go_wp2
      go_ret
      exact ⟨rfl, rfl⟩
  · have hdec : decide (1 < d.size ∧ byt d 0 = 48) = false := decide_eq_false (fun e => h e.1)
    rw [hdec]
    have f : decide (1 < d.size) = false := decide_eq_false h
    clear hdec
    go_enter Tryd.func27, Tryd.ntmps27
    go_wp2
    go_ret
    exact ⟨rfl, rfl⟩

/-- value: the number of a numeral that parses, or an overflow. -/
theorem packValue (d : ByteArray) (n : Int) (w : World) (hs : d.size ≤ maxLen) (h1 : parV d = cV n) (h2 : parE d = cE n) :
    Calls Tryd.prog 28 #[.string d] w fun e w' => e = .returned (.tuple #[.int .i64 (cV n), .int .i64 (cE n)]) ∧ Below w.heap.size w w' := by
  have c : ∀ w, Calls Tryd.prog 35 #[.string d] w fun e w' => e = .returned (.tuple #[.int .i64 (cV n), .int .i64 (cE n)]) ∧ Below w.heap.size w w' := fun w => by
    rw [← h1, ← h2]; exact numParse d w hs
  have C := Lib.hid c
  clear c h1 h2
  by_cases hf : -9223372036854775808 ≤ n ∧ n ≤ 9223372036854775807
  · have f : (cE n != 0) = false := by rw [cE_yes hf.1 hf.2]; rfl
    have HE := Lib.hid (cE_yes hf.1 hf.2)
    clear hf
    go_enter Tryd.func28, Tryd.ntmps28
    go_wp2_with fail
    refine (C.out _).mono ?_; rintro e w1 ⟨rfl, hb⟩
    have HB := Lib.hid hb
    clear hb
    go_wp2_with fail
    go_ret2
    exact ⟨ret2 rfl HE.out.symm, HB.out⟩
  · have f : (cE n != 0) = true := by rw [cE_no (by omega)]; rfl
    have HE := Lib.hid (cE_no (n := n) (by omega))
    have HV := Lib.hid (cV_no (n := n) (by omega))
    clear hf
    go_enter Tryd.func28, Tryd.ntmps28
    go_wp2_with fail
    refine (C.out _).mono ?_; rintro e w1 ⟨rfl, hb⟩
    have HB := Lib.hid hb
    clear hb
    go_wp2_with fail
    go_ret2
    exact ⟨ret2 HV.out.symm HE.out.symm, HB.out⟩

/-- What the reference's value returns. -/
def rvV (d : ByteArray) : Int := if dvl d d.size ≤ 9223372036854775808 then -(dvl d d.size : Int) else 0
def rvB (d : ByteArray) : Bool := decide (dvl d d.size ≤ 9223372036854775808)

set_option maxHeartbeats 1000000 in
/-- The reference's value: the number, negated; false if it is too great. -/
theorem refValue (d : ByteArray) (w : World) (hs : d.size ≤ maxLen) (hg : digs d d.size) :
    Calls Tryd.prog 30 #[.string d] w fun e w' => e = .returned (.tuple #[.int .i64 (rvV d), .bool (rvB d)]) ∧ w = w' := by
  unfold maxLen at hs
  have HG := Lib.hid hg
  clear hg
  go_enter Tryd.func30, Tryd.ntmps30
  go_wp2_with fail
  go_loop [4, 5] (fun n c => ∃ k : Nat, k ≤ d.size ∧ dvl d k ≤ 9223372036854775808 ∧ c = .int .i64 k ∧ n = .int .i64 (-(dvl d k : Int))) (fun _ c => d.size - (intOf c).toNat)
  case atStart => exact ⟨0, Nat.zero_le _, by simp [dvl], rfl, rfl⟩
  case round =>
    obtain ⟨k, hk, hv, rfl, rfl⟩ := hrel
    by_cases hlt : k < d.size
    · have hb := HG.out k hlt
      have hs1 := dvl_succ d k
      rw [byt_at d k hlt] at hb hs1
      obtain ⟨b0, b1⟩ := hb
      have HS := Lib.hid hs1
      clear hs1
      have hbd : (d[k].toNat : Int) ≤ 255 := by omega
      obtain ⟨c, hc⟩ : ∃ c : Nat, (c : Int) = (d[k].toNat : Int) - 48 := ⟨(d[k].toNat - 48), by omega⟩
      have hc9 : c ≤ 9 := by omega
      have htd : ((-9223372036854775808 : Int) + ((d[k].toNat : Int) - 48)).tdiv 10 = -((9223372036854775808 - (c : Int)) / 10) := by
        rw [← hc, show (-9223372036854775808 : Int) + (c : Int) = -(9223372036854775808 - (c : Int)) by omega, Int.neg_tdiv, Int.tdiv_eq_ediv_of_nonneg (by omega)]
      obtain ⟨q, hq⟩ : ∃ q, q = ((-9223372036854775808 : Int) + ((d[k].toNat : Int) - 48)).tdiv 10 := ⟨_, rfl⟩
      have hq1 : q = -((9223372036854775808 - (c : Int)) / 10) := by rw [hq, htd]
      have hqb : -922337203685477580 ≤ q ∧ q ≤ -922337203685477579 := by omega
      obtain ⟨q1, q2⟩ := hqb
      have hqq := hq.symm
      by_cases hov : 9223372036854775808 < dvl d (k + 1)
      · have ht : -(dvl d k : Int) < q := by have := HS.out; omega
        have hno : 9223372036854775808 < dvl d d.size := Nat.lt_of_lt_of_le hov (dvl_mono d (by omega))
        have HR1 : Hid (rvV d = 0) := if_neg (by omega)
        have HR2 : Hid (rvB d = false) := decide_eq_false (by omega)
        clear hov hno hq hq1 htd
        go_wp2_with fail
        go_ret2
        refine ⟨?_, rfl⟩
        rw [HR1.out, HR2.out]; rfl
      · have ht : ¬ (-(dvl d k : Int) < q) := by have := HS.out; omega
        have hle : dvl d (k + 1) ≤ 9223372036854775808 := by omega
        have hnew : 10 * -(dvl d k : Int) - ((d[k].toNat : Int) - 48) = -(dvl d (k + 1) : Int) := by have := HS.out; omega
        have hb2 : -9223372036854775808 ≤ 10 * -(dvl d k : Int) - ((d[k].toNat : Int) - 48) := by omega
        have HN := Lib.hid hnew
        have HL := Lib.hid hle
        clear hov hle hnew hq hq1 htd
        go_wp2_with fail
        go_round
        case rel => exact ⟨k + 1, by omega, HL.out, by go_num, by rw [← HN.out]⟩
        case measure => simp [intOf]; omega
    · obtain rfl : k = d.size := by omega
      have HR1 : Hid (rvV d = -(dvl d d.size : Int)) := if_pos hv
      have HR2 : Hid (rvB d = true) := decide_eq_true hv
      go_wp2_with fail
      go_ret2
      refine ⟨?_, rfl⟩
      rw [HR1.out, HR2.out]; rfl

end Go.Proofs.YtljehdkjjgjpiaaDoor
