/-
  What the functions of pack return, in plain words: the end of digits, a text, a number.
  Contracts of the small functions of pack and of its reference.
  TakeText and TakeNumber, of pack and of its reference.
  TakeText of the reference.
  TakeNumber of pack.
  TakeNumber of the reference.
-/
import Derived.Test.YtbgficaboolgiaaGreatDoorBase
import Derived.Lib.Strings
import Derived.Test.YtbgficaboolgiaaGreatDoorDec
namespace Go.Proofs.YtbgficaboolgiaaGreatDoor
section
open Go.RowKit

/-- Is byte k a digit? -/
def dig (s : ByteArray) (k : Nat) : Bool := decide (48 ≤ byt s k ∧ byt s k ≤ 57)

/-- The offset behind the digits that begin at a. -/
def dEnd (s : ByteArray) : Nat → Nat → Nat
  | 0, a => a
  | n + 1, a => if a < s.size ∧ dig s a = true then dEnd s n (a + 1) else a
theorem dEnd_spec (s : ByteArray) (n a : Nat) (ha : a ≤ s.size) (hn : s.size ≤ a + n) :
    a ≤ dEnd s n a ∧ dEnd s n a ≤ s.size ∧ (∀ j, a ≤ j → j < dEnd s n a → dig s j = true) ∧ (dEnd s n a < s.size → dig s (dEnd s n a) = false) := by
  induction n generalizing a with
  | zero => exact ⟨Nat.le_refl _, ha, fun j h1 h2 => by simp [dEnd] at h2; omega, fun h => by simp [dEnd] at h; omega⟩
  | succ n ih =>
    unfold dEnd
    by_cases h : a < s.size ∧ dig s a = true
    · rw [if_pos h]
      obtain ⟨h1, h2, h3, h4⟩ := ih (a + 1) (by omega) (by omega)
      refine ⟨by omega, h2, fun j hj hj2 => ?_, h4⟩
      by_cases e : j = a
      · rw [e]; exact h.2
      · exact h3 j (by omega) hj2
    · rw [if_neg h]
      refine ⟨Nat.le_refl _, ha, fun j h1 h2 => by omega, fun h1 => ?_⟩
      cases hd : dig s a
      · rfl
      · exact absurd ⟨h1, hd⟩ h
/-- The end of the digits from a. -/
def dE1 (s : ByteArray) (a : Nat) : Nat := dEnd s s.size a
theorem dE1_spec (s : ByteArray) (a : Nat) (ha : a ≤ s.size) :
    a ≤ dE1 s a ∧ dE1 s a ≤ s.size ∧ (∀ j, a ≤ j → j < dE1 s a → dig s j = true) ∧ (dE1 s a < s.size → dig s (dE1 s a) = false) := dEnd_spec s s.size a ha (by omega)
/-- It is the only such offset. -/
theorem dE1_unique (s : ByteArray) (a e : Nat) (ha : a ≤ s.size) (h1 : a ≤ e) (h2 : e ≤ s.size) (h3 : ∀ j, a ≤ j → j < e → dig s j = true) (h4 : e < s.size → dig s e = false) : e = dE1 s a := by
  obtain ⟨g1, g2, g3, g4⟩ := dE1_spec s a ha
  rcases Nat.lt_trichotomy e (dE1 s a) with h | h | h
  · have := g3 e h1 h
    rw [h4 (by omega)] at this; cases this
  · exact h
  · have := h3 _ g1 h
    rw [g4 (by omega)] at this; cases this

theorem byt_extract (s : ByteArray) (a e j : Nat) (_he : e ≤ s.size) (hj : j < e - a) : byt (s.extract a e) j = byt s (a + j) := by
  unfold byt
  rw [Lib.extract_data, List.getD_eq_getElem?_getD, List.getD_eq_getElem?_getD, List.getElem?_take_of_lt hj, List.getElem?_drop]
theorem extract_size (s : ByteArray) (a e : Nat) (he : e ≤ s.size) : (s.extract a e).size = e - a := by
  simp; omega
theorem extract_extract (s : ByteArray) (a v : Nat) (_h : a + v ≤ s.size) : (s.extract a s.size).extract 0 v = s.extract a (a + v) := by
  have : ((s.extract a s.size).extract 0 v).data.toList = (s.extract a (a + v)).data.toList := by
    rw [Lib.extract_data, Lib.extract_data, Lib.extract_data]
    simp only [List.drop_zero, Nat.sub_zero]
    rw [List.take_take, List.take_eq_take_iff]
    simp
  generalize (s.extract a s.size).extract 0 v = b at this
  generalize s.extract a (a + v) = c at this
  obtain ⟨⟨l⟩⟩ := b
  obtain ⟨⟨m⟩⟩ := c
  simp at this
  rw [this]
theorem digs_extract (s : ByteArray) (a e : Nat) (he : e ≤ s.size) (h : ∀ j, a ≤ j → j < e → dig s j = true) : digs (s.extract a e) (s.extract a e).size := by
  intro j hj
  rw [extract_size s a e he] at hj
  rw [byt_extract s a e j he hj]
  have := h (a + j) (by omega) (by omega)
  unfold dig at this
  simpa using this

/-- The value of the digits from a to e. -/
def dval (s : ByteArray) (a e : Nat) : Nat := dvl (s.extract a e) (e - a)

/-- What TakeText returns, for an offset that is one of the string. -/
def ttN (s : ByteArray) (a : Nat) : ByteArray × Int × Int :=
  if dE1 s a = s.size then (⟨#[]⟩, 0, 6)
  else if dE1 s a = a ∨ (byt s a = 48 ∧ a + 1 < dE1 s a) ∨ byt s (dE1 s a) ≠ 58 then (⟨#[]⟩, 0, 5)
  else if 9223372036854775807 < dval s a (dE1 s a) then (⟨#[]⟩, 0, 3)
  else if s.size - dE1 s a - 1 < dval s a (dE1 s a) then (⟨#[]⟩, 0, 6)
  else (s.extract (dE1 s a + 1) (dE1 s a + 1 + dval s a (dE1 s a)), ((dE1 s a + 1 + dval s a (dE1 s a) : Nat) : Int), 0)
/-- What TakeText returns. -/
def tt (s : ByteArray) (at_ : Int) : ByteArray × Int × Int := if at_ < 0 ∨ (s.size : Int) < at_ then (⟨#[]⟩, 0, 1) else ttN s at_.toNat
/-- The three results. -/
def ret3t (r : ByteArray × Int × Int) : Ending := .returned (.tuple #[.string r.1, .int .i64 r.2.1, .int .i64 r.2.2])

/-- Where the digits of a number begin. -/
def nFirst (s : ByteArray) (a : Nat) : Nat := if a < s.size ∧ byt s a = 45 then a + 1 else a
/-- What TakeNumber returns, for an offset that is one of the string: f is where the digits begin, e where they end. -/
def tnF (s : ByteArray) (a f e : Nat) : Int × Int × Int :=
  if e = s.size then (0, 0, 6)
  else if e = f ∨ (byt s f = 48 ∧ f + 1 < e) ∨ (byt s f = 48 ∧ f ≠ a) ∨ byt s e ≠ 59 then (0, 0, 5)
  else if f ≠ a then (if 9223372036854775808 < dval s f e then (0, 0, 3) else (-(dval s f e : Int), ((e + 1 : Nat) : Int), 0))
  else (if 9223372036854775807 < dval s f e then (0, 0, 3) else (dval s f e, ((e + 1 : Nat) : Int), 0))
def tn (s : ByteArray) (at_ : Int) : Int × Int × Int :=
  if at_ < 0 ∨ (s.size : Int) < at_ then (0, 0, 1) else tnF s at_.toNat (nFirst s at_.toNat) (dE1 s (nFirst s at_.toNat))
def ret3n (r : Int × Int × Int) : Ending := .returned (.tuple #[.int .i64 r.1, .int .i64 r.2.1, .int .i64 r.2.2])
theorem nFirst_le (s : ByteArray) (a : Nat) (h : a ≤ s.size) : a ≤ nFirst s a ∧ nFirst s a ≤ s.size ∧ nFirst s a ≤ a + 1 := by
  unfold nFirst; split <;> omega

/-- Digits without a leading zero parse to their value. -/
theorem par_digits (d : ByteArray) (hg : digs d d.size) (hz : 0 < d.size) (hl : ¬ (byt d 0 = 48 ∧ 1 < d.size)) : parV d = cV (dvl d d.size) ∧ parE d = cE (dvl d d.size) := by
  have h0 := hg 0 hz
  have hn : isNeg d = false := by
    unfold isNeg; simp; intro _; omega
  have hb : body d = d := (body_size d).2 hn
  have hgood : ¬ badForm d := by
    unfold badForm
    rw [hb, hn]
    rintro (h | h | ⟨h, h2 | h2⟩)
    · omega
    · exact h hg
    · exact hl ⟨h, h2⟩
    · cases h2
  obtain ⟨p1, p2⟩ := par_good hgood
  have hd : den d = dvl d d.size := by unfold den; rw [hn, hb]; rfl
  rw [p1, p2, hd]; exact ⟨rfl, rfl⟩
/-- The same behind a minus sign. -/
theorem par_minus (s : ByteArray) (d : ByteArray) (hs : 0 < s.size) (h45 : byt s 0 = 45) (hd : s.extract 1 s.size = d) (hg : digs d d.size) (hz : 0 < d.size) (hl : byt d 0 ≠ 48) :
    parV s = cV (-(dvl d d.size : Int)) ∧ parE s = cE (-(dvl d d.size : Int)) := by
  have hn : isNeg s = true := by unfold isNeg; simp; exact ⟨hs, h45⟩
  have hb : body s = d := by unfold body; rw [if_pos hn, hd]
  have hgood : ¬ badForm s := by
    unfold badForm
    rw [hb, hn]
    rintro (h | h | ⟨h, h2⟩)
    · omega
    · exact h hg
    · exact hl h
  obtain ⟨p1, p2⟩ := par_good hgood
  have hdd : den s = -(dvl d d.size : Int) := by unfold den; rw [hn, hb]; rfl
  rw [p1, p2, hdd]; exact ⟨rfl, rfl⟩
end

section
open Go.RowKit

theorem packDigit (c : Int) (w : World) (h0 : 0 ≤ c) (h1 : c ≤ 255) :
    Calls Tryz.prog 90 #[.int .u8 c] w fun e w' => e = .returned (.bool (decide (48 ≤ c ∧ c ≤ 57))) ∧ w = w' := by
  go_enter Tryz.func90, Tryz.ntmps90
  go_wp2
  all_goals
    go_ret
    refine ⟨retb ?_, rfl⟩
    first | (rw [eq_comm]; exact decide_eq_true (by omega)) | (rw [eq_comm]; exact decide_eq_false (by omega)) | (simp; omega)

set_option maxHeartbeats 1000000 in
theorem packNumeral (s : ByteArray) (a : Nat) (w : World) (hs : s.size ≤ maxLen) (ha : a ≤ s.size) :
    Calls Tryz.prog 81 #[.string s, .int .i64 a] w fun e w' => e = .returned (.int .i64 (dE1 s a)) ∧ w = w' := by
  unfold maxLen at hs
  go_enter Tryz.func81, Tryz.ntmps81
  go_wp2_with fail
  go_loop [1] (fun c => ∃ k : Nat, a ≤ k ∧ k ≤ s.size ∧ Hid (∀ j, a ≤ j → j < k → dig s j = true) ∧ c = .int .i64 k) (fun c => s.size - (intOf c).toNat)
  case atStart => exact ⟨a, Nat.le_refl _, ha, (fun j h1 h2 => by omega), rfl⟩
  case round =>
    obtain ⟨k, hk1, hk2, hd, rfl⟩ := hrel
    by_cases hlt : k < s.size
    · have hb := byt_bd s k
      have hbk := byt_at s k hlt
      rw [hbk] at hb
      have HB := Lib.hid hbk
      obtain ⟨hb0, hb1⟩ := hb
      clear hbk
      by_cases hg : 48 ≤ (s[k].toNat : Int) ∧ (s[k].toNat : Int) ≤ 57
      · have hdk : dig s k = true := by unfold dig; rw [HB.out]; exact decide_eq_true hg
        have HD : Hid (∀ j, a ≤ j → j < k + 1 → dig s j = true) := fun j h1 h2 => by
          by_cases e : j = k
          · rw [e]; exact hdk
          · exact hd.out j h1 (by omega)
        have hdec : decide (48 ≤ (s[k].toNat : Int) ∧ (s[k].toNat : Int) ≤ 57) = true := decide_eq_true hg
        have HDC := Lib.hid hdec
        clear hdk hg hd hdec
        go_wp2_with fail
        refine (packDigit (s[k].toNat : Int) _ hb0 hb1).mono ?_; rintro e w' ⟨rfl, rfl⟩
        rw [HDC.out]
        go_wp2_with fail
        go_round
        case rel => exact ⟨k + 1, by omega, by omega, HD, by go_num⟩
        case measure => simp [intOf]; omega
      · have hdk : dig s k = false := by unfold dig; rw [HB.out]; exact decide_eq_false hg
        have hdec : decide (48 ≤ (s[k].toNat : Int) ∧ (s[k].toNat : Int) ≤ 57) = false := decide_eq_false hg
        have HE := Lib.hid (dE1_unique s a k ha hk1 hk2 hd.out (fun _ => hdk))
        have HDC := Lib.hid hdec
        clear hdk hg hd hdec
        go_wp2_with fail
        refine (packDigit (s[k].toNat : Int) _ hb0 hb1).mono ?_; rintro e w' ⟨rfl, rfl⟩
        rw [HDC.out]
        go_wp2_with fail
        go_ret
        exact ⟨ret1 (by rw [← HE.out]), rfl⟩
    · obtain rfl : k = s.size := by omega
      have HE := Lib.hid (dE1_unique s a s.size ha hk1 (Nat.le_refl _) hd.out (fun h => by omega))
      go_wp2_with fail
      go_ret
      exact ⟨ret1 (by rw [← HE.out]), rfl⟩

set_option maxHeartbeats 1000000 in
theorem refNumeral (s : ByteArray) (a : Nat) (w : World) (hs : s.size ≤ maxLen) (ha : a ≤ s.size) :
    Calls Tryz.prog 84 #[.string s, .int .i64 a] w fun e w' => e = .returned (.int .i64 (dE1 s a)) ∧ w = w' := by
  unfold maxLen at hs
  go_enter Tryz.func84, Tryz.ntmps84
  go_wp2_with fail
  go_loop [1] (fun c => ∃ k : Nat, a ≤ k ∧ k ≤ s.size ∧ Hid (∀ j, a ≤ j → j < k → dig s j = true) ∧ c = .int .i64 k) (fun c => s.size - (intOf c).toNat)
  case atStart => exact ⟨a, Nat.le_refl _, ha, (fun j h1 h2 => by omega), rfl⟩
  case round =>
    obtain ⟨k, hk1, hk2, hd, rfl⟩ := hrel
    by_cases hlt : k < s.size
    · have hb := byt_bd s k
      have hbk := byt_at s k hlt
      rw [hbk] at hb
      have HB := Lib.hid hbk
      obtain ⟨hb0, hb1⟩ := hb
      clear hbk
      by_cases hg0 : 48 ≤ (s[k].toNat : Int)
      · by_cases hg1 : (s[k].toNat : Int) ≤ 57
        · have hdk : dig s k = true := by unfold dig; rw [HB.out]; exact decide_eq_true ⟨hg0, hg1⟩
          have HD : Hid (∀ j, a ≤ j → j < k + 1 → dig s j = true) := fun j h1 h2 => by
            by_cases e : j = k
            · rw [e]; exact hdk
            · exact hd.out j h1 (by omega)
          clear hdk hd
          go_wp2_with fail
          go_round
          case rel => exact ⟨k + 1, by omega, by omega, HD, by go_num⟩
          case measure => simp [intOf]; omega
        · have hdk : dig s k = false := by unfold dig; rw [HB.out]; exact decide_eq_false (by omega)
          have HE := Lib.hid (dE1_unique s a k ha hk1 hk2 hd.out (fun _ => hdk))
          clear hdk hd
          go_wp2_with fail
          go_ret
          exact ⟨ret1 (by rw [← HE.out]), rfl⟩
      · have hdk : dig s k = false := by unfold dig; rw [HB.out]; exact decide_eq_false (by omega)
        have HE := Lib.hid (dE1_unique s a k ha hk1 hk2 hd.out (fun _ => hdk))
        clear hdk hd
        go_wp2_with fail
        go_ret
        exact ⟨ret1 (by rw [← HE.out]), rfl⟩
    · obtain rfl : k = s.size := by omega
      have HE := Lib.hid (dE1_unique s a s.size ha hk1 (Nat.le_refl _) hd.out (fun h => by omega))
      go_wp2_with fail
      go_ret
      exact ⟨ret1 (by rw [← HE.out]), rfl⟩

theorem packWithin (s : ByteArray) (at_ : Int) (w : World) :
    Calls Tryz.prog 80 #[.string s, .int .i64 at_] w fun e w' => e = .returned (.bool (decide (0 ≤ at_ ∧ at_ ≤ s.size))) ∧ w = w' := by
  go_enter Tryz.func80, Tryz.ntmps80
  go_wp2
  all_goals
    go_ret
    refine ⟨retb ?_, rfl⟩
    first | (rw [eq_comm]; exact decide_eq_true (by omega)) | (rw [eq_comm]; exact decide_eq_false (by omega)) | (simp; omega)

theorem packPadded (d : ByteArray) (w : World) (hs : d.size ≤ maxLen) :
    Calls Tryz.prog 82 #[.string d] w fun e w' => e = .returned (.bool (decide (1 < d.size ∧ byt d 0 = 48))) ∧ w = w' := by
  unfold maxLen at hs
  by_cases h : 1 < d.size
  · have hb := byt_at d 0 (by omega)
    rw [hb]
    by_cases h8 : (d[0].toNat : Int) = 48
    · have f : ((d[0].toNat : Int) == 48) = true := by simpa using h8
      have hdec : decide (1 < d.size ∧ (d[0].toNat : Int) = 48) = true := decide_eq_true ⟨h, h8⟩
      rw [hdec]
      clear hb h8 hdec
      go_enter Tryz.func82, Tryz.ntmps82
      go_wp2
      go_ret
      exact ⟨rfl, rfl⟩
    · have f : ((d[0].toNat : Int) == 48) = false := by simpa using h8
      have hdec : decide (1 < d.size ∧ (d[0].toNat : Int) = 48) = false := decide_eq_false (fun e => h8 e.2)
      rw [hdec]
      clear hb h8 hdec
      go_enter Tryz.func82, Tryz.ntmps82
      go_wp2
      go_ret
      exact ⟨rfl, rfl⟩
  · have hdec : decide (1 < d.size ∧ byt d 0 = 48) = false := decide_eq_false (fun e => h e.1)
    rw [hdec]
    have f : decide (1 < d.size) = false := decide_eq_false h
    clear hdec
    go_enter Tryz.func82, Tryz.ntmps82
    go_wp2
    go_ret
    exact ⟨rfl, rfl⟩

/-- value: the number of a numeral that parses, or an overflow. -/
theorem packValue (d : ByteArray) (n : Int) (w : World) (hs : d.size ≤ maxLen) (h1 : parV d = cV n) (h2 : parE d = cE n) :
    Calls Tryz.prog 83 #[.string d] w fun e w' => e = .returned (.tuple #[.int .i64 (cV n), .int .i64 (cE n)]) ∧ Below w.heap.size w w' := by
  have c : ∀ w, Calls Tryz.prog 91 #[.string d] w fun e w' => e = .returned (.tuple #[.int .i64 (cV n), .int .i64 (cE n)]) ∧ Below w.heap.size w w' := fun w => by
    rw [← h1, ← h2]; exact numParse d w hs
  have C := Lib.hid c
  clear c h1 h2
  by_cases hf : -9223372036854775808 ≤ n ∧ n ≤ 9223372036854775807
  · have f : (cE n != 0) = false := by rw [cE_yes hf.1 hf.2]; rfl
    have HE := Lib.hid (cE_yes hf.1 hf.2)
    clear hf
    go_enter Tryz.func83, Tryz.ntmps83
    go_wp2_with fail
    refine (C.out _).mono ?_; rintro e w1 ⟨rfl, hb⟩
    have HB := Lib.hid hb
    clear hb
    go_wp2_with fail
    go_ret2
    exact ⟨ret2 rfl HE.out.symm, HB.out⟩
  · have f : (cE n != 0) = true := by rw [cE_no (by omega)]; rfl
    have HE := Lib.hid (cE_no (n := n) (by omega))
    have HV := Lib.hid (cV_no (n := n) (by omega))
    clear hf
    go_enter Tryz.func83, Tryz.ntmps83
    go_wp2_with fail
    refine (C.out _).mono ?_; rintro e w1 ⟨rfl, hb⟩
    have HB := Lib.hid hb
    clear hb
    go_wp2_with fail
    go_ret2
    exact ⟨ret2 HV.out.symm HE.out.symm, HB.out⟩

/-- What the reference's value returns. -/
def rvV (d : ByteArray) : Int := if dvl d d.size ≤ 9223372036854775808 then -(dvl d d.size : Int) else 0
def rvB (d : ByteArray) : Bool := decide (dvl d d.size ≤ 9223372036854775808)

set_option maxHeartbeats 1000000 in
/-- The reference's value: the number, negated; false if it is too great. -/
theorem refValue (d : ByteArray) (w : World) (hs : d.size ≤ maxLen) (hg : digs d d.size) :
    Calls Tryz.prog 85 #[.string d] w fun e w' => e = .returned (.tuple #[.int .i64 (rvV d), .bool (rvB d)]) ∧ w = w' := by
  unfold maxLen at hs
  have HG := Lib.hid hg
  clear hg
  go_enter Tryz.func85, Tryz.ntmps85
  go_wp2_with fail
  go_loop [4, 5] (fun n c => ∃ k : Nat, k ≤ d.size ∧ dvl d k ≤ 9223372036854775808 ∧ c = .int .i64 k ∧ n = .int .i64 (-(dvl d k : Int))) (fun _ c => d.size - (intOf c).toNat)
  case atStart => exact ⟨0, Nat.zero_le _, by simp [dvl], rfl, rfl⟩
  case round =>
    obtain ⟨k, hk, hv, rfl, rfl⟩ := hrel
    by_cases hlt : k < d.size
    · have hb := HG.out k hlt
      have hs1 := dvl_succ d k
      rw [byt_at d k hlt] at hb hs1
      obtain ⟨b0, b1⟩ := hb
      have HS := Lib.hid hs1
      clear hs1
      have hbd : (d[k].toNat : Int) ≤ 255 := by omega
      obtain ⟨c, hc⟩ : ∃ c : Nat, (c : Int) = (d[k].toNat : Int) - 48 := ⟨(d[k].toNat - 48), by omega⟩
      have hc9 : c ≤ 9 := by omega
      have htd : ((-9223372036854775808 : Int) + ((d[k].toNat : Int) - 48)).tdiv 10 = -((9223372036854775808 - (c : Int)) / 10) := by
        rw [← hc, show (-9223372036854775808 : Int) + (c : Int) = -(9223372036854775808 - (c : Int)) by omega, Int.neg_tdiv, Int.tdiv_eq_ediv_of_nonneg (by omega)]
      obtain ⟨q, hq⟩ : ∃ q, q = ((-9223372036854775808 : Int) + ((d[k].toNat : Int) - 48)).tdiv 10 := ⟨_, rfl⟩
      have hq1 : q = -((9223372036854775808 - (c : Int)) / 10) := by rw [hq, htd]
      have hqb : -922337203685477580 ≤ q ∧ q ≤ -922337203685477579 := by omega
      obtain ⟨q1, q2⟩ := hqb
      have hqq := hq.symm
      by_cases hov : 9223372036854775808 < dvl d (k + 1)
      · have ht : -(dvl d k : Int) < q := by have := HS.out; omega
        have hno : 9223372036854775808 < dvl d d.size := Nat.lt_of_lt_of_le hov (dvl_mono d (by omega))
        have HR1 : Hid (rvV d = 0) := if_neg (by omega)
        have HR2 : Hid (rvB d = false) := decide_eq_false (by omega)
        clear hov hno hq hq1 htd
        go_wp2_with fail
        go_ret2
        refine ⟨?_, rfl⟩
        rw [HR1.out, HR2.out]; rfl
      · have ht : ¬ (-(dvl d k : Int) < q) := by have := HS.out; omega
        have hle : dvl d (k + 1) ≤ 9223372036854775808 := by omega
        have hnew : 10 * -(dvl d k : Int) - ((d[k].toNat : Int) - 48) = -(dvl d (k + 1) : Int) := by have := HS.out; omega
        have hb2 : -9223372036854775808 ≤ 10 * -(dvl d k : Int) - ((d[k].toNat : Int) - 48) := by omega
        have HN := Lib.hid hnew
        have HL := Lib.hid hle
        clear hov hle hnew hq hq1 htd
        go_wp2_with fail
        go_round
        case rel => exact ⟨k + 1, by omega, HL.out, by go_num, by rw [← HN.out]⟩
        case measure => simp [intOf]; omega
    · obtain rfl : k = d.size := by omega
      have HR1 : Hid (rvV d = -(dvl d d.size : Int)) := if_pos hv
      have HR2 : Hid (rvB d = true) := decide_eq_true hv
      go_wp2_with fail
      go_ret2
      refine ⟨?_, rfl⟩
      rw [HR1.out, HR2.out]; rfl
end

section
open Go.RowKit

theorem str_empty (d : ByteArray) : (d.toList = []) ↔ d.size = 0 := by
  constructor
  · intro h
    have := toList_empty d
    rw [h] at this
    simpa using this.symm
  · exact toList_nil

set_option maxRecDepth 100000 in
set_option maxHeartbeats 4000000 in
theorem packTakeText (s : ByteArray) (at_ : Int) (w : World) (hs : s.size ≤ maxLen) (h0 : -9223372036854775808 ≤ at_) (h1 : at_ ≤ 9223372036854775807) :
    Calls Tryz.prog 60 #[.string s, .int .i64 at_] w fun e w' => e = ret3t (tt s at_) ∧ Below w.heap.size w w' := by
  have HM := Lib.hid hs
  unfold maxLen at hs
  by_cases hout : at_ < 0 ∨ (s.size : Int) < at_
  · have hr : ret3t (tt s at_) = .returned (.tuple #[.string ⟨#[]⟩, .int .i64 0, .int .i64 1]) := by unfold tt; rw [if_pos hout]; rfl
    have hd : decide (0 ≤ at_ ∧ at_ ≤ s.size) = false := decide_eq_false (by omega)
    have HR := Lib.hid hr
    have HD := Lib.hid hd
    clear hr hd hout
    go_enter Tryz.func60, Tryz.ntmps60
    go_wp2_with fail
    refine (packWithin s at_ _).mono ?_; rintro e w' ⟨rfl, rfl⟩
    rw [HD.out]
    go_wp2_with fail
    go_ret3
    exact ⟨by rw [HR.out]; rfl, Below.refl _ _⟩
  obtain ⟨a, rfl⟩ := Int.eq_ofNat_of_zero_le (show 0 ≤ at_ by omega)
  have ha : a ≤ s.size := by omega
  obtain ⟨g1, g2, g3, g4⟩ := dE1_spec s a ha
  have hr : tt s (a : Int) = ttN s a := by unfold tt; rw [if_neg hout, Int.toNat_natCast]
  rw [hr]
  have hd : decide (0 ≤ (a : Int) ∧ (a : Int) ≤ s.size) = true := decide_eq_true (by omega)
  have HD := Lib.hid hd
  obtain ⟨e, he⟩ : ∃ e, e = dE1 s a := ⟨_, rfl⟩
  have hnum : ∀ w, Calls Tryz.prog 81 #[.string s, .int .i64 a] w fun r w' => r = .returned (.int .i64 e) ∧ w = w' := fun w => by rw [he]; exact packNumeral s a w HM.out ha
  have HNUM := Lib.hid hnum
  have hspec : ttN s a = if e = s.size then (⟨#[]⟩, 0, 6) else if e = a ∨ (byt s a = 48 ∧ a + 1 < e) ∨ byt s e ≠ 58 then (⟨#[]⟩, 0, 5) else if 9223372036854775807 < dval s a e then (⟨#[]⟩, 0, 3)
      else if s.size - e - 1 < dval s a e then (⟨#[]⟩, 0, 6) else (s.extract (e + 1) (e + 1 + dval s a e), ((e + 1 + dval s a e : Nat) : Int), 0) := by rw [he]; rfl
  rw [← he] at g1 g2 g3 g4
  obtain ⟨d, hdd⟩ : ∃ d, d = s.extract a e := ⟨_, rfl⟩
  have hdsz : d.size = e - a := by rw [hdd]; exact extract_size s a e g2
  have hdg : digs d d.size := by rw [hdd]; exact digs_extract s a e g2 g3
  have hd0 : a < e → byt d 0 = byt s a := fun h => by rw [hdd, byt_extract s a e 0 g2 (by omega)]; rfl
  have hdv : dval s a e = dvl d d.size := by unfold dval; rw [hdsz, hdd]
  have hde : d.toList.isEmpty = decide (d.size = 0) := toList_empty d
  have hdl := str_empty d
  have hdm : d.size ≤ maxLen := by unfold maxLen; omega
  have hcut := hdd.symm
  clear hr hd hnum hout he hdd g3 g4
  by_cases c1 : e = s.size
  · have hr : ret3t (ttN s a) = .returned (.tuple #[.string ⟨#[]⟩, .int .i64 0, .int .i64 6]) := by rw [hspec, if_pos c1]; rfl
    have HR := Lib.hid hr
    have f : ((e : Int) == (s.size : Int)) = true := by simp; omega
    clear hr hspec c1 hdsz hd0 hdv hde hdl hdm hdg
    go_enter Tryz.func60, Tryz.ntmps60
    go_wp2_with fail
    refine (packWithin s _ _).mono ?_; rintro r w' ⟨rfl, rfl⟩
    rw [HD.out]
    go_wp2_with fail
    refine (HNUM.out _).mono ?_; rintro r w' ⟨rfl, rfl⟩
    go_wp2_with fail
    go_ret3
    exact ⟨by rw [HR.out]; rfl, Below.refl _ _⟩
  have f1 : ((e : Int) == (s.size : Int)) = false := by simp; omega
  have he2 : e < s.size := by omega
  by_cases c2 : e = a ∨ (byt s a = 48 ∧ a + 1 < e) ∨ byt s e ≠ 58
  · have hr : ret3t (ttN s a) = .returned (.tuple #[.string ⟨#[]⟩, .int .i64 0, .int .i64 5]) := by rw [hspec, if_neg c1, if_pos c2]; rfl
    have HR := Lib.hid hr
    have HDM := Lib.hid hdm
    clear hr hspec c1
    by_cases hea : e = a
    · have f2 : d.toList.isEmpty = true := by rw [hde]; exact decide_eq_true (by omega)
      have f3 : d.toList = [] := hdl.2 (by omega)
      clear hde hdl hdsz hd0 hdv hdg c2 hdm hea
      go_enter Tryz.func60, Tryz.ntmps60
      go_wp2_with fail
      refine (packWithin s _ _).mono ?_; rintro r w' ⟨rfl, rfl⟩
      rw [HD.out]
      go_wp2_with fail
      refine (HNUM.out _).mono ?_; rintro r w' ⟨rfl, rfl⟩
      go_wp2_with fail
      go_ret3
      exact ⟨by rw [HR.out]; rfl, Below.refl _ _⟩
    have f2 : d.toList.isEmpty = false := by rw [hde]; exact decide_eq_false (by omega)
    have f3 : ¬ d.toList = [] := fun h => by have := hdl.1 h; omega
    by_cases hpad : 1 < d.size ∧ byt d 0 = 48
    · have HP : Hid (decide (1 < d.size ∧ byt d 0 = 48) = true) := decide_eq_true hpad
      clear hde hdl hdsz hd0 hdv hdg c2 hdm hea hpad
      go_enter Tryz.func60, Tryz.ntmps60
      go_wp2_with fail
      refine (packWithin s _ _).mono ?_; rintro r w' ⟨rfl, rfl⟩
      rw [HD.out]
      go_wp2_with fail
      refine (HNUM.out _).mono ?_; rintro r w' ⟨rfl, rfl⟩
      go_wp2_with fail
      refine (packPadded d _ HDM.out).mono ?_; rintro r w' ⟨rfl, rfl⟩
      rw [HP.out]
      go_wp2_with fail
      go_ret3
      exact ⟨by rw [HR.out]; rfl, Below.refl _ _⟩
    · have HP : Hid (decide (1 < d.size ∧ byt d 0 = 48) = false) := decide_eq_false hpad
      have hcol : byt s e ≠ 58 := by
        rcases c2 with h | ⟨h, h2⟩ | h
        · exact absurd h hea
        · exact absurd ⟨by omega, by rw [hd0 (by omega)]; exact h⟩ hpad
        · exact h
      rw [byt_at s e he2] at hcol
      have f4 : ((s[e].toNat : Int) != 58) = true := by simpa using hcol
      clear hde hdl hdsz hd0 hdv hdg c2 hdm hea hpad hcol
      go_enter Tryz.func60, Tryz.ntmps60
      go_wp2_with fail
      refine (packWithin s _ _).mono ?_; rintro r w' ⟨rfl, rfl⟩
      rw [HD.out]
      go_wp2_with fail
      refine (HNUM.out _).mono ?_; rintro r w' ⟨rfl, rfl⟩
      go_wp2_with fail
      refine (packPadded d _ HDM.out).mono ?_; rintro r w' ⟨rfl, rfl⟩
      rw [HP.out]
      go_wp2_with fail
      go_ret3
      exact ⟨by rw [HR.out]; rfl, Below.refl _ _⟩
  have hea : a < e := by
    apply Classical.byContradiction; intro h; exact c2 (.inl (by omega))
  have f2 : d.toList.isEmpty = false := by rw [hde]; exact decide_eq_false (by omega)
  have f3 : ¬ d.toList = [] := fun h => by have := hdl.1 h; omega
  have hnp : ¬ (1 < d.size ∧ byt d 0 = 48) := fun h => c2 (.inr (.inl ⟨by rw [← hd0 hea]; exact h.2, by omega⟩))
  have HP : Hid (decide (1 < d.size ∧ byt d 0 = 48) = false) := decide_eq_false hnp
  have hcol : byt s e = 58 := Classical.byContradiction fun h => c2 (.inr (.inr h))
  rw [byt_at s e he2] at hcol
  have f4 : ((s[e].toNat : Int) != 58) = false := by rw [hcol]; rfl
  obtain ⟨p1, p2⟩ := par_digits d hdg (by omega) (fun h => hnp ⟨h.2, h.1⟩)
  have hv : ∀ w, Calls Tryz.prog 83 #[.string d] w fun r w' => r = .returned (.tuple #[.int .i64 (cV (dvl d d.size : Int)), .int .i64 (cE (dvl d d.size : Int))]) ∧ Below w.heap.size w w' := fun w => packValue d _ w hdm p1 p2
  have HPD : Hid (∀ w, Calls Tryz.prog 82 #[.string d] w fun r w' => r = .returned (.bool false) ∧ w = w') := fun w => by
    rw [← HP.out]; exact packPadded d w hdm
  rw [if_neg c1, if_neg c2, hdv] at hspec
  obtain ⟨v, hvv⟩ : ∃ v, v = dvl d d.size := ⟨_, rfl⟩
  rw [← hvv] at hspec hv
  clear p1 p2 hcol hnp hde hdl hdsz hd0 hdv hdg hdm c2 c1 hvv
  by_cases c3 : 9223372036854775807 < v
  · have hr : ret3t (ttN s a) = .returned (.tuple #[.string ⟨#[]⟩, .int .i64 0, .int .i64 3]) := by rw [hspec, if_pos c3]; rfl
    have HR := Lib.hid hr
    have HE : Hid (cE (v : Int) = 3) := cE_no (by omega)
    have HV := Lib.hid hv
    clear hr hspec hv c3
    go_enter Tryz.func60, Tryz.ntmps60
    go_wp2_with fail
    refine (packWithin s _ _).mono ?_; rintro r w' ⟨rfl, rfl⟩
    rw [HD.out]
    go_wp2_with fail
    refine (HNUM.out _).mono ?_; rintro r w' ⟨rfl, rfl⟩
    go_wp2_with fail
    refine (HPD.out _).mono ?_; rintro r w' ⟨rfl, rfl⟩
    go_wp2_with fail
    refine (HV.out _).mono ?_; rintro r w1 ⟨rfl, hb⟩
    have HB := Lib.hid hb
    clear hb
    rw [HE.out]
    go_wp2_with fail
    go_ret3
    exact ⟨by rw [HR.out]; rfl, HB.out⟩
  have HE : Hid (cE (v : Int) = 0) := cE_yes (by omega) (by omega)
  have HVV : Hid (cV (v : Int) = v) := cV_yes (by omega) (by omega)
  have HV := Lib.hid hv
  rw [if_neg c3] at hspec
  obtain ⟨rest, hrest⟩ : ∃ rest, rest = s.extract (e + 1) s.size := ⟨_, rfl⟩
  have hrs : rest.size = s.size - (e + 1) := by rw [hrest]; exact extract_size s (e + 1) s.size (Nat.le_refl _)
  have hrc := hrest.symm
  clear hv c3
  by_cases c4 : s.size - e - 1 < v
  · have hr : ret3t (ttN s a) = .returned (.tuple #[.string ⟨#[]⟩, .int .i64 0, .int .i64 6]) := by rw [hspec, if_pos c4]; rfl
    have HR := Lib.hid hr
    have hlt : rest.size < v := by omega
    clear hr hspec hrs hrest c4
    go_enter Tryz.func60, Tryz.ntmps60
    go_wp2_with fail
    refine (packWithin s _ _).mono ?_; rintro r w' ⟨rfl, rfl⟩
    rw [HD.out]
    go_wp2_with fail
    refine (HNUM.out _).mono ?_; rintro r w' ⟨rfl, rfl⟩
    go_wp2_with fail
    refine (HPD.out _).mono ?_; rintro r w' ⟨rfl, rfl⟩
    go_wp2_with fail
    refine (HV.out _).mono ?_; rintro r w1 ⟨rfl, hb⟩
    have HB := Lib.hid hb
    clear hb
    rw [HE.out, HVV.out]
    go_wp2_with fail
    go_ret3
    exact ⟨by rw [HR.out]; rfl, HB.out⟩
  · have hr : ret3t (ttN s a) = .returned (.tuple #[.string (rest.extract 0 v), .int .i64 (e + 1 + v), .int .i64 0]) := by
      rw [hspec, if_neg c4, hrest, extract_extract s (e + 1) v (by omega)]; rfl
    have HR := Lib.hid hr
    have hlt : ¬ rest.size < v := by omega
    have hle : v ≤ rest.size := by omega
    have hsum : (e : Int) + 1 + v ≤ s.size := by omega
    clear hr hspec hrs hrest c4
    go_enter Tryz.func60, Tryz.ntmps60
    go_wp2_with fail
    refine (packWithin s _ _).mono ?_; rintro r w' ⟨rfl, rfl⟩
    rw [HD.out]
    go_wp2_with fail
    refine (HNUM.out _).mono ?_; rintro r w' ⟨rfl, rfl⟩
    go_wp2_with fail
    refine (HPD.out _).mono ?_; rintro r w' ⟨rfl, rfl⟩
    go_wp2_with fail
    refine (HV.out _).mono ?_; rintro r w1 ⟨rfl, hb⟩
    have HB := Lib.hid hb
    clear hb
    rw [HE.out, HVV.out]
    go_wp2_with fail
    go_ret3
    exact ⟨by rw [HR.out]; rfl, HB.out⟩
end

section
open Go.RowKit

set_option maxRecDepth 100000 in
set_option maxHeartbeats 4000000 in
theorem refTakeText (s : ByteArray) (at_ : Int) (w : World) (hs : s.size ≤ maxLen) (h0 : -9223372036854775808 ≤ at_) (h1 : at_ ≤ 9223372036854775807) :
    Calls Tryz.prog 68 #[.string s, .int .i64 at_] w fun e w' => e = ret3t (tt s at_) ∧ w = w' := by
  have HM := Lib.hid hs
  unfold maxLen at hs
  by_cases hout : at_ < 0 ∨ (s.size : Int) < at_
  · have hr : ret3t (tt s at_) = .returned (.tuple #[.string ⟨#[]⟩, .int .i64 0, .int .i64 1]) := by unfold tt; rw [if_pos hout]; rfl
    have HR := Lib.hid hr
    clear hr
    by_cases hn : at_ < 0
    all_goals
      have hn2 : ¬ (0 ≤ at_ ∧ at_ ≤ s.size) := by omega
      go_enter Tryz.func68, Tryz.ntmps68
      go_wp2_with fail
      go_ret3
      exact ⟨by rw [HR.out]; rfl, rfl⟩
  obtain ⟨a, rfl⟩ := Int.eq_ofNat_of_zero_le (show 0 ≤ at_ by omega)
  have ha : a ≤ s.size := by omega
  obtain ⟨g1, g2, g3, g4⟩ := dE1_spec s a ha
  have hr : tt s (a : Int) = ttN s a := by unfold tt; rw [if_neg hout, Int.toNat_natCast]
  rw [hr]
  obtain ⟨e, he⟩ : ∃ e, e = dE1 s a := ⟨_, rfl⟩
  have hnum : ∀ w, Calls Tryz.prog 84 #[.string s, .int .i64 a] w fun r w' => r = .returned (.int .i64 e) ∧ w = w' := fun w => by rw [he]; exact refNumeral s a w HM.out ha
  have HNUM := Lib.hid hnum
  have hspec : ttN s a = if e = s.size then (⟨#[]⟩, 0, 6) else if e = a ∨ (byt s a = 48 ∧ a + 1 < e) ∨ byt s e ≠ 58 then (⟨#[]⟩, 0, 5) else if 9223372036854775807 < dval s a e then (⟨#[]⟩, 0, 3)
      else if s.size - e - 1 < dval s a e then (⟨#[]⟩, 0, 6) else (s.extract (e + 1) (e + 1 + dval s a e), ((e + 1 + dval s a e : Nat) : Int), 0) := by rw [he]; rfl
  rw [← he] at g1 g2 g3 g4
  obtain ⟨d, hdd⟩ : ∃ d, d = s.extract a e := ⟨_, rfl⟩
  have hdsz : d.size = e - a := by rw [hdd]; exact extract_size s a e g2
  have hdg : digs d d.size := by rw [hdd]; exact digs_extract s a e g2 g3
  have hd0 : a < e → byt d 0 = byt s a := fun h => by rw [hdd, byt_extract s a e 0 g2 (by omega)]; rfl
  have hdv : dval s a e = dvl d d.size := by unfold dval; rw [hdsz, hdd]
  have hde : d.toList.isEmpty = decide (d.size = 0) := toList_empty d
  have hdl := str_empty d
  have hdm : d.size ≤ maxLen := by unfold maxLen; omega
  have hcut := hdd.symm
  clear hr hnum hout he g3 g4
  by_cases c1 : e = s.size
  · have hr : ret3t (ttN s a) = .returned (.tuple #[.string ⟨#[]⟩, .int .i64 0, .int .i64 6]) := by rw [hspec, if_pos c1]; rfl
    have HR := Lib.hid hr
    have f : ((e : Int) == (s.size : Int)) = true := by simp; omega
    clear hr hspec c1 hdsz hd0 hdv hde hdl hdm hdg hdd hcut
    go_enter Tryz.func68, Tryz.ntmps68
    go_wp2_with fail
    refine (HNUM.out _).mono ?_; rintro r w' ⟨rfl, rfl⟩
    go_wp2_with fail
    go_ret3
    exact ⟨by rw [HR.out]; rfl, rfl⟩
  have f1 : ((e : Int) == (s.size : Int)) = false := by simp; omega
  have he2 : e < s.size := by omega
  have hbe := byt_at s e he2
  have hba := byt_at s a (by omega)
  by_cases c2 : e = a ∨ (byt s a = 48 ∧ a + 1 < e) ∨ byt s e ≠ 58
  · have hr : ret3t (ttN s a) = .returned (.tuple #[.string ⟨#[]⟩, .int .i64 0, .int .i64 5]) := by rw [hspec, if_neg c1, if_pos c2]; rfl
    have HR := Lib.hid hr
    rw [hbe, hba] at c2
    clear hr hspec c1 hde hdl hdsz hd0 hdv hdg hdm hdd hcut hbe hba
    by_cases hea : e = a
    · have f2 : ((e : Int) == (a : Int)) = true := by simp; omega
      clear c2
      go_enter Tryz.func68, Tryz.ntmps68
      go_wp2_with fail
      refine (HNUM.out _).mono ?_; rintro r w' ⟨rfl, rfl⟩
      go_wp2_with fail
      go_ret3
      exact ⟨by rw [HR.out]; rfl, rfl⟩
    have f2 : ((e : Int) == (a : Int)) = false := by simp; omega
    by_cases h8 : (s[a].toNat : Int) = 48
    · have f8 : ((s[a].toNat : Int) == 48) = true := by simpa using h8
      by_cases h9 : a + 1 < e
      · clear c2 h8 hea
        go_enter Tryz.func68, Tryz.ntmps68
        go_wp2_with fail
        refine (HNUM.out _).mono ?_; rintro r w' ⟨rfl, rfl⟩
        go_wp2_with fail
        go_ret3
        exact ⟨by rw [HR.out]; rfl, rfl⟩
      · have hcol : ((s[e].toNat : Int) != 58) = true := by
          rcases c2 with h | ⟨_, h⟩ | h
          · exact absurd h hea
          · exact absurd h h9
          · simpa using h
        clear c2 h8 hea
        go_enter Tryz.func68, Tryz.ntmps68
        go_wp2_with fail
        refine (HNUM.out _).mono ?_; rintro r w' ⟨rfl, rfl⟩
        go_wp2_with fail
        go_ret3
        exact ⟨by rw [HR.out]; rfl, rfl⟩
    · have f8 : ((s[a].toNat : Int) == 48) = false := by simpa using h8
      have hcol : ((s[e].toNat : Int) != 58) = true := by
        rcases c2 with h | ⟨h, _⟩ | h
        · exact absurd h hea
        · exact absurd h h8
        · simpa using h
      clear c2 h8 hea
      go_enter Tryz.func68, Tryz.ntmps68
      go_wp2_with fail
      refine (HNUM.out _).mono ?_; rintro r w' ⟨rfl, rfl⟩
      go_wp2_with fail
      go_ret3
      exact ⟨by rw [HR.out]; rfl, rfl⟩
  have hea : a < e := by
    apply Classical.byContradiction; intro h; exact c2 (.inl (by omega))
  have f2 : ((e : Int) == (a : Int)) = false := by simp; omega
  have hcol : byt s e = 58 := Classical.byContradiction fun h => c2 (.inr (.inr h))
  rw [hbe] at hcol
  have f4 : ((s[e].toNat : Int) != 58) = false := by rw [hcol]; rfl
  have hlead : ((s[a].toNat : Int) == 48) = false ∨ (((s[a].toNat : Int) == 48) = true ∧ ¬ (a + 1 < e)) := by
    by_cases h : (s[a].toNat : Int) = 48
    · exact .inr ⟨by simpa using h, fun h2 => c2 (.inr (.inl ⟨by rw [hba]; exact h, h2⟩))⟩
    · exact .inl (by simpa using h)
  have hv : ∀ w, Calls Tryz.prog 85 #[.string d] w fun r w' => r = .returned (.tuple #[.int .i64 (rvV d), .bool (rvB d)]) ∧ w = w' := fun w => refValue d w hdm hdg
  have HV := Lib.hid hv
  rw [if_neg c1, if_neg c2, hdv] at hspec
  obtain ⟨v, hvv⟩ : ∃ v, v = dvl d d.size := ⟨_, rfl⟩
  have hrv : rvV d = if v ≤ 9223372036854775808 then -(v : Int) else 0 := by rw [hvv]; rfl
  have hrb : rvB d = decide (v ≤ 9223372036854775808) := by rw [hvv]; rfl
  rw [← hvv] at hspec
  clear hv hcol hde hdl hdsz hd0 hdv hdg hdm c2 c1 hvv hbe hba hdd
  by_cases c3 : 9223372036854775807 < v
  · have hr : ret3t (ttN s a) = .returned (.tuple #[.string ⟨#[]⟩, .int .i64 0, .int .i64 3]) := by rw [hspec, if_pos c3]; rfl
    have HR := Lib.hid hr
    by_cases c5 : v ≤ 9223372036854775808
    · have e1 : rvB d = true := by rw [hrb]; exact decide_eq_true c5
      have e2 : rvV d = -9223372036854775808 := by rw [hrv, if_pos c5]; omega
      clear hr hspec c3 c5 hrv hrb
      rcases hlead with f8 | ⟨f8, f9⟩
      all_goals
        go_enter Tryz.func68, Tryz.ntmps68
        go_wp2_with fail
        refine (HNUM.out _).mono ?_; rintro r w' ⟨rfl, rfl⟩
        go_wp2_with fail
        refine (HV.out _).mono ?_; rintro r w' ⟨rfl, rfl⟩
        go_wp2_with fail
        go_ret3
        exact ⟨by rw [HR.out]; rfl, rfl⟩
    · have e1 : rvB d = false := by rw [hrb]; exact decide_eq_false c5
      clear hr hspec c3 c5 hrv hrb
      rcases hlead with f8 | ⟨f8, f9⟩
      all_goals
        go_enter Tryz.func68, Tryz.ntmps68
        go_wp2_with fail
        refine (HNUM.out _).mono ?_; rintro r w' ⟨rfl, rfl⟩
        go_wp2_with fail
        refine (HV.out _).mono ?_; rintro r w' ⟨rfl, rfl⟩
        go_wp2_with fail
        go_ret3
        exact ⟨by rw [HR.out]; rfl, rfl⟩
  have e1 : rvB d = true := by rw [hrb]; exact decide_eq_true (by omega)
  have e2 : rvV d = -(v : Int) := by rw [hrv, if_pos (by omega)]
  have hv7 : (v : Int) ≤ 9223372036854775807 := by omega
  rw [if_neg c3] at hspec
  clear c3 hrv hrb
  by_cases c4 : s.size - e - 1 < v
  · have hr : ret3t (ttN s a) = .returned (.tuple #[.string ⟨#[]⟩, .int .i64 0, .int .i64 6]) := by rw [hspec, if_pos c4]; rfl
    have HR := Lib.hid hr
    have hlt : (s.size : Int) - e - 1 < v := by omega
    clear hr hspec c4
    rcases hlead with f8 | ⟨f8, f9⟩
    all_goals
      go_enter Tryz.func68, Tryz.ntmps68
      go_wp2_with fail
      refine (HNUM.out _).mono ?_; rintro r w' ⟨rfl, rfl⟩
      go_wp2_with fail
      refine (HV.out _).mono ?_; rintro r w' ⟨rfl, rfl⟩
      go_wp2_with fail
      go_ret3
      exact ⟨by rw [HR.out]; rfl, rfl⟩
  · have hr : ret3t (ttN s a) = .returned (.tuple #[.string (s.extract (e + 1) (e + 1 + v)), .int .i64 ((e + 1 + v : Nat) : Int), .int .i64 0]) := by
      rw [hspec, if_neg c4]; rfl
    have HR := Lib.hid hr
    have hlt : ¬ ((s.size : Int) - e - 1 < v) := by omega
    have hsum : (e : Int) + 1 + v ≤ s.size := by omega
    clear hr hspec c4
    rcases hlead with f8 | ⟨f8, f9⟩
    all_goals
      go_enter Tryz.func68, Tryz.ntmps68
      go_wp2_with fail
      refine (HNUM.out _).mono ?_; rintro r w' ⟨rfl, rfl⟩
      go_wp2_with fail
      refine (HV.out _).mono ?_; rintro r w' ⟨rfl, rfl⟩
      go_wp2_with fail
      go_ret3
      exact ⟨by rw [HR.out]; rfl, rfl⟩
end

section
open Go.RowKit

theorem extract_tail (s : ByteArray) (a e : Nat) (_h : a < e) (_he : e ≤ s.size) : (s.extract a e).extract 1 (e - a) = s.extract (a + 1) e := by
  have : ((s.extract a e).extract 1 (e - a)).data.toList = (s.extract (a + 1) e).data.toList := by
    rw [Lib.extract_data, Lib.extract_data, Lib.extract_data, List.drop_take, List.drop_drop, List.take_take]
    congr 1
    omega
  generalize (s.extract a e).extract 1 (e - a) = b at this
  generalize s.extract (a + 1) e = c at this
  obtain ⟨⟨l⟩⟩ := b
  obtain ⟨⟨m⟩⟩ := c
  simp at this
  rw [this]

set_option maxRecDepth 100000 in
set_option maxHeartbeats 8000000 in
theorem packTakeNumber (s : ByteArray) (at_ : Int) (w : World) (hs : s.size ≤ maxLen) (h0 : -9223372036854775808 ≤ at_) (h1 : at_ ≤ 9223372036854775807) :
    Calls Tryz.prog 65 #[.string s, .int .i64 at_] w fun e w' => e = ret3n (tn s at_) ∧ Below w.heap.size w w' := by
  have HM := Lib.hid hs
  unfold maxLen at hs
  by_cases hout : at_ < 0 ∨ (s.size : Int) < at_
  · have hr : ret3n (tn s at_) = .returned (.tuple #[.int .i64 0, .int .i64 0, .int .i64 1]) := by unfold tn; rw [if_pos hout]; rfl
    have hd : decide (0 ≤ at_ ∧ at_ ≤ s.size) = false := decide_eq_false (by omega)
    have HR := Lib.hid hr
    have HD := Lib.hid hd
    clear hr hd hout
    go_enter Tryz.func65, Tryz.ntmps65
    go_wp2_with fail
    refine (packWithin s _ _).mono ?_; rintro r w' ⟨rfl, rfl⟩
    rw [HD.out]
    go_wp2_with fail
    go_ret3
    exact ⟨by rw [HR.out]; rfl, Below.refl _ _⟩
  obtain ⟨a, rfl⟩ := Int.eq_ofNat_of_zero_le (show 0 ≤ at_ by omega)
  have ha : a ≤ s.size := by omega
  obtain ⟨n1, n2, n3⟩ := nFirst_le s a ha
  have hr : tn s (a : Int) = tnF s a (nFirst s a) (dE1 s (nFirst s a)) := by unfold tn; rw [if_neg hout, Int.toNat_natCast]
  rw [hr]
  have hd : decide (0 ≤ (a : Int) ∧ (a : Int) ≤ s.size) = true := decide_eq_true (by omega)
  have HD := Lib.hid hd
  obtain ⟨f, hf⟩ : ∃ f, f = nFirst s a := ⟨_, rfl⟩
  rw [← hf] at n1 n2 n3 ⊢
  obtain ⟨g1, g2, g3, g4⟩ := dE1_spec s f n2
  obtain ⟨e, he⟩ : ∃ e, e = dE1 s f := ⟨_, rfl⟩
  have hnum : ∀ w, Calls Tryz.prog 81 #[.string s, .int .i64 f] w fun r w' => r = .returned (.int .i64 e) ∧ w = w' := fun w => by rw [he]; exact packNumeral s f w HM.out n2
  have HNUM := Lib.hid hnum
  rw [← he] at g1 g2 g3 g4 ⊢
  have hspec : tnF s a f e = if e = s.size then (0, 0, 6) else if e = f ∨ (byt s f = 48 ∧ f + 1 < e) ∨ (byt s f = 48 ∧ f ≠ a) ∨ byt s e ≠ 59 then (0, 0, 5)
      else if f ≠ a then (if 9223372036854775808 < dval s f e then (0, 0, 3) else (-(dval s f e : Int), ((e + 1 : Nat) : Int), 0))
      else (if 9223372036854775807 < dval s f e then (0, 0, 3) else (dval s f e, ((e + 1 : Nat) : Int), 0)) := rfl
  have hcase : (a = s.size ∧ f = a) ∨ (a < s.size ∧ byt s a = 45 ∧ f = a + 1) ∨ (a < s.size ∧ byt s a ≠ 45 ∧ f = a) := by
    rw [hf]; unfold nFirst
    by_cases h : a < s.size ∧ byt s a = 45
    · rw [if_pos h]; exact .inr (.inl ⟨h.1, h.2, rfl⟩)
    · rw [if_neg h]
      by_cases h2 : a < s.size
      · exact .inr (.inr ⟨h2, fun h3 => h ⟨h2, h3⟩, rfl⟩)
      · exact .inl ⟨by omega, rfl⟩
  clear hd hnum hout he hf g4 n3 hr
  rcases hcase with ⟨k1, k2⟩ | ⟨k1, k2, k3⟩ | ⟨k1, k2, k3⟩
  · subst k2
    obtain rfl : e = s.size := by omega
    have hr : ret3n (tnF s f f s.size) = .returned (.tuple #[.int .i64 0, .int .i64 0, .int .i64 6]) := by rw [hspec, if_pos rfl]; rfl
    have HR := Lib.hid hr
    have kk : ¬ (f < s.size) := by omega
    have f1 : ((s.size : Int) == (s.size : Int)) = true := by simp
    clear hr hspec k1 g3
    go_enter Tryz.func65, Tryz.ntmps65
    go_wp2_with fail
    refine (packWithin s _ _).mono ?_; rintro r w' ⟨rfl, rfl⟩
    rw [HD.out]
    go_wp2_with fail
    refine (HNUM.out _).mono ?_; rintro r w' ⟨rfl, rfl⟩
    go_wp2_with fail
    go_ret3
    exact ⟨by rw [HR.out]; rfl, Below.refl _ _⟩
  · subst k3
    rw [byt_at s a k1] at k2
    have fb : ((s[a].toNat : Int) == 45) = true := by simpa using k2
    have hx : ∀ x, s.extract a e = x → x.extract 1 x.size = s.extract (a + 1) e := fun x h => by
      rw [← h, extract_size s a e g2]; exact extract_tail s a e (by omega) g2
    have hx0 : ∀ x, s.extract a e = x → 0 < x.size ∧ byt x 0 = 45 := fun x h => by
      rw [← h, extract_size s a e g2, byt_extract s a e 0 g2 (by omega)]
      exact ⟨by omega, by rw [Nat.add_zero, byt_at s a k1]; exact k2⟩
    clear k2
    obtain ⟨d, hdd⟩ : ∃ d, d = s.extract (a + 1) e := ⟨_, rfl⟩
    have hdsz : d.size = e - (a + 1) := by rw [hdd]; exact extract_size s (a + 1) e g2
    have hdg : digs d d.size := by rw [hdd]; exact digs_extract s (a + 1) e g2 g3
    have hd0 : (a + 1) < e → byt d 0 = byt s (a + 1) := fun h => by rw [hdd, byt_extract s (a + 1) e 0 g2 (by omega), Nat.add_zero]
    have hdv : dval s (a + 1) e = dvl d d.size := by unfold dval; rw [hdsz, hdd]
    have hde : d.toList.isEmpty = decide (d.size = 0) := toList_empty d
    have hdl := str_empty d
    have hone := toList_one d
    have hdm : d.size ≤ maxLen := by unfold maxLen; omega
    have hcut := hdd.symm
    clear g3 hdd
    obtain ⟨x, hxx⟩ : ∃ x, x = s.extract a e := ⟨_, rfl⟩
    have hx1 := hx x hxx.symm
    have hx2 := hx0 x hxx.symm
    have hxs : x.size ≤ s.size := by rw [hxx, extract_size s a e g2]; omega
    have hxcut := hxx.symm
    rw [hcut] at hx1
    clear hx hx0 hxx
    by_cases c1 : e = s.size
    · have hr : ret3n (tnF s a (a + 1) e) = .returned (.tuple #[.int .i64 0, .int .i64 0, .int .i64 6]) := by rw [hspec, if_pos c1]; rfl
      have HR := Lib.hid hr
      have f1 : ((e : Int) == (s.size : Int)) = true := by simp; omega
      clear hr hspec c1 hdsz hd0 hdv hde hdl hone hdm hdg hx1 hx2
      go_enter Tryz.func65, Tryz.ntmps65
      go_wp2_with fail
      refine (packWithin s _ _).mono ?_; rintro r w' ⟨rfl, rfl⟩
      rw [HD.out]
      go_wp2_with fail
      refine (HNUM.out _).mono ?_; rintro r w' ⟨rfl, rfl⟩
      go_wp2_with fail
      go_ret3
      exact ⟨by rw [HR.out]; rfl, Below.refl _ _⟩
    have f1 : ((e : Int) == (s.size : Int)) = false := by simp; omega
    have he2 : e < s.size := by omega
    by_cases c2 : e = (a + 1) ∨ (byt s (a + 1) = 48 ∧ (a + 1) + 1 < e) ∨ (byt s (a + 1) = 48 ∧ (a + 1) ≠ a) ∨ byt s e ≠ 59
    · have hr : ret3n (tnF s a (a + 1) e) = .returned (.tuple #[.int .i64 0, .int .i64 0, .int .i64 5]) := by rw [hspec, if_neg c1, if_pos c2]; rfl
      have HR := Lib.hid hr
      have HDM := Lib.hid hdm
      clear hr hspec c1 hx1 hx2
      by_cases hea : e = (a + 1)
      · have f2 : d.toList.isEmpty = true := by rw [hde]; exact decide_eq_true (by omega)
        have f3 : d.toList = [] := hdl.2 (by omega)
        clear hde hdl hone hdsz hd0 hdv hdg c2 hdm hea
        go_enter Tryz.func65, Tryz.ntmps65
        go_wp2_with fail
        refine (packWithin s _ _).mono ?_; rintro r w' ⟨rfl, rfl⟩
        rw [HD.out]
        go_wp2_with fail
        refine (HNUM.out _).mono ?_; rintro r w' ⟨rfl, rfl⟩
        go_wp2_with fail
        go_ret3
        exact ⟨by rw [HR.out]; rfl, Below.refl _ _⟩
      have f2 : d.toList.isEmpty = false := by rw [hde]; exact decide_eq_false (by omega)
      have f3 : ¬ d.toList = [] := fun h => by have := hdl.1 h; omega
      by_cases hpad : 1 < d.size ∧ byt d 0 = 48
      · have HP : Hid (decide (1 < d.size ∧ byt d 0 = 48) = true) := decide_eq_true hpad
        clear hde hdl hone hdsz hd0 hdv hdg c2 hdm hea hpad
        go_enter Tryz.func65, Tryz.ntmps65
        go_wp2_with fail
        refine (packWithin s _ _).mono ?_; rintro r w' ⟨rfl, rfl⟩
        rw [HD.out]
        go_wp2_with fail
        refine (HNUM.out _).mono ?_; rintro r w' ⟨rfl, rfl⟩
        go_wp2_with fail
        refine (packPadded d _ HDM.out).mono ?_; rintro r w' ⟨rfl, rfl⟩
        rw [HP.out]
        go_wp2_with fail
        go_ret3
        exact ⟨by rw [HR.out]; rfl, Below.refl _ _⟩
      have HP : Hid (decide (1 < d.size ∧ byt d 0 = 48) = false) := decide_eq_false hpad
      by_cases hz : d.size = 1 ∧ byt d 0 = 48
      · have fz : (d.toList == [48]) = true := by rw [hone]; exact decide_eq_true hz
        clear hde hdl hone hdsz hd0 hdv hdg c2 hdm hea hpad hz
        go_enter Tryz.func65, Tryz.ntmps65
        go_wp2_with fail
        refine (packWithin s _ _).mono ?_; rintro r w' ⟨rfl, rfl⟩
        rw [HD.out]
        go_wp2_with fail
        refine (HNUM.out _).mono ?_; rintro r w' ⟨rfl, rfl⟩
        go_wp2_with fail
        refine (packPadded d _ HDM.out).mono ?_; rintro r w' ⟨rfl, rfl⟩
        rw [HP.out]
        go_wp2_with fail
        go_ret3
        exact ⟨by rw [HR.out]; rfl, Below.refl _ _⟩
      have fz : (d.toList == [48]) = false := by rw [hone]; exact decide_eq_false hz
      have hcol : byt s e ≠ 59 := by
        rcases c2 with h | ⟨h, h2⟩ | ⟨h, h2⟩ | h
        · exact absurd h hea
        · exact absurd ⟨by omega, by rw [hd0 (by omega)]; exact h⟩ hpad
        · have h8 : byt d 0 = 48 := by rw [hd0 (by omega)]; exact h
          by_cases h9 : 1 < d.size
          · exact absurd ⟨h9, h8⟩ hpad
          · exact absurd ⟨by omega, h8⟩ hz
        · exact h
      rw [byt_at s e he2] at hcol
      have f4 : ((s[e].toNat : Int) != 59) = true := by simpa using hcol
      clear hde hdl hone hdsz hd0 hdv hdg c2 hdm hea hpad hcol hz
      go_enter Tryz.func65, Tryz.ntmps65
      go_wp2_with fail
      refine (packWithin s _ _).mono ?_; rintro r w' ⟨rfl, rfl⟩
      rw [HD.out]
      go_wp2_with fail
      refine (HNUM.out _).mono ?_; rintro r w' ⟨rfl, rfl⟩
      go_wp2_with fail
      refine (packPadded d _ HDM.out).mono ?_; rintro r w' ⟨rfl, rfl⟩
      rw [HP.out]
      go_wp2_with fail
      go_ret3
      exact ⟨by rw [HR.out]; rfl, Below.refl _ _⟩
    have hea : (a + 1) < e := by
      apply Classical.byContradiction; intro h; exact c2 (.inl (by omega))
    have f2 : d.toList.isEmpty = false := by rw [hde]; exact decide_eq_false (by omega)
    have f3 : ¬ d.toList = [] := fun h => by have := hdl.1 h; omega
    have hnp : ¬ (1 < d.size ∧ byt d 0 = 48) := fun h => c2 (.inr (.inl ⟨by rw [← hd0 hea]; exact h.2, by omega⟩))
    have HP : Hid (decide (1 < d.size ∧ byt d 0 = 48) = false) := decide_eq_false hnp
    have hcol : byt s e = 59 := Classical.byContradiction fun h => c2 (.inr (.inr (.inr h)))
    rw [byt_at s e he2] at hcol
    have f4 : ((s[e].toNat : Int) != 59) = false := by rw [hcol]; rfl
    have HPD : Hid (∀ w, Calls Tryz.prog 82 #[.string d] w fun r w' => r = .returned (.bool false) ∧ w = w') := fun w => by
      rw [← HP.out]; exact packPadded d w hdm
    have hn8 : byt d 0 ≠ 48 := fun h => c2 (.inr (.inr (.inl ⟨by rw [← hd0 hea]; exact h, by omega⟩)))
    have fz : (d.toList == [48]) = false := by rw [hone]; exact decide_eq_false (fun h => hn8 h.2)
    obtain ⟨p1, p2⟩ := par_minus x d hx2.1 hx2.2 hx1 hdg (by omega) hn8
    have hv : ∀ w, Calls Tryz.prog 83 #[.string x] w fun r w' => r = .returned (.tuple #[.int .i64 (cV (-(dvl d d.size : Int))), .int .i64 (cE (-(dvl d d.size : Int)))]) ∧ Below w.heap.size w w' := fun w => packValue x _ w (by unfold maxLen; omega) p1 p2
    rw [if_neg c1, if_neg c2, hdv, if_pos (by omega)] at hspec
    obtain ⟨v, hvv⟩ : ∃ v, v = dvl d d.size := ⟨_, rfl⟩
    rw [← hvv] at hspec hv
    clear p1 p2 hcol hnp hde hdl hone hdsz hd0 hdv hdg hdm c2 c1 hvv hx1 hx2 hn8
    by_cases c3 : 9223372036854775808 < v
    · have hr : ret3n (tnF s a (a + 1) e) = .returned (.tuple #[.int .i64 0, .int .i64 0, .int .i64 3]) := by rw [hspec, if_pos c3]; rfl
      have HR := Lib.hid hr
      have HE : Hid (cE (-(v : Int)) = 3) := cE_no (by omega)
      have HV := Lib.hid hv
      clear hr hspec hv c3
      go_enter Tryz.func65, Tryz.ntmps65
      go_wp2_with fail
      refine (packWithin s _ _).mono ?_; rintro r w' ⟨rfl, rfl⟩
      rw [HD.out]
      go_wp2_with fail
      refine (HNUM.out _).mono ?_; rintro r w' ⟨rfl, rfl⟩
      go_wp2_with fail
      refine (HPD.out _).mono ?_; rintro r w' ⟨rfl, rfl⟩
      go_wp2_with fail
      refine (HV.out _).mono ?_; rintro r w1 ⟨rfl, hb⟩
      have HB := Lib.hid hb
      clear hb
      rw [HE.out]
      go_wp2_with fail
      go_ret3
      exact ⟨by rw [HR.out]; rfl, HB.out⟩
    · have hr : ret3n (tnF s a (a + 1) e) = .returned (.tuple #[.int .i64 (-(v : Int)), .int .i64 (e + 1), .int .i64 0]) := by rw [hspec, if_neg c3]; rfl
      have HR := Lib.hid hr
      have HE : Hid (cE (-(v : Int)) = 0) := cE_yes (by omega) (by omega)
      have HVV : Hid (cV (-(v : Int)) = (-(v : Int))) := cV_yes (by omega) (by omega)
      have HV := Lib.hid hv
      clear hr hspec hv c3
      go_enter Tryz.func65, Tryz.ntmps65
      go_wp2_with fail
      refine (packWithin s _ _).mono ?_; rintro r w' ⟨rfl, rfl⟩
      rw [HD.out]
      go_wp2_with fail
      refine (HNUM.out _).mono ?_; rintro r w' ⟨rfl, rfl⟩
      go_wp2_with fail
      refine (HPD.out _).mono ?_; rintro r w' ⟨rfl, rfl⟩
      go_wp2_with fail
      refine (HV.out _).mono ?_; rintro r w1 ⟨rfl, hb⟩
      have HB := Lib.hid hb
      clear hb
      rw [HE.out, HVV.out]
      go_wp2_with fail
      go_ret3
      exact ⟨by rw [HR.out]; rfl, HB.out⟩
  · subst k3
    rw [byt_at s f k1] at k2
    have fb : ((s[f].toNat : Int) == 45) = false := by simpa using k2
    clear k2
    obtain ⟨d, hdd⟩ : ∃ d, d = s.extract f e := ⟨_, rfl⟩
    have hdsz : d.size = e - f := by rw [hdd]; exact extract_size s f e g2
    have hdg : digs d d.size := by rw [hdd]; exact digs_extract s f e g2 g3
    have hd0 : f < e → byt d 0 = byt s f := fun h => by rw [hdd, byt_extract s f e 0 g2 (by omega), Nat.add_zero]
    have hdv : dval s f e = dvl d d.size := by unfold dval; rw [hdsz, hdd]
    have hde : d.toList.isEmpty = decide (d.size = 0) := toList_empty d
    have hdl := str_empty d
    have hone := toList_one d
    have hdm : d.size ≤ maxLen := by unfold maxLen; omega
    have hcut := hdd.symm
    clear g3 hdd
    by_cases c1 : e = s.size
    · have hr : ret3n (tnF s f f e) = .returned (.tuple #[.int .i64 0, .int .i64 0, .int .i64 6]) := by rw [hspec, if_pos c1]; rfl
      have HR := Lib.hid hr
      have f1 : ((e : Int) == (s.size : Int)) = true := by simp; omega
      clear hr hspec c1 hdsz hd0 hdv hde hdl hone hdm hdg 
      go_enter Tryz.func65, Tryz.ntmps65
      go_wp2_with fail
      refine (packWithin s _ _).mono ?_; rintro r w' ⟨rfl, rfl⟩
      rw [HD.out]
      go_wp2_with fail
      refine (HNUM.out _).mono ?_; rintro r w' ⟨rfl, rfl⟩
      go_wp2_with fail
      go_ret3
      exact ⟨by rw [HR.out]; rfl, Below.refl _ _⟩
    have f1 : ((e : Int) == (s.size : Int)) = false := by simp; omega
    have he2 : e < s.size := by omega
    by_cases c2 : e = f ∨ (byt s f = 48 ∧ f + 1 < e) ∨ (byt s f = 48 ∧ f ≠ f) ∨ byt s e ≠ 59
    · have hr : ret3n (tnF s f f e) = .returned (.tuple #[.int .i64 0, .int .i64 0, .int .i64 5]) := by rw [hspec, if_neg c1, if_pos c2]; rfl
      have HR := Lib.hid hr
      have HDM := Lib.hid hdm
      clear hr hspec c1 
      by_cases hea : e = f
      · have f2 : d.toList.isEmpty = true := by rw [hde]; exact decide_eq_true (by omega)
        have f3 : d.toList = [] := hdl.2 (by omega)
        clear hde hdl hone hdsz hd0 hdv hdg c2 hdm hea
        go_enter Tryz.func65, Tryz.ntmps65
        go_wp2_with fail
        refine (packWithin s _ _).mono ?_; rintro r w' ⟨rfl, rfl⟩
        rw [HD.out]
        go_wp2_with fail
        refine (HNUM.out _).mono ?_; rintro r w' ⟨rfl, rfl⟩
        go_wp2_with fail
        go_ret3
        exact ⟨by rw [HR.out]; rfl, Below.refl _ _⟩
      have f2 : d.toList.isEmpty = false := by rw [hde]; exact decide_eq_false (by omega)
      have f3 : ¬ d.toList = [] := fun h => by have := hdl.1 h; omega
      by_cases hpad : 1 < d.size ∧ byt d 0 = 48
      · have HP : Hid (decide (1 < d.size ∧ byt d 0 = 48) = true) := decide_eq_true hpad
        clear hde hdl hone hdsz hd0 hdv hdg c2 hdm hea hpad
        go_enter Tryz.func65, Tryz.ntmps65
        go_wp2_with fail
        refine (packWithin s _ _).mono ?_; rintro r w' ⟨rfl, rfl⟩
        rw [HD.out]
        go_wp2_with fail
        refine (HNUM.out _).mono ?_; rintro r w' ⟨rfl, rfl⟩
        go_wp2_with fail
        refine (packPadded d _ HDM.out).mono ?_; rintro r w' ⟨rfl, rfl⟩
        rw [HP.out]
        go_wp2_with fail
        go_ret3
        exact ⟨by rw [HR.out]; rfl, Below.refl _ _⟩
      have HP : Hid (decide (1 < d.size ∧ byt d 0 = 48) = false) := decide_eq_false hpad
      have hcol : byt s e ≠ 59 := by
        rcases c2 with h | ⟨h, h2⟩ | ⟨h, h2⟩ | h
        · exact absurd h hea
        · exact absurd ⟨by omega, by rw [hd0 (by omega)]; exact h⟩ hpad
        · exact absurd rfl h2
        · exact h
      rw [byt_at s e he2] at hcol
      have f4 : ((s[e].toNat : Int) != 59) = true := by simpa using hcol
      clear hde hdl hone hdsz hd0 hdv hdg c2 hdm hea hpad hcol 
      go_enter Tryz.func65, Tryz.ntmps65
      go_wp2_with fail
      refine (packWithin s _ _).mono ?_; rintro r w' ⟨rfl, rfl⟩
      rw [HD.out]
      go_wp2_with fail
      refine (HNUM.out _).mono ?_; rintro r w' ⟨rfl, rfl⟩
      go_wp2_with fail
      refine (packPadded d _ HDM.out).mono ?_; rintro r w' ⟨rfl, rfl⟩
      rw [HP.out]
      go_wp2_with fail
      go_ret3
      exact ⟨by rw [HR.out]; rfl, Below.refl _ _⟩
    have hea : f < e := by
      apply Classical.byContradiction; intro h; exact c2 (.inl (by omega))
    have f2 : d.toList.isEmpty = false := by rw [hde]; exact decide_eq_false (by omega)
    have f3 : ¬ d.toList = [] := fun h => by have := hdl.1 h; omega
    have hnp : ¬ (1 < d.size ∧ byt d 0 = 48) := fun h => c2 (.inr (.inl ⟨by rw [← hd0 hea]; exact h.2, by omega⟩))
    have HP : Hid (decide (1 < d.size ∧ byt d 0 = 48) = false) := decide_eq_false hnp
    have hcol : byt s e = 59 := Classical.byContradiction fun h => c2 (.inr (.inr (.inr h)))
    rw [byt_at s e he2] at hcol
    have f4 : ((s[e].toNat : Int) != 59) = false := by rw [hcol]; rfl
    have HPD : Hid (∀ w, Calls Tryz.prog 82 #[.string d] w fun r w' => r = .returned (.bool false) ∧ w = w') := fun w => by
      rw [← HP.out]; exact packPadded d w hdm
    obtain ⟨p1, p2⟩ := par_digits d hdg (by omega) (fun h => hnp ⟨h.2, h.1⟩)
    have hv : ∀ w, Calls Tryz.prog 83 #[.string d] w fun r w' => r = .returned (.tuple #[.int .i64 (cV (dvl d d.size : Int)), .int .i64 (cE (dvl d d.size : Int))]) ∧ Below w.heap.size w w' := fun w => packValue d _ w hdm p1 p2
    rw [if_neg c1, if_neg c2, hdv, if_neg (by simp)] at hspec
    obtain ⟨v, hvv⟩ : ∃ v, v = dvl d d.size := ⟨_, rfl⟩
    rw [← hvv] at hspec hv
    clear p1 p2 hcol hnp hde hdl hone hdsz hd0 hdv hdg hdm c2 c1 hvv
    by_cases c3 : 9223372036854775807 < v
    · have hr : ret3n (tnF s f f e) = .returned (.tuple #[.int .i64 0, .int .i64 0, .int .i64 3]) := by rw [hspec, if_pos c3]; rfl
      have HR := Lib.hid hr
      have HE : Hid (cE (v : Int) = 3) := cE_no (by omega)
      have HV := Lib.hid hv
      clear hr hspec hv c3
      go_enter Tryz.func65, Tryz.ntmps65
      go_wp2_with fail
      refine (packWithin s _ _).mono ?_; rintro r w' ⟨rfl, rfl⟩
      rw [HD.out]
      go_wp2_with fail
      refine (HNUM.out _).mono ?_; rintro r w' ⟨rfl, rfl⟩
      go_wp2_with fail
      refine (HPD.out _).mono ?_; rintro r w' ⟨rfl, rfl⟩
      go_wp2_with fail
      refine (HV.out _).mono ?_; rintro r w1 ⟨rfl, hb⟩
      have HB := Lib.hid hb
      clear hb
      rw [HE.out]
      go_wp2_with fail
      go_ret3
      exact ⟨by rw [HR.out]; rfl, HB.out⟩
    · have hr : ret3n (tnF s f f e) = .returned (.tuple #[.int .i64 (v : Int), .int .i64 (e + 1), .int .i64 0]) := by rw [hspec, if_neg c3]; rfl
      have HR := Lib.hid hr
      have HE : Hid (cE (v : Int) = 0) := cE_yes (by omega) (by omega)
      have HVV : Hid (cV (v : Int) = (v : Int)) := cV_yes (by omega) (by omega)
      have HV := Lib.hid hv
      clear hr hspec hv c3
      go_enter Tryz.func65, Tryz.ntmps65
      go_wp2_with fail
      refine (packWithin s _ _).mono ?_; rintro r w' ⟨rfl, rfl⟩
      rw [HD.out]
      go_wp2_with fail
      refine (HNUM.out _).mono ?_; rintro r w' ⟨rfl, rfl⟩
      go_wp2_with fail
      refine (HPD.out _).mono ?_; rintro r w' ⟨rfl, rfl⟩
      go_wp2_with fail
      refine (HV.out _).mono ?_; rintro r w1 ⟨rfl, hb⟩
      have HB := Lib.hid hb
      clear hb
      rw [HE.out, HVV.out]
      go_wp2_with fail
      go_ret3
      exact ⟨by rw [HR.out]; rfl, HB.out⟩
end

section
open Go.RowKit

set_option maxRecDepth 100000 in
set_option maxHeartbeats 8000000 in
theorem refTakeNumber (s : ByteArray) (at_ : Int) (w : World) (hs : s.size ≤ maxLen) (h0 : -9223372036854775808 ≤ at_) (h1 : at_ ≤ 9223372036854775807) :
    Calls Tryz.prog 70 #[.string s, .int .i64 at_] w fun e w' => e = ret3n (tn s at_) ∧ w = w' := by
  have HM := Lib.hid hs
  unfold maxLen at hs
  by_cases hout : at_ < 0 ∨ (s.size : Int) < at_
  · have hr : ret3n (tn s at_) = .returned (.tuple #[.int .i64 0, .int .i64 0, .int .i64 1]) := by unfold tn; rw [if_pos hout]; rfl
    have HR := Lib.hid hr
    clear hr
    by_cases hn : at_ < 0
    all_goals
      have hn2 : ¬ (0 ≤ at_ ∧ at_ ≤ s.size) := by omega
      go_enter Tryz.func70, Tryz.ntmps70
      go_wp2_with fail
      go_ret3
      exact ⟨by rw [HR.out]; rfl, rfl⟩
  obtain ⟨a, rfl⟩ := Int.eq_ofNat_of_zero_le (show 0 ≤ at_ by omega)
  have ha : a ≤ s.size := by omega
  obtain ⟨n1, n2, n3⟩ := nFirst_le s a ha
  have hr : tn s (a : Int) = tnF s a (nFirst s a) (dE1 s (nFirst s a)) := by unfold tn; rw [if_neg hout, Int.toNat_natCast]
  rw [hr]
  have hd : decide (0 ≤ (a : Int) ∧ (a : Int) ≤ s.size) = true := decide_eq_true (by omega)
  have HD := Lib.hid hd
  obtain ⟨f, hf⟩ : ∃ f, f = nFirst s a := ⟨_, rfl⟩
  rw [← hf] at n1 n2 n3 ⊢
  obtain ⟨g1, g2, g3, g4⟩ := dE1_spec s f n2
  obtain ⟨e, he⟩ : ∃ e, e = dE1 s f := ⟨_, rfl⟩
  have hnum : ∀ w, Calls Tryz.prog 84 #[.string s, .int .i64 f] w fun r w' => r = .returned (.int .i64 e) ∧ w = w' := fun w => by rw [he]; exact refNumeral s f w HM.out n2
  have HNUM := Lib.hid hnum
  rw [← he] at g1 g2 g3 g4 ⊢
  have hspec : tnF s a f e = if e = s.size then (0, 0, 6) else if e = f ∨ (byt s f = 48 ∧ f + 1 < e) ∨ (byt s f = 48 ∧ f ≠ a) ∨ byt s e ≠ 59 then (0, 0, 5)
      else if f ≠ a then (if 9223372036854775808 < dval s f e then (0, 0, 3) else (-(dval s f e : Int), ((e + 1 : Nat) : Int), 0))
      else (if 9223372036854775807 < dval s f e then (0, 0, 3) else (dval s f e, ((e + 1 : Nat) : Int), 0)) := rfl
  have hcase : (a = s.size ∧ f = a) ∨ (a < s.size ∧ byt s a = 45 ∧ f = a + 1) ∨ (a < s.size ∧ byt s a ≠ 45 ∧ f = a) := by
    rw [hf]; unfold nFirst
    by_cases h : a < s.size ∧ byt s a = 45
    · rw [if_pos h]; exact .inr (.inl ⟨h.1, h.2, rfl⟩)
    · rw [if_neg h]
      by_cases h2 : a < s.size
      · exact .inr (.inr ⟨h2, fun h3 => h ⟨h2, h3⟩, rfl⟩)
      · exact .inl ⟨by omega, rfl⟩
  clear hd hnum hout he hf g4 n3 hr
  rcases hcase with ⟨k1, k2⟩ | ⟨k1, k2, k3⟩ | ⟨k1, k2, k3⟩
  · subst k2
    obtain rfl : e = s.size := by omega
    have hr : ret3n (tnF s f f s.size) = .returned (.tuple #[.int .i64 0, .int .i64 0, .int .i64 6]) := by rw [hspec, if_pos rfl]; rfl
    have HR := Lib.hid hr
    have kk : ¬ (f < s.size) := by omega
    have f1 : ((s.size : Int) == (s.size : Int)) = true := by simp
    clear hr hspec k1 g3
    go_enter Tryz.func70, Tryz.ntmps70
    go_wp2_with fail
    refine (HNUM.out _).mono ?_; rintro r w' ⟨rfl, rfl⟩
    go_wp2_with fail
    go_ret3
    exact ⟨by rw [HR.out]; rfl, rfl⟩
  · subst k3
    rw [byt_at s a k1] at k2
    have fb : ((s[a].toNat : Int) == 45) = true := by simpa using k2
    clear k2
    obtain ⟨d, hdd⟩ : ∃ d, d = s.extract (a + 1) e := ⟨_, rfl⟩
    have hdsz : d.size = e - (a + 1) := by rw [hdd]; exact extract_size s (a + 1) e g2
    have hdg : digs d d.size := by rw [hdd]; exact digs_extract s (a + 1) e g2 g3
    have hdv : dval s (a + 1) e = dvl d d.size := by unfold dval; rw [hdsz, hdd]
    have hdm : d.size ≤ maxLen := by unfold maxLen; omega
    have hcut := hdd.symm
    clear g3
    by_cases c1 : e = s.size
    · have hr : ret3n (tnF s a (a + 1) e) = .returned (.tuple #[.int .i64 0, .int .i64 0, .int .i64 6]) := by rw [hspec, if_pos c1]; rfl
      have HR := Lib.hid hr
      have f1 : ((e : Int) == (s.size : Int)) = true := by simp; omega
      clear hr hspec c1 hdsz hdv hdm hdg hdd hcut
      go_enter Tryz.func70, Tryz.ntmps70
      go_wp2_with fail
      refine (HNUM.out _).mono ?_; rintro r w' ⟨rfl, rfl⟩
      go_wp2_with fail
      go_ret3
      exact ⟨by rw [HR.out]; rfl, rfl⟩
    have f1 : ((e : Int) == (s.size : Int)) = false := by simp; omega
    have he2 : e < s.size := by omega
    have hbe := byt_at s e he2
    have hfs : (a + 1) < s.size := by omega
    have hbf := byt_at s (a + 1) hfs
    by_cases c2 : e = (a + 1) ∨ (byt s (a + 1) = 48 ∧ (a + 1) + 1 < e) ∨ (byt s (a + 1) = 48 ∧ (a + 1) ≠ a) ∨ byt s e ≠ 59
    · have hr : ret3n (tnF s a (a + 1) e) = .returned (.tuple #[.int .i64 0, .int .i64 0, .int .i64 5]) := by rw [hspec, if_neg c1, if_pos c2]; rfl
      have HR := Lib.hid hr
      rw [hbe, hbf] at c2
      clear hr hspec c1 hdsz hdv hdm hdg hdd hcut hbe hbf
      by_cases hea : e = (a + 1)
      · have f2 : ((e : Int) == (a : Int) + 1) = true := by simp; omega
        clear c2
        go_enter Tryz.func70, Tryz.ntmps70
        go_wp2_with fail
        refine (HNUM.out _).mono ?_; rintro r w' ⟨rfl, rfl⟩
        go_wp2_with fail
        go_ret3
        exact ⟨by rw [HR.out]; rfl, rfl⟩
      have f2 : ((e : Int) == (a : Int) + 1) = false := by simp; omega
      by_cases h8 : (s[a + 1].toNat : Int) = 48
      · have f8 : ((s[a + 1].toNat : Int) == 48) = true := by simpa using h8
        by_cases h9 : (a + 1) + 1 < e
        · clear c2 h8 hea
          go_enter Tryz.func70, Tryz.ntmps70
          go_wp2_with fail
          refine (HNUM.out _).mono ?_; rintro r w' ⟨rfl, rfl⟩
          go_wp2_with fail
          go_ret3
          exact ⟨by rw [HR.out]; rfl, rfl⟩
        · clear c2 h8 hea
          go_enter Tryz.func70, Tryz.ntmps70
          go_wp2_with fail
          refine (HNUM.out _).mono ?_; rintro r w' ⟨rfl, rfl⟩
          go_wp2_with fail
          go_ret3
          exact ⟨by rw [HR.out]; rfl, rfl⟩
      · have f8 : ((s[a + 1].toNat : Int) == 48) = false := by simpa using h8
        have hcol : ((s[e].toNat : Int) != 59) = true := by
          rcases c2 with h | ⟨h, _⟩ | ⟨h, _⟩ | h
          · exact absurd h hea
          · exact absurd h h8
          · exact absurd h h8
          · simpa using h
        clear c2 h8 hea
        go_enter Tryz.func70, Tryz.ntmps70
        go_wp2_with fail
        refine (HNUM.out _).mono ?_; rintro r w' ⟨rfl, rfl⟩
        go_wp2_with fail
        go_ret3
        exact ⟨by rw [HR.out]; rfl, rfl⟩
    have hea : (a + 1) < e := by
      apply Classical.byContradiction; intro h; exact c2 (.inl (by omega))
    have f2 : ((e : Int) == (a : Int) + 1) = false := by simp; omega
    have hcol : byt s e = 59 := Classical.byContradiction fun h => c2 (.inr (.inr (.inr h)))
    rw [hbe] at hcol
    have f4 : ((s[e].toNat : Int) != 59) = false := by rw [hcol]; rfl
    have hv : ∀ w, Calls Tryz.prog 85 #[.string d] w fun r w' => r = .returned (.tuple #[.int .i64 (rvV d), .bool (rvB d)]) ∧ w = w' := fun w => refValue d w hdm hdg
    have HV := Lib.hid hv
    have f8 : ((s[a + 1].toNat : Int) == 48) = false := by
      rw [beq_eq_false_iff_ne]; intro h; exact c2 (.inr (.inr (.inl ⟨by rw [hbf]; exact h, by omega⟩)))
    rw [if_neg c1, if_neg c2, hdv, if_pos (by omega)] at hspec
    obtain ⟨v, hvv⟩ : ∃ v, v = dvl d d.size := ⟨_, rfl⟩
    have hrv : rvV d = if v ≤ 9223372036854775808 then -(v : Int) else 0 := by rw [hvv]; rfl
    have hrb : rvB d = decide (v ≤ 9223372036854775808) := by rw [hvv]; rfl
    rw [← hvv] at hspec
    have fna : ((a : Int) + 1 == (a : Int)) = false := by simp; omega
    clear hv hcol hdsz hdv hdg hdm c2 c1 hvv hbe hbf hdd
    by_cases c3 : 9223372036854775808 < v
    · have hr : ret3n (tnF s a (a + 1) e) = .returned (.tuple #[.int .i64 0, .int .i64 0, .int .i64 3]) := by rw [hspec, if_pos c3]; rfl
      have HR := Lib.hid hr
      have e1 : rvB d = false := by rw [hrb]; exact decide_eq_false (by omega)
      clear hr hspec c3 hrv hrb
      go_enter Tryz.func70, Tryz.ntmps70
      go_wp2_with fail
      refine (HNUM.out _).mono ?_; rintro r w' ⟨rfl, rfl⟩
      go_wp2_with fail
      refine (HV.out _).mono ?_; rintro r w' ⟨rfl, rfl⟩
      go_wp2_with fail
      go_ret3
      exact ⟨by rw [HR.out]; rfl, rfl⟩
    · have hr : ret3n (tnF s a (a + 1) e) = .returned (.tuple #[.int .i64 (-(v : Int)), .int .i64 (e + 1), .int .i64 0]) := by rw [hspec, if_neg c3]; rfl
      have HR := Lib.hid hr
      have e1 : rvB d = true := by rw [hrb]; exact decide_eq_true (by omega)
      have e2 : rvV d = -(v : Int) := by rw [hrv, if_pos (by omega)]
      clear hr hspec c3 hrv hrb
      go_enter Tryz.func70, Tryz.ntmps70
      go_wp2_with fail
      refine (HNUM.out _).mono ?_; rintro r w' ⟨rfl, rfl⟩
      go_wp2_with fail
      refine (HV.out _).mono ?_; rintro r w' ⟨rfl, rfl⟩
      go_wp2_with fail
      go_ret3
      exact ⟨by rw [HR.out]; rfl, rfl⟩
  · subst k3
    rw [byt_at s f k1] at k2
    have fb : ((s[f].toNat : Int) == 45) = false := by simpa using k2
    clear k2
    obtain ⟨d, hdd⟩ : ∃ d, d = s.extract f e := ⟨_, rfl⟩
    have hdsz : d.size = e - f := by rw [hdd]; exact extract_size s f e g2
    have hdg : digs d d.size := by rw [hdd]; exact digs_extract s f e g2 g3
    have hdv : dval s f e = dvl d d.size := by unfold dval; rw [hdsz, hdd]
    have hdm : d.size ≤ maxLen := by unfold maxLen; omega
    have hcut := hdd.symm
    clear g3
    by_cases c1 : e = s.size
    · have hr : ret3n (tnF s f f e) = .returned (.tuple #[.int .i64 0, .int .i64 0, .int .i64 6]) := by rw [hspec, if_pos c1]; rfl
      have HR := Lib.hid hr
      have f1 : ((e : Int) == (s.size : Int)) = true := by simp; omega
      clear hr hspec c1 hdsz hdv hdm hdg hdd hcut
      go_enter Tryz.func70, Tryz.ntmps70
      go_wp2_with fail
      refine (HNUM.out _).mono ?_; rintro r w' ⟨rfl, rfl⟩
      go_wp2_with fail
      go_ret3
      exact ⟨by rw [HR.out]; rfl, rfl⟩
    have f1 : ((e : Int) == (s.size : Int)) = false := by simp; omega
    have he2 : e < s.size := by omega
    have hbe := byt_at s e he2
    have hfs : f < s.size := by omega
    have hbf := byt_at s f hfs
    by_cases c2 : e = f ∨ (byt s f = 48 ∧ f + 1 < e) ∨ (byt s f = 48 ∧ f ≠ f) ∨ byt s e ≠ 59
    · have hr : ret3n (tnF s f f e) = .returned (.tuple #[.int .i64 0, .int .i64 0, .int .i64 5]) := by rw [hspec, if_neg c1, if_pos c2]; rfl
      have HR := Lib.hid hr
      rw [hbe, hbf] at c2
      clear hr hspec c1 hdsz hdv hdm hdg hdd hcut hbe hbf
      by_cases hea : e = f
      · have f2 : ((e : Int) == ((f : Nat) : Int)) = true := by simp; omega
        clear c2
        go_enter Tryz.func70, Tryz.ntmps70
        go_wp2_with fail
        refine (HNUM.out _).mono ?_; rintro r w' ⟨rfl, rfl⟩
        go_wp2_with fail
        go_ret3
        exact ⟨by rw [HR.out]; rfl, rfl⟩
      have f2 : ((e : Int) == (f : Int)) = false := by simp; omega
      by_cases h8 : (s[f].toNat : Int) = 48
      · have f8 : ((s[f].toNat : Int) == 48) = true := by simpa using h8
        by_cases h9 : f + 1 < e
        · clear c2 h8 hea
          go_enter Tryz.func70, Tryz.ntmps70
          go_wp2_with fail
          refine (HNUM.out _).mono ?_; rintro r w' ⟨rfl, rfl⟩
          go_wp2_with fail
          go_ret3
          exact ⟨by rw [HR.out]; rfl, rfl⟩
        · have hcol : ((s[e].toNat : Int) != 59) = true := by
            rcases c2 with h | ⟨_, h⟩ | ⟨_, h⟩ | h
            · exact absurd h hea
            · exact absurd h h9
            · exact absurd rfl h
            · simpa using h
          clear c2 h8 hea
          go_enter Tryz.func70, Tryz.ntmps70
          go_wp2_with fail
          refine (HNUM.out _).mono ?_; rintro r w' ⟨rfl, rfl⟩
          go_wp2_with fail
          go_ret3
          exact ⟨by rw [HR.out]; rfl, rfl⟩
      · have f8 : ((s[f].toNat : Int) == 48) = false := by simpa using h8
        have hcol : ((s[e].toNat : Int) != 59) = true := by
          rcases c2 with h | ⟨h, _⟩ | ⟨h, _⟩ | h
          · exact absurd h hea
          · exact absurd h h8
          · exact absurd h h8
          · simpa using h
        clear c2 h8 hea
        go_enter Tryz.func70, Tryz.ntmps70
        go_wp2_with fail
        refine (HNUM.out _).mono ?_; rintro r w' ⟨rfl, rfl⟩
        go_wp2_with fail
        go_ret3
        exact ⟨by rw [HR.out]; rfl, rfl⟩
    have hea : f < e := by
      apply Classical.byContradiction; intro h; exact c2 (.inl (by omega))
    have f2 : ((e : Int) == (f : Int)) = false := by simp; omega
    have hcol : byt s e = 59 := Classical.byContradiction fun h => c2 (.inr (.inr (.inr h)))
    rw [hbe] at hcol
    have f4 : ((s[e].toNat : Int) != 59) = false := by rw [hcol]; rfl
    have hv : ∀ w, Calls Tryz.prog 85 #[.string d] w fun r w' => r = .returned (.tuple #[.int .i64 (rvV d), .bool (rvB d)]) ∧ w = w' := fun w => refValue d w hdm hdg
    have HV := Lib.hid hv
    have hlead : ((s[f].toNat : Int) == 48) = false ∨ (((s[f].toNat : Int) == 48) = true ∧ ¬ (f + 1 < e)) := by
      by_cases h : (s[f].toNat : Int) = 48
      · exact .inr ⟨by simpa using h, fun h2 => c2 (.inr (.inl ⟨by rw [hbf]; exact h, h2⟩))⟩
      · exact .inl (by simpa using h)
    rw [if_neg c1, if_neg c2, hdv, if_neg (by simp)] at hspec
    obtain ⟨v, hvv⟩ : ∃ v, v = dvl d d.size := ⟨_, rfl⟩
    have hrv : rvV d = if v ≤ 9223372036854775808 then -(v : Int) else 0 := by rw [hvv]; rfl
    have hrb : rvB d = decide (v ≤ 9223372036854775808) := by rw [hvv]; rfl
    rw [← hvv] at hspec
    clear hv hcol hdsz hdv hdg hdm c2 c1 hvv hbe hbf hdd
    by_cases c3 : 9223372036854775807 < v
    · have hr : ret3n (tnF s f f e) = .returned (.tuple #[.int .i64 0, .int .i64 0, .int .i64 3]) := by rw [hspec, if_pos c3]; rfl
      have HR := Lib.hid hr
      by_cases c5 : v ≤ 9223372036854775808
      · have e1 : rvB d = true := by rw [hrb]; exact decide_eq_true c5
        have e2 : rvV d = -9223372036854775808 := by rw [hrv, if_pos c5]; omega
        clear hr hspec c3 c5 hrv hrb
        rcases hlead with f8 | ⟨f8, f9⟩
        all_goals
          go_enter Tryz.func70, Tryz.ntmps70
          go_wp2_with fail
          refine (HNUM.out _).mono ?_; rintro r w' ⟨rfl, rfl⟩
          go_wp2_with fail
          refine (HV.out _).mono ?_; rintro r w' ⟨rfl, rfl⟩
          go_wp2_with fail
          go_ret3
          exact ⟨by rw [HR.out]; rfl, rfl⟩
      · have e1 : rvB d = false := by rw [hrb]; exact decide_eq_false c5
        clear hr hspec c3 c5 hrv hrb
        rcases hlead with f8 | ⟨f8, f9⟩
        all_goals
          go_enter Tryz.func70, Tryz.ntmps70
          go_wp2_with fail
          refine (HNUM.out _).mono ?_; rintro r w' ⟨rfl, rfl⟩
          go_wp2_with fail
          refine (HV.out _).mono ?_; rintro r w' ⟨rfl, rfl⟩
          go_wp2_with fail
          go_ret3
          exact ⟨by rw [HR.out]; rfl, rfl⟩
    · have hr : ret3n (tnF s f f e) = .returned (.tuple #[.int .i64 (v : Int), .int .i64 (e + 1), .int .i64 0]) := by rw [hspec, if_neg c3]; rfl
      have HR := Lib.hid hr
      have e1 : rvB d = true := by rw [hrb]; exact decide_eq_true (by omega)
      have e2 : rvV d = -(v : Int) := by rw [hrv, if_pos (by omega)]
      have hv7 : (v : Int) ≤ 9223372036854775807 := by omega
      clear hr hspec c3 hrv hrb
      rcases hlead with f8 | ⟨f8, f9⟩
      all_goals
        go_enter Tryz.func70, Tryz.ntmps70
        go_wp2_with fail
        refine (HNUM.out _).mono ?_; rintro r w' ⟨rfl, rfl⟩
        go_wp2_with fail
        refine (HV.out _).mono ?_; rintro r w' ⟨rfl, rfl⟩
        go_wp2_with fail
        go_ret3
        exact ⟨by rw [HR.out]; rfl, rfl⟩
end
end Go.Proofs.YtbgficaboolgiaaGreatDoor
