/-
  TakeText and TakeNumber, of pack and of its reference.
-/
import Derived.Test.YtljehdkjjgjpiaaDoorPackA
namespace Go.Proofs.YtljehdkjjgjpiaaDoor
open Go.RowKit

theorem str_empty (d : ByteArray) : (d.toList = []) ↔ d.size = 0 := by
  constructor
  · intro h
    have := toList_empty d
    rw [h] at this
    simpa using this.symm
  · exact toList_nil

set_option maxRecDepth 100000 in
set_option maxHeartbeats 4000000 in
theorem packTakeText (s : ByteArray) (at_ : Int) (w : World) (hs : s.size ≤ maxLen) (h0 : -9223372036854775808 ≤ at_) (h1 : at_ ≤ 9223372036854775807) :
    Calls Tryd.prog 10 #[.string s, .int .i64 at_] w fun e w' => e = ret3t (tt s at_) ∧ Below w.heap.size w w' := by
  have HM := Lib.hid hs
  unfold maxLen at hs
  by_cases hout : at_ < 0 ∨ (s.size : Int) < at_
  · have hr : ret3t (tt s at_) = .returned (.tuple #[.string ⟨#[]⟩, .int .i64 0, .int .i64 1]) := by unfold tt; rw [if_pos hout]; rfl
    have hd : decide (0 ≤ at_ ∧ at_ ≤ s.size) = false := decide_eq_false (by omega)
    have HR := Lib.hid hr
    have HD := Lib.hid hd
    clear hr hd hout
    go_enter Tryd.func10, Tryd.ntmps10
    go_wp2_with fail
    refine (packWithin s at_ _).mono ?_; rintro e w' ⟨rfl, rfl⟩
    rw [HD.out]
    go_wp2_with fail
    go_ret3
    exact ⟨by rw [HR.out]; rfl, Below.refl _ _⟩
  obtain ⟨a, rfl⟩ := Int.eq_ofNat_of_zero_le (show 0 ≤ at_ by omega)
  have ha : a ≤ s.size := by omega
  obtain ⟨g1, g2, g3, g4⟩ := dE1_spec s a ha
  have hr : tt s (a : Int) = ttN s a := by unfold tt; rw [if_neg hout, Int.toNat_natCast]
  rw [hr]
  have hd : decide (0 ≤ (a : Int) ∧ (a : Int) ≤ s.size) = true := decide_eq_true (by omega)
  have HD := Lib.hid hd
  obtain ⟨e, he⟩ : ∃ e, e = dE1 s a := ⟨_, rfl⟩
  have hnum : ∀ w, Calls Tryd.prog 26 #[.string s, .int .i64 a] w fun r w' => r = .returned (.int .i64 e) ∧ w = w' := fun w => by rw [he]; exact packNumeral s a w HM.out ha
  have HNUM := Lib.hid hnum
  have hspec : ttN s a = if e = s.size then (⟨#[]⟩, 0, 6) else if e = a ∨ (byt s a = 48 ∧ a + 1 < e) ∨ byt s e ≠ 58 then (⟨#[]⟩, 0, 5) else if 9223372036854775807 < dval s a e then (⟨#[]⟩, 0, 3)
      else if s.size - e - 1 < dval s a e then (⟨#[]⟩, 0, 6) else (s.extract (e + 1) (e + 1 + dval s a e), ((e + 1 + dval s a e : Nat) : Int), 0) := by rw [he]; rfl
  rw [← he] at g1 g2 g3 g4
  obtain ⟨d, hdd⟩ : ∃ d, d = s.extract a e := ⟨_, rfl⟩
  have hdsz : d.size = e - a := by rw [hdd]; exact extract_size s a e g2
  have hdg : digs d d.size := by rw [hdd]; exact digs_extract s a e g2 g3
  have hd0 : a < e → byt d 0 = byt s a := fun h => by rw [hdd, byt_extract s a e 0 g2 (by omega)]; rfl
  have hdv : dval s a e = dvl d d.size := by unfold dval; rw [hdsz, hdd]
  have hde : d.toList.isEmpty = decide (d.size = 0) := toList_empty d
  have hdl := str_empty d
  have hdm : d.size ≤ maxLen := by unfold maxLen; omega
  have hcut := hdd.symm
  clear hr hd hnum hout he hdd g3 g4
  by_cases c1 : e = s.size
  · have hr : ret3t (ttN s a) = .returned (.tuple #[.string ⟨#[]⟩, .int .i64 0, .int .i64 6]) := by rw [hspec, if_pos c1]; rfl
    have HR := Lib.hid hr
    have f : ((e : Int) == (s.size : Int)) = true := by simp; omega
    clear hr hspec c1 hdsz hd0 hdv hde hdl hdm hdg
    go_enter Tryd.func10, Tryd.ntmps10
    go_wp2_with fail
    refine (packWithin s _ _).mono ?_; rintro r w' ⟨rfl, rfl⟩
    rw [HD.out]
    go_wp2_with fail
    refine (HNUM.out _).mono ?_; rintro r w' ⟨rfl, rfl⟩
    go_wp2_with fail
    go_ret3
    exact ⟨by rw [HR.out]; rfl, Below.refl _ _⟩
  have f1 : ((e : Int) == (s.size : Int)) = false := by simp; omega
  have he2 : e < s.size := by omega
  by_cases c2 : e = a ∨ (byt s a = 48 ∧ a + 1 < e) ∨ byt s e ≠ 58
  · have hr : ret3t (ttN s a) = .returned (.tuple #[.string ⟨#[]⟩, .int .i64 0, .int .i64 5]) := by rw [hspec, if_neg c1, if_pos c2]; rfl
    have HR := Lib.hid hr
    have HDM := Lib.hid hdm
    clear hr hspec c1
    by_cases hea : e = a
    · have f2 : d.toList.isEmpty = true := by rw [hde]; exact decide_eq_true (by omega)
      have f3 : d.toList = [] := hdl.2 (by omega)
      clear hde hdl hdsz hd0 hdv hdg c2 hdm hea
      go_enter Tryd.func10, Tryd.ntmps10
      go_wp2_with fail
      refine (packWithin s _ _).mono ?_; rintro r w' ⟨rfl, rfl⟩
      rw [HD.out]
      go_wp2_with fail
      refine (HNUM.out _).mono ?_; rintro r w' ⟨rfl, rfl⟩
      go_wp2_with fail
      go_ret3
      exact ⟨by rw [HR.out]; rfl, Below.refl _ _⟩
    have f2 : d.toList.isEmpty = false := by rw [hde]; exact decide_eq_false (by omega)
    have f3 : ¬ d.toList = [] := fun h => by have := hdl.1 h; omega
    by_cases hpad : 1 < d.size ∧ byt d 0 = 48
    · have HP : Hid (decide (1 < d.size ∧ byt d 0 = 48) = true) := decide_eq_true hpad
      clear hde hdl hdsz hd0 hdv hdg c2 hdm hea hpad
      go_enter Tryd.func10, Tryd.ntmps10
      go_wp2_with fail
      refine (packWithin s _ _).mono ?_; rintro r w' ⟨rfl, rfl⟩
      rw [HD.out]
      go_wp2_with fail
      refine (HNUM.out _).mono ?_; rintro r w' ⟨rfl, rfl⟩
      go_wp2_with fail
      refine (packPadded d _ HDM.out).mono ?_; rintro r w' ⟨rfl, rfl⟩
      rw [HP.out]
      go_wp2_with fail
      go_ret3
      exact ⟨by rw [HR.out]; rfl, Below.refl _ _⟩
    · have HP : Hid (decide (1 < d.size ∧ byt d 0 = 48) = false) := decide_eq_false hpad
      have hcol : byt s e ≠ 58 := by
        rcases c2 with h | ⟨h, h2⟩ | h
        · exact absurd h hea
        · exact absurd ⟨by omega, by rw [hd0 (by omega)]; exact h⟩ hpad
        · exact h
      rw [byt_at s e he2] at hcol
      have f4 : ((s[e].toNat : Int) != 58) = true := by simpa using hcol
      clear hde hdl hdsz hd0 hdv hdg c2 hdm hea hpad hcol
      go_enter Tryd.func10, Tryd.ntmps10
      go_wp2_with fail
      refine (packWithin s _ _).mono ?_; rintro r w' ⟨rfl, rfl⟩
      rw [HD.out]
      go_wp2_with fail
      refine (HNUM.out _).mono ?_; rintro r w' ⟨rfl, rfl⟩
      go_wp2_with fail
      refine (packPadded d _ HDM.out).mono ?_; rintro r w' ⟨rfl, rfl⟩
      rw [HP.out]
      go_wp2_with fail
      go_ret3
      exact ⟨by rw [HR.out]; rfl, Below.refl _ _⟩
  have hea : a < e := by
    apply Classical.byContradiction; intro h; exact c2 (.inl (by omega))
  have f2 : d.toList.isEmpty = false := by rw [hde]; exact decide_eq_false (by omega)
  have f3 : ¬ d.toList = [] := fun h => by have := hdl.1 h; omega
  have hnp : ¬ (1 < d.size ∧ byt d 0 = 48) := fun h => c2 (.inr (.inl ⟨by rw [← hd0 hea]; exact h.2, by omega⟩))
  have HP : Hid (decide (1 < d.size ∧ byt d 0 = 48) = false) := decide_eq_false hnp
  have hcol : byt s e = 58 := Classical.byContradiction fun h => c2 (.inr (.inr h))
  rw [byt_at s e he2] at hcol
  have f4 : ((s[e].toNat : Int) != 58) = false := by rw [hcol]; rfl
  obtain ⟨p1, p2⟩ := par_digits d hdg (by omega) (fun h => hnp ⟨h.2, h.1⟩)
  have hv : ∀ w, Calls Tryd.prog 28 #[.string d] w fun r w' => r = .returned (.tuple #[.int .i64 (cV (dvl d d.size : Int)), .int .i64 (cE (dvl d d.size : Int))]) ∧ Below w.heap.size w w' := fun w => packValue d _ w hdm p1 p2
  have HPD : Hid (∀ w, Calls Tryd.prog 27 #[.string d] w fun r w' => r = .returned (.bool false) ∧ w = w') := fun w => by
    rw [← HP.out]; exact packPadded d w hdm
  rw [if_neg c1, if_neg c2, hdv] at hspec
  obtain ⟨v, hvv⟩ : ∃ v, v = dvl d d.size := ⟨_, rfl⟩
  rw [← hvv] at hspec hv
  clear p1 p2 hcol hnp hde hdl hdsz hd0 hdv hdg hdm c2 c1 hvv
  by_cases c3 : 9223372036854775807 < v
  · have hr : ret3t (ttN s a) = .returned (.tuple #[.string ⟨#[]⟩, .int .i64 0, .int .i64 3]) := by rw [hspec, if_pos c3]; rfl
    have HR := Lib.hid hr
    have HE : Hid (cE (v : Int) = 3) := cE_no (by omega)
    have HV := Lib.hid hv
    clear hr hspec hv c3
    go_enter Tryd.func10, Tryd.ntmps10
    go_wp2_with fail
    refine (packWithin s _ _).mono ?_; rintro r w' ⟨rfl, rfl⟩
    rw [HD.out]
    go_wp2_with fail
    refine (HNUM.out _).mono ?_; rintro r w' ⟨rfl, rfl⟩
    go_wp2_with fail
    refine (HPD.out _).mono ?_; rintro r w' ⟨rfl, rfl⟩
    go_wp2_with fail
    refine (HV.out _).mono ?_; rintro r w1 ⟨rfl, hb⟩
    have HB := Lib.hid hb
    clear hb
    rw [HE.out]
    go_wp2_with fail
    go_ret3
    exact ⟨by rw [HR.out]; rfl, HB.out⟩
  have HE : Hid (cE (v : Int) = 0) := cE_yes (by omega) (by omega)
  have HVV : Hid (cV (v : Int) = v) := cV_yes (by omega) (by omega)
  have HV := Lib.hid hv
  rw [if_neg c3] at hspec
  obtain ⟨rest, hrest⟩ : ∃ rest, rest = s.extract (e + 1) s.size := ⟨_, rfl⟩
  have hrs : rest.size = s.size - (e + 1) := by rw [hrest]; exact extract_size s (e + 1) s.size (Nat.le_refl _)
  have hrc := hrest.symm
  clear hv c3
  by_cases c4 : s.size - e - 1 < v
  · have hr : ret3t (ttN s a) = .returned (.tuple #[.string ⟨#[]⟩, .int .i64 0, .int .i64 6]) := by rw [hspec, if_pos c4]; rfl
    have HR := Lib.hid hr
    have hlt : rest.size < v := by omega
    clear hr hspec hrs hrest c4
    go_enter Tryd.func10, Tryd.ntmps10
    go_wp2_with fail
    refine (packWithin s _ _).mono ?_; rintro r w' ⟨rfl, rfl⟩
    rw [HD.out]
    go_wp2_with fail
    refine (HNUM.out _).mono ?_; rintro r w' ⟨rfl, rfl⟩
    go_wp2_with fail
    refine (HPD.out _).mono ?_; rintro r w' ⟨rfl, rfl⟩
    go_wp2_with fail
    refine (HV.out _).mono ?_; rintro r w1 ⟨rfl, hb⟩
    have HB := Lib.hid hb
    clear hb
    rw [HE.out, HVV.out]
    go_wp2_with fail
    go_ret3
    exact ⟨by rw [HR.out]; rfl, HB.out⟩
  · have hr : ret3t (ttN s a) = .returned (.tuple #[.string (rest.extract 0 v), .int .i64 (e + 1 + v), .int .i64 0]) := by
      rw [hspec, if_neg c4, hrest, extract_extract s (e + 1) v (by omega)]; rfl
    have HR := Lib.hid hr
    have hlt : ¬ rest.size < v := by omega
    have hle : v ≤ rest.size := by omega
    have hsum : (e : Int) + 1 + v ≤ s.size := by omega
    clear hr hspec hrs hrest c4
    go_enter Tryd.func10, Tryd.ntmps10
    go_wp2_with fail
    refine (packWithin s _ _).mono ?_; rintro r w' ⟨rfl, rfl⟩
    rw [HD.out]
    go_wp2_with fail
    refine (HNUM.out _).mono ?_; rintro r w' ⟨rfl, rfl⟩
    go_wp2_with fail
    refine (HPD.out _).mono ?_; rintro r w' ⟨rfl, rfl⟩
    go_wp2_with fail
    refine (HV.out _).mono ?_; rintro r w1 ⟨rfl, hb⟩
    have HB := Lib.hid hb
    clear hb
    rw [HE.out, HVV.out]
    go_wp2_with fail
    go_ret3
    exact ⟨by rw [HR.out]; rfl, HB.out⟩

end Go.Proofs.YtljehdkjjgjpiaaDoor
