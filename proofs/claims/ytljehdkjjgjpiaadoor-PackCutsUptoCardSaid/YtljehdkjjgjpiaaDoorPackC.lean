/-
  TakeText of the reference.
-/
import Derived.Test.YtljehdkjjgjpiaaDoorPackB
namespace Go.Proofs.YtljehdkjjgjpiaaDoor
open Go.RowKit

set_option maxRecDepth 100000 in
set_option maxHeartbeats 4000000 in
theorem refTakeText (s : ByteArray) (at_ : Int) (w : World) (hs : s.size ≤ maxLen) (h0 : -9223372036854775808 ≤ at_) (h1 : at_ ≤ 9223372036854775807) :
    Calls Tryd.prog 11 #[.string s, .int .i64 at_] w fun e w' => e = ret3t (tt s at_) ∧ w = w' := by
  have HM := Lib.hid hs
  unfold maxLen at hs
  by_cases hout : at_ < 0 ∨ (s.size : Int) < at_
  · have hr : ret3t (tt s at_) = .returned (.tuple #[.string ⟨#[]⟩, .int .i64 0, .int .i64 1]) := by unfold tt; rw [if_pos hout]; rfl
    have HR := Lib.hid hr
    clear hr
    by_cases hn : at_ < 0
    all_goals
      have hn2 : ¬ (0 ≤ at_ ∧ at_ ≤ s.size) := by omega
      go_enter Tryd.func11, Tryd.ntmps11
      go_wp2_with fail
      go_ret3
      exact ⟨by rw [HR.out]; rfl, rfl⟩
  obtain ⟨a, rfl⟩ := Int.eq_ofNat_of_zero_le (show 0 ≤ at_ by omega)
  have ha : a ≤ s.size := by omega
  obtain ⟨g1, g2, g3, g4⟩ := dE1_spec s a ha
  have hr : tt s (a : Int) = ttN s a := by unfold tt; rw [if_neg hout, Int.toNat_natCast]
  rw [hr]
  obtain ⟨e, he⟩ : ∃ e, e = dE1 s a := ⟨_, rfl⟩
  have hnum : ∀ w, Calls Tryd.prog 29 #[.string s, .int .i64 a] w fun r w' => r = .returned (.int .i64 e) ∧ w = w' := fun w => by rw [he]; exact refNumeral s a w HM.out ha
  have HNUM := Lib.hid hnum
  have hspec : ttN s a = if e = s.size then (⟨#[]⟩, 0, 6) else if e = a ∨ (byt s a = 48 ∧ a + 1 < e) ∨ byt s e ≠ 58 then (⟨#[]⟩, 0, 5) else if 9223372036854775807 < dval s a e then (⟨#[]⟩, 0, 3)
      else if s.size - e - 1 < dval s a e then (⟨#[]⟩, 0, 6) else (s.extract (e + 1) (e + 1 + dval s a e), ((e + 1 + dval s a e : Nat) : Int), 0) := by rw [he]; rfl
  rw [← he] at g1 g2 g3 g4
  obtain ⟨d, hdd⟩ : ∃ d, d = s.extract a e := ⟨_, rfl⟩
  have hdsz : d.size = e - a := by rw [hdd]; exact extract_size s a e g2
  have hdg : digs d d.size := by rw [hdd]; exact digs_extract s a e g2 g3
  have hd0 : a < e → byt d 0 = byt s a := fun h => by rw [hdd, byt_extract s a e 0 g2 (by omega)]; rfl
  have hdv : dval s a e = dvl d d.size := by unfold dval; rw [hdsz, hdd]
  have hde : d.toList.isEmpty = decide (d.size = 0) := toList_empty d
  have hdl := str_empty d
  have hdm : d.size ≤ maxLen := by unfold maxLen; omega
  have hcut := hdd.symm
  clear hr hnum hout he g3 g4
  by_cases c1 : e = s.size
  · have hr : ret3t (ttN s a) = .returned (.tuple #[.string ⟨#[]⟩, .int .i64 0, .int .i64 6]) := by rw [hspec, if_pos c1]; rfl
    have HR := Lib.hid hr
    have f : ((e : Int) == (s.size : Int)) = true := by simp; omega
    clear hr hspec c1 hdsz hd0 hdv hde hdl hdm hdg hdd hcut
    go_enter Tryd.func11, Tryd.ntmps11
    go_wp2_with fail
    refine (HNUM.out _).mono ?_; rintro r w' ⟨rfl, rfl⟩
    go_wp2_with fail
    go_ret3
    exact ⟨by rw [HR.out]; rfl, rfl⟩
  have f1 : ((e : Int) == (s.size : Int)) = false := by simp; omega
  have he2 : e < s.size := by omega
  have hbe := byt_at s e he2
  have hba := byt_at s a (by omega)
  by_cases c2 : e = a ∨ (byt s a = 48 ∧ a + 1 < e) ∨ byt s e ≠ 58
  · have hr : ret3t (ttN s a) = .returned (.tuple #[.string ⟨#[]⟩, .int .i64 0, .int .i64 5]) := by rw [hspec, if_neg c1, if_pos c2]; rfl
    have HR := Lib.hid hr
    rw [hbe, hba] at c2
    clear hr hspec c1 hde hdl hdsz hd0 hdv hdg hdm hdd hcut hbe hba
    by_cases hea : e = a
    · have f2 : ((e : Int) == (a : Int)) = true := by simp; omega
      clear c2
      go_enter Tryd.func11, Tryd.ntmps11
      go_wp2_with fail
      refine (HNUM.out _).mono ?_; rintro r w' ⟨rfl, rfl⟩
      go_wp2_with fail
      go_ret3
      exact ⟨by rw [HR.out]; rfl, rfl⟩
    have f2 : ((e : Int) == (a : Int)) = false := by simp; omega
    by_cases h8 : (s[a].toNat : Int) = 48
    · have f8 : ((s[a].toNat : Int) == 48) = true := by simpa using h8
      by_cases h9 : a + 1 < e
      · clear c2 h8 hea
        go_enter Tryd.func11, Tryd.ntmps11
        go_wp2_with fail
        refine (HNUM.out _).mono ?_; rintro r w' ⟨rfl, rfl⟩
        go_wp2_with fail
        go_ret3
        exact ⟨by rw [HR.out]; rfl, rfl⟩
      · have hcol : ((s[e].toNat : Int) != 58) = true := by
          rcases c2 with h | ⟨_, h⟩ | h
          · exact absurd h hea
          · exact absurd h h9
          · simpa using h
        clear c2 h8 hea
        go_enter Tryd.func11, Tryd.ntmps11
        go_wp2_with fail
        refine (HNUM.out _).mono ?_; rintro r w' ⟨rfl, rfl⟩
        go_wp2_with fail
        go_ret3
        exact ⟨by rw [HR.out]; rfl, rfl⟩
    · have f8 : ((s[a].toNat : Int) == 48) = false := by simpa using h8
      have hcol : ((s[e].toNat : Int) != 58) = true := by
        rcases c2 with h | ⟨h, _⟩ | h
        · exact absurd h hea
        · exact absurd h h8
        · simpa using h
      clear c2 h8 hea
      go_enter Tryd.func11, Tryd.ntmps11
      go_wp2_with fail
      refine (HNUM.out _).mono ?_; rintro r w' ⟨rfl, rfl⟩
      go_wp2_with fail
      go_ret3
      exact ⟨by rw [HR.out]; rfl, rfl⟩
  have hea : a < e := by
    apply Classical.byContradiction; intro h; exact c2 (.inl (by omega))
  have f2 : ((e : Int) == (a : Int)) = false := by simp; omega
  have hcol : byt s e = 58 := Classical.byContradiction fun h => c2 (.inr (.inr h))
  rw [hbe] at hcol
  have f4 : ((s[e].toNat : Int) != 58) = false := by rw [hcol]; rfl
  have hlead : ((s[a].toNat : Int) == 48) = false ∨ (((s[a].toNat : Int) == 48) = true ∧ ¬ (a + 1 < e)) := by
    by_cases h : (s[a].toNat : Int) = 48
    · exact .inr ⟨by simpa using h, fun h2 => c2 (.inr (.inl ⟨by rw [hba]; exact h, h2⟩))⟩
    · exact .inl (by simpa using h)
  have hv : ∀ w, Calls Tryd.prog 30 #[.string d] w fun r w' => r = .returned (.tuple #[.int .i64 (rvV d), .bool (rvB d)]) ∧ w = w' := fun w => refValue d w hdm hdg
  have HV := Lib.hid hv
  rw [if_neg c1, if_neg c2, hdv] at hspec
  obtain ⟨v, hvv⟩ : ∃ v, v = dvl d d.size := ⟨_, rfl⟩
  have hrv : rvV d = if v ≤ 9223372036854775808 then -(v : Int) else 0 := by rw [hvv]; rfl
  have hrb : rvB d = decide (v ≤ 9223372036854775808) := by rw [hvv]; rfl
  rw [← hvv] at hspec
  clear hv hcol hde hdl hdsz hd0 hdv hdg hdm c2 c1 hvv hbe hba hdd
  by_cases c3 : 9223372036854775807 < v
  · have hr : ret3t (ttN s a) = .returned (.tuple #[.string ⟨#[]⟩, .int .i64 0, .int .i64 3]) := by rw [hspec, if_pos c3]; rfl
    have HR := Lib.hid hr
    by_cases c5 : v ≤ 9223372036854775808
    · have e1 : rvB d = true := by rw [hrb]; exact decide_eq_true c5
      have e2 : rvV d = -9223372036854775808 := by rw [hrv, if_pos c5]; omega
      clear hr hspec c3 c5 hrv hrb
      rcases hlead with f8 | ⟨f8, f9⟩
      all_goals
        go_enter Tryd.func11, Tryd.ntmps11
        go_wp2_with fail
        refine (HNUM.out _).mono ?_; rintro r w' ⟨rfl, rfl⟩
        go_wp2_with fail
        refine (HV.out _).mono ?_; rintro r w' ⟨rfl, rfl⟩
        go_wp2_with fail
        go_ret3
        exact ⟨by rw [HR.out]; rfl, rfl⟩
    · have e1 : rvB d = false := by rw [hrb]; exact decide_eq_false c5
      clear hr hspec c3 c5 hrv hrb
      rcases hlead with f8 | ⟨f8, f9⟩
      all_goals
        go_enter Tryd.func11, Tryd.ntmps11
        go_wp2_with fail
        refine (HNUM.out _).mono ?_; rintro r w' ⟨rfl, rfl⟩
        go_wp2_with fail
        refine (HV.out _).mono ?_; rintro r w' ⟨rfl, rfl⟩
        go_wp2_with fail
        go_ret3
        exact ⟨by rw [HR.out]; rfl, rfl⟩
  have e1 : rvB d = true := by rw [hrb]; exact decide_eq_true (by omega)
  have e2 : rvV d = -(v : Int) := by rw [hrv, if_pos (by omega)]
  have hv7 : (v : Int) ≤ 9223372036854775807 := by omega
  rw [if_neg c3] at hspec
  clear c3 hrv hrb
  by_cases c4 : s.size - e - 1 < v
  · have hr : ret3t (ttN s a) = .returned (.tuple #[.string ⟨#[]⟩, .int .i64 0, .int .i64 6]) := by rw [hspec, if_pos c4]; rfl
    have HR := Lib.hid hr
    have hlt : (s.size : Int) - e - 1 < v := by omega
    clear hr hspec c4
    rcases hlead with f8 | ⟨f8, f9⟩
    all_goals
      go_enter Tryd.func11, Tryd.ntmps11
      go_wp2_with fail
      refine (HNUM.out _).mono ?_; rintro r w' ⟨rfl, rfl⟩
      go_wp2_with fail
      refine (HV.out _).mono ?_; rintro r w' ⟨rfl, rfl⟩
      go_wp2_with fail
      go_ret3
      exact ⟨by rw [HR.out]; rfl, rfl⟩
  · have hr : ret3t (ttN s a) = .returned (.tuple #[.string (s.extract (e + 1) (e + 1 + v)), .int .i64 ((e + 1 + v : Nat) : Int), .int .i64 0]) := by
      rw [hspec, if_neg c4]; rfl
    have HR := Lib.hid hr
    have hlt : ¬ ((s.size : Int) - e - 1 < v) := by omega
    have hsum : (e : Int) + 1 + v ≤ s.size := by omega
    clear hr hspec c4
    rcases hlead with f8 | ⟨f8, f9⟩
    all_goals
      go_enter Tryd.func11, Tryd.ntmps11
      go_wp2_with fail
      refine (HNUM.out _).mono ?_; rintro r w' ⟨rfl, rfl⟩
      go_wp2_with fail
      refine (HV.out _).mono ?_; rintro r w' ⟨rfl, rfl⟩
      go_wp2_with fail
      go_ret3
      exact ⟨by rw [HR.out]; rfl, rfl⟩

end Go.Proofs.YtljehdkjjgjpiaaDoor
