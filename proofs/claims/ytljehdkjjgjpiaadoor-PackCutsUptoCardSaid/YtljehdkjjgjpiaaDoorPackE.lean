/-
  TakeNumber of the reference.
-/
import Derived.Test.YtljehdkjjgjpiaaDoorPackC
namespace Go.Proofs.YtljehdkjjgjpiaaDoor
open Go.RowKit

set_option maxRecDepth 100000 in
set_option maxHeartbeats 8000000 in
theorem refTakeNumber (s : ByteArray) (at_ : Int) (w : World) (hs : s.size ≤ maxLen) (h0 : -9223372036854775808 ≤ at_) (h1 : at_ ≤ 9223372036854775807) :
    Calls Tryd.prog 14 #[.string s, .int .i64 at_] w fun e w' => e = ret3n (tn s at_) ∧ w = w' := by
  have HM := Lib.hid hs
  unfold maxLen at hs
  by_cases hout : at_ < 0 ∨ (s.size : Int) < at_
  · have hr : ret3n (tn s at_) = .returned (.tuple #[.int .i64 0, .int .i64 0, .int .i64 1]) := by unfold tn; rw [if_pos hout]; rfl
    have HR := Lib.hid hr
    clear hr
    by_cases hn : at_ < 0
    all_goals
      have hn2 : ¬ (0 ≤ at_ ∧ at_ ≤ s.size) := by omega
      go_enter Tryd.func14, Tryd.ntmps14
      go_wp2_with fail
      go_ret3
      exact ⟨by rw [HR.out]; rfl, rfl⟩
  obtain ⟨a, rfl⟩ := Int.eq_ofNat_of_zero_le (show 0 ≤ at_ by omega)
  have ha : a ≤ s.size := by omega
  obtain ⟨n1, n2, n3⟩ := nFirst_le s a ha
  have hr : tn s (a : Int) = tnF s a (nFirst s a) (dE1 s (nFirst s a)) := by unfold tn; rw [if_neg hout, Int.toNat_natCast]
  rw [hr]
  have hd : decide (0 ≤ (a : Int) ∧ (a : Int) ≤ s.size) = true := decide_eq_true (by omega)
  have HD := Lib.hid hd
  obtain ⟨f, hf⟩ : ∃ f, f = nFirst s a := ⟨_, rfl⟩
  rw [← hf] at n1 n2 n3 ⊢
  obtain ⟨g1, g2, g3, g4⟩ := dE1_spec s f n2
  obtain ⟨e, he⟩ : ∃ e, e = dE1 s f := ⟨_, rfl⟩
  have hnum : ∀ w, Calls Tryd.prog 29 #[.string s, .int .i64 f] w fun r w' => r = .returned (.int .i64 e) ∧ w = w' := fun w => by rw [he]; exact refNumeral s f w HM.out n2
  have HNUM := Lib.hid hnum
  rw [← he] at g1 g2 g3 g4 ⊢
  have hspec : tnF s a f e = if e = s.size then (0, 0, 6) else if e = f ∨ (byt s f = 48 ∧ f + 1 < e) ∨ (byt s f = 48 ∧ f ≠ a) ∨ byt s e ≠ 59 then (0, 0, 5)
      else if f ≠ a then (if 9223372036854775808 < dval s f e then (0, 0, 3) else (-(dval s f e : Int), ((e + 1 : Nat) : Int), 0))
      else (if 9223372036854775807 < dval s f e then (0, 0, 3) else (dval s f e, ((e + 1 : Nat) : Int), 0)) := rfl
  have hcase : (a = s.size ∧ f = a) ∨ (a < s.size ∧ byt s a = 45 ∧ f = a + 1) ∨ (a < s.size ∧ byt s a ≠ 45 ∧ f = a) := by
    rw [hf]; unfold nFirst
    by_cases h : a < s.size ∧ byt s a = 45
    · rw [if_pos h]; exact .inr (.inl ⟨h.1, h.2, rfl⟩)
    · rw [if_neg h]
      by_cases h2 : a < s.size
      · exact .inr (.inr ⟨h2, fun h3 => h ⟨h2, h3⟩, rfl⟩)
      · exact .inl ⟨by omega, rfl⟩
  clear hd hnum hout he hf g4 n3 hr
  rcases hcase with ⟨k1, k2⟩ | ⟨k1, k2, k3⟩ | ⟨k1, k2, k3⟩
  · subst k2
    obtain rfl : e = s.size := by omega
    have hr : ret3n (tnF s f f s.size) = .returned (.tuple #[.int .i64 0, .int .i64 0, .int .i64 6]) := by rw [hspec, if_pos rfl]; rfl
    have HR := Lib.hid hr
    have kk : ¬ (f < s.size) := by omega
    have f1 : ((s.size : Int) == (s.size : Int)) = true := by simp
    clear hr hspec k1 g3
    go_enter Tryd.func14, Tryd.ntmps14
    go_wp2_with fail
    refine (HNUM.out _).mono ?_; rintro r w' ⟨rfl, rfl⟩
    go_wp2_with fail
    go_ret3
    exact ⟨by rw [HR.out]; rfl, rfl⟩
  · subst k3
    rw [byt_at s a k1] at k2
    have fb : ((s[a].toNat : Int) == 45) = true := by simpa using k2
    clear k2
    obtain ⟨d, hdd⟩ : ∃ d, d = s.extract (a + 1) e := ⟨_, rfl⟩
    have hdsz : d.size = e - (a + 1) := by rw [hdd]; exact extract_size s (a + 1) e g2
    have hdg : digs d d.size := by rw [hdd]; exact digs_extract s (a + 1) e g2 g3
    have hdv : dval s (a + 1) e = dvl d d.size := by unfold dval; rw [hdsz, hdd]
    have hdm : d.size ≤ maxLen := by unfold maxLen; omega
    have hcut := hdd.symm
    clear g3
    by_cases c1 : e = s.size
    · have hr : ret3n (tnF s a (a + 1) e) = .returned (.tuple #[.int .i64 0, .int .i64 0, .int .i64 6]) := by rw [hspec, if_pos c1]; rfl
      have HR := Lib.hid hr
      have f1 : ((e : Int) == (s.size : Int)) = true := by simp; omega
      clear hr hspec c1 hdsz hdv hdm hdg hdd hcut
      go_enter Tryd.func14, Tryd.ntmps14
      go_wp2_with fail
      refine (HNUM.out _).mono ?_; rintro r w' ⟨rfl, rfl⟩
      go_wp2_with fail
      go_ret3
      exact ⟨by rw [HR.out]; rfl, rfl⟩
    have f1 : ((e : Int) == (s.size : Int)) = false := by simp; omega
    have he2 : e < s.size := by omega
    have hbe := byt_at s e he2
    have hfs : (a + 1) < s.size := by omega
    have hbf := byt_at s (a + 1) hfs
    by_cases c2 : e = (a + 1) ∨ (byt s (a + 1) = 48 ∧ (a + 1) + 1 < e) ∨ (byt s (a + 1) = 48 ∧ (a + 1) ≠ a) ∨ byt s e ≠ 59
    · have hr : ret3n (tnF s a (a + 1) e) = .returned (.tuple #[.int .i64 0, .int .i64 0, .int .i64 5]) := by rw [hspec, if_neg c1, if_pos c2]; rfl
      have HR := Lib.hid hr
      rw [hbe, hbf] at c2
      clear hr hspec c1 hdsz hdv hdm hdg hdd hcut hbe hbf
      by_cases hea : e = (a + 1)
      · have f2 : ((e : Int) == (a : Int) + 1) = true := by simp; omega
        clear c2
        go_enter Tryd.func14, Tryd.ntmps14
        go_wp2_with fail
        refine (HNUM.out _).mono ?_; rintro r w' ⟨rfl, rfl⟩
        go_wp2_with fail
        go_ret3
        exact ⟨by rw [HR.out]; rfl, rfl⟩
      have f2 : ((e : Int) == (a : Int) + 1) = false := by simp; omega
      by_cases h8 : (s[a + 1].toNat : Int) = 48
      · have f8 : ((s[a + 1].toNat : Int) == 48) = true := by simpa using h8
        by_cases h9 : (a + 1) + 1 < e
        · clear c2 h8 hea
          go_enter Tryd.func14, Tryd.ntmps14
          go_wp2_with fail
          refine (HNUM.out _).mono ?_; rintro r w' ⟨rfl, rfl⟩
          go_wp2_with fail
          go_ret3
          exact ⟨by rw [HR.out]; rfl, rfl⟩
        · clear c2 h8 hea
          go_enter Tryd.func14, Tryd.ntmps14
          go_wp2_with fail
          refine (HNUM.out _).mono ?_; rintro r w' ⟨rfl, rfl⟩
          go_wp2_with fail
          go_ret3
          exact ⟨by rw [HR.out]; rfl, rfl⟩
      · have f8 : ((s[a + 1].toNat : Int) == 48) = false := by simpa using h8
        have hcol : ((s[e].toNat : Int) != 59) = true := by
          rcases c2 with h | ⟨h, _⟩ | ⟨h, _⟩ | h
          · exact absurd h hea
          · exact absurd h h8
          · exact absurd h h8
          · simpa using h
        clear c2 h8 hea
        go_enter Tryd.func14, Tryd.ntmps14
        go_wp2_with fail
        refine (HNUM.out _).mono ?_; rintro r w' ⟨rfl, rfl⟩
        go_wp2_with fail
        go_ret3
        exact ⟨by rw [HR.out]; rfl, rfl⟩
    have hea : (a + 1) < e := by
      apply Classical.byContradiction; intro h; exact c2 (.inl (by omega))
    have f2 : ((e : Int) == (a : Int) + 1) = false := by simp; omega
    have hcol : byt s e = 59 := Classical.byContradiction fun h => c2 (.inr (.inr (.inr h)))
    rw [hbe] at hcol
    have f4 : ((s[e].toNat : Int) != 59) = false := by rw [hcol]; rfl
    have hv : ∀ w, Calls Tryd.prog 30 #[.string d] w fun r w' => r = .returned (.tuple #[.int .i64 (rvV d), .bool (rvB d)]) ∧ w = w' := fun w => refValue d w hdm hdg
    have HV := Lib.hid hv
    have f8 : ((s[a + 1].toNat : Int) == 48) = false := by
      rw [beq_eq_false_iff_ne]; intro h; exact c2 (.inr (.inr (.inl ⟨by rw [hbf]; exact h, by omega⟩)))
    rw [if_neg c1, if_neg c2, hdv, if_pos (by omega)] at hspec
    obtain ⟨v, hvv⟩ : ∃ v, v = dvl d d.size := ⟨_, rfl⟩
    have hrv : rvV d = if v ≤ 9223372036854775808 then -(v : Int) else 0 := by rw [hvv]; rfl
    have hrb : rvB d = decide (v ≤ 9223372036854775808) := by rw [hvv]; rfl
    rw [← hvv] at hspec
    have fna : ((a : Int) + 1 == (a : Int)) = false := by simp; omega
    clear hv hcol hdsz hdv hdg hdm c2 c1 hvv hbe hbf hdd
    by_cases c3 : 9223372036854775808 < v
    · have hr : ret3n (tnF s a (a + 1) e) = .returned (.tuple #[.int .i64 0, .int .i64 0, .int .i64 3]) := by rw [hspec, if_pos c3]; rfl
      have HR := Lib.hid hr
      have e1 : rvB d = false := by rw [hrb]; exact decide_eq_false (by omega)
      clear hr hspec c3 hrv hrb
      go_enter Tryd.func14, Tryd.ntmps14
      go_wp2_with fail
      refine (HNUM.out _).mono ?_; rintro r w' ⟨rfl, rfl⟩
      go_wp2_with fail
      refine (HV.out _).mono ?_; rintro r w' ⟨rfl, rfl⟩
      go_wp2_with fail
      go_ret3
      exact ⟨by rw [HR.out]; rfl, rfl⟩
    · have hr : ret3n (tnF s a (a + 1) e) = .returned (.tuple #[.int .i64 (-(v : Int)), .int .i64 (e + 1), .int .i64 0]) := by rw [hspec, if_neg c3]; rfl
      have HR := Lib.hid hr
      have e1 : rvB d = true := by rw [hrb]; exact decide_eq_true (by omega)
      have e2 : rvV d = -(v : Int) := by rw [hrv, if_pos (by omega)]
      clear hr hspec c3 hrv hrb
      go_enter Tryd.func14, Tryd.ntmps14
      go_wp2_with fail
      refine (HNUM.out _).mono ?_; rintro r w' ⟨rfl, rfl⟩
      go_wp2_with fail
      refine (HV.out _).mono ?_; rintro r w' ⟨rfl, rfl⟩
      go_wp2_with fail
      go_ret3
      exact ⟨by rw [HR.out]; rfl, rfl⟩
  · subst k3
    rw [byt_at s f k1] at k2
    have fb : ((s[f].toNat : Int) == 45) = false := by simpa using k2
    clear k2
    obtain ⟨d, hdd⟩ : ∃ d, d = s.extract f e := ⟨_, rfl⟩
    have hdsz : d.size = e - f := by rw [hdd]; exact extract_size s f e g2
    have hdg : digs d d.size := by rw [hdd]; exact digs_extract s f e g2 g3
    have hdv : dval s f e = dvl d d.size := by unfold dval; rw [hdsz, hdd]
    have hdm : d.size ≤ maxLen := by unfold maxLen; omega
    have hcut := hdd.symm
    clear g3
    by_cases c1 : e = s.size
    · have hr : ret3n (tnF s f f e) = .returned (.tuple #[.int .i64 0, .int .i64 0, .int .i64 6]) := by rw [hspec, if_pos c1]; rfl
      have HR := Lib.hid hr
      have f1 : ((e : Int) == (s.size : Int)) = true := by simp; omega
      clear hr hspec c1 hdsz hdv hdm hdg hdd hcut
      go_enter Tryd.func14, Tryd.ntmps14
      go_wp2_with fail
      refine (HNUM.out _).mono ?_; rintro r w' ⟨rfl, rfl⟩
      go_wp2_with fail
      go_ret3
      exact ⟨by rw [HR.out]; rfl, rfl⟩
    have f1 : ((e : Int) == (s.size : Int)) = false := by simp; omega
    have he2 : e < s.size := by omega
    have hbe := byt_at s e he2
    have hfs : f < s.size := by omega
    have hbf := byt_at s f hfs
    by_cases c2 : e = f ∨ (byt s f = 48 ∧ f + 1 < e) ∨ (byt s f = 48 ∧ f ≠ f) ∨ byt s e ≠ 59
    · have hr : ret3n (tnF s f f e) = .returned (.tuple #[.int .i64 0, .int .i64 0, .int .i64 5]) := by rw [hspec, if_neg c1, if_pos c2]; rfl
      have HR := Lib.hid hr
      rw [hbe, hbf] at c2
      clear hr hspec c1 hdsz hdv hdm hdg hdd hcut hbe hbf
      by_cases hea : e = f
      · have f2 : ((e : Int) == ((f : Nat) : Int)) = true := by simp; omega
        clear c2
        go_enter Tryd.func14, Tryd.ntmps14
        go_wp2_with fail
        refine (HNUM.out _).mono ?_; rintro r w' ⟨rfl, rfl⟩
        go_wp2_with fail
        go_ret3
        exact ⟨by rw [HR.out]; rfl, rfl⟩
      have f2 : ((e : Int) == (f : Int)) = false := by simp; omega
      by_cases h8 : (s[f].toNat : Int) = 48
      · have f8 : ((s[f].toNat : Int) == 48) = true := by simpa using h8
        by_cases h9 : f + 1 < e
        · clear c2 h8 hea
          go_enter Tryd.func14, Tryd.ntmps14
          go_wp2_with fail
          refine (HNUM.out _).mono ?_; rintro r w' ⟨rfl, rfl⟩
          go_wp2_with fail
          go_ret3
          exact ⟨by rw [HR.out]; rfl, rfl⟩
        · have hcol : ((s[e].toNat : Int) != 59) = true := by
            rcases c2 with h | ⟨_, h⟩ | ⟨_, h⟩ | h
            · exact absurd h hea
            · exact absurd h h9
            · exact absurd rfl h
            · simpa using h
          clear c2 h8 hea
          go_enter Tryd.func14, Tryd.ntmps14
          go_wp2_with fail
          refine (HNUM.out _).mono ?_; rintro r w' ⟨rfl, rfl⟩
          go_wp2_with fail
          go_ret3
          exact ⟨by rw [HR.out]; rfl, rfl⟩
      · have f8 : ((s[f].toNat : Int) == 48) = false := by simpa using h8
        have hcol : ((s[e].toNat : Int) != 59) = true := by
          rcases c2 with h | ⟨h, _⟩ | ⟨h, _⟩ | h
          · exact absurd h hea
          · exact absurd h h8
          · exact absurd h h8
          · simpa using h
        clear c2 h8 hea
        go_enter Tryd.func14, Tryd.ntmps14
        go_wp2_with fail
        refine (HNUM.out _).mono ?_; rintro r w' ⟨rfl, rfl⟩
        go_wp2_with fail
        go_ret3
        exact ⟨by rw [HR.out]; rfl, rfl⟩
    have hea : f < e := by
      apply Classical.byContradiction; intro h; exact c2 (.inl (by omega))
    have f2 : ((e : Int) == (f : Int)) = false := by simp; omega
    have hcol : byt s e = 59 := Classical.byContradiction fun h => c2 (.inr (.inr (.inr h)))
    rw [hbe] at hcol
    have f4 : ((s[e].toNat : Int) != 59) = false := by rw [hcol]; rfl
    have hv : ∀ w, Calls Tryd.prog 30 #[.string d] w fun r w' => r = .returned (.tuple #[.int .i64 (rvV d), .bool (rvB d)]) ∧ w = w' := fun w => refValue d w hdm hdg
    have HV := Lib.hid hv
    have hlead : ((s[f].toNat : Int) == 48) = false ∨ (((s[f].toNat : Int) == 48) = true ∧ ¬ (f + 1 < e)) := by
      by_cases h : (s[f].toNat : Int) = 48
      · exact .inr ⟨by simpa using h, fun h2 => c2 (.inr (.inl ⟨by rw [hbf]; exact h, h2⟩))⟩
      · exact .inl (by simpa using h)
    rw [if_neg c1, if_neg c2, hdv, if_neg (by simp)] at hspec
    obtain ⟨v, hvv⟩ : ∃ v, v = dvl d d.size := ⟨_, rfl⟩
    have hrv : rvV d = if v ≤ 9223372036854775808 then -(v : Int) else 0 := by rw [hvv]; rfl
    have hrb : rvB d = decide (v ≤ 9223372036854775808) := by rw [hvv]; rfl
    rw [← hvv] at hspec
    clear hv hcol hdsz hdv hdg hdm c2 c1 hvv hbe hbf hdd
    by_cases c3 : 9223372036854775807 < v
    · have hr : ret3n (tnF s f f e) = .returned (.tuple #[.int .i64 0, .int .i64 0, .int .i64 3]) := by rw [hspec, if_pos c3]; rfl
      have HR := Lib.hid hr
      by_cases c5 : v ≤ 9223372036854775808
      · have e1 : rvB d = true := by rw [hrb]; exact decide_eq_true c5
        have e2 : rvV d = -9223372036854775808 := by rw [hrv, if_pos c5]; omega
        clear hr hspec c3 c5 hrv hrb
        rcases hlead with f8 | ⟨f8, f9⟩
        all_goals
          go_enter Tryd.func14, Tryd.ntmps14
          go_wp2_with fail
          refine (HNUM.out _).mono ?_; rintro r w' ⟨rfl, rfl⟩
          go_wp2_with fail
          refine (HV.out _).mono ?_; rintro r w' ⟨rfl, rfl⟩
          go_wp2_with fail
          go_ret3
          exact ⟨by rw [HR.out]; rfl, rfl⟩
      · have e1 : rvB d = false := by rw [hrb]; exact decide_eq_false c5
        clear hr hspec c3 c5 hrv hrb
        rcases hlead with f8 | ⟨f8, f9⟩
        all_goals
          go_enter Tryd.func14, Tryd.ntmps14
          go_wp2_with fail
          refine (HNUM.out _).mono ?_; rintro r w' ⟨rfl, rfl⟩
          go_wp2_with fail
          refine (HV.out _).mono ?_; rintro r w' ⟨rfl, rfl⟩
          go_wp2_with fail
          go_ret3
          exact ⟨by rw [HR.out]; rfl, rfl⟩
    · have hr : ret3n (tnF s f f e) = .returned (.tuple #[.int .i64 (v : Int), .int .i64 (e + 1), .int .i64 0]) := by rw [hspec, if_neg c3]; rfl
      have HR := Lib.hid hr
      have e1 : rvB d = true := by rw [hrb]; exact decide_eq_true (by omega)
      have e2 : rvV d = -(v : Int) := by rw [hrv, if_pos (by omega)]
      have hv7 : (v : Int) ≤ 9223372036854775807 := by omega
      clear hr hspec c3 hrv hrb
      rcases hlead with f8 | ⟨f8, f9⟩
      all_goals
        go_enter Tryd.func14, Tryd.ntmps14
        go_wp2_with fail
        refine (HNUM.out _).mono ?_; rintro r w' ⟨rfl, rfl⟩
        go_wp2_with fail
        refine (HV.out _).mono ?_; rintro r w' ⟨rfl, rfl⟩
        go_wp2_with fail
        go_ret3
        exact ⟨by rw [HR.out]; rfl, rfl⟩

end Go.Proofs.YtljehdkjjgjpiaaDoor
