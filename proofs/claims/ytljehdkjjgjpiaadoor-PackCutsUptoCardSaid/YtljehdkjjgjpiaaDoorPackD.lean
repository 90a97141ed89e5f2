/-
  TakeNumber of pack.
-/
import Derived.Test.YtljehdkjjgjpiaaDoorPackC
import Derived.Test.YtljehdkjjgjpiaaDoorRefParse
namespace Go.Proofs.YtljehdkjjgjpiaaDoor
open Go.RowKit

theorem extract_tail (s : ByteArray) (a e : Nat) (_h : a < e) (_he : e ≤ s.size) : (s.extract a e).extract 1 (e - a) = s.extract (a + 1) e := by
  have : ((s.extract a e).extract 1 (e - a)).data.toList = (s.extract (a + 1) e).data.toList := by
    rw [Lib.extract_data, Lib.extract_data, Lib.extract_data, List.drop_take, List.drop_drop, List.take_take]
    congr 1
    omega
  generalize (s.extract a e).extract 1 (e - a) = b at this
  generalize s.extract (a + 1) e = c at this
  obtain ⟨⟨l⟩⟩ := b
  obtain ⟨⟨m⟩⟩ := c
  simp at this
  rw [this]

set_option maxRecDepth 100000 in
set_option maxHeartbeats 8000000 in
theorem packTakeNumber (s : ByteArray) (at_ : Int) (w : World) (hs : s.size ≤ maxLen) (h0 : -9223372036854775808 ≤ at_) (h1 : at_ ≤ 9223372036854775807) :
    Calls Tryd.prog 13 #[.string s, .int .i64 at_] w fun e w' => e = ret3n (tn s at_) ∧ Below w.heap.size w w' := by
  have HM := Lib.hid hs
  unfold maxLen at hs
  by_cases hout : at_ < 0 ∨ (s.size : Int) < at_
  · have hr : ret3n (tn s at_) = .returned (.tuple #[.int .i64 0, .int .i64 0, .int .i64 1]) := by unfold tn; rw [if_pos hout]; rfl
    have hd : decide (0 ≤ at_ ∧ at_ ≤ s.size) = false := decide_eq_false (by omega)
    have HR := Lib.hid hr
    have HD := Lib.hid hd
    clear hr hd hout
    go_enter Tryd.func13, Tryd.ntmps13
    go_wp2_with fail
    refine (packWithin s _ _).mono ?_; rintro r w' ⟨rfl, rfl⟩
    rw [HD.out]
    go_wp2_with fail
    go_ret3
    exact ⟨by rw [HR.out]; rfl, Below.refl _ _⟩
  obtain ⟨a, rfl⟩ := Int.eq_ofNat_of_zero_le (show 0 ≤ at_ by omega)
  have ha : a ≤ s.size := by omega
  obtain ⟨n1, n2, n3⟩ := nFirst_le s a ha
  have hr : tn s (a : Int) = tnF s a (nFirst s a) (dE1 s (nFirst s a)) := by unfold tn; rw [if_neg hout, Int.toNat_natCast]
  rw [hr]
  have hd : decide (0 ≤ (a : Int) ∧ (a : Int) ≤ s.size) = true := decide_eq_true (by omega)
  have HD := Lib.hid hd
  obtain ⟨f, hf⟩ : ∃ f, f = nFirst s a := ⟨_, rfl⟩
  rw [← hf] at n1 n2 n3 ⊢
  obtain ⟨g1, g2, g3, g4⟩ := dE1_spec s f n2
  obtain ⟨e, he⟩ : ∃ e, e = dE1 s f := ⟨_, rfl⟩
  have hnum : ∀ w, Calls Tryd.prog 26 #[.string s, .int .i64 f] w fun r w' => r = .returned (.int .i64 e) ∧ w = w' := fun w => by rw [he]; exact packNumeral s f w HM.out n2
  have HNUM := Lib.hid hnum
  rw [← he] at g1 g2 g3 g4 ⊢
  have hspec : tnF s a f e = if e = s.size then (0, 0, 6) else if e = f ∨ (byt s f = 48 ∧ f + 1 < e) ∨ (byt s f = 48 ∧ f ≠ a) ∨ byt s e ≠ 59 then (0, 0, 5)
      else if f ≠ a then (if 9223372036854775808 < dval s f e then (0, 0, 3) else (-(dval s f e : Int), ((e + 1 : Nat) : Int), 0))
      else (if 9223372036854775807 < dval s f e then (0, 0, 3) else (dval s f e, ((e + 1 : Nat) : Int), 0)) := rfl
  have hcase : (a = s.size ∧ f = a) ∨ (a < s.size ∧ byt s a = 45 ∧ f = a + 1) ∨ (a < s.size ∧ byt s a ≠ 45 ∧ f = a) := by
    rw [hf]; unfold nFirst
    by_cases h : a < s.size ∧ byt s a = 45
    · rw [if_pos h]; exact .inr (.inl ⟨h.1, h.2, rfl⟩)
    · rw [if_neg h]
      by_cases h2 : a < s.size
      · exact .inr (.inr ⟨h2, fun h3 => h ⟨h2, h3⟩, rfl⟩)
      · exact .inl ⟨by omega, rfl⟩
  clear hd hnum hout he hf g4 n3 hr
  rcases hcase with ⟨k1, k2⟩ | ⟨k1, k2, k3⟩ | ⟨k1, k2, k3⟩
  · subst k2
    obtain rfl : e = s.size := by omega
    have hr : ret3n (tnF s f f s.size) = .returned (.tuple #[.int .i64 0, .int .i64 0, .int .i64 6]) := by rw [hspec, if_pos rfl]; rfl
    have HR := Lib.hid hr
    have kk : ¬ (f < s.size) := by omega
    have f1 : ((s.size : Int) == (s.size : Int)) = true := by simp
    clear hr hspec k1 g3
    go_enter Tryd.func13, Tryd.ntmps13
    go_wp2_with fail
    refine (packWithin s _ _).mono ?_; rintro r w' ⟨rfl, rfl⟩
    rw [HD.out]
    go_wp2_with fail
    refine (HNUM.out _).mono ?_; rintro r w' ⟨rfl, rfl⟩
    go_wp2_with fail
    go_ret3
    exact ⟨by rw [HR.out]; rfl, Below.refl _ _⟩
  · subst k3
    rw [byt_at s a k1] at k2
    have fb : ((s[a].toNat : Int) == 45) = true := by simpa using k2
    have hx : ∀ x, s.extract a e = x → x.extract 1 x.size = s.extract (a + 1) e := fun x h => by
      rw [← h, extract_size s a e g2]; exact extract_tail s a e (by omega) g2
    have hx0 : ∀ x, s.extract a e = x → 0 < x.size ∧ byt x 0 = 45 := fun x h => by
      rw [← h, extract_size s a e g2, byt_extract s a e 0 g2 (by omega)]
      exact ⟨by omega, by rw [Nat.add_zero, byt_at s a k1]; exact k2⟩
    clear k2
    obtain ⟨d, hdd⟩ : ∃ d, d = s.extract (a + 1) e := ⟨_, rfl⟩
    have hdsz : d.size = e - (a + 1) := by rw [hdd]; exact extract_size s (a + 1) e g2
    have hdg : digs d d.size := by rw [hdd]; exact digs_extract s (a + 1) e g2 g3
    have hd0 : (a + 1) < e → byt d 0 = byt s (a + 1) := fun h => by rw [hdd, byt_extract s (a + 1) e 0 g2 (by omega), Nat.add_zero]
    have hdv : dval s (a + 1) e = dvl d d.size := by unfold dval; rw [hdsz, hdd]
    have hde : d.toList.isEmpty = decide (d.size = 0) := toList_empty d
    have hdl := str_empty d
    have hone := toList_one d
    have hdm : d.size ≤ maxLen := by unfold maxLen; omega
    have hcut := hdd.symm
    clear g3 hdd
    obtain ⟨x, hxx⟩ : ∃ x, x = s.extract a e := ⟨_, rfl⟩
    have hx1 := hx x hxx.symm
    have hx2 := hx0 x hxx.symm
    have hxs : x.size ≤ s.size := by rw [hxx, extract_size s a e g2]; omega
    have hxcut := hxx.symm
    rw [hcut] at hx1
    clear hx hx0 hxx
    by_cases c1 : e = s.size
    · have hr : ret3n (tnF s a (a + 1) e) = .returned (.tuple #[.int .i64 0, .int .i64 0, .int .i64 6]) := by rw [hspec, if_pos c1]; rfl
      have HR := Lib.hid hr
      have f1 : ((e : Int) == (s.size : Int)) = true := by simp; omega
      clear hr hspec c1 hdsz hd0 hdv hde hdl hone hdm hdg hx1 hx2
      go_enter Tryd.func13, Tryd.ntmps13
      go_wp2_with fail
      refine (packWithin s _ _).mono ?_; rintro r w' ⟨rfl, rfl⟩
      rw [HD.out]
      go_wp2_with fail
      refine (HNUM.out _).mono ?_; rintro r w' ⟨rfl, rfl⟩
      go_wp2_with fail
      go_ret3
      exact ⟨by rw [HR.out]; rfl, Below.refl _ _⟩
    have f1 : ((e : Int) == (s.size : Int)) = false := by simp; omega
    have he2 : e < s.size := by omega
    by_cases c2 : e = (a + 1) ∨ (byt s (a + 1) = 48 ∧ (a + 1) + 1 < e) ∨ (byt s (a + 1) = 48 ∧ (a + 1) ≠ a) ∨ byt s e ≠ 59
    · have hr : ret3n (tnF s a (a + 1) e) = .returned (.tuple #[.int .i64 0, .int .i64 0, .int .i64 5]) := by rw [hspec, if_neg c1, if_pos c2]; rfl
      have HR := Lib.hid hr
      have HDM := Lib.hid hdm
      clear hr hspec c1 hx1 hx2
      by_cases hea : e = (a + 1)
      · have f2 : d.toList.isEmpty = true := by rw [hde]; exact decide_eq_true (by omega)
        have f3 : d.toList = [] := hdl.2 (by omega)
        clear hde hdl hone hdsz hd0 hdv hdg c2 hdm hea
        go_enter Tryd.func13, Tryd.ntmps13
        go_wp2_with fail
        refine (packWithin s _ _).mono ?_; rintro r w' ⟨rfl, rfl⟩
        rw [HD.out]
        go_wp2_with fail
        refine (HNUM.out _).mono ?_; rintro r w' ⟨rfl, rfl⟩
        go_wp2_with fail
        go_ret3
        exact ⟨by rw [HR.out]; rfl, Below.refl _ _⟩
      have f2 : d.toList.isEmpty = false := by rw [hde]; exact decide_eq_false (by omega)
      have f3 : ¬ d.toList = [] := fun h => by have := hdl.1 h; omega
      by_cases hpad : 1 < d.size ∧ byt d 0 = 48
      · have HP : Hid (decide (1 < d.size ∧ byt d 0 = 48) = true) := decide_eq_true hpad
        clear hde hdl hone hdsz hd0 hdv hdg c2 hdm hea hpad
        go_enter Tryd.func13, Tryd.ntmps13
        go_wp2_with fail
        refine (packWithin s _ _).mono ?_; rintro r w' ⟨rfl, rfl⟩
        rw [HD.out]
        go_wp2_with fail
        refine (HNUM.out _).mono ?_; rintro r w' ⟨rfl, rfl⟩
        go_wp2_with fail
        refine (packPadded d _ HDM.out).mono ?_; rintro r w' ⟨rfl, rfl⟩
        rw [HP.out]
        go_wp2_with fail
        go_ret3
        exact ⟨by rw [HR.out]; rfl, Below.refl _ _⟩
      have HP : Hid (decide (1 < d.size ∧ byt d 0 = 48) = false) := decide_eq_false hpad
      by_cases hz : d.size = 1 ∧ byt d 0 = 48
      · have fz : (d.toList == [48]) = true := by rw [hone]; exact decide_eq_true hz
        clear hde hdl hone hdsz hd0 hdv hdg c2 hdm hea hpad hz
        go_enter Tryd.func13, Tryd.ntmps13
        go_wp2_with fail
        refine (packWithin s _ _).mono ?_; rintro r w' ⟨rfl, rfl⟩
        rw [HD.out]
        go_wp2_with fail
        refine (HNUM.out _).mono ?_; rintro r w' ⟨rfl, rfl⟩
        go_wp2_with fail
        refine (packPadded d _ HDM.out).mono ?_; rintro r w' ⟨rfl, rfl⟩
        rw [HP.out]
        go_wp2_with fail
        go_ret3
        exact ⟨by rw [HR.out]; rfl, Below.refl _ _⟩
      have fz : (d.toList == [48]) = false := by rw [hone]; exact decide_eq_false hz
      have hcol : byt s e ≠ 59 := by
        rcases c2 with h | ⟨h, h2⟩ | ⟨h, h2⟩ | h
        · exact absurd h hea
        · exact absurd ⟨by omega, by rw [hd0 (by omega)]; exact h⟩ hpad
        · have h8 : byt d 0 = 48 := by rw [hd0 (by omega)]; exact h
          by_cases h9 : 1 < d.size
          · exact absurd ⟨h9, h8⟩ hpad
          · exact absurd ⟨by omega, h8⟩ hz
        · exact h
      rw [byt_at s e he2] at hcol
      have f4 : ((s[e].toNat : Int) != 59) = true := by simpa using hcol
      clear hde hdl hone hdsz hd0 hdv hdg c2 hdm hea hpad hcol hz
      go_enter Tryd.func13, Tryd.ntmps13
      go_wp2_with fail
      refine (packWithin s _ _).mono ?_; rintro r w' ⟨rfl, rfl⟩
      rw [HD.out]
      go_wp2_with fail
      refine (HNUM.out _).mono ?_; rintro r w' ⟨rfl, rfl⟩
      go_wp2_with fail
      refine (packPadded d _ HDM.out).mono ?_; rintro r w' ⟨rfl, rfl⟩
      rw [HP.out]
      go_wp2_with fail
      go_ret3
      exact ⟨by rw [HR.out]; rfl, Below.refl _ _⟩
    have hea : (a + 1) < e := by
      apply Classical.byContradiction; intro h; exact c2 (.inl (by omega))
    have f2 : d.toList.isEmpty = false := by rw [hde]; exact decide_eq_false (by omega)
    have f3 : ¬ d.toList = [] := fun h => by have := hdl.1 h; omega
    have hnp : ¬ (1 < d.size ∧ byt d 0 = 48) := fun h => c2 (.inr (.inl ⟨by rw [← hd0 hea]; exact h.2, by omega⟩))
    have HP : Hid (decide (1 < d.size ∧ byt d 0 = 48) = false) := decide_eq_false hnp
    have hcol : byt s e = 59 := Classical.byContradiction fun h => c2 (.inr (.inr (.inr h)))
    rw [byt_at s e he2] at hcol
    have f4 : ((s[e].toNat : Int) != 59) = false := by rw [hcol]; rfl
    have HPD : Hid (∀ w, Calls Tryd.prog 27 #[.string d] w fun r w' => r = .returned (.bool false) ∧ w = w') := fun w => by
      rw [← HP.out]; exact packPadded d w hdm
    have hn8 : byt d 0 ≠ 48 := fun h => c2 (.inr (.inr (.inl ⟨by rw [← hd0 hea]; exact h, by omega⟩)))
    have fz : (d.toList == [48]) = false := by rw [hone]; exact decide_eq_false (fun h => hn8 h.2)
    obtain ⟨p1, p2⟩ := par_minus x d hx2.1 hx2.2 hx1 hdg (by omega) hn8
    have hv : ∀ w, Calls Tryd.prog 28 #[.string x] w fun r w' => r = .returned (.tuple #[.int .i64 (cV (-(dvl d d.size : Int))), .int .i64 (cE (-(dvl d d.size : Int)))]) ∧ Below w.heap.size w w' := fun w => packValue x _ w (by unfold maxLen; omega) p1 p2
    rw [if_neg c1, if_neg c2, hdv, if_pos (by omega)] at hspec
    obtain ⟨v, hvv⟩ : ∃ v, v = dvl d d.size := ⟨_, rfl⟩
    rw [← hvv] at hspec hv
    clear p1 p2 hcol hnp hde hdl hone hdsz hd0 hdv hdg hdm c2 c1 hvv hx1 hx2 hn8
    by_cases c3 : 9223372036854775808 < v
    · have hr : ret3n (tnF s a (a + 1) e) = .returned (.tuple #[.int .i64 0, .int .i64 0, .int .i64 3]) := by rw [hspec, if_pos c3]; rfl
      have HR := Lib.hid hr
      have HE : Hid (cE (-(v : Int)) = 3) := cE_no (by omega)
      have HV := Lib.hid hv
      clear hr hspec hv c3
      go_enter Tryd.func13, Tryd.ntmps13
      go_wp2_with fail
      refine (packWithin s _ _).mono ?_; rintro r w' ⟨rfl, rfl⟩
      rw [HD.out]
      go_wp2_with fail
      refine (HNUM.out _).mono ?_; rintro r w' ⟨rfl, rfl⟩
      go_wp2_with fail
      refine (HPD.out _).mono ?_; rintro r w' ⟨rfl, rfl⟩
      go_wp2_with fail
      refine (HV.out _).mono ?_; rintro r w1 ⟨rfl, hb⟩
      have HB := Lib.hid hb
      clear hb
      rw [HE.out]
      go_wp2_with fail
      go_ret3
      exact ⟨by rw [HR.out]; rfl, HB.out⟩
    · have hr : ret3n (tnF s a (a + 1) e) = .returned (.tuple #[.int .i64 (-(v : Int)), .int .i64 (e + 1), .int .i64 0]) := by rw [hspec, if_neg c3]; rfl
      have HR := Lib.hid hr
      have HE : Hid (cE (-(v : Int)) = 0) := cE_yes (by omega) (by omega)
      have HVV : Hid (cV (-(v : Int)) = (-(v : Int))) := cV_yes (by omega) (by omega)
      have HV := Lib.hid hv
      clear hr hspec hv c3
      go_enter Tryd.func13, Tryd.ntmps13
      go_wp2_with fail
      refine (packWithin s _ _).mono ?_; rintro r w' ⟨rfl, rfl⟩
      rw [HD.out]
      go_wp2_with fail
      refine (HNUM.out _).mono ?_; rintro r w' ⟨rfl, rfl⟩
      go_wp2_with fail
      refine (HPD.out _).mono ?_; rintro r w' ⟨rfl, rfl⟩
      go_wp2_with fail
      refine (HV.out _).mono ?_; rintro r w1 ⟨rfl, hb⟩
      have HB := Lib.hid hb
      clear hb
      rw [HE.out, HVV.out]
      go_wp2_with fail
      go_ret3
      exact ⟨by rw [HR.out]; rfl, HB.out⟩
  · subst k3
    rw [byt_at s f k1] at k2
    have fb : ((s[f].toNat : Int) == 45) = false := by simpa using k2
    clear k2
    obtain ⟨d, hdd⟩ : ∃ d, d = s.extract f e := ⟨_, rfl⟩
    have hdsz : d.size = e - f := by rw [hdd]; exact extract_size s f e g2
    have hdg : digs d d.size := by rw [hdd]; exact digs_extract s f e g2 g3
    have hd0 : f < e → byt d 0 = byt s f := fun h => by rw [hdd, byt_extract s f e 0 g2 (by omega), Nat.add_zero]
    have hdv : dval s f e = dvl d d.size := by unfold dval; rw [hdsz, hdd]
    have hde : d.toList.isEmpty = decide (d.size = 0) := toList_empty d
    have hdl := str_empty d
    have hone := toList_one d
    have hdm : d.size ≤ maxLen := by unfold maxLen; omega
    have hcut := hdd.symm
    clear g3 hdd
    by_cases c1 : e = s.size
    · have hr : ret3n (tnF s f f e) = .returned (.tuple #[.int .i64 0, .int .i64 0, .int .i64 6]) := by rw [hspec, if_pos c1]; rfl
      have HR := Lib.hid hr
      have f1 : ((e : Int) == (s.size : Int)) = true := by simp; omega
      clear hr hspec c1 hdsz hd0 hdv hde hdl hone hdm hdg 
      go_enter Tryd.func13, Tryd.ntmps13
      go_wp2_with fail
      refine (packWithin s _ _).mono ?_; rintro r w' ⟨rfl, rfl⟩
      rw [HD.out]
      go_wp2_with fail
      refine (HNUM.out _).mono ?_; rintro r w' ⟨rfl, rfl⟩
      go_wp2_with fail
      go_ret3
      exact ⟨by rw [HR.out]; rfl, Below.refl _ _⟩
    have f1 : ((e : Int) == (s.size : Int)) = false := by simp; omega
    have he2 : e < s.size := by omega
    by_cases c2 : e = f ∨ (byt s f = 48 ∧ f + 1 < e) ∨ (byt s f = 48 ∧ f ≠ f) ∨ byt s e ≠ 59
    · have hr : ret3n (tnF s f f e) = .returned (.tuple #[.int .i64 0, .int .i64 0, .int .i64 5]) := by rw [hspec, if_neg c1, if_pos c2]; rfl
      have HR := Lib.hid hr
      have HDM := Lib.hid hdm
      clear hr hspec c1 
      by_cases hea : e = f
      · have f2 : d.toList.isEmpty = true := by rw [hde]; exact decide_eq_true (by omega)
        have f3 : d.toList = [] := hdl.2 (by omega)
        clear hde hdl hone hdsz hd0 hdv hdg c2 hdm hea
        go_enter Tryd.func13, Tryd.ntmps13
        go_wp2_with fail
        refine (packWithin s _ _).mono ?_; rintro r w' ⟨rfl, rfl⟩
        rw [HD.out]
        go_wp2_with fail
        refine (HNUM.out _).mono ?_; rintro r w' ⟨rfl, rfl⟩
        go_wp2_with fail
        go_ret3
        exact ⟨by rw [HR.out]; rfl, Below.refl _ _⟩
      have f2 : d.toList.isEmpty = false := by rw [hde]; exact decide_eq_false (by omega)
      have f3 : ¬ d.toList = [] := fun h => by have := hdl.1 h; omega
      by_cases hpad : 1 < d.size ∧ byt d 0 = 48
      · have HP : Hid (decide (1 < d.size ∧ byt d 0 = 48) = true) := decide_eq_true hpad
        clear hde hdl hone hdsz hd0 hdv hdg c2 hdm hea hpad
        go_enter Tryd.func13, Tryd.ntmps13
        go_wp2_with fail
        refine (packWithin s _ _).mono ?_; rintro r w' ⟨rfl, rfl⟩
        rw [HD.out]
        go_wp2_with fail
        refine (HNUM.out _).mono ?_; rintro r w' ⟨rfl, rfl⟩
        go_wp2_with fail
        refine (packPadded d _ HDM.out).mono ?_; rintro r w' ⟨rfl, rfl⟩
        rw [HP.out]
        go_wp2_with fail
        go_ret3
        exact ⟨by rw [HR.out]; rfl, Below.refl _ _⟩
      have HP : Hid (decide (1 < d.size ∧ byt d 0 = 48) = false) := decide_eq_false hpad
      have hcol : byt s e ≠ 59 := by
        rcases c2 with h | ⟨h, h2⟩ | ⟨h, h2⟩ | h
        · exact absurd h hea
        · exact absurd ⟨by omega, by rw [hd0 (by omega)]; exact h⟩ hpad
        · exact absurd rfl h2
        · exact h
      rw [byt_at s e he2] at hcol
      have f4 : ((s[e].toNat : Int) != 59) = true := by simpa using hcol
      clear hde hdl hone hdsz hd0 hdv hdg c2 hdm hea hpad hcol 
      go_enter Tryd.func13, Tryd.ntmps13
      go_wp2_with fail
      refine (packWithin s _ _).mono ?_; rintro r w' ⟨rfl, rfl⟩
      rw [HD.out]
      go_wp2_with fail
      refine (HNUM.out _).mono ?_; rintro r w' ⟨rfl, rfl⟩
      go_wp2_with fail
      refine (packPadded d _ HDM.out).mono ?_; rintro r w' ⟨rfl, rfl⟩
      rw [HP.out]
      go_wp2_with fail
      go_ret3
      exact ⟨by rw [HR.out]; rfl, Below.refl _ _⟩
    have hea : f < e := by
      apply Classical.byContradiction; intro h; exact c2 (.inl (by omega))
    have f2 : d.toList.isEmpty = false := by rw [hde]; exact decide_eq_false (by omega)
    have f3 : ¬ d.toList = [] := fun h => by have := hdl.1 h; omega
    have hnp : ¬ (1 < d.size ∧ byt d 0 = 48) := fun h => c2 (.inr (.inl ⟨by rw [← hd0 hea]; exact h.2, by omega⟩))
    have HP : Hid (decide (1 < d.size ∧ byt d 0 = 48) = false) := decide_eq_false hnp
    have hcol : byt s e = 59 := Classical.byContradiction fun h => c2 (.inr (.inr (.inr h)))
    rw [byt_at s e he2] at hcol
    have f4 : ((s[e].toNat : Int) != 59) = false := by rw [hcol]; rfl
    have HPD : Hid (∀ w, Calls Tryd.prog 27 #[.string d] w fun r w' => r = .returned (.bool false) ∧ w = w') := fun w => by
      rw [← HP.out]; exact packPadded d w hdm
    obtain ⟨p1, p2⟩ := par_digits d hdg (by omega) (fun h => hnp ⟨h.2, h.1⟩)
    have hv : ∀ w, Calls Tryd.prog 28 #[.string d] w fun r w' => r = .returned (.tuple #[.int .i64 (cV (dvl d d.size : Int)), .int .i64 (cE (dvl d d.size : Int))]) ∧ Below w.heap.size w w' := fun w => packValue d _ w hdm p1 p2
    rw [if_neg c1, if_neg c2, hdv, if_neg (by simp)] at hspec
    obtain ⟨v, hvv⟩ : ∃ v, v = dvl d d.size := ⟨_, rfl⟩
    rw [← hvv] at hspec hv
    clear p1 p2 hcol hnp hde hdl hone hdsz hd0 hdv hdg hdm c2 c1 hvv
    by_cases c3 : 9223372036854775807 < v
    · have hr : ret3n (tnF s f f e) = .returned (.tuple #[.int .i64 0, .int .i64 0, .int .i64 3]) := by rw [hspec, if_pos c3]; rfl
      have HR := Lib.hid hr
      have HE : Hid (cE (v : Int) = 3) := cE_no (by omega)
      have HV := Lib.hid hv
      clear hr hspec hv c3
      go_enter Tryd.func13, Tryd.ntmps13
      go_wp2_with fail
      refine (packWithin s _ _).mono ?_; rintro r w' ⟨rfl, rfl⟩
      rw [HD.out]
      go_wp2_with fail
      refine (HNUM.out _).mono ?_; rintro r w' ⟨rfl, rfl⟩
      go_wp2_with fail
      refine (HPD.out _).mono ?_; rintro r w' ⟨rfl, rfl⟩
      go_wp2_with fail
      refine (HV.out _).mono ?_; rintro r w1 ⟨rfl, hb⟩
      have HB := Lib.hid hb
      clear hb
      rw [HE.out]
      go_wp2_with fail
      go_ret3
      exact ⟨by rw [HR.out]; rfl, HB.out⟩
    · have hr : ret3n (tnF s f f e) = .returned (.tuple #[.int .i64 (v : Int), .int .i64 (e + 1), .int .i64 0]) := by rw [hspec, if_neg c3]; rfl
      have HR := Lib.hid hr
      have HE : Hid (cE (v : Int) = 0) := cE_yes (by omega) (by omega)
      have HVV : Hid (cV (v : Int) = (v : Int)) := cV_yes (by omega) (by omega)
      have HV := Lib.hid hv
      clear hr hspec hv c3
      go_enter Tryd.func13, Tryd.ntmps13
      go_wp2_with fail
      refine (packWithin s _ _).mono ?_; rintro r w' ⟨rfl, rfl⟩
      rw [HD.out]
      go_wp2_with fail
      refine (HNUM.out _).mono ?_; rintro r w' ⟨rfl, rfl⟩
      go_wp2_with fail
      refine (HPD.out _).mono ?_; rintro r w' ⟨rfl, rfl⟩
      go_wp2_with fail
      refine (HV.out _).mono ?_; rintro r w1 ⟨rfl, hb⟩
      have HB := Lib.hid hb
      clear hb
      rw [HE.out, HVV.out]
      go_wp2_with fail
      go_ret3
      exact ⟨by rw [HR.out]; rfl, HB.out⟩

end Go.Proofs.YtljehdkjjgjpiaaDoor
