/-
  The law PackCanonical: the walk.
-/
import Derived.Test.YtljehdkjjgjpiaaDoorPackW
import Derived.Test.YtljehdkjjgjpiaaDoorPackP
import Derived.Test.YtljehdkjjgjpiaaDoorLater
namespace Go.Proofs.YtljehdkjjgjpiaaDoor
open Go.RowKit

theorem cut_eq {s : ByteArray} {a i : Nat} {l : List UInt8} (h : bl (s.extract a i) = l) : s.extract a i = mkS l := by
  refine toS_eq ?_
  rw [h]; exact (mkS_data l).symm

set_option maxRecDepth 100000 in
set_option maxHeartbeats 8000000 in
theorem walkPackCanonical (s : ByteArray) (ws : s.size ≤ maxLen) (at_ : Int) (wa : I64 at_) (w : World) (ht : Tab w) (hr : s.size ≤ 140737488351232) :
    Calls Tryd.prog 8 #[.string s, .int .i64 at_] w fun e w' => e = .returned (.bool true) ∧ Below w.heap.size w w' := by
  obtain ⟨h0, h1⟩ := wa
  have HT := Lib.hid ht
  clear ht
  by_cases hout : at_ < 0 ∨ (s.size : Int) < at_
  · by_cases hn : at_ < 0
    · clear hout
      go_enter Tryd.func8, Tryd.ntmps8
      go_wp2_with fail
      refine (awake _ HT.out).mono ?_; rintro e w' ⟨rfl, hb⟩
      go_wp2_with fail
      go_ret
      exact ⟨rfl, hb⟩
    · have hn2 : (s.size : Int) < at_ := by omega
      clear hout
      go_enter Tryd.func8, Tryd.ntmps8
      go_wp2_with fail
      refine (awake _ HT.out).mono ?_; rintro e w' ⟨rfl, hb⟩
      go_wp2_with fail
      go_ret
      exact ⟨rfl, hb⟩
  obtain ⟨a, rfl⟩ := Int.eq_ofNat_of_zero_le (show 0 ≤ at_ by omega)
  have ha : (a : Int) ≤ s.size := by omega
  have c1 : ∀ w, Calls Tryd.prog 10 #[.string s, .int .i64 a] w fun e w' => e = ret3t (tt s a) ∧ Below w.heap.size w w' := fun w => packTakeText s a w ws h0 h1
  have c2 : ∀ w, Calls Tryd.prog 13 #[.string s, .int .i64 a] w fun e w' => e = ret3n (tn s a) ∧ Below w.heap.size w w' := fun w => packTakeNumber s a w ws h0 h1
  have c3 : ∀ w, Calls Tryd.prog 15 #[.string s, .int .i64 a, .int .i64 1000] w (TL w (tl s a 1000)) := fun w => packTakeList s a 1000 w ws h0 h1 (by omega) (by omega) (.inr (by omega))
  have k1 := tt_canon (s := s) (a := a)
  have k2 := tn_canon (s := s) (a := a)
  have k3 := tl_canon (s := s) (a := a) (most := 1000)
  have hb2 := tn_bd s a (by omega)
  generalize tt s a = r1 at *
  generalize tn s a = r2 at *
  generalize tl s a 1000 = r3 at *
  obtain ⟨t, i, e⟩ := r1
  obtain ⟨b, k, f⟩ := r2
  obtain ⟨c, m, g⟩ := r3
  simp only at k1 k2 k3 hb2
  obtain ⟨nb0, nb1, _, _⟩ := hb2
  have C1 : Hid (∀ w, Calls Tryd.prog 10 #[.string s, .int .i64 a] w fun e' w' => e' = .returned (.tuple #[.string t, .int .i64 i, .int .i64 e]) ∧ Below w.heap.size w w') := c1
  have C2 : Hid (∀ w, Calls Tryd.prog 13 #[.string s, .int .i64 a] w fun e' w' => e' = .returned (.tuple #[.int .i64 b, .int .i64 k, .int .i64 f]) ∧ Below w.heap.size w w') := c2
  have C3 : Hid (∀ w, Calls Tryd.prog 15 #[.string s, .int .i64 a, .int .i64 1000] w (TL w (c, m, g))) := c3
  have q1 : ((e == 0) = false ∧ True) ∨ ((e == 0) = true ∧ ∃ (i' : Nat) (x : ByteArray), i = (i' : Int) ∧ (¬ i' < a) ∧ (¬ s.size < i') ∧ (a ≤ i') ∧ (i' ≤ s.size) ∧ s.extract a i' = x ∧ Hid (∀ w, Tab w → Calls Tryd.prog 19 #[.string t] w fun e w' => e = .returned (.string x) ∧ Below w.heap.size w w')) := by
    by_cases he : e = 0
    · obtain ⟨i', e1, e2, e3, e4⟩ := k1 he
      refine .inr ⟨by simpa using he, i', _, e1, by omega, by omega, by omega, by omega, cut_eq e4, Lib.hid fun w h => packText w t ?_ h⟩
      have h5 : (bl (s.extract a i')).length = (pText t).length := by rw [e4]
      rw [bl_len, extract_size s a i' e3] at h5
      have h6 : t.size ≤ (pText t).length := by unfold pText; rw [Lib.size_eq]; simp; omega
      omega
    · exact .inl ⟨by simpa using he, trivial⟩
  have q2 : ((f == 0) = false ∧ True) ∨ ((f == 0) = true ∧ ∃ (i' : Nat) (x : ByteArray), k = (i' : Int) ∧ (¬ i' < a) ∧ (¬ s.size < i') ∧ (a ≤ i') ∧ (i' ≤ s.size) ∧ s.extract a i' = x ∧ Hid (∀ w, Tab w → Calls Tryd.prog 21 #[.int .i64 b] w fun e w' => e = .returned (.string x) ∧ Below w.heap.size w w')) := by
    by_cases he : f = 0
    · obtain ⟨i', e1, e2, e3, e4⟩ := k2 he
      exact .inr ⟨by simpa using he, i', _, e1, by omega, by omega, by omega, by omega, cut_eq e4, Lib.hid fun w h => packNumber w b nb0 nb1 h⟩
    · exact .inl ⟨by simpa using he, trivial⟩
  have q3 : ((g != 0) = true ∧ True) ∨ ((g != 0) = false ∧ ∃ (i' : Nat) (x : ByteArray), m = (i' : Int) ∧ (¬ i' < a) ∧ (¬ s.size < i') ∧ (a ≤ i') ∧ (i' ≤ s.size) ∧ s.extract a i' = x ∧ Hid (∀ w v, Tab w → SL w v c → Calls Tryd.prog 23 #[v] w fun e w' => e = .returned (.string x) ∧ Below w.heap.size w w')) := by
    by_cases he : g = 0
    · obtain ⟨i', e1, e2, e3, e4, e5⟩ := k3 he
      refine .inr ⟨by rw [he]; rfl, i', _, e1, by omega, by omega, by omega, by omega, cut_eq e4, Lib.hid fun w v h hs => ?_⟩
      obtain ⟨A, cp, rfl, hc, hs⟩ := hs
      have h5 : (bl (s.extract a i')).length = (pList c).length := by rw [e4]
      rw [bl_len, extract_size s a i' e3] at h5
      exact packList w A c cp hs (by omega) (by omega) h
    · exact .inl ⟨by simpa using he, trivial⟩
  clear c1 c2 c3 k1 k2 k3 hout
  have hn0 : ¬ ((a : Int) < 0) := by omega
  have hn1 : ¬ ((s.size : Int) < a) := by omega
  rcases q1 with ⟨f1, CT1⟩ | ⟨f1, i1, x1, rfl, n1, n1', u1, u1', hx1, CT1⟩
  all_goals rcases q2 with ⟨f2, CT2⟩ | ⟨f2, i2, x2, rfl, n2, n2', u2, u2', hx2, CT2⟩
  all_goals rcases q3 with ⟨f3, CT3⟩ | ⟨f3, i3, x3, rfl, n3, n3', u3, u3', hx3, CT3⟩
  all_goals
    skip
    go_enter Tryd.func8, Tryd.ntmps8
    go_wp2_with fail
    refine (C1.out _).mono ?_; rintro e1 w1 ⟨rfl, hb⟩
    have HB1 : Hid (Below w.heap.size w w1) := hb
    clear hb
    have T1 : Hid (∀ p : Lat w1, Tab p.w) := fun p => HT.out.below (HB1.out.trans (p.h.mono HB1.out.size))
    go_wp2_with fail
    refine wp_region_lat (by kernel_rfl) (by kernel_rfl) ?_
    repeat (go_big_quiet_step (exact lat_call (CT1.out _ (T1.out _))))
    refine wpQuiet_nil ?_
    intro w2 hb2
    have HB2 : Hid (Below w.heap.size w w2) := HB1.out.trans (hb2.mono HB1.out.size)
    clear hb2 T1
    go_wp2_with fail
    refine (C2.out _).mono ?_; rintro e2 w3 ⟨rfl, hb⟩
    have HB3 : Hid (Below w.heap.size w w3) := HB2.out.trans (hb.mono HB2.out.size)
    clear hb
    have T3 : Hid (∀ p : Lat w3, Tab p.w) := fun p => HT.out.below (HB3.out.trans (p.h.mono HB3.out.size))
    go_wp2_with fail
    refine wp_region_lat (by kernel_rfl) (by kernel_rfl) ?_
    repeat (go_big_quiet_step (exact lat_call (CT2.out _ (T3.out _))))
    refine wpQuiet_nil ?_
    intro w4 hb4
    have HB4 : Hid (Below w.heap.size w w4) := HB3.out.trans (hb4.mono HB3.out.size)
    clear hb4 T3
    go_wp2_with fail
    refine (C3.out _).mono ?_; rintro e9 w5 ⟨v9, rfl, hsl, hb⟩
    have HB5 : Hid (Below w.heap.size w w5) := HB4.out.trans (hb.mono HB4.out.size)
    have HSL := Lib.hid hsl
    clear hb hsl
    have T5 : Hid (∀ p : Lat w5, Tab p.w) := fun p => HT.out.below (HB5.out.trans (p.h.mono HB5.out.size))
    go_wp2_with fail
    refine wp_region_lat (by kernel_rfl) (by kernel_rfl) ?_
    repeat (go_big_quiet_step (first | exact lat_call (CT3.out _ _ (T5.out _) (HSL.out.below (Lat.h _))) | exact lat_call (awake _ (T5.out _))))
    refine wpQuiet_nil ?_
    intro w6 hb6
    have HB6 : Hid (Below w.heap.size w w6) := HB5.out.trans (hb6.mono HB5.out.size)
    clear hb6 T5
    go_wp2_with fail
    go_ret
    exact ⟨rfl, HB6.out⟩

end Go.Proofs.YtljehdkjjgjpiaaDoor
