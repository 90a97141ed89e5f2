/-
  Same, and that the examples of awake hold.
-/
import Derived.Test.YtljehdkjjgjpiaaDoorPackL
namespace Go.Proofs.YtljehdkjjgjpiaaDoor
open Go.RowKit

set_option maxHeartbeats 1000000 in
theorem refSame (w : World) (v1 v2 : Value) (l : List ByteArray) (h1 : SL w v1 l) (h2 : SL w v2 l) (hl : l.length ≤ 9223372036854775807) :
    Calls Tryd.prog 17 #[v1, v2] w fun e w' => e = .returned (.bool true) ∧ ∃ n, w' = w.drewN n := by
  obtain ⟨A1, c1, rfl, hc1, h1⟩ := h1
  obtain ⟨A2, c2, rfl, hc2, h2⟩ := h2
  obtain ⟨N, hN⟩ : ∃ N, N = l.length := ⟨_, rfl⟩
  have hN2 := hN
  rw [← hN2] at h1 h2 hl hc1 hc2 ⊢
  have HN := Lib.hid hN
  have H1 := Lib.hid h1
  have H2 := Lib.hid h2
  clear hN hN2 h1 h2
  go_enter Tryd.func17, Tryd.ntmps17
  go_wp2_with fail
  go_loopw [5] (fun c wr => ∃ (k : Nat), k ≤ N ∧ c = .int .i64 k ∧ ∃ n, wr = w.drewN n) (fun c _ => N - (intOf c).toNat)
  case atStart => exact ⟨0, Nat.zero_le _, rfl, 0, rfl⟩
  case round =>
    obtain ⟨k, hk, rfl, n, rfl⟩ := hrel
    by_cases hlt : k < N
    · obtain ⟨a1, rfl, r1⟩ := H1.out (by omega)
      obtain ⟨a2, rfl, r2⟩ := H2.out (by omega)
      have g1 : w.cell? (a1.add k) = some (.string (l.getD k ⟨#[]⟩)) := r1.cells k (by rw [← HN.out]; exact hlt)
      have g2 : w.cell? (a2.add k) = some (.string (l.getD k ⟨#[]⟩)) := r2.cells k (by rw [← HN.out]; exact hlt)
      generalize l.getD k ⟨#[]⟩ = s at g1 g2
      have hlt2 : (k : Int) < N := by omega
      clear r1 r2
      go_wp2_with fail
      go_quiet (fail)
      go_wp2_with fail
      go_roundw
      case rel => exact ⟨k + 1, by omega, by go_num, _, rfl⟩
      case measure => simp [intOf]; omega
    · have hkn : k = N := by omega
      have hlt2 : ¬ (k : Int) < N := by omega
      clear hkn
      go_wp2_with fail
      go_ret
      exact ⟨rfl, n, rfl⟩

theorem ex_tt : tt ⟨#[120, 50, 58, 97, 98, 99]⟩ 1 = (⟨#[97, 98]⟩, 5, 0) := by
  have h1 : (tt ⟨#[120, 50, 58, 97, 98, 99]⟩ 1).1.data = #[97, 98] := by decide +kernel
  have h2 : (tt ⟨#[120, 50, 58, 97, 98, 99]⟩ 1).2 = (5, 0) := by decide +kernel
  generalize tt ⟨#[120, 50, 58, 97, 98, 99]⟩ 1 = r at *
  obtain ⟨⟨d⟩, p⟩ := r
  simp only at h1 h2
  rw [h1, h2]
theorem ex_tn : tn ⟨#[45, 48, 59]⟩ 0 = (0, 0, 5) := by decide +kernel
theorem ex_tl : tl ⟨#[50, 59, 49, 58, 97, 48, 58]⟩ 0 2 = ([⟨#[97]⟩, ⟨#[]⟩], 7, 0) := by
  have h1 : (tl ⟨#[50, 59, 49, 58, 97, 48, 58]⟩ 0 2).1.map (fun s => s.data) = [#[97], #[]] := by decide +kernel
  have h2 : (tl ⟨#[50, 59, 49, 58, 97, 48, 58]⟩ 0 2).2 = (7, 0) := by decide +kernel
  generalize tl ⟨#[50, 59, 49, 58, 97, 48, 58]⟩ 0 2 = r at *
  obtain ⟨l, p⟩ := r
  simp only at h1 h2
  rw [h2]
  match l, h1 with
  | [⟨x⟩, ⟨y⟩], h1 => simp at h1; rw [h1.1, h1.2]
theorem ex_text : mkS (pText ⟨#[97, 98]⟩) = ⟨#[50, 58, 97, 98]⟩ := by
  have : Lib.itoa ((ByteArray.mk #[97, 98]).size : Int) = [50] := by
    rw [Lib.itoa_nonneg, Lib.decDigits, dif_pos (by decide)]; rfl
  unfold pText mkS; rw [this]; rfl
theorem ex_num : mkS (pNum (-5)) = ⟨#[45, 53, 59]⟩ := by
  have : Lib.itoa (-5) = [45, 53] := by
    rw [show (-5 : Int) = -((5 : Nat) : Int) by decide, Lib.itoa_neg 5 (by decide), Lib.decDigits, dif_pos (by decide)]; rfl
  unfold pNum mkS; rw [this]; rfl

set_option maxRecDepth 100000 in
set_option maxHeartbeats 2000000 in
theorem awake (w : World) (ht : Tab w) :
    Calls Tryd.prog 12 #[] w fun e w' => e = .returned (.bool true) ∧ Below w.heap.size w w' := by
  have C1 : Hid (∀ w, Calls Tryd.prog 10 #[.string ⟨#[120, 50, 58, 97, 98, 99]⟩, .int .i64 1] w fun e w' => e = .returned (.tuple #[.string ⟨#[97, 98]⟩, .int .i64 5, .int .i64 0]) ∧ Below w.heap.size w w') := fun w =>
    (packTakeText _ 1 w (by decide) (by omega) (by omega)).mono fun e w' ⟨he, hw⟩ => ⟨by rw [he, ex_tt]; rfl, hw⟩
  have C2 : Hid (∀ w, Calls Tryd.prog 13 #[.string ⟨#[45, 48, 59]⟩, .int .i64 0] w fun e w' => e = .returned (.tuple #[.int .i64 0, .int .i64 0, .int .i64 5]) ∧ Below w.heap.size w w') := fun w =>
    (packTakeNumber _ 0 w (by decide) (by omega) (by omega)).mono fun e w' ⟨he, hw⟩ => ⟨by rw [he, ex_tn]; rfl, hw⟩
  have C3 : Hid (∀ w, Calls Tryd.prog 15 #[.string ⟨#[50, 59, 49, 58, 97, 48, 58]⟩, .int .i64 0, .int .i64 2] w (TL w ([⟨#[97]⟩, ⟨#[]⟩], 7, 0))) := fun w => by
    rw [← ex_tl]; exact packTakeList _ 0 2 w (by decide) (by omega) (by omega) (by omega) (by omega) (.inr (by omega))
  have C4 : Hid (∀ w, Tab w → Calls Tryd.prog 19 #[.string ⟨#[97, 98]⟩] w fun e w' => e = .returned (.string ⟨#[50, 58, 97, 98]⟩) ∧ Below w.heap.size w w') := fun w h => by
    rw [← ex_text]; exact packText w ⟨#[97, 98]⟩ (by decide) h
  have C5 : Hid (∀ w, Tab w → Calls Tryd.prog 21 #[.int .i64 (-5)] w fun e w' => e = .returned (.string ⟨#[45, 53, 59]⟩) ∧ Below w.heap.size w w') := fun w h => by
    rw [← ex_num]; exact packNumber w (-5) (by omega) (by omega) h
  have HT := Lib.hid ht
  clear ht
  go_enter Tryd.func12, Tryd.ntmps12
  go_wp2_with fail
  refine (C1.out _).mono ?_; rintro e w1 ⟨rfl, hb⟩
  have HB1 := Lib.hid hb
  clear hb
  go_wp2_with fail
  refine (C2.out _).mono ?_; rintro e w2 ⟨rfl, hb⟩
  have HB2 : Hid (Below w.heap.size w w2) := HB1.out.trans (hb.mono HB1.out.size)
  clear hb
  go_wp2_with fail
  refine (C3.out _).mono ?_; rintro e w3 ⟨v, rfl, hsl, hb⟩
  have HB3 : Hid (Below w.heap.size w w3) := HB2.out.trans (hb.mono HB2.out.size)
  have HSL := Lib.hid hsl
  clear hb hsl
  go_wp2_with fail
  refine (C4.out _ (HT.out.below HB3.out)).mono ?_; rintro e w4 ⟨rfl, hb⟩
  have HB4 : Hid (Below w.heap.size w w4) := HB3.out.trans (hb.mono HB3.out.size)
  have HSL4 : Hid (SL w4 v [⟨#[97]⟩, ⟨#[]⟩]) := HSL.out.below hb
  clear hb
  go_wp2_with fail
  refine (C5.out _ (HT.out.below HB4.out)).mono ?_; rintro e w5 ⟨rfl, hb⟩
  have HB5 : Hid (Below w.heap.size w w5) := HB4.out.trans (hb.mono HB4.out.size)
  have HSL5 : Hid (SL w5 v [⟨#[97]⟩, ⟨#[]⟩]) := HSL4.out.below hb
  clear hb
  go_wp2_with fail
  have hbl : Below w5.heap.size w5 (w5.alloc (.cells #[.string ⟨#[97]⟩, .string ⟨#[]⟩] 9)) := (Below.refl _ _).alloc (Nat.le_refl _) _
  refine (refSame _ v _ [⟨#[97]⟩, ⟨#[]⟩] (HSL5.out.below hbl) ⟨some ⟨w5.heap.size, 0, none⟩, 2, rfl, by decide, fun _ => ⟨_, rfl, ⟨by simp, fun j hj => ?_⟩⟩⟩ (by decide)).mono ?_
  · simp only [List.length_cons, List.length_nil] at hj
    have hj' : j = 0 ∨ j = 1 := by omega
    rcases hj' with rfl | rfl <;> simp [Addr.add, go_sem]
  rintro e w6 ⟨rfl, n6, rfl⟩
  have HB6 : Hid (Below w.heap.size w ((w5.alloc (.cells #[.string ⟨#[97]⟩, .string ⟨#[]⟩] 9)).drewN n6)) := below_drewN (HB5.out.trans (hbl.mono HB5.out.size)) n6
  clear hbl
  go_wp2_with fail
  go_ret
  exact ⟨rfl, HB6.out⟩

def I64 (a : Int) : Prop := -9223372036854775808 ≤ a ∧ a ≤ 9223372036854775807

set_option maxHeartbeats 1000000 in
theorem walkPackTexts (s : ByteArray) (ws : s.size ≤ maxLen) (at_ : Int) (wa : I64 at_) (w : World) (ht : Tab w) :
    Calls Tryd.prog 3 #[.string s, .int .i64 at_] w fun e w' => e = .returned (.bool true) ∧ Below w.heap.size w w' := by
  obtain ⟨h0, h1⟩ := wa
  have c1 : ∀ w, Calls Tryd.prog 10 #[.string s, .int .i64 at_] w fun e w' => e = ret3t (tt s at_) ∧ Below w.heap.size w w' := fun w => packTakeText s at_ w ws h0 h1
  have c2 : ∀ w, Calls Tryd.prog 11 #[.string s, .int .i64 at_] w fun e w' => e = ret3t (tt s at_) ∧ w = w' := fun w => refTakeText s at_ w ws h0 h1
  generalize tt s at_ = r at *
  obtain ⟨t, i, e⟩ := r
  have C1 : Hid (∀ w, Calls Tryd.prog 10 #[.string s, .int .i64 at_] w fun e' w' => e' = .returned (.tuple #[.string t, .int .i64 i, .int .i64 e]) ∧ Below w.heap.size w w') := c1
  have C2 : Hid (∀ w, Calls Tryd.prog 11 #[.string s, .int .i64 at_] w fun e' w' => e' = .returned (.tuple #[.string t, .int .i64 i, .int .i64 e]) ∧ w = w') := c2
  have HT := Lib.hid ht
  clear c1 c2 ht
  go_enter Tryd.func3, Tryd.ntmps3
  go_wp2_with fail
  refine (C1.out _).mono ?_; rintro e w1 ⟨rfl, hb⟩
  have HB1 := Lib.hid hb
  clear hb
  go_wp2_with fail
  refine (C2.out _).mono ?_; rintro e w2 ⟨rfl, rfl⟩
  go_wp2_with fail
  refine (awake _ (HT.out.below HB1.out)).mono ?_; rintro e w2 ⟨rfl, hb⟩
  have HB2 : Hid (Below w.heap.size w w2) := HB1.out.trans (hb.mono HB1.out.size)
  clear hb
  go_wp2_with fail
  go_ret
  exact ⟨rfl, HB2.out⟩

set_option maxHeartbeats 1000000 in
theorem walkPackNumbers (s : ByteArray) (ws : s.size ≤ maxLen) (at_ : Int) (wa : I64 at_) (w : World) (ht : Tab w) :
    Calls Tryd.prog 4 #[.string s, .int .i64 at_] w fun e w' => e = .returned (.bool true) ∧ Below w.heap.size w w' := by
  obtain ⟨h0, h1⟩ := wa
  have c1 : ∀ w, Calls Tryd.prog 13 #[.string s, .int .i64 at_] w fun e w' => e = ret3n (tn s at_) ∧ Below w.heap.size w w' := fun w => packTakeNumber s at_ w ws h0 h1
  have c2 : ∀ w, Calls Tryd.prog 14 #[.string s, .int .i64 at_] w fun e w' => e = ret3n (tn s at_) ∧ w = w' := fun w => refTakeNumber s at_ w ws h0 h1
  generalize tn s at_ = r at *
  obtain ⟨t, i, e⟩ := r
  have C1 : Hid (∀ w, Calls Tryd.prog 13 #[.string s, .int .i64 at_] w fun e' w' => e' = .returned (.tuple #[.int .i64 t, .int .i64 i, .int .i64 e]) ∧ Below w.heap.size w w') := c1
  have C2 : Hid (∀ w, Calls Tryd.prog 14 #[.string s, .int .i64 at_] w fun e' w' => e' = .returned (.tuple #[.int .i64 t, .int .i64 i, .int .i64 e]) ∧ w = w') := c2
  have HT := Lib.hid ht
  clear c1 c2 ht
  go_enter Tryd.func4, Tryd.ntmps4
  go_wp2_with fail
  refine (C1.out _).mono ?_; rintro e w1 ⟨rfl, hb⟩
  have HB1 := Lib.hid hb
  clear hb
  go_wp2_with fail
  refine (C2.out _).mono ?_; rintro e w2 ⟨rfl, rfl⟩
  go_wp2_with fail
  refine (awake _ (HT.out.below HB1.out)).mono ?_; rintro e w2 ⟨rfl, hb⟩
  have HB2 : Hid (Below w.heap.size w w2) := HB1.out.trans (hb.mono HB1.out.size)
  clear hb
  go_wp2_with fail
  go_ret
  exact ⟨rfl, HB2.out⟩

end Go.Proofs.YtljehdkjjgjpiaaDoor
