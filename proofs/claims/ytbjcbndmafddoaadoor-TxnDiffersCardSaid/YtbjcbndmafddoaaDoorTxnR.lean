/-
  The law's awake.
-/
import Derived.Test.YtbjcbndmafddoaaDoorTxnQ
namespace Go.Proofs.YtbjcbndmafddoaaDoor
open Go.RowKit
set_option linter.unusedVariables false
set_option linter.unusedSimpArgs false

theorem SL.of_cells2 {w : World} {g : Nat} {a b : ByteArray} {t : TypeId} (h : Box w g #[.string a, .string b] t) : SL w (.slice (some ⟨g, 0, none⟩) 2 2) [a, b] := SL.of_box h [a, b] 2 (by simp) rfl
theorem IL.of_cells2 {w : World} {g : Nat} {a b : Int} {t : TypeId} (h : Box w g #[.int .i64 a, .int .i64 b] t) : IL w (.slice (some ⟨g, 0, none⟩) 2 2) [a, b] := by
  refine ⟨_, 2, rfl, by simp, fun _ => ⟨⟨g, 0, none⟩, rfl, h.lt, fun j hj => ?_⟩⟩
  rw [show (⟨g, 0, none⟩ : Addr).add j = ⟨g, j, none⟩ by unfold Addr.add; split <;> simp_all]
  match j, hj with
  | 0, _ => exact h.at_ 0 _ rfl
  | 1, _ => exact h.at_ 1 _ rfl
theorem SL.of_cells3 {w : World} {g : Nat} {a b c : ByteArray} {t : TypeId} (h : Box w g #[.string a, .string b, .string c] t) : SL w (.slice (some ⟨g, 0, none⟩) 3 3) [a, b, c] := SL.of_box h [a, b, c] 3 (by simp) rfl
theorem awkSz : ∀ s ∈ [xA, xB2], s.size ≤ 2000000 := by decide +kernel
set_option maxRecDepth 100000 in
set_option maxHeartbeats 8000000 in
theorem lawAwake (w : World) (hk : KW w) (hm : MLen w) (ht : Tab w) :
    Calls Tryd.prog 11 #[] w fun e w' => e = .returned (.bool true) ∧ Below w.heap.size w w' := by
  have HK := Lib.hid hk
  have HM := Lib.hid hm
  have HT := Lib.hid ht
  have C1 := Lib.hid (fun w h h' => txnParse ⟨#[97, 61, 49, 32, 98, 91, 50, 93, 61, 55]⟩ w (by decide) h h')
  have C2 := Lib.hid (fun w h h' => txnParse ⟨#[97, 61, 49, 32, 97, 61, 49]⟩ w (by decide) h h')
  unfold RET at C1 C2
  rw [awkParse] at C1
  rw [awkDup] at C2
  simp only at C1 C2
  have C3 : Hid (∀ W v1 v2, SL W v1 [xA, xB2] → IL W v2 [1, 7] → Calls Tryd.prog 12 #[.agg #[v1, v2], .string ⟨#[98, 91, 50, 93]⟩] W fun e w' => e = .returned (.tuple #[.int .i64 7, .bool true]) ∧ Below W.heap.size W w') :=
    Lib.hid fun W v1 v2 h1 h2 => by have := txnGet W v1 v2 [xA, xB2] [1, 7] ⟨#[98, 91, 50, 93]⟩ h1 h2 (by decide) (by decide); rw [awkGet] at this; exact this
  have C4 : Hid (∀ W v1 v2, SL W v1 [xA, xB2] → IL W v2 [1, 7] → KW W → MLen W → Calls Tryd.prog 21 #[.agg #[v1, v2]] W fun e w' => e = .returned (.bool true) ∧ Below W.heap.size W w') :=
    Lib.hid fun W v1 v2 h1 h2 hk hm => by have := txnValid W v1 v2 [xA, xB2] [1, 7] h1 h2 awkSz (by decide) (by decide) hk hm; rw [awkValid] at this; exact this
  have C5 : Hid (∀ W v1 v2, SL W v1 [xA, xB2] → IL W v2 [1, 7] → KW W → MLen W → Tab W → Calls Tryd.prog 17 #[.agg #[v1, v2]] W fun e w' => e = .returned (.string ⟨#[97, 61, 49, 32, 98, 91, 50, 93, 61, 55]⟩) ∧ Below W.heap.size W w') :=
    Lib.hid fun W v1 v2 h1 h2 hk hm ht => by have := txnPrint W v1 v2 [xA, xB2] [1, 7] h1 h2 awkSz (by decide) (by decide) (by rw [awkJoin]; decide) hk hm ht; rw [awkPrint] at this; exact this
  have C6 : Hid (∀ W v1 v2 v3 v4, SL W v1 [⟨#[97]⟩, ⟨#[98]⟩] → IL W v2 [1, 2] → SL W v3 [⟨#[98]⟩, ⟨#[99]⟩] → IL W v4 [3, 4] → Calls Tryd.prog 13 #[.agg #[v1, v2], .agg #[v3, v4]] W fun e w' => ∃ v, e = .returned v ∧ (SL w' v [⟨#[97]⟩, ⟨#[98]⟩, ⟨#[99]⟩] ∧ Below W.heap.size W w')) :=
    Lib.hid fun W v1 v2 v3 v4 h1 h2 h3 h4 => by have := txnDiff W v1 v2 v3 v4 [⟨#[97]⟩, ⟨#[98]⟩] [1, 2] [⟨#[98]⟩, ⟨#[99]⟩] [3, 4] h1 h2 h3 h4 (by decide) (by decide) (by decide) (by decide); rw [awkDiff] at this; exact this
  have C7 : Hid (∀ W v1 v3, SL W v1 [⟨#[97]⟩, ⟨#[98]⟩, ⟨#[99]⟩] → SL W v3 [⟨#[97]⟩, ⟨#[98]⟩, ⟨#[99]⟩] → Calls Tryd.prog 23 #[v1, v3] W fun e w' => e = .returned (.bool true) ∧ Below W.heap.size W w') :=
    Lib.hid fun W v1 v3 h1 h3 => by have := lawStrings W v1 v3 [⟨#[97]⟩, ⟨#[98]⟩, ⟨#[99]⟩] [⟨#[97]⟩, ⟨#[98]⟩, ⟨#[99]⟩] h1 h3 (by decide) (by decide); rw [decide_eq_true rfl] at this; exact this
  clear hk hm ht
  go_enter Tryd.func11, Tryd.ntmps11
  go_wp2_with fail
  refine (C1.out _ HK.out HM.out).mono ?_; rintro e w1 ⟨v1, v2, rfl, hs1, hs2, hb⟩
  have HS1 := Lib.hid hs1
  have HS2 := Lib.hid hs2
  have HB := Lib.hid hb
  have hsl := hs1
  have hil := hs2
  obtain ⟨A1, c1, rfl, _, _⟩ := hsl
  obtain ⟨A2, c2, rfl, _, _⟩ := hil
  clear hs1 hs2 hb C1
  simp only [List.length_cons, List.length_nil, Nat.zero_add, Nat.reduceAdd] at HS1 HS2 ⊢
  go_wp2_with fail
  have XT := Lib.hid (box_new (W := w1) (g := w1.heap.size) 25 #[.slice A1 2 c1, .slice A2 2 c2] (by simp))
  have hba := (below_alloc w1 (.cells #[.slice A1 2 c1, .slice A2 2 c2] 25))
  replace HS1 := Lib.hid (HS1.out.below hba)
  replace HS2 := Lib.hid (HS2.out.below hba)
  replace HB := Lib.hid (below_step HB.out hba)
  clear hba
  generalize w1.alloc (.cells #[.slice A1 2 c1, .slice A2 2 c2] 25) = w2 at *
  refine (C3.out _ _ _ HS1.out HS2.out).mono ?_; rintro e w3 ⟨rfl, hb⟩
  replace HS1 := Lib.hid (HS1.out.below hb)
  replace HS2 := Lib.hid (HS2.out.below hb)
  replace XT := Lib.hid (XT.out.below hb)
  replace HB := Lib.hid (below_step HB.out hb)
  clear hb
  go_wp2_with fail
  refine (C2.out _ (HK.out.below HB.out) (HM.out.below HB.out)).mono ?_; rintro e w4 ⟨v3, v4, rfl, hs3, hs4, hb⟩
  replace HS1 := Lib.hid (HS1.out.below hb)
  replace HS2 := Lib.hid (HS2.out.below hb)
  replace XT := Lib.hid (XT.out.below hb)
  replace HB := Lib.hid (below_step HB.out hb)
  clear hb
  obtain ⟨A3, c3, rfl, _, _⟩ := hs3
  obtain ⟨A4, c4, rfl, _, _⟩ := hs4
  go_wp2_with fail
  have XU := Lib.hid (((((box_new (W := w4) (g := w4.heap.size) 25 #[.slice A3 0 c3, .slice A4 0 c4] (by simp)).below (below_alloc _ (.cells #[.string ⟨#[97]⟩, .string ⟨#[98]⟩] 9))).below (below_alloc _ (.cells #[.int .i64 1, .int .i64 2] 3))).below (below_alloc _ (.cells #[.string ⟨#[98]⟩, .string ⟨#[99]⟩] 9))).below (below_alloc _ (.cells #[.int .i64 3, .int .i64 4] 3)))
  have Y1 := Lib.hid ((((box_new (W := (w4.alloc (.cells #[.slice A3 0 c3, .slice A4 0 c4] 25))) (g := w4.heap.size + 1) 9 #[.string ⟨#[97]⟩, .string ⟨#[98]⟩] (by simp)).below (below_alloc _ (.cells #[.int .i64 1, .int .i64 2] 3))).below (below_alloc _ (.cells #[.string ⟨#[98]⟩, .string ⟨#[99]⟩] 9))).below (below_alloc _ (.cells #[.int .i64 3, .int .i64 4] 3)))
  have Y2 := Lib.hid (((box_new (W := ((w4.alloc (.cells #[.slice A3 0 c3, .slice A4 0 c4] 25)).alloc (.cells #[.string ⟨#[97]⟩, .string ⟨#[98]⟩] 9))) (g := w4.heap.size + 1 + 1) 3 #[.int .i64 1, .int .i64 2] (by simp)).below (below_alloc _ (.cells #[.string ⟨#[98]⟩, .string ⟨#[99]⟩] 9))).below (below_alloc _ (.cells #[.int .i64 3, .int .i64 4] 3)))
  have Y3 := Lib.hid ((box_new (W := (((w4.alloc (.cells #[.slice A3 0 c3, .slice A4 0 c4] 25)).alloc (.cells #[.string ⟨#[97]⟩, .string ⟨#[98]⟩] 9)).alloc (.cells #[.int .i64 1, .int .i64 2] 3))) (g := w4.heap.size + 1 + 1 + 1) 9 #[.string ⟨#[98]⟩, .string ⟨#[99]⟩] (by simp)).below (below_alloc _ (.cells #[.int .i64 3, .int .i64 4] 3)))
  have Y4 := Lib.hid (box_new (W := ((((w4.alloc (.cells #[.slice A3 0 c3, .slice A4 0 c4] 25)).alloc (.cells #[.string ⟨#[97]⟩, .string ⟨#[98]⟩] 9)).alloc (.cells #[.int .i64 1, .int .i64 2] 3)).alloc (.cells #[.string ⟨#[98]⟩, .string ⟨#[99]⟩] 9))) (g := w4.heap.size + 1 + 1 + 1 + 1) 3 #[.int .i64 3, .int .i64 4] (by simp))
  have hba := (below_step (below_step (below_step (below_step (below_alloc w4 (.cells #[.slice A3 0 c3, .slice A4 0 c4] 25)) (below_alloc (w4.alloc (.cells #[.slice A3 0 c3, .slice A4 0 c4] 25)) (.cells #[.string ⟨#[97]⟩, .string ⟨#[98]⟩] 9))) (below_alloc ((w4.alloc (.cells #[.slice A3 0 c3, .slice A4 0 c4] 25)).alloc (.cells #[.string ⟨#[97]⟩, .string ⟨#[98]⟩] 9)) (.cells #[.int .i64 1, .int .i64 2] 3))) (below_alloc (((w4.alloc (.cells #[.slice A3 0 c3, .slice A4 0 c4] 25)).alloc (.cells #[.string ⟨#[97]⟩, .string ⟨#[98]⟩] 9)).alloc (.cells #[.int .i64 1, .int .i64 2] 3)) (.cells #[.string ⟨#[98]⟩, .string ⟨#[99]⟩] 9))) (below_alloc ((((w4.alloc (.cells #[.slice A3 0 c3, .slice A4 0 c4] 25)).alloc (.cells #[.string ⟨#[97]⟩, .string ⟨#[98]⟩] 9)).alloc (.cells #[.int .i64 1, .int .i64 2] 3)).alloc (.cells #[.string ⟨#[98]⟩, .string ⟨#[99]⟩] 9)) (.cells #[.int .i64 3, .int .i64 4] 3)))
  replace HS1 := Lib.hid (HS1.out.below hba)
  replace HS2 := Lib.hid (HS2.out.below hba)
  replace XT := Lib.hid (XT.out.below hba)
  replace HB := Lib.hid (below_step HB.out hba)
  clear hba
  generalize ((((w4.alloc (.cells #[.slice A3 0 c3, .slice A4 0 c4] 25)).alloc (.cells #[.string ⟨#[97]⟩, .string ⟨#[98]⟩] 9)).alloc (.cells #[.int .i64 1, .int .i64 2] 3)).alloc (.cells #[.string ⟨#[98]⟩, .string ⟨#[99]⟩] 9)).alloc (.cells #[.int .i64 3, .int .i64 4] 3) = w5 at *
  refine (C6.out _ _ _ _ _ (SL.of_cells2 Y1.out) (IL.of_cells2 Y2.out) (SL.of_cells2 Y3.out) (IL.of_cells2 Y4.out)).mono ?_; rintro e w6 ⟨v5, rfl, hs5, hb⟩
  clear Y1 Y2 Y3 Y4 XU
  replace HS1 := Lib.hid (HS1.out.below hb)
  replace HS2 := Lib.hid (HS2.out.below hb)
  replace XT := Lib.hid (XT.out.below hb)
  replace HB := Lib.hid (below_step HB.out hb)
  clear hb
  have HS5 := Lib.hid hs5
  obtain ⟨A5, c5, rfl, _, _⟩ := hs5
  simp only [List.length_cons, List.length_nil, Nat.zero_add, Nat.reduceAdd] at HS5 ⊢
  have XT_0 := XT.out.at_ 0 _ rfl
  have XT_1 := XT.out.at_ 1 _ rfl
  go_wp2_with fail
  clear XT_0 XT_1
  refine (C4.out _ _ _ HS1.out HS2.out (HK.out.below HB.out) (HM.out.below HB.out)).mono ?_; rintro e w7 ⟨rfl, hb⟩
  replace HS1 := Lib.hid (HS1.out.below hb)
  replace HS2 := Lib.hid (HS2.out.below hb)
  replace XT := Lib.hid (XT.out.below hb)
  replace HS5 := Lib.hid (HS5.out.below hb)
  replace HB := Lib.hid (below_step HB.out hb)
  clear hb
  have XT_0 := XT.out.at_ 0 _ rfl
  have XT_1 := XT.out.at_ 1 _ rfl
  go_wp2_with fail
  clear XT_0 XT_1
  refine (C5.out _ _ _ HS1.out HS2.out (HK.out.below HB.out) (HM.out.below HB.out) (HT.out.below HB.out)).mono ?_; rintro e w8 ⟨rfl, hb⟩
  replace HS1 := Lib.hid (HS1.out.below hb)
  replace HS2 := Lib.hid (HS2.out.below hb)
  replace XT := Lib.hid (XT.out.below hb)
  replace HS5 := Lib.hid (HS5.out.below hb)
  replace HB := Lib.hid (below_step HB.out hb)
  clear hb
  go_wp2_with fail
  have Y5 := Lib.hid (box_new (W := w8) (g := w8.heap.size) 9 #[.string ⟨#[97]⟩, .string ⟨#[98]⟩, .string ⟨#[99]⟩] (by simp))
  have hba := (below_alloc w8 (.cells #[.string ⟨#[97]⟩, .string ⟨#[98]⟩, .string ⟨#[99]⟩] 9))
  replace HS1 := Lib.hid (HS1.out.below hba)
  replace HS2 := Lib.hid (HS2.out.below hba)
  replace XT := Lib.hid (XT.out.below hba)
  replace HS5 := Lib.hid (HS5.out.below hba)
  replace HB := Lib.hid (below_step HB.out hba)
  clear hba
  generalize w8.alloc (.cells #[.string ⟨#[97]⟩, .string ⟨#[98]⟩, .string ⟨#[99]⟩] 9) = w9 at *
  refine (C7.out _ _ _ HS5.out (SL.of_cells3 Y5.out)).mono ?_; rintro e wa ⟨rfl, hb⟩
  clear Y5
  replace HB := Lib.hid (below_step HB.out hb)
  clear hb
  go_wp2_with fail
  go_ret
  exact ⟨rfl, HB.out⟩

end Go.Proofs.YtbjcbndmafddoaaDoor
