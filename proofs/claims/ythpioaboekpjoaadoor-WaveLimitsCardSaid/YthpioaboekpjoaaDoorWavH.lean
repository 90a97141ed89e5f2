/-
  The law's awake.
-/
import Derived.Test.YthpioaboekpjoaaDoorWavG
import Derived.Test.YthpioaboekpjoaaDoorWavE
namespace Go.Proofs.YthpioaboekpjoaaDoor
section
open Go.RowKit
set_option linter.unusedVariables false
set_option linter.unusedSimpArgs false

def wxN : List ByteArray := [⟨#[97]⟩, ⟨#[98]⟩]
def wxR : List (List Int) := [[1, 2], [3, 4]]
theorem wx_row (a b : Nat) (ha : a < 10) (hb : b < 10) (s : ByteArray) (h : lineW s = [⟨#[UInt8.ofNat (48 + a)]⟩, ⟨#[UInt8.ofNat (48 + b)]⟩]) : rowT 2 s = ([(a : Int), (b : Int)], 0) := by
  have p1 := par_one ha _ rfl
  have p2 := par_one hb _ rfl
  have w1 : wordB (a : Int) = true := by unfold wordB; exact decide_eq_true (by omega)
  have w2 : wordB (b : Int) = true := by unfold wordB; exact decide_eq_true (by omega)
  unfold rowT
  rw [h]
  show rowR _ false [] = _
  unfold rowR
  rw [p1.1, p1.2, if_neg (by decide)]
  unfold rowR
  rw [p2.1, p2.2, if_neg (by decide), w1, w2]
  rfl
theorem wx_parse : parseW ⟨#[97, 32, 98, 10, 49, 32, 50, 10, 51, 32, 52, 10]⟩ = (wxN, wxR, 0) := by
  have e0 : endB ⟨#[97, 32, 98, 10, 49, 32, 50, 10, 51, 32, 52, 10]⟩ = true := by decide +kernel
  have e1 : words 10 (cutS ⟨#[97, 32, 98, 10, 49, 32, 50, 10, 51, 32, 52, 10]⟩) = [⟨#[97, 32, 98]⟩, ⟨#[49, 32, 50]⟩, ⟨#[51, 32, 52]⟩] := by decide +kernel
  have e2 : lineW ⟨#[97, 32, 98]⟩ = wxN := by decide +kernel
  have e3 : hdrT wxN = 0 := by decide +kernel
  have r1 : rowT 2 ⟨#[49, 32, 50]⟩ = ([1, 2], 0) := wx_row 1 2 (by decide) (by decide) _ (by decide +kernel)
  have r2 : rowT 2 ⟨#[51, 32, 52]⟩ = ([3, 4], 0) := wx_row 3 4 (by decide) (by decide) _ (by decide +kernel)
  have e4 : rowsR 2 [⟨#[49, 32, 50]⟩, ⟨#[51, 32, 52]⟩] [] = (wxR, 0) := by
    unfold rowsR
    rw [r1, if_neg (by decide), if_pos rfl]
    unfold rowsR
    rw [r2, if_neg (by decide), if_pos rfl]
    rfl
  unfold parseW
  rw [if_pos e0, e1]
  simp only [List.getD_cons_zero, List.tail_cons]
  rw [e2, if_pos e3, show wxN.length = 2 from rfl, e4, if_pos rfl]
theorem wx_nil : parseW ⟨#[10]⟩ = ([], [], 0) := by
  have e0 : endB ⟨#[10]⟩ = true := by decide +kernel
  have e1 : words 10 (cutS ⟨#[10]⟩) = [⟨#[]⟩] := by decide +kernel
  have e2 : lineW ⟨#[]⟩ = [] := by decide +kernel
  have e3 : hdrT [] = 0 := by decide +kernel
  unfold parseW
  rw [if_pos e0, e1]
  simp only [List.getD_cons_zero, List.tail_cons]
  rw [e2, if_pos e3]
  rfl
theorem wx_valid : wvV wxN wxR = true := by decide +kernel
theorem wx_get : wgT wxN wxR ⟨#[98]⟩ 1 = (4, true) := by decide +kernel
theorem wx_chg : whT wxN wxR ⟨#[98]⟩ = [0, 1] := by decide +kernel
theorem wx_print : printW wxN wxR = ⟨#[97, 32, 98, 10, 49, 32, 50, 10, 51, 32, 52, 10]⟩ := by
  have h1 : fmtS 1 = ⟨#[49]⟩ := fmt_one (i := 1) (by decide)
  have h2 : fmtS 2 = ⟨#[50]⟩ := fmt_one (i := 2) (by decide)
  have h3 : fmtS 3 = ⟨#[51]⟩ := fmt_one (i := 3) (by decide)
  have h4 : fmtS 4 = ⟨#[52]⟩ := fmt_one (i := 4) (by decide)
  have e : printL wxN wxR = [97, 32, 98, 10, 49, 32, 50, 10, 51, 32, 52, 10] := by
    unfold printL wxR
    simp only [List.flatMap_cons, List.flatMap_nil, List.map_cons, List.map_nil, h1, h2, h3, h4]
    decide +kernel
  unfold printW
  rw [if_pos wx_valid, e]
theorem wx_len : (printL wxN wxR).length ≤ 140737488355328 := by
  have := wx_print
  unfold printW at this
  rw [if_pos wx_valid] at this
  have h2 := congrArg ByteArray.size this
  rw [Lib.size_eq] at h2
  simp only at h2
  have h3 : (⟨#[97, 32, 98, 10, 49, 32, 50, 10, 51, 32, 52, 10]⟩ : ByteArray).size = 12 := by decide +kernel
  rw [h3] at h2
  omega
theorem wx_wz : WZ wxN wxR := ⟨by decide +kernel, by decide +kernel, by decide +kernel, by decide +kernel⟩
theorem IL.box2 {w : World} {g : Nat} {T : TypeId} (h : Box w g #[.int .i64 0, .int .i64 1] T) : IL w (.slice (some ⟨g, 0, none⟩) 2 2) [0, 1] := by
  refine ⟨_, _, rfl, Nat.le_refl _, fun _ => ⟨_, rfl, h.lt, fun j hj => ?_⟩⟩
  rw [add_plain, Nat.zero_add, h.cell j]
  match j, hj with
  | 0, _ => rfl
  | 1, _ => rfl
end
open Go.RowKit
set_option linter.unusedVariables false
set_option linter.unusedSimpArgs false

set_option maxRecDepth 100000 in
set_option maxHeartbeats 8000000 in
theorem lawAwakeW (w : World) (hk : KW w) (hm : MLen w) (ht : Tab w) : Calls Tryd.prog 11 #[] w fun e w' => e = .returned (.bool true) ∧ Below w.heap.size w w' := by
  have HK := Lib.hid hk
  have HM := Lib.hid hm
  have HT := Lib.hid ht
  have C1 : Hid (∀ W, Below w.heap.size w W → Calls Tryd.prog 12 #[.string ⟨#[97, 32, 98, 10, 49, 32, 50, 10, 51, 32, 52, 10]⟩] W fun e w' => ∃ A1 c1 A2 c2, e = .returned (.tuple #[.agg #[.slice A1 2 c1, .slice A2 2 c2], .int .i64 0]) ∧ SL w' (.slice A1 2 c1) wxN ∧ Rs ilR w' (.slice A2 2 c2) wxR anyB ∧ Below W.heap.size W w') := Lib.hid fun W hW =>
    (wavParse _ W (by decide +kernel) (hk.below hW) (hm.below hW)).mono fun e w' ⟨v1, v2, he, a, b, c⟩ => by
      rw [wx_parse] at he a b
      obtain ⟨A1, c1, rfl, -⟩ := id a
      obtain ⟨A2, c2, rfl, -⟩ := b.slice
      exact ⟨A1, c1, A2, c2, he, a, b, c⟩
  have C2 : Hid (∀ W, Below w.heap.size w W → Calls Tryd.prog 12 #[.string ⟨#[10]⟩] W fun e w' => ∃ A1 c1 A2 c2, e = .returned (.tuple #[.agg #[.slice A1 0 c1, .slice A2 0 c2], .int .i64 0]) ∧ Below W.heap.size W w') := Lib.hid fun W hW =>
    (wavParse _ W (by decide +kernel) (hk.below hW) (hm.below hW)).mono fun e w' ⟨v1, v2, he, a, b, c⟩ => by
      rw [wx_nil] at he a b
      obtain ⟨A1, c1, rfl, -⟩ := id a
      obtain ⟨A2, c2, rfl, -⟩ := b.slice
      exact ⟨A1, c1, A2, c2, he, c⟩
  have CG : Hid (∀ W v1 v2, Below w.heap.size w W → SL W v1 wxN → Rs ilR W v2 wxR anyB → Calls Tryd.prog 19 #[.agg #[v1, v2], .string ⟨#[98]⟩, .int .i64 1] W fun e w' => e = .returned (.tuple #[.int .i64 4, .bool true]) ∧ Below W.heap.size W w') := Lib.hid fun W v1 v2 hW a b => by
    have := wavGet W v1 v2 wxN wxR ⟨#[98]⟩ 1 a b wx_wz ⟨by decide, by decide⟩ (hk.below hW) (hm.below hW)
    rwa [wx_get] at this
  have CV : Hid (∀ W v1 v2, Below w.heap.size w W → SL W v1 wxN → Rs ilR W v2 wxR anyB → Calls Tryd.prog 23 #[.agg #[v1, v2]] W fun e w' => e = .returned (.bool true) ∧ Below W.heap.size W w') := Lib.hid fun W v1 v2 hW a b => by
    have := wavValid W v1 v2 wxN wxR a b wx_wz (hk.below hW) (hm.below hW)
    rwa [wx_valid] at this
  have CC : Hid (∀ W v1 v2, Below w.heap.size w W → SL W v1 wxN → Rs ilR W v2 wxR anyB → Calls Tryd.prog 25 #[.agg #[v1, v2], .string ⟨#[98]⟩] W fun e w' => ∃ v, e = .returned v ∧ IL w' v [0, 1] ∧ Below W.heap.size W w') := Lib.hid fun W v1 v2 hW a b => by
    have := wavChanges W v1 v2 wxN wxR ⟨#[98]⟩ a b wx_wz (hk.below hW) (hm.below hW)
    rwa [wx_chg] at this
  have CP : Hid (∀ W v1 v2, Below w.heap.size w W → SL W v1 wxN → Rs ilR W v2 wxR anyB → Calls Tryd.prog 15 #[.agg #[v1, v2]] W fun e w' => e = .returned (.string ⟨#[97, 32, 98, 10, 49, 32, 50, 10, 51, 32, 52, 10]⟩) ∧ Below W.heap.size W w') := Lib.hid fun W v1 v2 hW a b => by
    have := wavPrint W v1 v2 wxN wxR a b wx_wz (fun _ => wx_len) (hk.below hW) (hm.below hW) (ht.below hW)
    rwa [wx_print] at this
  have CI : Hid (∀ W v1 v2, IL W v1 [0, 1] → IL W v2 [0, 1] → Calls Tryd.prog 24 #[v1, v2] W fun e w' => e = .returned (.bool true) ∧ Below W.heap.size W w') := Lib.hid fun W v1 v2 a b =>
    lawInts W v1 v2 [0, 1] [0, 1] a b (by decide) (by decide)
  clear hk hm ht HK HM HT
  go_enter Tryd.func11, Tryd.ntmps11
  go_wp2_with fail
  refine (C1.out _ (Below.refl _ _)).mono ?_; rintro e w2 ⟨A1, c1, A2, c2, rfl, sl, rl, hb⟩
  have S1 := Lib.hid sl
  have S2 := Lib.hid rl
  have HB := Lib.hid hb
  clear sl rl hb C1
  go_upto_region 2 with fail
  have XA := Lib.hid (box_new (W := w2) (g := w2.heap.size) 26 #[.slice A1 2 c1, .slice A2 2 c2] (by simp))
  have hba := (below_alloc w2 (.cells #[.slice A1 2 c1, .slice A2 2 c2] 26))
  replace S1 := Lib.hid (S1.out.below hba)
  replace S2 := Lib.hid (S2.out.below hba)
  replace HB := Lib.hid (below_step HB.out hba)
  clear hba
  generalize w2.alloc (.cells #[.slice A1 2 c1, .slice A2 2 c2] 26) = w3 at *
  have XA_0 := XA.out.at_ 0 _ rfl
  have XA_1 := XA.out.at_ 1 _ rfl
  go_wp2_with fail
  refine (CG.out _ _ _ HB.out S1.out S2.out).mono ?_; rintro e w4 ⟨rfl, hb⟩
  clear XA_0 XA_1
  replace S1 := Lib.hid (S1.out.below hb)
  replace S2 := Lib.hid (S2.out.below hb)
  replace XA := Lib.hid (XA.out.below hb)
  replace HB := Lib.hid (below_step HB.out hb)
  clear hb
  clear CG
  go_wp2_with fail
  refine (C2.out _ HB.out).mono ?_; rintro e w5 ⟨B1, d1, B2, d2, rfl, hb⟩
  clear C2
  replace S1 := Lib.hid (S1.out.below hb)
  replace S2 := Lib.hid (S2.out.below hb)
  replace XA := Lib.hid (XA.out.below hb)
  replace HB := Lib.hid (below_step HB.out hb)
  clear hb
  go_upto_region 4 with fail
  have XB := Lib.hid (box_new (W := w5) (g := w5.heap.size) 26 #[.slice B1 0 d1, .slice B2 0 d2] (by simp))
  have hba := (below_alloc w5 (.cells #[.slice B1 0 d1, .slice B2 0 d2] 26))
  replace S1 := Lib.hid (S1.out.below hba)
  replace S2 := Lib.hid (S2.out.below hba)
  replace XA := Lib.hid (XA.out.below hba)
  replace HB := Lib.hid (below_step HB.out hba)
  clear hba
  generalize w5.alloc (.cells #[.slice B1 0 d1, .slice B2 0 d2] 26) = w6 at *
  have XA_0 := XA.out.at_ 0 _ rfl
  have XA_1 := XA.out.at_ 1 _ rfl
  go_wp2_with fail
  refine (CV.out _ _ _ HB.out S1.out S2.out).mono ?_; rintro e w7 ⟨rfl, hb⟩
  clear XA_0 XA_1
  replace S1 := Lib.hid (S1.out.below hb)
  replace S2 := Lib.hid (S2.out.below hb)
  replace XA := Lib.hid (XA.out.below hb)
  replace XB := Lib.hid (XB.out.below hb)
  replace HB := Lib.hid (below_step HB.out hb)
  clear hb
  clear CV
  have XA_0 := XA.out.at_ 0 _ rfl
  have XA_1 := XA.out.at_ 1 _ rfl
  go_wp2_with fail
  refine (CC.out _ _ _ HB.out S1.out S2.out).mono ?_; rintro e w8 ⟨cv, rfl, hil, hb⟩
  have HIL := Lib.hid hil
  obtain ⟨CA, cc, rfl, -⟩ := id hil
  clear hil CC
  clear XA_0 XA_1
  replace S1 := Lib.hid (S1.out.below hb)
  replace S2 := Lib.hid (S2.out.below hb)
  replace XA := Lib.hid (XA.out.below hb)
  replace XB := Lib.hid (XB.out.below hb)
  replace HB := Lib.hid (below_step HB.out hb)
  clear hb
  go_wp2_with fail
  have XL := Lib.hid (box_new (W := w8) (g := w8.heap.size) 3 #[.int .i64 0, .int .i64 1] (by simp))
  have hba := (below_alloc w8 (.cells #[.int .i64 0, .int .i64 1] 3))
  replace S1 := Lib.hid (S1.out.below hba)
  replace S2 := Lib.hid (S2.out.below hba)
  replace XA := Lib.hid (XA.out.below hba)
  replace XB := Lib.hid (XB.out.below hba)
  replace HIL := Lib.hid (HIL.out.below hba)
  replace HB := Lib.hid (below_step HB.out hba)
  clear hba
  generalize w8.alloc (.cells #[.int .i64 0, .int .i64 1] 3) = w9 at *
  refine (CI.out _ _ _ HIL.out (IL.box2 XL.out)).mono ?_; rintro e w10 ⟨rfl, hb⟩
  replace S1 := Lib.hid (S1.out.below hb)
  replace S2 := Lib.hid (S2.out.below hb)
  replace XA := Lib.hid (XA.out.below hb)
  replace XB := Lib.hid (XB.out.below hb)
  replace HIL := Lib.hid (HIL.out.below hb)
  replace XL := Lib.hid (XL.out.below hb)
  replace HB := Lib.hid (below_step HB.out hb)
  clear hb
  clear CI
  have XA_0 := XA.out.at_ 0 _ rfl
  have XA_1 := XA.out.at_ 1 _ rfl
  go_wp2_with fail
  refine (CP.out _ _ _ HB.out S1.out S2.out).mono ?_; rintro e w11 ⟨rfl, hb⟩
  clear XA_0 XA_1
  replace S1 := Lib.hid (S1.out.below hb)
  replace S2 := Lib.hid (S2.out.below hb)
  replace XA := Lib.hid (XA.out.below hb)
  replace XB := Lib.hid (XB.out.below hb)
  replace HIL := Lib.hid (HIL.out.below hb)
  replace XL := Lib.hid (XL.out.below hb)
  replace HB := Lib.hid (below_step HB.out hb)
  clear hb
  clear CP
  have XB_0 := XB.out.at_ 0 _ rfl
  have XB_1 := XB.out.at_ 1 _ rfl
  go_wp2_with fail
  go_ret
  exact ⟨rfl, HB.out⟩

end Go.Proofs.YthpioaboekpjoaaDoor
