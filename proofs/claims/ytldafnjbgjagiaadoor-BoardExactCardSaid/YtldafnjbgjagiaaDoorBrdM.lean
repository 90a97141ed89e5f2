/-
  The examples of chapter 52.
-/
import Derived.Test.YtldafnjbgjagiaaDoorBrdL
namespace Go.Proofs.YtldafnjbgjagiaaDoor
open Go.RowKit
set_option linter.unusedVariables false
set_option linter.unusedSimpArgs false

/-- Elements laid side by side in a block. -/
theorem rs_of_box {α : Type} {φ : Rd α} {w : World} {g : Nat} {T : TypeId} {uss : List (List Value)} {xs : List α} {F : Nat → Prop} (h : Box w g uss.flatten.toArray T) (hl : uss.length = xs.length) (hu : ∀ j x, xs[j]? = some x → φ.R w (uss.getD j []) x F) :
    Rs φ w (.slice (some ⟨g, 0, none⟩) xs.length xs.length) xs F := by
  have hlen : ∀ us ∈ uss, us.length = φ.k := fun us hm => by
    obtain ⟨j, hj, rfl⟩ := List.mem_iff_getElem.1 hm
    have := φ.len (hu j _ (List.getElem?_eq_getElem (by omega)))
    rwa [List.getD_eq_getElem?_getD, List.getElem?_eq_getElem hj] at this
  refine ⟨_, _, rfl, Nat.le_refl _, fun _ => ⟨g, 0, rfl, h.lt, fun j x hj => ⟨uss.getD j [], fun i hi => ?_, hu j x hj⟩⟩⟩
  have hjl : j < uss.length := by have := (List.getElem?_eq_some_iff.1 hj).1; omega
  rw [Nat.zero_add, h.cell (j * φ.k + i), List.getElem?_toArray, flat_get hlen j i hi, List.getElem?_eq_getElem hjl]
  simp [List.getD_eq_getElem?_getD, List.getElem?_eq_getElem hjl]
/-- A transaction of one field. -/
def one1 (s : ByteArray) (z : Int) : Tx := ([s], [z])
set_option maxRecDepth 100000 in
set_option maxHeartbeats 4000000 in
theorem lawOne (w : World) (s : ByteArray) (z : Int) : Calls Tryd.prog 35 #[.string s, .int .i64 z] w fun e w' => ∃ g1 g2, e = .returned (.agg #[.slice (some ⟨g1, 0, none⟩) 1 1, .slice (some ⟨g2, 0, none⟩) 1 1]) ∧ txR.R w' [.slice (some ⟨g1, 0, none⟩) 1 1, .slice (some ⟨g2, 0, none⟩) 1 1] (one1 s z) anyB ∧ Below w.heap.size w w' := by
  go_enter Tryd.func35, Tryd.ntmps35
  go_upto_region 1 with fail
  have XR := Lib.hid (box_new (W := w) (g := w.heap.size) 28 #[.slice none 0 0, .slice none 0 0] (by simp))
  have HB := Lib.hid (below_alloc w (.cells #[.slice none 0 0, .slice none 0 0] 28))
  generalize w.alloc (.cells #[.slice none 0 0, .slice none 0 0] 28) = w1 at *
  have hlt := XR.out.lt
  have XR_0 := XR.out.at_ 0 _ rfl
  have XR_1 := XR.out.at_ 1 _ rfl
  have XR_l := XR.out.lt
  have XR_z0 := XR.out.frozen 0
  have XR_z1 := XR.out.frozen 1
  go_wp2_with fail
  refine bodyPost_ret (v := .agg #[.slice (some ⟨w1.heap.size, 0, none⟩) 1 1, .slice (some ⟨w1.heap.size + 1, 0, none⟩) 1 1]) (by simp [results, Tryd.results35, go_sem, XR_0, XR_1, XR_l]) rfl ?_
  have B2 := (HB.out.setCell (p := ⟨w.heap.size, 0, none⟩) (Nat.le_refl _) (.slice (some ⟨w1.heap.size, 0, none⟩) 1 1)).setCell (p := ⟨w.heap.size, 1, none⟩) (Nat.le_refl _) (.slice (some ⟨w1.heap.size + 1, 0, none⟩) 1 1)
  generalize hw2 : (w1.setCell ⟨w.heap.size, 0, none⟩ (.slice (some ⟨w1.heap.size, 0, none⟩) 1 1)).setCell ⟨w.heap.size, 1, none⟩ (.slice (some ⟨w1.heap.size + 1, 0, none⟩) 1 1) = w2 at B2 ⊢
  have hs2 : w2.heap.size = w1.heap.size := by rw [← hw2]; simp
  have hb1 := below_alloc w2 (.cells #[.string s] 9)
  have hb2 := below_alloc (w2.alloc (.cells #[.string s] 9)) (.cells #[.int .i64 z] 3)
  have XS3 := ((box_new (W := w2) (g := w1.heap.size) 9 #[.string s] hs2)).below hb2
  have XI3 := box_new (W := w2.alloc (.cells #[.string s] 9)) (g := w1.heap.size + 1) 3 #[.int .i64 z] (by simp [hs2])
  refine ⟨_, _, rfl, ⟨_, _, rfl, ?_, ?_, in_any _ _, in_any _ _⟩, below_step (below_step B2 hb1) hb2⟩
  · exact SL.of_own (base := 0) (n := 1) (l := [s]) (own_of_box (xs := scells [s]) XS3 (Nat.zero_le _) (by unfold maxLen; simp [scells]))
  · exact IL.of_own (base := 0) (n := 1) (l := [z]) (own_of_box (xs := icells [z]) XI3 (Nat.zero_le _) (by unfold maxLen; simp [icells]))

theorem run_ex1 : runT true ⟨#[]⟩ [one1 ⟨#[97]⟩ 1, one1 ⟨#[97]⟩ 2] [one1 ⟨#[97]⟩ 1, one1 ⟨#[97]⟩ 3, one1 ⟨#[97]⟩ 4] = ⟨true, ⟨#[]⟩, [], 1, [⟨#[109, 105, 115, 109, 97, 116, 99, 104, 32, 49]⟩, ⟨#[101, 120, 116, 114, 97, 32, 50]⟩]⟩ := by decide +kernel
theorem run_ex2 : runT false ⟨#[107]⟩ [one1 ⟨#[107]⟩ 1, one1 ⟨#[107]⟩ 2] [one1 ⟨#[107]⟩ 2] = ⟨false, ⟨#[107]⟩, [], 1, [⟨#[108, 111, 115, 116, 32, 49]⟩]⟩ := by decide +kernel

end Go.Proofs.YtldafnjbgjagiaaDoor
