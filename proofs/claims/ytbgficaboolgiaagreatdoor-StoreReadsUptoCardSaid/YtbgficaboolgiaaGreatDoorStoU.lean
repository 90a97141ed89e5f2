/-
  The examples of chapter 56: the law's own check.
-/
import Derived.Test.YtbgficaboolgiaaGreatDoorStoT
import Derived.Test.YtbgficaboolgiaaGreatDoorStoS
import Derived.Test.YtbgficaboolgiaaGreatDoorStoD
namespace Go.Proofs.YtbgficaboolgiaaGreatDoor
open Go.RowKit
set_option linter.unusedVariables false
set_option linter.unusedSimpArgs false

theorem freshA_slice {P : Program} {K : Kit} {w0 : World} {γ : Nat → Value} {ops : Array Oper} {j : Nat} {o : Oper} {a : Act} {T : TypeId} {cs : Array Value} (hg : Region.wanted o (yielded ops a.tmps) = true) (hr : ∀ w, (execOp a.eval o).run P w = .ok (.value (.slice (some ⟨w.heap.size, 0, none⟩) 1 1)) (w.alloc (.cells cs T)))
    (h : ∀ w g, w0.heap.size ≤ g → Box w g cs T → K.Φ j (.slice (some ⟨g, 0, none⟩) 1 1) w) : FreshA ops P K w0 γ j o a := by
  refine ⟨hg, fun w hb hf => ?_⟩
  rw [hr]
  exact ⟨h _ _ hb.size (Box.new _ _ _), below_alloc _ _⟩
theorem rs_of_cells {w : World} {g : Nat} {T : TypeId} {l : List Res} (h : Box w g (l.map (resL (.slice none 0 0) (.slice none 0 0))).flatten.toArray T) (hp : ∀ r ∈ l, r.pts = [] ∧ r.crs = []) : Rs resR w (.slice (some ⟨g, 0, none⟩) l.length l.length) l anyB := by
  refine ⟨_, _, rfl, Nat.le_refl _, fun hl => ⟨g, 0, rfl, h.lt, fun j x hj => ⟨resL (.slice none 0 0) (.slice none 0 0) x, fun i hi => ?_, .slice none 0 0, .slice none 0 0, rfl, ?_, ?_⟩⟩⟩
  · have hlen : ∀ us ∈ l.map (resL (.slice none 0 0) (.slice none 0 0)), us.length = 11 := fun us hu => by
      obtain ⟨r, _, rfl⟩ := List.mem_map.1 hu; rfl
    have hi' : i < 11 := hi
    have hlx : i < (resL (.slice none 0 0) (.slice none 0 0) x).length := hi'
    have hg := flat_get hlen j i hi'
    rw [List.getElem?_map, hj] at hg
    have hg2 : (l.map (resL (.slice none 0 0) (.slice none 0 0))).flatten[j * 11 + i]? = (resL (.slice none 0 0) (.slice none 0 0) x)[i]? := hg
    rw [List.getElem?_eq_getElem hlx] at hg2 ⊢
    have := h.at_ (j * 11 + i) _ (by rw [← Array.getElem?_toList]; exact hg2)
    rw [show 0 + j * resR.k + i = j * 11 + i from by show 0 + j * 11 + i = _; omega]
    exact this
  · have := (hp x (List.mem_of_getElem? hj)).1
    rw [this]
    exact ⟨Rs.nil _ _ _, fun h => absurd h (by simp)⟩
  · have := (hp x (List.mem_of_getElem? hj)).2
    rw [this]
    exact ⟨Rs.nil _ _ _, fun h => absurd h (by simp)⟩
theorem awk_res (d : ByteArray) (x : Nat) (s : ByteArray) (w : World) : Calls Tryz.prog 19 #[.string d, .int .u64 x, .string s] w fun e w' => e = .returned (.agg #[.string ⟨#[116]⟩, .int .u64 (x : Nat), .string d, .string s, .int .i64 0, .int .i64 0, .int .i64 0, .slice none 0 0, .slice none 0 0, .int .i64 0, .int .i64 0]) ∧ Below w.heap.size w w' := lawResult d x s w
theorem awk_cmp (W : World) (g : Nat) (ht : Tab W) (h : Box W g #[.string ⟨#[116]⟩, .int .u64 1, .string ⟨#[97]⟩, .string ⟨#[120]⟩, .int .i64 0, .int .i64 0, .int .i64 0, .slice none 0 0, .slice none 0 0, .int .i64 0, .int .i64 0,
      .string ⟨#[116]⟩, .int .u64 2, .string ⟨#[97]⟩, .string ⟨#[]⟩, .int .i64 0, .int .i64 0, .int .i64 0, .slice none 0 0, .slice none 0 0, .int .i64 0, .int .i64 0,
      .string ⟨#[116]⟩, .int .u64 1, .string ⟨#[98]⟩, .string ⟨#[]⟩, .int .i64 0, .int .i64 0, .int .i64 0, .slice none 0 0, .slice none 0 0, .int .i64 0, .int .i64 0,
      .string ⟨#[116]⟩, .int .u64 2, .string ⟨#[98]⟩, .string ⟨#[120]⟩, .int .i64 0, .int .i64 0, .int .i64 0, .slice none 0 0, .slice none 0 0, .int .i64 0, .int .i64 0] 28) :
    Calls Tryz.prog 18 #[.slice (some ⟨g, 0, none⟩) 4 4, .string ⟨#[97]⟩, .string ⟨#[98]⟩] W fun e w' => ∃ A c B d C f, e = .returned (.tuple #[.slice A 1 c, .slice B 1 d, .slice C 0 f]) ∧ SL w' (.slice A 1 c) [⟨#[116, 32, 50]⟩] ∧ SL w' (.slice B 1 d) [⟨#[116, 32, 49]⟩] ∧ Below W.heap.size W w' := by
  have hr : Rs resR W (.slice (some ⟨g, 0, none⟩) 4 4) l4 anyB := rs_of_cells (l := l4) (T := 28) h (by
    intro r hr
    simp only [l4, List.mem_cons, List.not_mem_nil, or_false] at hr
    rcases hr with rfl | rfl | rfl | rfl <;> exact ⟨rfl, rfl⟩)
  refine (stoCompare W _ l4 hr (by decide) (fun r hr => ?_) _ _ ht).mono ?_
  · simp only [l4, List.mem_cons, List.not_mem_nil, or_false] at hr
    rcases hr with rfl | rfl | rfl | rfl <;> exact ⟨by decide, by decide⟩
  · rintro e w' ⟨p, q, s, rfl, h1, h2, h3, hb⟩
    rw [ex_a] at h1
    rw [ex_b] at h2
    rw [ex_c] at h3
    obtain ⟨A, c, rfl, -, -⟩ := id h1
    obtain ⟨B, d, rfl, -, -⟩ := id h2
    obtain ⟨C, f, rfl, -, -⟩ := id h3
    exact ⟨A, c, B, d, C, f, rfl, h1, h2, hb⟩
theorem awk_dec0 (W : World) : Calls Tryz.prog 14 #[.string ⟨#[]⟩] W fun e w' => ∃ A B c d, e = .returned (.tuple #[.agg #[.string ⟨#[]⟩, .int .u64 0, .string ⟨#[]⟩, .string ⟨#[]⟩, .int .i64 0, .int .i64 0, .int .i64 0, .slice A 0 c, .slice B 0 d, .int .i64 0, .int .i64 0], .int .i64 6]) ∧ Below W.heap.size W w' := by
  refine (stoDecode ⟨#[]⟩ (by decide) W).mono ?_
  rintro e w' ⟨p, q, rfl, h1, h2, hb⟩
  rw [ex_dec] at h1 h2 ⊢
  obtain ⟨A, c, rfl⟩ := h1.slice
  obtain ⟨B, d, rfl⟩ := h2.slice
  exact ⟨A, B, c, d, rfl, hb⟩
def sE : ByteArray := (encT (rE ⟨#[97]⟩ 1 ⟨#[120]⟩)).1
theorem sE_size : sE.size ≤ maxLen := by
  have h : encT (rE ⟨#[97]⟩ 1 ⟨#[120]⟩) = (mkS (sealL (bodyL (rE ⟨#[97]⟩ 1 ⟨#[120]⟩))), 0) := by unfold encT; rw [if_pos ex_enc]
  unfold sE
  rw [h]
  have := body_len ex_enc
  rw [mkS_size, sealL_len]
  unfold maxLen; omega
theorem awk_enc (W : World) (ht : Tab W) : Calls Tryz.prog 11 #[.agg #[.string ⟨#[116]⟩, .int .u64 1, .string ⟨#[97]⟩, .string ⟨#[120]⟩, .int .i64 0, .int .i64 0, .int .i64 0, .slice none 0 0, .slice none 0 0, .int .i64 0, .int .i64 0]] W fun e w' => e = .returned (.tuple #[.string sE, .int .i64 0]) ∧ Below W.heap.size W w' := by
  refine (stoEncode W (.slice none 0 0) (.slice none 0 0) (rE ⟨#[97]⟩ 1 ⟨#[120]⟩) (Rs.nil _ _ _) (Rs.nil _ _ _) ⟨by decide, by decide, by decide, by decide, ⟨by decide, by decide⟩, ⟨by decide, by decide⟩, ⟨by decide, by decide⟩, ⟨by decide, by decide⟩, ⟨by decide, by decide⟩, ⟨by decide, fun c h => by cases h⟩, by decide, fun c h => by cases h⟩ ht).mono ?_
  rintro e w' ⟨rfl, hb⟩
  rw [ex_enc0]
  exact ⟨rfl, hb⟩
theorem awk_dec (W : World) : Calls Tryz.prog 14 #[.string sE] W fun e w' => ∃ A B c d, e = .returned (.tuple #[.agg #[.string ⟨#[116]⟩, .int .u64 1, .string ⟨#[97]⟩, .string ⟨#[120]⟩, .int .i64 0, .int .i64 0, .int .i64 0, .slice A 0 c, .slice B 0 d, .int .i64 0, .int .i64 0], .int .i64 0]) ∧ Below W.heap.size W w' := by
  refine (stoDecode sE sE_size W).mono ?_
  rintro e w' ⟨p, q, rfl, h1, h2, hb⟩
  have hx : decT sE = (rE ⟨#[97]⟩ 1 ⟨#[120]⟩, 0) := ex_back
  rw [hx] at h1 h2 ⊢
  obtain ⟨A, c, rfl⟩ := h1.slice
  obtain ⟨B, d, rfl⟩ := h2.slice
  exact ⟨A, B, c, d, rfl, hb⟩
theorem nil_rs {W : World} {A : Option Addr} {c : Nat} : Rs ilR W (.slice A 0 c) [] anyB := ⟨A, c, rfl, Nat.zero_le _, fun h => absurd h (by simp)⟩
theorem awk_same (W : World) (A B : Option Addr) (c d : Nat) : Calls Tryz.prog 17 #[.agg #[.string ⟨#[116]⟩, .int .u64 1, .string ⟨#[97]⟩, .string ⟨#[120]⟩, .int .i64 0, .int .i64 0, .int .i64 0, .slice A 0 c, .slice B 0 d, .int .i64 0, .int .i64 0], .agg #[.string ⟨#[116]⟩, .int .u64 1, .string ⟨#[97]⟩, .string ⟨#[120]⟩, .int .i64 0, .int .i64 0, .int .i64 0, .slice none 0 0, .slice none 0 0, .int .i64 0, .int .i64 0]] W fun e w' => e = .returned (.bool true) ∧ Below W.heap.size W w' :=
  refSameR W (.slice A 0 c) (.slice B 0 d) (.slice none 0 0) (.slice none 0 0) (rE ⟨#[97]⟩ 1 ⟨#[120]⟩) nil_rs nil_rs (Rs.nil _ _ _) (Rs.nil _ _ _) ⟨by decide, fun c h => by cases h⟩ ⟨by decide, fun c h => by cases h⟩
theorem awk_texts (W : World) (v : Value) (g : Nat) (s : ByteArray) (h : SL W v [s]) (hx : Box W g #[.string s] 9) : Calls Tryz.prog 8 #[v, .slice (some ⟨g, 0, none⟩) 1 1] W fun e w' => e = .returned (.bool true) ∧ Below W.heap.size W w' :=
  (refSameTexts W v _ [s] h (SL.of_box hx [s] 1 (show 1 ≤ 1 from Nat.le_refl _) rfl) (show 1 ≤ 9223372036854775807 by decide)).mono fun e w' ⟨he, n, hw⟩ => ⟨he, by rw [hw]; exact below_drewN (Below.refl _ _) n⟩

set_option maxRecDepth 100000 in
set_option maxHeartbeats 16000000 in
theorem lawAwake (w : World) (ht : Tab w) : Calls Tryz.prog 10 #[] w fun e w' => e = .returned (.bool true) ∧ Below w.heap.size w w' := by
  have HT := Lib.hid ht
  clear ht
  go_enter Tryz.func10, Tryz.ntmps10
  go_wp2_with fail
  have HB := Lib.hid (Below.refl w.heap.size w)
  refine (awk_res _ 1 _ w).mono ?_; rintro e w1 ⟨rfl, hb⟩
  replace HB := Lib.hid (below_step HB.out hb)
  clear hb
  go_wp2_with fail
  refine (awk_res _ 2 _ w1).mono ?_; rintro e w2 ⟨rfl, hb⟩
  replace HB := Lib.hid (below_step HB.out hb)
  clear hb
  go_wp2_with fail
  refine (awk_res _ 1 _ w2).mono ?_; rintro e w3 ⟨rfl, hb⟩
  replace HB := Lib.hid (below_step HB.out hb)
  clear hb
  go_wp2_with fail
  refine (awk_res _ 2 _ w3).mono ?_; rintro e w4 ⟨rfl, hb⟩
  replace HB := Lib.hid (below_step HB.out hb)
  clear hb
  go_wp2_with fail
  have XL := Lib.hid (box_new (W := w4) (g := w4.heap.size) 28 #[.string ⟨#[116]⟩, .int .u64 1, .string ⟨#[97]⟩, .string ⟨#[120]⟩, .int .i64 0, .int .i64 0, .int .i64 0, .slice none 0 0, .slice none 0 0, .int .i64 0, .int .i64 0, .string ⟨#[116]⟩, .int .u64 2, .string ⟨#[97]⟩, .string ⟨#[]⟩, .int .i64 0, .int .i64 0, .int .i64 0, .slice none 0 0, .slice none 0 0, .int .i64 0, .int .i64 0, .string ⟨#[116]⟩, .int .u64 1, .string ⟨#[98]⟩, .string ⟨#[]⟩, .int .i64 0, .int .i64 0, .int .i64 0, .slice none 0 0, .slice none 0 0, .int .i64 0, .int .i64 0, .string ⟨#[116]⟩, .int .u64 2, .string ⟨#[98]⟩, .string ⟨#[120]⟩, .int .i64 0, .int .i64 0, .int .i64 0, .slice none 0 0, .slice none 0 0, .int .i64 0, .int .i64 0] (by simp))
  have hba := (below_alloc w4 (.cells #[.string ⟨#[116]⟩, .int .u64 1, .string ⟨#[97]⟩, .string ⟨#[120]⟩, .int .i64 0, .int .i64 0, .int .i64 0, .slice none 0 0, .slice none 0 0, .int .i64 0, .int .i64 0, .string ⟨#[116]⟩, .int .u64 2, .string ⟨#[97]⟩, .string ⟨#[]⟩, .int .i64 0, .int .i64 0, .int .i64 0, .slice none 0 0, .slice none 0 0, .int .i64 0, .int .i64 0, .string ⟨#[116]⟩, .int .u64 1, .string ⟨#[98]⟩, .string ⟨#[]⟩, .int .i64 0, .int .i64 0, .int .i64 0, .slice none 0 0, .slice none 0 0, .int .i64 0, .int .i64 0, .string ⟨#[116]⟩, .int .u64 2, .string ⟨#[98]⟩, .string ⟨#[120]⟩, .int .i64 0, .int .i64 0, .int .i64 0, .slice none 0 0, .slice none 0 0, .int .i64 0, .int .i64 0] 28))
  replace HB := Lib.hid (below_step HB.out hba)
  clear hba
  generalize w4.alloc (.cells #[.string ⟨#[116]⟩, .int .u64 1, .string ⟨#[97]⟩, .string ⟨#[120]⟩, .int .i64 0, .int .i64 0, .int .i64 0, .slice none 0 0, .slice none 0 0, .int .i64 0, .int .i64 0, .string ⟨#[116]⟩, .int .u64 2, .string ⟨#[97]⟩, .string ⟨#[]⟩, .int .i64 0, .int .i64 0, .int .i64 0, .slice none 0 0, .slice none 0 0, .int .i64 0, .int .i64 0, .string ⟨#[116]⟩, .int .u64 1, .string ⟨#[98]⟩, .string ⟨#[]⟩, .int .i64 0, .int .i64 0, .int .i64 0, .slice none 0 0, .slice none 0 0, .int .i64 0, .int .i64 0, .string ⟨#[116]⟩, .int .u64 2, .string ⟨#[98]⟩, .string ⟨#[120]⟩, .int .i64 0, .int .i64 0, .int .i64 0, .slice none 0 0, .slice none 0 0, .int .i64 0, .int .i64 0] 28) = w5 at *
  refine (awk_cmp w5 _ (HT.out.below HB.out) XL.out).mono ?_; rintro e w6 ⟨A1, c1, A2, c2, A3, c3, rfl, hs1, hs2, hb⟩
  replace XL := Lib.hid (XL.out.below hb)
  replace HB := Lib.hid (below_step HB.out hb)
  clear hb
  have S1 := Lib.hid hs1
  have S2 := Lib.hid hs2
  clear hs1 hs2 XL
  go_upto_region 2 with fail
  go_wp2_with fail
  refine (awk_dec0 w6).mono ?_; rintro e w7 ⟨A0, B0, c0, d0, rfl, hb⟩
  replace S1 := Lib.hid (S1.out.below hb)
  replace S2 := Lib.hid (S2.out.below hb)
  replace HB := Lib.hid (below_step HB.out hb)
  clear hb
  go_upto_region 3 with fail
  have XZ := Lib.hid (box_new (W := w7) (g := w7.heap.size) 28 #[.string ⟨#[]⟩, .int .u64 0, .string ⟨#[]⟩, .string ⟨#[]⟩, .int .i64 0, .int .i64 0, .int .i64 0, .slice A0 0 c0, .slice B0 0 d0, .int .i64 0, .int .i64 0] (by simp))
  have hba := (below_alloc w7 (.cells #[.string ⟨#[]⟩, .int .u64 0, .string ⟨#[]⟩, .string ⟨#[]⟩, .int .i64 0, .int .i64 0, .int .i64 0, .slice A0 0 c0, .slice B0 0 d0, .int .i64 0, .int .i64 0] 28))
  replace S1 := Lib.hid (S1.out.below hba)
  replace S2 := Lib.hid (S2.out.below hba)
  replace HB := Lib.hid (below_step HB.out hba)
  clear hba
  generalize w7.alloc (.cells #[.string ⟨#[]⟩, .int .u64 0, .string ⟨#[]⟩, .string ⟨#[]⟩, .int .i64 0, .int .i64 0, .int .i64 0, .slice A0 0 c0, .slice B0 0 d0, .int .i64 0, .int .i64 0] 28) = w8 at *
  clear XZ
  go_wp2_with fail
  refine (awk_res _ 1 _ w8).mono ?_; rintro e w9 ⟨rfl, hb⟩
  replace S1 := Lib.hid (S1.out.below hb)
  replace S2 := Lib.hid (S2.out.below hb)
  replace HB := Lib.hid (below_step HB.out hb)
  clear hb
  go_wp2_with fail
  refine (awk_enc w9 (HT.out.below HB.out)).mono ?_; rintro e w10 ⟨rfl, hb⟩
  replace S1 := Lib.hid (S1.out.below hb)
  replace S2 := Lib.hid (S2.out.below hb)
  replace HB := Lib.hid (below_step HB.out hb)
  clear hb
  go_upto_region 4 with fail
  go_wp2_with fail
  refine (awk_dec w10).mono ?_; rintro e w11 ⟨A4, B4, c4, d4, rfl, hb⟩
  replace S1 := Lib.hid (S1.out.below hb)
  replace S2 := Lib.hid (S2.out.below hb)
  replace HB := Lib.hid (below_step HB.out hb)
  clear hb
  go_upto_region 5 with fail
  have XE := Lib.hid (box_new (W := w11) (g := w11.heap.size) 28 #[.string ⟨#[116]⟩, .int .u64 1, .string ⟨#[97]⟩, .string ⟨#[120]⟩, .int .i64 0, .int .i64 0, .int .i64 0, .slice A4 0 c4, .slice B4 0 d4, .int .i64 0, .int .i64 0] (by simp))
  have hba := (below_alloc w11 (.cells #[.string ⟨#[116]⟩, .int .u64 1, .string ⟨#[97]⟩, .string ⟨#[120]⟩, .int .i64 0, .int .i64 0, .int .i64 0, .slice A4 0 c4, .slice B4 0 d4, .int .i64 0, .int .i64 0] 28))
  replace S1 := Lib.hid (S1.out.below hba)
  replace S2 := Lib.hid (S2.out.below hba)
  replace HB := Lib.hid (below_step HB.out hba)
  clear hba
  generalize w11.alloc (.cells #[.string ⟨#[116]⟩, .int .u64 1, .string ⟨#[97]⟩, .string ⟨#[120]⟩, .int .i64 0, .int .i64 0, .int .i64 0, .slice A4 0 c4, .slice B4 0 d4, .int .i64 0, .int .i64 0] 28) = w12 at *
  have HBL := HB
  refine wp_region_gen 30 (Kit.of [fSlice 1 [] w12.heap.size #[.string ⟨#[116, 32, 50]⟩] 9, gVal 2 [1] (.bool true), fSlice 5 [] w12.heap.size #[.string ⟨#[116, 32, 49]⟩] 9, gVal 6 [5] (.bool true), gVal 27 [] (.agg #[.string ⟨#[116]⟩, .int .u64 1, .string ⟨#[97]⟩, .string ⟨#[120]⟩, .int .i64 0, .int .i64 0, .int .i64 0, .slice none 0 0, .slice none 0 0, .int .i64 0, .int .i64 0]), gVal 28 [27] (.bool true)]) (by kernel_rfl) (by kernel_rfl) (fun γ => by kernel_rfl) (by kernel_rfl) (Kit.of_stable ?_) (Kit.of_known ?_) ?_
  · intro z hz; simp only [List.mem_cons, List.not_mem_nil, or_false] at hz; rcases hz with rfl | rfl | rfl | rfl | rfl | rfl
    · apply fSlice_st
    · apply gVal_st
    · apply fSlice_st
    · apply gVal_st
    · apply gVal_st
    · apply gVal_st
  · intro z hz; simp only [List.mem_cons, List.not_mem_nil, or_false] at hz; rcases hz with rfl | rfl | rfl | rfl | rfl | rfl
    · apply fSlice_kn
    · apply gVal_kn
    · apply fSlice_kn
    · apply gVal_kn
    · apply gVal_kn
    · apply gVal_kn
  intro γ hγ C hC hne
  obtain ⟨g1, k1⟩ : ∃ g, γ 1 = .slice (some ⟨g, 0, none⟩) 1 1 := hγ 1 rfl
  have k2 : γ 2 = .bool true := hγ 2 rfl
  obtain ⟨g5, k5⟩ : ∃ g, γ 5 = .slice (some ⟨g, 0, none⟩) 1 1 := hγ 5 rfl
  have k6 : γ 6 = .bool true := hγ 6 rfl
  have k27 : γ 27 = .agg #[.string ⟨#[116]⟩, .int .u64 1, .string ⟨#[97]⟩, .string ⟨#[120]⟩, .int .i64 0, .int .i64 0, .int .i64 0, .slice none 0 0, .slice none 0 0, .int .i64 0, .int .i64 0] := hγ 27 rfl
  have k28 : γ 28 = .bool true := hγ 28 rfl
  have a0 := XE.out.latC (C := C) 0 _ rfl
  have a1 := XE.out.latC (C := C) 1 _ rfl
  have a2 := XE.out.latC (C := C) 2 _ rfl
  have a3 := XE.out.latC (C := C) 3 _ rfl
  have a4 := XE.out.latC (C := C) 4 _ rfl
  have a5 := XE.out.latC (C := C) 5 _ rfl
  have a6 := XE.out.latC (C := C) 6 _ rfl
  have a7 := XE.out.latC (C := C) 7 _ rfl
  have a8 := XE.out.latC (C := C) 8 _ rfl
  have a9 := XE.out.latC (C := C) 9 _ rfl
  have a10 := XE.out.latC (C := C) 10 _ rfl
  simp only [List.take_succ_cons, List.take_zero, List.drop_succ_cons, List.drop_zero]
  iterate 1 (refine wpF_quiet rfl ?_; go_big_quiet_step (fail); refine wpQuiet_nil ?_)
  refine wpF_fresh rfl (freshAt_slice rfl (fun w => by kernel_rfl) (fun w' g hg hx => ⟨g, rfl, hx, hg⟩)) ?_
  simp only [Nat.zero_add, Nat.reduceAdd, k1]
  go_simp
  refine wpF_fresh rfl (freshAt_call (args := #[.slice A1 1 c1, .slice (some ⟨g1, 0, none⟩) 1 1]) rfl _ _ _ (run_go Tryz.func8 (by kernel_rfl) (by kernel_rfl)) rfl (by simp [Act.eval]) (fun w' hb hf => (awk_texts w' _ g1 _ (S1.out.below hb) (slice_at k1 (hf 1 (show 1 ∈ [1] by decide))).1).mono fun e w2 ⟨he, h1⟩ => ⟨_, he, rfl, h1⟩)) ?_
  simp only [Nat.zero_add, Nat.reduceAdd, k2]
  go_simp
  iterate 2 (refine wpF_quiet rfl ?_; go_big_quiet_step (fail); refine wpQuiet_nil ?_)
  refine wpF_freshG rfl (freshA_slice (by kernel_rfl) (fun w => by kernel_rfl) (fun w' g hg hx => ⟨g, rfl, hx, hg⟩)) ?_
  simp only [Nat.zero_add, Nat.reduceAdd, k5]
  go_simp
  refine wpF_freshG rfl (freshA_call (args := #[.slice A2 1 c2, .slice (some ⟨g5, 0, none⟩) 1 1]) (by kernel_rfl) _ _ _ (run_go Tryz.func8 (by kernel_rfl) (by kernel_rfl)) rfl (by simp [Act.eval]) (fun w' hb hf => (awk_texts w' _ g5 _ (S2.out.below hb) (slice_at k5 (hf 5 (show 5 ∈ [5] by decide))).1).mono fun e w2 ⟨he, h1⟩ => ⟨_, he, rfl, h1⟩)) ?_
  simp only [Nat.zero_add, Nat.reduceAdd, k6]
  go_simp
  iterate 20 (refine wpF_quiet rfl ?_; go_big_quiet_step (fail); refine wpQuiet_nil ?_)
  refine wpF_freshG rfl (freshA_call (args := #[.string ⟨#[97]⟩, .int .u64 1, .string ⟨#[120]⟩]) (by kernel_rfl) _ _ _ (run_go Tryz.func19 (by kernel_rfl) (by kernel_rfl)) rfl (by simp [Act.eval]) (fun w' hb hf => (awk_res _ 1 _ w').mono fun e w2 ⟨he, h1⟩ => ⟨_, he, rfl, h1⟩)) ?_
  simp only [Nat.zero_add, Nat.reduceAdd, k27]
  go_simp
  refine wpF_freshG rfl (freshA_call (args := #[.agg #[.string ⟨#[116]⟩, .int .u64 1, .string ⟨#[97]⟩, .string ⟨#[120]⟩, .int .i64 0, .int .i64 0, .int .i64 0, .slice A4 0 c4, .slice B4 0 d4, .int .i64 0, .int .i64 0], .agg #[.string ⟨#[116]⟩, .int .u64 1, .string ⟨#[97]⟩, .string ⟨#[120]⟩, .int .i64 0, .int .i64 0, .int .i64 0, .slice none 0 0, .slice none 0 0, .int .i64 0, .int .i64 0]]) (by kernel_rfl) _ _ _ (run_go Tryz.func17 (by kernel_rfl) (by kernel_rfl)) rfl (by simp [Act.eval]) (fun w' hb hf => (awk_same w' _ _ _ _).mono fun e w2 ⟨he, h1⟩ => ⟨_, he, rfl, h1⟩)) ?_
  simp only [Nat.zero_add, Nat.reduceAdd, k28]
  go_simp
  iterate 1 (refine wpF_quiet rfl ?_; go_big_quiet_step (fail); refine wpQuiet_nil ?_)
  intro w14 hb hF
  clear hF hγ hC hne k1 k2 k5 k6 k27 k28 HBL a0 a1 a2 a3 a4 a5 a6 a7 a8 a9 a10
  replace HB := Lib.hid (below_step HB.out hb)
  clear hb
  go_wp2_with fail
  go_ret
  exact ⟨rfl, HB.out⟩

end Go.Proofs.YtbgficaboolgiaaGreatDoor
