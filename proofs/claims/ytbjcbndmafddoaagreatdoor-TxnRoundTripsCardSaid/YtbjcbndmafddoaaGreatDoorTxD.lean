/-
  Texts parted at a byte: strings.Split, and the reference's Parts.
  Contract of a pair's text: the reference's one.
  Contract of txn.Parse.
  Contract of the reference's Parse.
-/
import Derived.Test.YtbjcbndmafddoaaGreatDoorTxC
import Derived.Lib.SplitLaws
import Derived.Lib.CountLaws
import Derived.Test.YtbjcbndmafddoaaGreatDoorDec
namespace Go.Proofs.YtbjcbndmafddoaaGreatDoor
section
open Go.RowKit
set_option linter.unusedVariables false
set_option linter.unusedSimpArgs false

def mkB (l : List UInt8) : ByteArray := ⟨l.toArray⟩
/-- The parts of a text. -/
def words (b : UInt8) (s : ByteArray) : List ByteArray := (partsL b s.data.toList).map mkB
theorem words_ne (b : UInt8) (s : ByteArray) : words b s ≠ [] := by
  unfold words; simp [partsL_ne]
theorem words_cut {b : UInt8} {s : ByteArray} (h : hasB b s = true) : words b s = preB b s :: words b (posB b s) := by
  unfold words
  have hp := ix_parts s.data.toList (of_decide_eq_true h)
  conv => lhs; rw [hp]
  rw [partsL_cut b _ _ (ix_take_ne _)]
  rfl
theorem words_no {b : UInt8} {s : ByteArray} (h : hasB b s = false) : words b s = [s] := by
  unfold words
  have h2 := of_decide_eq_false h
  have h3 := ix_le (b := b) s.data.toList
  have hx : ix b s.data.toList = s.data.toList.length := by omega
  rw [partsL_no b _ fun x hx2 => ?_]
  · simp only [List.map_cons, List.map_nil]; congr 1
  · have := ix_take_ne (b := b) s.data.toList
    rw [hx, List.take_length] at this
    exact this x hx2
theorem split_words (b : UInt8) : ∀ (n : Nat) (s : ByteArray), s.size ≤ n → Lib.splitB ⟨#[b]⟩ 0 (Lib.countB s ⟨#[b]⟩) s = words b s := by
  intro n
  induction n with
  | zero =>
    intro s hs
    have hh : hasB b s = false := by
      unfold hasB
      have := ix_le (b := b) s.data.toList
      rw [Lib.size_eq] at hs
      exact decide_eq_false (by omega)
    have hi : Lib.indexB s ⟨#[b]⟩ = -1 := by
      show Lib.index s.data.toList [b] = -1
      rw [index_ix, if_neg (of_decide_eq_false hh)]
    rw [Lib.splitB_miss _ _ _ _ hi, words_no hh]
  | succ n ih =>
    intro s hs
    cases hh : hasB b s
    · have hi : Lib.indexB s ⟨#[b]⟩ = -1 := by
        show Lib.index s.data.toList [b] = -1
        rw [index_ix, if_neg (of_decide_eq_false hh)]
      rw [Lib.splitB_miss _ _ _ _ hi, words_no hh]
    · have hlt := of_decide_eq_true hh
      have hi : Lib.indexB s ⟨#[b]⟩ = (ix b s.data.toList : Int) := by
        show Lib.index s.data.toList [b] = _
        rw [index_ix, if_pos hlt]
      have e : s.extract (ix b s.data.toList + 1) s.size = posB b s := ba_eq (by unfold posB; rw [Lib.extract_to_end])
      rw [Lib.countB_hit s ⟨#[b]⟩ _ (Nat.le_refl 1) hi, Nat.add_comm 1, Lib.splitB_hit _ _ _ _ _ hi]
      rw [show (⟨#[b]⟩ : ByteArray).size = 1 from rfl, e, Nat.add_zero, preB_extract, words_cut hh, ih _ (by rw [posB_size]; omega)]
theorem words_len (b : UInt8) (s : ByteArray) : (words b s).length = Lib.countB s ⟨#[b]⟩ + 1 := by
  rw [← split_words b s.size s (Nat.le_refl _)]
  exact Lib.splitB_all ⟨#[b]⟩ (Nat.le_refl 1) _ _ _ rfl
theorem words_le (b : UInt8) (s : ByteArray) : (words b s).length ≤ s.size + 1 := by
  rw [words_len]
  have := Lib.countB_le ⟨#[b]⟩ (Nat.le_refl 1) s.size s (Nat.le_refl _)
  omega
theorem words_size (b : UInt8) : ∀ (n : Nat) (s : ByteArray), s.size ≤ n → ∀ p ∈ words b s, p.size ≤ s.size := by
  intro n
  induction n with
  | zero =>
    intro s hs p hp
    have hh : hasB b s = false := by
      unfold hasB
      have := ix_le (b := b) s.data.toList
      rw [Lib.size_eq] at hs
      exact decide_eq_false (by omega)
    rw [words_no hh] at hp
    rw [List.mem_singleton.1 hp]; exact Nat.le_refl _
  | succ n ih =>
    intro s hs p hp
    cases hh : hasB b s
    · rw [words_no hh] at hp
      rw [List.mem_singleton.1 hp]; exact Nat.le_refl _
    · have hlt := of_decide_eq_true hh
      rw [words_cut hh] at hp
      rcases List.mem_cons.1 hp with rfl | hp
      · rw [preB_size, Lib.size_eq]; omega
      · have h1 := posB_size b s
        have := ih _ (by omega) p hp
        omega

theorem strSplit (b : UInt8) (s : ByteArray) (w : World) (hs : s.size ≤ 2000000) (h : MLen w) :
    Calls Tryz.prog 30 #[.string s, .string ⟨#[b]⟩] w fun e w' => ∃ v, e = .returned v ∧ (SL w' v (words b s) ∧ Below w.heap.size w w') := by
  obtain ⟨m, hm⟩ := h
  refine (Tryz.strings_Split s ⟨#[b]⟩ m w (by omega) hm (Nat.le_refl 1)).mono fun e w' ⟨he, hw⟩ => ⟨_, he, ?_, ?_⟩
  · rw [hw, split_words b s.size s (Nat.le_refl _), ← words_len]
    exact SL.of_box (Box.new _ _ _) _ _ (Nat.le_refl _) (by simp [scells])
  · rw [hw]; exact below_alloc _ _

/-! The reference's Parts. -/
theorem words_seg {b : UInt8} {s : ByteArray} {f k : Nat} (hf : f ≤ k) (hk : k < s.size) (hn : ∀ j, f ≤ j → j < k → byt s j ≠ b.toNat) (hb : byt s k = b.toNat) :
    words b (mkB (s.data.toList.drop f)) = s.extract f k :: words b (mkB (s.data.toList.drop (k + 1))) := by
  have hlen : s.data.toList.length = s.size := (Lib.size_eq s).symm
  have e1 : s.data.toList.drop f = (s.extract f k).data.toList ++ b :: s.data.toList.drop (k + 1) := by
    rw [Lib.extract_data]
    have e2 := List.take_append_drop (k - f) (s.data.toList.drop f)
    rw [List.drop_drop, show f + (k - f) = k by omega] at e2
    have e3 : s.data.toList.drop k = b :: s.data.toList.drop (k + 1) := by
      rw [List.drop_eq_getElem_cons (by omega)]
      congr 1
      unfold byt at hb
      rw [List.getD_eq_getElem?_getD, List.getElem?_eq_getElem (by omega)] at hb
      simp only [Option.getD_some] at hb
      exact UInt8.toNat_inj.1 (by omega)
    rw [← e3, e2]
  have hno : ∀ x ∈ (s.extract f k).data.toList, x ≠ b := by
    intro x hx e
    rw [Lib.extract_data] at hx
    obtain ⟨j, hj, rfl⟩ := List.mem_iff_getElem.1 hx
    rw [List.length_take, List.length_drop] at hj
    have := hn (f + j) (by omega) (by omega)
    apply this
    unfold byt
    rw [List.getElem_take, List.getElem_drop] at e
    rw [List.getD_eq_getElem?_getD, List.getElem?_eq_getElem (by omega)]
    simp only [Option.getD_some]
    rw [e]
  unfold words
  show (partsL b (s.data.toList.drop f)).map mkB = _
  rw [e1, partsL_cut b _ _ hno, List.map_cons]
  rfl
theorem words_last {b : UInt8} {s : ByteArray} {f : Nat} (hf : f ≤ s.size) (hn : ∀ j, f ≤ j → j < s.size → byt s j ≠ b.toNat) :
    words b (mkB (s.data.toList.drop f)) = [s.extract f s.size] := by
  have hlen : s.data.toList.length = s.size := (Lib.size_eq s).symm
  have hno : ∀ x ∈ s.data.toList.drop f, x ≠ b := by
    intro x hx e
    obtain ⟨j, hj, rfl⟩ := List.mem_iff_getElem.1 hx
    rw [List.length_drop] at hj
    apply hn (f + j) (by omega) (by omega)
    unfold byt
    rw [List.getElem_drop] at e
    rw [List.getD_eq_getElem?_getD, List.getElem?_eq_getElem (by omega)]
    simp only [Option.getD_some]
    rw [e]
  unfold words
  show (partsL b (s.data.toList.drop f)).map mkB = _
  rw [partsL_no b _ hno, List.map_cons, List.map_nil]
  congr 1
  refine ba_eq ?_
  rw [Lib.extract_to_end]; rfl
end

section
section
open Go.RowKit
set_option linter.unusedVariables false
set_option linter.unusedSimpArgs false

/-- What a pair's text denotes: the name, the value, the error. -/
noncomputable def partT (s : ByteArray) : ByteArray × Int × Int :=
  if hasB 61 s = false ∨ varB (preB 61 s) = false then (⟨#[]⟩, 0, 5) else if parE (posB 61 s) ≠ 0 then (⟨#[]⟩, 0, parE (posB 61 s)) else if wordB (parV (posB 61 s)) = false then (⟨#[]⟩, 0, 3) else (preB 61 s, parV (posB 61 s), 0)
theorem part_ways (s : ByteArray) : (hasB 61 s = false ∧ partT s = (⟨#[]⟩, 0, 5)) ∨ (hasB 61 s = true ∧ varB (preB 61 s) = false ∧ partT s = (⟨#[]⟩, 0, 5)) ∨ (hasB 61 s = true ∧ varB (preB 61 s) = true ∧ parE (posB 61 s) ≠ 0 ∧ partT s = (⟨#[]⟩, 0, parE (posB 61 s))) ∨
    (hasB 61 s = true ∧ varB (preB 61 s) = true ∧ parE (posB 61 s) = 0 ∧ wordB (parV (posB 61 s)) = false ∧ partT s = (⟨#[]⟩, 0, 3)) ∨ (hasB 61 s = true ∧ varB (preB 61 s) = true ∧ parE (posB 61 s) = 0 ∧ wordB (parV (posB 61 s)) = true ∧ partT s = (preB 61 s, parV (posB 61 s), 0)) := by
  unfold partT
  cases h1 : hasB 61 s <;> cases h2 : varB (preB 61 s) <;> simp
  by_cases h3 : parE (posB 61 s) = 0
  · right; cases h4 : wordB (parV (posB 61 s)) <;> simp [h3]
  · left; simp [h3]
def ret3s (r : ByteArray × Int × Int) : Ending := .returned (.tuple #[.string r.1, .int .i64 r.2.1, .int .i64 r.2.2])
def ret3p (r : ByteArray × Int × Int) : Ending := .returned (.tuple #[.agg #[.string r.1, .int .i64 r.2.1], .int .i64 r.2.2])

set_option maxRecDepth 100000 in
set_option maxHeartbeats 8000000 in
theorem txnPart (s : ByteArray) (w : World) (hs : s.size ≤ 2000000) (hk : KW w) (hm : MLen w) :
    Calls Tryz.prog 31 #[.string s] w fun e w' => e = ret3p (partT s) ∧ Below w.heap.size w w' := by
  have HK := Lib.hid hk
  have HM := Lib.hid hm
  have C0 := Lib.hid (fun w h => cutAt 61 s w hs h)
  have hps := preB_size 61 s
  have hqs := posB_size 61 s
  have hle := ix_le (b := 61) s.data.toList
  rw [← Lib.size_eq] at hle
  have C1 := Lib.hid (fun w h h' => txnIsVar (preB 61 s) w (by omega) h h')
  have C2 := Lib.hid (fun w => numParse (posB 61 s) w (by unfold maxLen; omega))
  have C3 := Lib.hid (fun w => txnIsWord (parV (posB 61 s)) w)
  have hw := part_ways s
  generalize partT s = r at *
  generalize hasB 61 s = hb0 at *
  generalize varB (preB 61 s) = vb at *
  generalize parE (posB 61 s) = pe at *
  generalize wordB (parV (posB 61 s)) = wb at *
  generalize parV (posB 61 s) = pv at *
  generalize preB 61 s = ps at *
  generalize posB 61 s = qs at *
  clear hps hqs hle hk hm
  rcases hw with ⟨rfl, hr⟩ | ⟨rfl, rfl, hr⟩ | ⟨rfl, rfl, he, hr⟩ | ⟨rfl, rfl, rfl, rfl, hr⟩ | ⟨rfl, rfl, rfl, rfl, hr⟩
  · have HR := Lib.hid hr
    clear hr
    go_enter Tryz.func31, Tryz.ntmps31
    go_wp2_with fail
    have XR := Lib.hid (box_new (W := w) (g := w.heap.size) 42 #[.string ⟨#[]⟩, .int .i64 0] (by simp))
    have HB := Lib.hid (below_alloc w (.cells #[.string ⟨#[]⟩, .int .i64 0] 42))
    generalize w.alloc (.cells #[.string ⟨#[]⟩, .int .i64 0] 42) = w0 at *
    refine (C0.out _ (HM.out.below HB.out)).mono ?_; rintro e w1 ⟨rfl, hb⟩
    replace XR := Lib.hid (XR.out.below hb)
    replace HB := Lib.hid (below_step HB.out hb)
    clear hb
    have XR_0 := XR.out.at_ 0 _ rfl
    have XR_1 := XR.out.at_ 1 _ rfl
    have XR_z0 := XR.out.frozen 0
    have XR_z1 := XR.out.frozen 1
    go_wp2_with fail
    refine bodyPost_ret (v := .tuple #[.agg #[.string ⟨#[]⟩, .int .i64 0], .int .i64 5]) (by simp [results, Tryz.results31, go_sem, XR_0, XR_1]) rfl ⟨by rw [HR.out]; rfl, ?_⟩
    exact (HB.out.setCell (p := ⟨w.heap.size, 0, none⟩) (Nat.le_refl _) _).setCell (p := ⟨w.heap.size, 1, none⟩) (Nat.le_refl _) _
  · have HR := Lib.hid hr
    clear hr
    go_enter Tryz.func31, Tryz.ntmps31
    go_wp2_with fail
    have XR := Lib.hid (box_new (W := w) (g := w.heap.size) 42 #[.string ⟨#[]⟩, .int .i64 0] (by simp))
    have HB := Lib.hid (below_alloc w (.cells #[.string ⟨#[]⟩, .int .i64 0] 42))
    generalize w.alloc (.cells #[.string ⟨#[]⟩, .int .i64 0] 42) = w0 at *
    refine (C0.out _ (HM.out.below HB.out)).mono ?_; rintro e w1 ⟨rfl, hb⟩
    replace XR := Lib.hid (XR.out.below hb)
    replace HB := Lib.hid (below_step HB.out hb)
    clear hb
    go_wp2_with fail
    refine (C1.out _ (HK.out.below HB.out) (HM.out.below HB.out)).mono ?_; rintro e w2 ⟨rfl, hb⟩
    replace XR := Lib.hid (XR.out.below hb)
    replace HB := Lib.hid (below_step HB.out hb)
    clear hb
    have XR_0 := XR.out.at_ 0 _ rfl
    have XR_1 := XR.out.at_ 1 _ rfl
    have XR_z0 := XR.out.frozen 0
    have XR_z1 := XR.out.frozen 1
    go_wp2_with fail
    refine bodyPost_ret (v := .tuple #[.agg #[.string ⟨#[]⟩, .int .i64 0], .int .i64 5]) (by simp [results, Tryz.results31, go_sem, XR_0, XR_1]) rfl ⟨by rw [HR.out]; rfl, ?_⟩
    exact (HB.out.setCell (p := ⟨w.heap.size, 0, none⟩) (Nat.le_refl _) _).setCell (p := ⟨w.heap.size, 1, none⟩) (Nat.le_refl _) _
  · have HR := Lib.hid hr
    have f1 : (pe != 0) = true := by simpa using he
    clear hr he
    go_enter Tryz.func31, Tryz.ntmps31
    go_wp2_with fail
    have XR := Lib.hid (box_new (W := w) (g := w.heap.size) 42 #[.string ⟨#[]⟩, .int .i64 0] (by simp))
    have HB := Lib.hid (below_alloc w (.cells #[.string ⟨#[]⟩, .int .i64 0] 42))
    generalize w.alloc (.cells #[.string ⟨#[]⟩, .int .i64 0] 42) = w0 at *
    refine (C0.out _ (HM.out.below HB.out)).mono ?_; rintro e w1 ⟨rfl, hb⟩
    replace XR := Lib.hid (XR.out.below hb)
    replace HB := Lib.hid (below_step HB.out hb)
    clear hb
    go_wp2_with fail
    refine (C1.out _ (HK.out.below HB.out) (HM.out.below HB.out)).mono ?_; rintro e w2 ⟨rfl, hb⟩
    replace XR := Lib.hid (XR.out.below hb)
    replace HB := Lib.hid (below_step HB.out hb)
    clear hb
    go_wp2_with fail
    refine (C2.out _).mono ?_; rintro e w3 ⟨rfl, hb⟩
    replace XR := Lib.hid (XR.out.below hb)
    replace HB := Lib.hid (below_step HB.out hb)
    clear hb
    have XR_0 := XR.out.at_ 0 _ rfl
    have XR_1 := XR.out.at_ 1 _ rfl
    have XR_z0 := XR.out.frozen 0
    have XR_z1 := XR.out.frozen 1
    go_wp2_with fail
    refine bodyPost_ret (v := .tuple #[.agg #[.string ⟨#[]⟩, .int .i64 0], .int .i64 pe]) (by simp [results, Tryz.results31, go_sem, XR_0, XR_1]) rfl ⟨by rw [HR.out]; rfl, ?_⟩
    exact (HB.out.setCell (p := ⟨w.heap.size, 0, none⟩) (Nat.le_refl _) _).setCell (p := ⟨w.heap.size, 1, none⟩) (Nat.le_refl _) _
  · have HR := Lib.hid hr
    clear hr
    go_enter Tryz.func31, Tryz.ntmps31
    go_wp2_with fail
    have XR := Lib.hid (box_new (W := w) (g := w.heap.size) 42 #[.string ⟨#[]⟩, .int .i64 0] (by simp))
    have HB := Lib.hid (below_alloc w (.cells #[.string ⟨#[]⟩, .int .i64 0] 42))
    generalize w.alloc (.cells #[.string ⟨#[]⟩, .int .i64 0] 42) = w0 at *
    refine (C0.out _ (HM.out.below HB.out)).mono ?_; rintro e w1 ⟨rfl, hb⟩
    replace XR := Lib.hid (XR.out.below hb)
    replace HB := Lib.hid (below_step HB.out hb)
    clear hb
    go_wp2_with fail
    refine (C1.out _ (HK.out.below HB.out) (HM.out.below HB.out)).mono ?_; rintro e w2 ⟨rfl, hb⟩
    replace XR := Lib.hid (XR.out.below hb)
    replace HB := Lib.hid (below_step HB.out hb)
    clear hb
    go_wp2_with fail
    refine (C2.out _).mono ?_; rintro e w3 ⟨rfl, hb⟩
    replace XR := Lib.hid (XR.out.below hb)
    replace HB := Lib.hid (below_step HB.out hb)
    clear hb
    go_wp2_with fail
    refine (C3.out _).mono ?_; rintro e w' ⟨rfl, rfl⟩
    have XR_0 := XR.out.at_ 0 _ rfl
    have XR_1 := XR.out.at_ 1 _ rfl
    have XR_z0 := XR.out.frozen 0
    have XR_z1 := XR.out.frozen 1
    go_wp2_with fail
    refine bodyPost_ret (v := .tuple #[.agg #[.string ⟨#[]⟩, .int .i64 0], .int .i64 3]) (by simp [results, Tryz.results31, go_sem, XR_0, XR_1]) rfl ⟨by rw [HR.out]; rfl, ?_⟩
    exact (HB.out.setCell (p := ⟨w.heap.size, 0, none⟩) (Nat.le_refl _) _).setCell (p := ⟨w.heap.size, 1, none⟩) (Nat.le_refl _) _
  · have HR := Lib.hid hr
    clear hr
    go_enter Tryz.func31, Tryz.ntmps31
    go_wp2_with fail
    have XR := Lib.hid (box_new (W := w) (g := w.heap.size) 42 #[.string ⟨#[]⟩, .int .i64 0] (by simp))
    have HB := Lib.hid (below_alloc w (.cells #[.string ⟨#[]⟩, .int .i64 0] 42))
    generalize w.alloc (.cells #[.string ⟨#[]⟩, .int .i64 0] 42) = w0 at *
    refine (C0.out _ (HM.out.below HB.out)).mono ?_; rintro e w1 ⟨rfl, hb⟩
    replace XR := Lib.hid (XR.out.below hb)
    replace HB := Lib.hid (below_step HB.out hb)
    clear hb
    go_wp2_with fail
    refine (C1.out _ (HK.out.below HB.out) (HM.out.below HB.out)).mono ?_; rintro e w2 ⟨rfl, hb⟩
    replace XR := Lib.hid (XR.out.below hb)
    replace HB := Lib.hid (below_step HB.out hb)
    clear hb
    go_wp2_with fail
    refine (C2.out _).mono ?_; rintro e w3 ⟨rfl, hb⟩
    replace XR := Lib.hid (XR.out.below hb)
    replace HB := Lib.hid (below_step HB.out hb)
    clear hb
    go_wp2_with fail
    refine (C3.out _).mono ?_; rintro e w' ⟨rfl, rfl⟩
    have XR_0 := XR.out.at_ 0 _ rfl
    have XR_1 := XR.out.at_ 1 _ rfl
    have XR_z0 := XR.out.frozen 0
    have XR_z1 := XR.out.frozen 1
    go_wp2_with fail
    refine bodyPost_ret (v := .tuple #[.agg #[.string ps, .int .i64 pv], .int .i64 0]) (by simp [results, Tryz.results31, go_sem, XR_0, XR_1]) rfl ⟨by rw [HR.out]; rfl, ?_⟩
    exact (HB.out.setCell (p := ⟨w.heap.size, 0, none⟩) (Nat.le_refl _) _).setCell (p := ⟨w.heap.size, 1, none⟩) (Nat.le_refl _) _

end
open Go.RowKit
set_option linter.unusedVariables false
set_option linter.unusedSimpArgs false

/-! The reference's one. -/
theorem parE_bad {d : ByteArray} (h : hasB 61 d = true) : parE d = 5 := by
  have hlt := of_decide_eq_true h
  have hbad : badForm d := by
    right; left
    intro hd
    -- the sign stands in the body
    have hx := byt_ix h
    have hsz : d.data.toList.length = d.size := (Lib.size_eq d).symm
    unfold body at hd
    by_cases hn : isNeg d = true
    · rw [if_pos hn] at hd
      unfold isNeg at hn
      have hn2 := of_decide_eq_true hn
      have hi : ix 61 d.data.toList ≠ 0 := fun h0 => by rw [h0] at hx; have := hn2.2; rw [hx] at this; simp at this
      have hs1 : (d.extract 1 d.size).size = d.size - 1 := by rw [Lib.size_eq, Lib.extract_data]; simp only [List.length_take, List.length_drop]; omega
      have := hd (ix 61 d.data.toList - 1) (by rw [hs1]; omega)
      have e : byt (d.extract 1 d.size) (ix 61 d.data.toList - 1) = byt d (ix 61 d.data.toList) := by
        unfold byt
        rw [Lib.extract_to_end, List.getD_eq_getElem?_getD, List.getElem?_drop, ← List.getD_eq_getElem?_getD, show 1 + (ix 61 d.data.toList - 1) = ix 61 d.data.toList by omega]
      rw [e, hx] at this
      simp at this
    · rw [if_neg hn] at hd
      have := hd (ix 61 d.data.toList) (by omega)
      rw [hx] at this
      simp at this
  unfold parE; rw [if_pos hbad]
end

section
section
open Go.RowKit
set_option linter.unusedVariables false
set_option linter.unusedSimpArgs false

theorem iint : (Tryz.prog.info? 3).map (fun i => (i.zero, i.size, i.bytes)) = some (some (.int .i64 0), 1, 8) := by kernel_rfl
noncomputable def prsRun : List ByteArray → List ByteArray → List Int → List ByteArray × List Int × Int
  | [], ns, zs => (ns, zs, 0)
  | x :: l, ns, zs => if (partT x).2.2 ≠ 0 then ([], [], (partT x).2.2) else if Lib.containsS ns (partT x).1 = true then ([], [], 8) else prsRun l (ns ++ [(partT x).1]) (zs ++ [(partT x).2.1])
theorem prs_nil (ns : List ByteArray) (zs : List Int) : prsRun [] ns zs = (ns, zs, 0) := rfl
theorem prs_bad {x : ByteArray} {l ns : List ByteArray} {zs : List Int} (h : (partT x).2.2 ≠ 0) : prsRun (x :: l) ns zs = ([], [], (partT x).2.2) := by simp only [prsRun]; rw [if_pos h]
theorem prs_dup {x : ByteArray} {l ns : List ByteArray} {zs : List Int} (h : (partT x).2.2 = 0) (h2 : Lib.containsS ns (partT x).1 = true) : prsRun (x :: l) ns zs = ([], [], 8) := by simp only [prsRun]; rw [if_neg (by simp [h]), if_pos h2]
theorem prs_go {x : ByteArray} {l ns : List ByteArray} {zs : List Int} (h : (partT x).2.2 = 0) (h2 : Lib.containsS ns (partT x).1 = false) : prsRun (x :: l) ns zs = prsRun l (ns ++ [(partT x).1]) (zs ++ [(partT x).2.1]) := by
  conv => lhs; rw [prsRun]
  rw [if_neg (by simp [h]), if_neg (by simp [h2])]
/-- What Parse denotes: names, values, error. -/
noncomputable def parseT (s : ByteArray) : List ByteArray × List Int × Int :=
  if s.size = 0 then ([], [], 0) else if (prsRun (words 32 s) [] []).2.2 = 0 ∧ 128 < (prsRun (words 32 s) [] []).1.length then ([], [], 2) else prsRun (words 32 s) [] []

/-! Rows and boxes of other types stay as they are when a row grows. -/
theorem rows_apart {w : World} {b1 b2 s1 s2 n1 n2 : Nat} {e1 e2 : TypeId} {v1 v2 : Value} {x1 x2 : List Value} (h1 : w.ownsRow b1 e1 s1 v1 n1 x1) (h2 : w.ownsRow b2 e2 s2 v2 n2 x2) (he : e1 ≠ e2) : v1.ownBlock = none ∨ v1.ownBlock ≠ v2.ownBlock := by
  rcases h1.2 with ⟨rfl, _⟩ | ⟨g, cap, cur, rfl, hg, hh, _⟩
  · left; simp [Value.ownBlock]
  · right
    rcases h2.2 with ⟨rfl, _⟩ | ⟨g2, cap2, cur2, rfl, _, hh2, _⟩
    · simp [Value.ownBlock]
    · intro h
      simp [Value.ownBlock] at h
      subst h
      rw [hh] at hh2
      simp only [Option.some.injEq, Obj.cells.injEq] at hh2
      exact he hh2.2.1
theorem box_apart {w : World} {g b s n : Nat} {t e : TypeId} {cs : Array Value} {v : Value} {xs : List Value} (hb : Box w g cs t) (h : w.ownsRow b e s v n xs) (he : t ≠ e) : some g ≠ v.ownBlock := by
  rcases h.2 with ⟨rfl, _⟩ | ⟨g2, cap, cur, rfl, hg, hh, _⟩
  · simp [Value.ownBlock]
  · intro h
    simp [Value.ownBlock] at h
    subst h
    unfold Box at hb
    rw [hb] at hh
    simp only [Option.some.injEq, Obj.cells.injEq] at hh
    exact he hh.2.1
theorem Box.keptT {w w3 : World} {g b s n : Nat} {t e : TypeId} {cs : Array Value} {v : Value} {xs : List Value} {o : Obj} (hb : Box w g cs t) (h : w.ownsRow b e s v n xs) (he : t ≠ e) (hg : (w.alloc o).grownBy w3 v.ownBlock) : Box w3 g cs t :=
  (hb.below (below_alloc _ _)).grownR hg (fun hq => box_apart hb h he hq.symm)
theorem Box.keptB {w w3 : World} {g b s n : Nat} {t e : TypeId} {cs : Array Value} {v : Value} {xs : List Value} {o : Obj} (hb : Box w g cs t) (h : w.ownsRow b e s v n xs) (hlt : g < b) (hg : (w.alloc o).grownBy w3 v.ownBlock) : Box w3 g cs t := hb.grownO h hlt hg
theorem own_keptT {w w3 : World} {b1 b2 s1 s2 n1 n2 : Nat} {e1 e2 : TypeId} {v1 v2 : Value} {x1 x2 : List Value} {o : Obj} (h1 : w.ownsRow b1 e1 s1 v1 n1 x1) (h2 : w.ownsRow b2 e2 s2 v2 n2 x2) (he : e1 ≠ e2) (hg : (w.alloc o).grownBy w3 v2.ownBlock) : w3.ownsRow b1 e1 s1 v1 n1 x1 :=
  (h1.alloc o).kept hg (rows_apart h1 h2 he)
theorem own_keptM {w w3 : World} {m b s n : Nat} {e : TypeId} {v : Value} {xs : List Value} (h : w.ownsRow b e s v n xs) (hm : m < b) (hg : w.grownBy w3 (some m)) : w3.ownsRow b e s v n xs :=
  h.kept hg (.inr fun he => by have := own_block h m he; omega)
theorem Seen.keptB {w w3 : World} {m b s n : Nat} {e : TypeId} {v : Value} {xs : List Value} {l : List ByteArray} {o : Obj} (hs : Seen w m l) (h : w.ownsRow b e s v n xs) (hm : m < b) (hg : (w.alloc o).grownBy w3 v.ownBlock) : Seen w3 m l := by
  obtain ⟨k, hk, hs⟩ := hs
  exact ⟨k, hk, (hs.alloc o).kept hg (fun he => by have := own_block h m he.symm; omega)⟩
theorem grown_set {a : Addr} {g : Nat} (ha : a.block = g) (w : World) (u : Value) : w.grownBy (w.setCell a u) (some g) := by
  subst ha
  exact ⟨rfl, rfl, rfl, by simp [World.setCell], fun k _ hne => by
    simp only [World.setCell, Array.getElem?_modify]
    rw [if_neg (fun h => hne (by rw [h]))]⟩
theorem Seen.setNe {w : World} {m : Nat} {l : List ByteArray} (hs : Seen w m l) {g : Nat} {a : Addr} (ha : a.block = g) (hne : m ≠ g) (u : Value) : Seen (w.setCell a u) m l := by
  obtain ⟨k, hk, hs⟩ := hs
  exact ⟨k, hk, hs.kept (grown_set ha w u) (by simpa using hne)⟩
theorem own_setNe {w : World} {g base : Nat} {a : Addr} {e : TypeId} {size : Nat} {v u : Value} {n : Nat} {xs : List Value} (h : w.ownsRow base e size v n xs) (ha : a.block = g) (hg : g < base) : (w.setCell a u).ownsRow base e size v n xs :=
  h.kept (grown_set ha w u) (.inr fun e => by have := own_block h g e; omega)
theorem RS.of_box {w : World} {g : Nat} {l : List ByteArray} {t : TypeId} (h : Box w g (scells l).toArray t) : RS w ⟨g, 0, none⟩ l := by
  refine ⟨h.lt, fun j hj => ?_⟩
  rw [show (⟨g, 0, none⟩ : Addr).add j = ⟨g, j, none⟩ by unfold Addr.add; split <;> simp_all]
  exact h.at_ j _ (by simp [scells, List.getD_eq_getElem?_getD, List.getElem?_eq_getElem hj])
theorem strSplitB (b : UInt8) (s : ByteArray) (w : World) (hs : s.size ≤ 2000000) (h : MLen w) :
    Calls Tryz.prog 30 #[.string s, .string ⟨#[b]⟩] w fun e w' => ∃ c, e = .returned (.slice (some ⟨w.heap.size, 0, none⟩) (words b s).length c) ∧ (Box w' w.heap.size (scells (words b s)).toArray 9 ∧ Below w.heap.size w w') := by
  obtain ⟨m, hm⟩ := h
  refine (Tryz.strings_Split s ⟨#[b]⟩ m w (by omega) hm (Nat.le_refl 1)).mono fun e w' ⟨he, hw⟩ => ?_
  rw [split_words b s.size s (Nat.le_refl _)] at hw
  refine ⟨(words b s).length, by rw [words_len]; exact he, ?_, ?_⟩
  · rw [hw]; exact Box.new _ _ _
  · rw [hw]; exact below_alloc _ _
end
open Go.RowKit
set_option linter.unusedVariables false
set_option linter.unusedSimpArgs false

def RET (e : Ending) (w w' : World) (r : List ByteArray × List Int × Int) : Prop :=
  ∃ v1 v2, e = .returned (.tuple #[.agg #[v1, v2], .int .i64 r.2.2]) ∧ (SL w' v1 r.1 ∧ IL w' v2 r.2.1 ∧ Below w.heap.size w w')
theorem RET.no {w w' : World} {c : Int} (h : Below w.heap.size w w') : RET (.returned (.tuple #[.agg #[.slice none 0 0, .slice none 0 0], .int .i64 c])) w w' ([], [], c) :=
  ⟨_, _, rfl, SL.nil _, IL.nil _, h⟩
theorem prs_step {WS : List ByteArray} {k : Nat} (h : k < WS.length) {ns : List ByteArray} {zs : List Int} {r : List ByteArray × List Int × Int} (hr : r = prsRun (WS.drop k) ns zs) : r = prsRun (WS.getD k ⟨#[]⟩ :: WS.drop (k + 1)) ns zs := by
  rw [hr, List.drop_eq_getElem_cons h]
  simp [List.getD_eq_getElem?_getD, List.getElem?_eq_getElem h]

theorem below_z2 {w w4 : World} (h : Below w.heap.size w w4) (o : Obj) : Below w.heap.size w (((w4.setCell ⟨w.heap.size, 0, none⟩ (.slice none 0 0)).setCell ⟨w.heap.size, 1, none⟩ (.slice none 0 0)).alloc o) := by
  have h5 := (h.setCell (p := ⟨w.heap.size, 0, none⟩) (Nat.le_refl _) (.slice none 0 0)).setCell (p := ⟨w.heap.size, 1, none⟩) (Nat.le_refl _) (.slice none 0 0)
  exact h5.alloc h5.size _
theorem partT_size {x : ByteArray} (h : x.size ≤ 2000000) : (partT x).1.size ≤ 2000000 := by
  have h1 := preB_size 61 x
  have h2 := ix_le (b := 61) x.data.toList
  rw [← Lib.size_eq] at h2
  rcases part_ways x with ⟨_, hr⟩ | ⟨_, _, hr⟩ | ⟨_, _, _, hr⟩ | ⟨_, _, _, _, hr⟩ | ⟨_, _, _, _, hr⟩ <;> rw [hr]
  all_goals first | (show (ByteArray.mk #[]).size ≤ 2000000; decide) | (show (preB 61 x).size ≤ 2000000; omega)

set_option maxRecDepth 100000 in
set_option maxHeartbeats 8000000 in
theorem txnParse (s : ByteArray) (w : World) (hs : s.size ≤ 2000000) (hk : KW w) (hm : MLen w) :
    Calls Tryz.prog 11 #[.string s] w fun e w' => RET e w w' (parseT s) := by
  have HK := Lib.hid hk
  have HM := Lib.hid hm
  have C0 := Lib.hid (fun w h => strSplitB 32 s w hs h)
  obtain ⟨i0, hi, hz0, hz1, hz2⟩ := info_parts istr
  have HI := Lib.hid hi
  have HZ0 := Lib.hid hz0
  have HZ1 := Lib.hid hz1
  have HZ2 := Lib.hid hz2
  clear hi hz0 hz1 hz2
  obtain ⟨i1, hi, hz0, hz1, hz2⟩ := info_parts iint
  have JI := Lib.hid hi
  have JZ0 := Lib.hid hz0
  have JZ1 := Lib.hid hz1
  have JZ2 := Lib.hid hz2
  clear hi hz0 hz1 hz2 hk hm
  by_cases hempty : s.size = 0
  · have HR : Hid (parseT s = ([], [], 0)) := Lib.hid (by unfold parseT; rw [if_pos hempty])
    have f1 : s.toList = [] := (str_empty2 s).2.2.2 hempty
    have f2 : s.toList.isEmpty = true := by rw [f1]; rfl
    clear hempty
    go_enter Tryz.func11, Tryz.ntmps11
    go_wp2_with fail
    refine bodyPost_ret (v := .tuple #[.agg #[.slice none 0 0, .slice none 0 0], .int .i64 0]) (by simp [results, Tryz.results11, go_sem]) rfl ?_
    rw [HR.out]
    exact RET.no (below_step (below_alloc _ _) (below_alloc _ _))
  · have g1 : s.toList.isEmpty = false := by rw [(str_empty2 s).1]; exact decide_eq_false hempty
    have g2 : ¬ s.toList = [] := fun h => hempty ((str_empty2 s).2.2.1 h)
    have hmm := @run_makeMap Tryz.prog
    go_enter Tryz.func11, Tryz.ntmps11
    go_wp2_with fail
    clear hmm g1 g2
    have hw2 : ((w.alloc (.cells #[.slice none 0 0, .slice none 0 0] 25)).alloc (.cells #[.slice none 0 0, .slice none 0 0] 25)).heap.size = w.heap.size + 1 + 1 := by simp
    have XR := Lib.hid ((box_new (W := w) (g := w.heap.size) 25 #[.slice none 0 0, .slice none 0 0] (by simp)).below (below_alloc _ (.cells #[.slice none 0 0, .slice none 0 0] 25)))
    have XT := Lib.hid (box_new (W := (w.alloc (.cells #[.slice none 0 0, .slice none 0 0] 25))) (g := w.heap.size + 1) 25 #[.slice none 0 0, .slice none 0 0] (by simp))
    have HB := Lib.hid (below_step (below_alloc w (.cells #[.slice none 0 0, .slice none 0 0] 25)) (below_alloc (w.alloc (.cells #[.slice none 0 0, .slice none 0 0] 25)) (.cells #[.slice none 0 0, .slice none 0 0] 25)))
    generalize (w.alloc (.cells #[.slice none 0 0, .slice none 0 0] 25)).alloc (.cells #[.slice none 0 0, .slice none 0 0] 25) = w1 at *
    have SE : Hid (Seen (w1.alloc (.map #[] 0)) (w.heap.size + 1 + 1) []) := Lib.hid (by have := Seen.new w1; rwa [hw2] at this)
    have HZ : Hid ((w1.alloc (.map #[] 0)).heap.size = w.heap.size + 1 + 1 + 1) := Lib.hid (by simp [hw2])
    replace XR := Lib.hid (XR.out.below (below_alloc _ (.map #[] 0)))
    replace XT := Lib.hid (XT.out.below (below_alloc _ (.map #[] 0)))
    replace HB := Lib.hid (below_step HB.out (below_alloc w1 (.map #[] 0)))
    generalize w1.alloc (.map #[] 0) = w2 at *
    clear hw2
    refine (C0.out _ (HM.out.below HB.out)).mono ?_; rintro e w3 ⟨c, rfl, hbx, hb⟩
    rw [HZ.out] at hbx ⊢
    have XW := Lib.hid hbx
    replace XR := Lib.hid (XR.out.below hb)
    replace XT := Lib.hid (XT.out.below hb)
    replace SE := Lib.hid (SE.out.below hb)
    replace HB := Lib.hid (below_step HB.out hb)
    clear hb hbx C0 HZ
    obtain ⟨a, ha⟩ : ∃ a : Addr, a = ⟨w.heap.size + 1 + 1 + 1, 0, none⟩ := ⟨_, rfl⟩
    rw [← ha]
    have HA := Lib.hid ha
    have HR : Hid (parseT s = if (prsRun (words 32 s) [] []).2.2 = 0 ∧ 128 < (prsRun (words 32 s) [] []).1.length then ([], [], 2) else prsRun (words 32 s) [] []) := Lib.hid (by unfold parseT; rw [if_neg hempty])
    have HSZ : Hid (∀ p ∈ words 32 s, p.size ≤ 2000000) := Lib.hid fun p hp => Nat.le_trans (words_size 32 s.size s (Nat.le_refl _) p hp) hs
    have hlen : (words 32 s).length ≤ 2000001 := Nat.le_trans (words_le 32 s) (by omega)
    generalize words 32 s = WS at *
    obtain ⟨N, hN⟩ : ∃ N, N = WS.length := ⟨_, rfl⟩
    rw [← hN] at hlen ⊢
    have HN := Lib.hid hN
    clear hN ha hempty hs
    go_wp2_with fail
    go_loopw [18] (fun i wr => ∃ (k : Nat) (v1 v2 : Value) (ns : List ByteArray) (zs : List Int), k ≤ N ∧ i = .int .i64 k ∧ Hid (ns.length = k ∧ zs.length = k) ∧ Hid (prsRun WS [] [] = prsRun (WS.drop k) ns zs) ∧ Box wr w.heap.size #[.slice none 0 0, .slice none 0 0] 25 ∧ Box wr (w.heap.size + 1) #[v1, v2] 25 ∧ Seen wr (w.heap.size + 1 + 1) ns ∧ Box wr (w.heap.size + 1 + 1 + 1) (scells WS).toArray 9 ∧ wr.ownsRow (w.heap.size + 1 + 1 + 1 + 1) 9 1 v1 k (scells ns) ∧ wr.ownsRow (w.heap.size + 1 + 1 + 1 + 1) 3 1 v2 k (icells zs) ∧ Below w.heap.size w wr) (fun i _ => N - (intOf i).toNat)
    case atStart => exact ⟨0, _, _, [], [], Nat.zero_le _, rfl, Lib.hid ⟨rfl, rfl⟩, Lib.hid rfl, XR.out, XT.out, SE.out, XW.out, World.ownsRow_nil _ _ _ _, World.ownsRow_nil _ _ _ _, HB.out⟩
    case round =>
      obtain ⟨k, v1, v2, ns, zs, hk, rfl, HL, HP, hxr, hxt, hse, hxw, ho1, ho2, hb⟩ := hrel
      clear XR XT SE XW HB
      have XR := Lib.hid hxr
      have XT := Lib.hid hxt
      have SE := Lib.hid hse
      have XW := Lib.hid hxw
      have O1 := Lib.hid ho1
      have O2 := Lib.hid ho2
      have HB := Lib.hid hb
      clear hxr hxt hse hxw ho1 ho2 hb
      by_cases hlt : k < N
      · have hlt2 : (k : Int) < N := by omega
        have hkn : k < WS.length := by rw [← HN.out]; exact hlt
        have hr1 : RS wr a WS := by rw [HA.out]; exact RS.of_box XW.out
        have q1 := hr1.cells k hkn
        have HP2 := Lib.hid (prs_step hkn HP.out)
        have hxs := HSZ.out _ (getD_mem ⟨#[]⟩ hkn)
        have CP := Lib.hid (fun w h h' => txnPart (WS.getD k ⟨#[]⟩) w hxs h h')
        have HBAD := Lib.hid (@prs_bad (WS.getD k ⟨#[]⟩) (WS.drop (k + 1)) ns zs)
        have HDUP := Lib.hid (@prs_dup (WS.getD k ⟨#[]⟩) (WS.drop (k + 1)) ns zs)
        have HGO := Lib.hid (@prs_go (WS.getD k ⟨#[]⟩) (WS.drop (k + 1)) ns zs)
        have hns := partT_size hxs
        generalize partT (WS.getD k ⟨#[]⟩) = pr at *
        generalize WS.getD k ⟨#[]⟩ = x at *
        clear hr1 hkn HP hxs
        obtain ⟨n, v, er⟩ := pr
        simp only [ret3p] at CP HBAD HDUP HGO hns
        have hlk := fun W (h : Seen W (w.heap.size + 1 + 1) ns) => h.lookup n (by unfold maxLen; omega) rfl
        have HLK := Lib.hid hlk
        have hup : Hid (∀ W, Seen W (w.heap.size + 1 + 1) ns → ∃ w', (Instr.mapUpdate 57 (.map (some (w.heap.size + 1 + 1))) (.string n) (.bool true)).run Tryz.prog W = .ok () w' ∧ Seen w' (w.heap.size + 1 + 1) (ns ++ [n]) ∧ W.grownBy w' (some (w.heap.size + 1 + 1))) :=
          Lib.hid fun W h => h.update n (by unfold maxLen; omega) (by rw [HL.out.1]; unfold maxLen; omega)
        clear hlk
        generalize Lib.containsS ns n = dup at *
        by_cases her : er = 0
        case neg =>
          have HRR : Hid (parseT s = ([], [], er)) := Lib.hid (by rw [HR.out, HP2.out, HBAD.out her]; exact if_neg (fun h => her h.1))
          have f1 : (er == 0) = false := by simpa using her
          have f2 : (er != 0) = true := by simpa using her
          clear HBAD HDUP HGO her hup HLK
          go_wp2_with fail
          clear q1
          refine (CP.out _ (HK.out.below HB.out) (HM.out.below HB.out)).mono ?_; rintro e w4 ⟨rfl, hb⟩
          replace XR := Lib.hid (XR.out.below hb)
          replace XT := Lib.hid (XT.out.below hb)
          replace HB := Lib.hid (below_step HB.out hb)
          clear hb
          have XR_0 := XR.out.at_ 0 _ rfl
          have XR_1 := XR.out.at_ 1 _ rfl
          have XR_l := XR.out.lt
          have XR_z0 := XR.out.frozen 0
          have XR_z1 := XR.out.frozen 1
          go_wp2_with fail
          refine bodyPost_ret (v := .tuple #[.agg #[.slice none 0 0, .slice none 0 0], .int .i64 er]) (by simp [results, Tryz.results11, go_sem, XR_0, XR_1, XR_l]) rfl ?_
          rw [HRR.out]
          exact RET.no (below_z2 HB.out _)
        subst her
        cases dup
        case true =>
          have HRR : Hid (parseT s = ([], [], 8)) := Lib.hid (by rw [HR.out, HP2.out, HDUP.out rfl rfl]; exact if_neg (fun h => absurd h.1 (by decide)))
          clear HBAD HDUP HGO hup
          go_wp2_with fail
          clear q1
          refine (CP.out _ (HK.out.below HB.out) (HM.out.below HB.out)).mono ?_; rintro e w4 ⟨rfl, hb⟩
          replace XR := Lib.hid (XR.out.below hb)
          replace XT := Lib.hid (XT.out.below hb)
          replace SE := Lib.hid (SE.out.below hb)
          replace HB := Lib.hid (below_step HB.out hb)
          clear hb
          have hlk := HLK.out (w4.alloc (.cells #[.string n, .int .i64 v] 42)) (SE.out.below (below_alloc _ _))
          have XR_0 := XR.out.at_ 0 _ rfl
          have XR_1 := XR.out.at_ 1 _ rfl
          have XR_l := XR.out.lt
          have XR_z0 := XR.out.frozen 0
          have XR_z1 := XR.out.frozen 1
          go_wp2_with fail
          refine bodyPost_ret (v := .tuple #[.agg #[.slice none 0 0, .slice none 0 0], .int .i64 8]) (by simp [results, Tryz.results11, go_sem, XR_0, XR_1, XR_l]) rfl ?_
          rw [HRR.out]
          exact RET.no (below_z2 HB.out _)
        · have HP3 := Lib.hid (HP2.out.trans (HGO.out rfl rfl))
          clear HBAD HDUP HGO HP2
          go_wp2_with fail
          clear q1
          refine (CP.out _ (HK.out.below HB.out) (HM.out.below HB.out)).mono ?_; rintro e w4 ⟨rfl, hb⟩
          replace O1 := Lib.hid (own_below O1.out hb)
          replace O2 := Lib.hid (own_below O2.out hb)
          replace XR := Lib.hid (XR.out.below hb)
          replace XT := Lib.hid (XT.out.below hb)
          replace SE := Lib.hid (SE.out.below hb)
          replace XW := Lib.hid (XW.out.below hb)
          replace HB := Lib.hid (below_step HB.out hb)
          clear hb
          have hlk := HLK.out (w4.alloc (.cells #[.string n, .int .i64 v] 42)) (SE.out.below (below_alloc _ _))
          obtain ⟨w5, hu, hs5, hg5⟩ := hup.out (w4.alloc (.cells #[.string n, .int .i64 v] 42)) (SE.out.below (below_alloc _ _))
          have hbig : w.heap.size + 1 + 1 + 1 < w4.heap.size := XW.out.lt
          have XP := Lib.hid ((Box.new w4 42 #[.string n, .int .i64 v]).grown hg5 (by omega))
          replace XR := Lib.hid ((XR.out.below (below_alloc _ _)).grown hg5 (by omega))
          replace XT := Lib.hid ((XT.out.below (below_alloc _ _)).grown hg5 (by omega))
          replace XW := Lib.hid ((XW.out.below (below_alloc _ _)).grown hg5 (by omega))
          replace O1 := Lib.hid (own_keptM (O1.out.alloc _) (by omega) hg5)
          replace O2 := Lib.hid (own_keptM (O2.out.alloc _) (by omega) hg5)
          replace HB := Lib.hid (below_up (HB.out.alloc HB.out.size _) hg5 (by omega))
          replace SE := Lib.hid hs5
          have HBIG := Lib.hid hbig
          clear hs5 hg5 hup HLK hbig
          have XT_0 := XT.out.at_ 0 _ rfl
          have XP_0 := XP.out.at_ 0 _ rfl
          go_wp2_with (at_builtin; refine wpList_append_own _ rfl _ _ 22 rfl (w.heap.size + 1 + 1 + 1 + 1) 9 i0 (.string ⟨#[]⟩) 1 16 Tryz.underlying22 HI.out HZ0.out HZ1.out HZ2.out rfl (by decide) v1 k (scells ns) rfl (O1.out.alloc _) ⟨w5.heap.size, 0, none⟩ 1 1 [.string n] rfl rfl ?c1 ?c2 ?c3 ?c4 ?c5 ?_)
          case c1 => exact news1
          case c2 => intro u hu; simp at hu; subst hu; rfl
          case c3 => unfold maxLen; omega
          case c4 => omega
          case c5 => have := HBIG.out; have := HB.out.size; have := XP.out.lt; simp; omega
          intro v3 w6 hown6 hgrow _
          clear XT_0 XP_0
          have O3 : Hid (w6.ownsRow (w.heap.size + 1 + 1 + 1 + 1) 9 1 v3 (k + 1) (scells (ns ++ [n]))) := Lib.hid (by rw [show scells (ns ++ [n]) = scells ns ++ [.string n] by simp [scells]]; exact hown6)
          replace XR := Lib.hid (XR.out.keptB O1.out (by omega) hgrow)
          replace XT := Lib.hid (XT.out.keptB O1.out (by omega) hgrow)
          replace XW := Lib.hid (XW.out.keptB O1.out (by omega) hgrow)
          replace SE := Lib.hid (SE.out.keptB O1.out (by omega) hgrow)
          replace XP := Lib.hid (XP.out.keptT O1.out (by decide) hgrow)
          replace O2 := Lib.hid (own_keptT O2.out O1.out (by decide) hgrow)
          replace HB := Lib.hid (below_grownB HB.out HB.out.size (by omega) O1.out hgrow)
          clear hown6 hgrow hu hlk O1
          obtain ⟨A3, c3, rfl, _, _⟩ := SL.of_own O3.out
          have hlen3 : (ns ++ [n]).length = k + 1 := by simp [HL.out.1]
          rw [hlen3] at O3 ⊢
          have z1 : (w6.setCell ⟨w.heap.size + 1, 0, none⟩ (.slice A3 (k + 1) c3)).cell? ⟨w4.heap.size, 1, none⟩ = some (.int .i64 v) := (XP.out.setNe (p := ⟨w.heap.size + 1, 0, none⟩) (by have := HBIG.out; show w.heap.size + 1 ≠ w4.heap.size; omega) _).at_ 1 _ rfl
          have XT_0 := XT.out.at_ 0 _ rfl
          have XT_1 := XT.out.at_ 1 _ rfl
          have XT_l := XT.out.lt
          have XT_z0 := XT.out.frozen 0
          have XT_z1 := XT.out.frozen 1
          have O2A := Lib.hid ((own_setNe (g := w.heap.size + 1) (a := ⟨w.heap.size + 1, 0, none⟩) (u := .slice A3 (k + 1) c3) O2.out rfl (by omega)).alloc (.cells #[.int .i64 v] 3))
          go_wp2_with (at_builtin; refine wpList_append_own _ rfl _ _ 23 rfl (w.heap.size + 1 + 1 + 1 + 1) 3 i1 (.int .i64 0) 1 8 Tryz.underlying23 JI.out JZ0.out JZ1.out JZ2.out rfl (by decide) v2 k (icells zs) rfl O2A.out _ 1 1 [.int .i64 v] rfl rfl ?c1 ?c2 ?c3 ?c4 ?c5 ?_)
          case c1 =>
            have := @news1 (w6.setCell ⟨w.heap.size + 1, 0, none⟩ (.slice A3 (k + 1) c3)) 3 (.int .i64 v)
            rwa [show (w6.setCell ⟨w.heap.size + 1, 0, none⟩ (.slice A3 (k + 1) c3)).heap.size = w6.heap.size by simp [World.setCell]] at this
          case c2 => intro u hu; simp at hu; subst hu; rfl
          case c3 => unfold maxLen; omega
          case c4 => omega
          case c5 => have := HBIG.out; have := XP.out.lt; simp [World.setCell]; omega
          intro v4 w7 hown7 hgrow _
          clear XT_0 XT_1 XT_l XT_z0 XT_z1
          clear z1
          have hne4 : w.heap.size + 1 ≠ w4.heap.size := by have := HBIG.out; omega
          have O2S : (w6.setCell ⟨w.heap.size + 1, 0, none⟩ (.slice A3 (k + 1) c3)).ownsRow (w.heap.size + 1 + 1 + 1 + 1) 3 1 v2 k (icells zs) := own_setNe (g := w.heap.size + 1) (a := ⟨w.heap.size + 1, 0, none⟩) (u := .slice A3 (k + 1) c3) O2.out rfl (by omega)
          replace XR := Lib.hid ((XR.out.setNe (p := ⟨w.heap.size + 1, 0, none⟩) (by show w.heap.size + 1 ≠ w.heap.size; omega) (.slice A3 (k + 1) c3)).keptB O2S (by omega) hgrow)
          replace XT := Lib.hid ((XT.out.set_ 0 (.slice A3 (k + 1) c3)).keptB O2S (by omega) hgrow)
          replace XW := Lib.hid ((XW.out.setNe (p := ⟨w.heap.size + 1, 0, none⟩) (by show w.heap.size + 1 ≠ w.heap.size + 1 + 1 + 1; omega) (.slice A3 (k + 1) c3)).keptB O2S (by omega) hgrow)
          replace SE := Lib.hid ((SE.out.setNe (a := ⟨w.heap.size + 1, 0, none⟩) (g := w.heap.size + 1) rfl (by omega) (.slice A3 (k + 1) c3)).keptB O2S (by omega) hgrow)
          replace O3 := Lib.hid (own_keptT (own_setNe (g := w.heap.size + 1) (a := ⟨w.heap.size + 1, 0, none⟩) (u := .slice A3 (k + 1) c3) O3.out rfl (by omega)) O2S (by decide) hgrow)
          have O4 : Hid (w7.ownsRow (w.heap.size + 1 + 1 + 1 + 1) 3 1 v4 (k + 1) (icells (zs ++ [v]))) := Lib.hid (by rw [show icells (zs ++ [v]) = icells zs ++ [.int .i64 v] by simp [icells]]; exact hown7)
          have hb6 := HB.out.setCell (p := ⟨w.heap.size + 1, 0, none⟩) (Nat.le_succ _) (.slice A3 (k + 1) c3)
          replace HB := Lib.hid (below_grownB hb6 hb6.size (by omega) O2S hgrow)
          clear hown7 hgrow O2 O2S O2A hb6 XP
          obtain ⟨A4, c4, rfl, _, _⟩ := IL.of_own O4.out
          have hlen4 : (zs ++ [v]).length = k + 1 := by simp [HL.out.2]
          rw [hlen4] at O4 ⊢
          replace XT : Hid (Box w7 (w.heap.size + 1) #[.slice A3 (k + 1) c3, v2] 25) := XT
          have XT_1 := XT.out.at_ 1 _ rfl
          have XT_l := XT.out.lt
          have XT_z1 := XT.out.frozen 1
          go_wp2_with fail
          clear XT_1 XT_l XT_z1
          go_roundw
          case rel =>
            exact ⟨k + 1, _, _, ns ++ [n], zs ++ [v], by omega, by go_num, Lib.hid ⟨hlen3, hlen4⟩, HP3, XR.out.setNe (p := ⟨w.heap.size + 1, 1, none⟩) (by show w.heap.size + 1 ≠ w.heap.size; omega) (.slice A4 (k + 1) c4), XT.out.set_ 1 (.slice A4 (k + 1) c4), SE.out.setNe (a := ⟨w.heap.size + 1, 1, none⟩) (g := w.heap.size + 1) rfl (by omega) (.slice A4 (k + 1) c4), XW.out.setNe (p := ⟨w.heap.size + 1, 1, none⟩) (by show w.heap.size + 1 ≠ w.heap.size + 1 + 1 + 1; omega) (.slice A4 (k + 1) c4),
              own_setNe (g := w.heap.size + 1) (a := ⟨w.heap.size + 1, 1, none⟩) (u := (.slice A4 (k + 1) c4)) O3.out rfl (by omega), own_setNe (g := w.heap.size + 1) (a := ⟨w.heap.size + 1, 1, none⟩) (u := (.slice A4 (k + 1) c4)) O4.out rfl (by omega), HB.out.setCell (p := ⟨w.heap.size + 1, 1, none⟩) (Nat.le_succ _) (.slice A4 (k + 1) c4)⟩
          case measure => simp [intOf]; omega
      · have hkn : k = N := by omega
        have hlt2 : ¬ (k : Int) < N := by omega
        have HPE : Hid (prsRun WS [] [] = (ns, zs, 0)) := Lib.hid (by rw [HP.out, List.drop_of_length_le (by rw [hkn, HN.out]; exact Nat.le_refl _), prs_nil])
        obtain ⟨A1, c1, rfl, hc1, hz1⟩ := SL.of_own O1.out
        obtain ⟨A2, c2, rfl, hc2, hz2⟩ := IL.of_own O2.out
        rw [HL.out.1] at O1
        rw [HL.out.2] at O2
        rw [HL.out.1, HL.out.2] at XT
        clear hz1 hz2 hc1 hc2
        by_cases hbig : 128 < k
        · have HRR : Hid (parseT s = ([], [], 2)) := Lib.hid (by rw [HR.out, HPE.out]; exact if_pos ⟨rfl, by show 128 < ns.length; rw [HL.out.1]; exact hbig⟩)
          have f1 : (128 : Int) < k := by omega
          clear hbig HP HPE hkn
          have XT_0 := XT.out.at_ 0 _ rfl
          have XT_1 := XT.out.at_ 1 _ rfl
          have XR_0 := XR.out.at_ 0 _ rfl
          have XR_1 := XR.out.at_ 1 _ rfl
          have XR_l := XR.out.lt
          have XR_z0 := XR.out.frozen 0
          have XR_z1 := XR.out.frozen 1
          go_wp2_with fail
          refine bodyPost_ret (v := .tuple #[.agg #[.slice none 0 0, .slice none 0 0], .int .i64 2]) (by simp [results, Tryz.results11, go_sem, XR_0, XR_1, XR_l]) rfl ?_
          rw [HRR.out]
          exact RET.no ((HB.out.setCell (p := ⟨w.heap.size, 0, none⟩) (Nat.le_refl _) (.slice none 0 0)).setCell (p := ⟨w.heap.size, 1, none⟩) (Nat.le_refl _) (.slice none 0 0))
        · have HRR : Hid (parseT s = (ns, zs, 0)) := Lib.hid (by rw [HR.out, HPE.out]; exact if_neg (fun h => by have h2 : 128 < ns.length := h.2; rw [HL.out.1] at h2; exact hbig h2))
          have f1 : ¬ (128 : Int) < k := by omega
          clear hbig HP HPE hkn
          have XT_0 := XT.out.at_ 0 _ rfl
          have XT_1 := XT.out.at_ 1 _ rfl
          have XR_0 := XR.out.at_ 0 _ rfl
          have XR_1 := XR.out.at_ 1 _ rfl
          have XR_l := XR.out.lt
          have XR_z0 := XR.out.frozen 0
          have XR_z1 := XR.out.frozen 1
          go_wp2_with fail
          refine bodyPost_ret (v := .tuple #[.agg #[.slice A1 k c1, .slice A2 k c2], .int .i64 0]) (by simp [results, Tryz.results11, go_sem, XR_0, XR_1, XR_l]) rfl ?_
          rw [HRR.out]
          refine ⟨_, _, rfl, ?_, ?_, (HB.out.setCell (p := ⟨w.heap.size, 0, none⟩) (Nat.le_refl _) (.slice A1 k c1)).setCell (p := ⟨w.heap.size, 1, none⟩) (Nat.le_refl _) (.slice A2 k c2)⟩
          · exact SL.of_own (own_setNe (g := w.heap.size) (a := ⟨w.heap.size, 1, none⟩) (u := .slice A2 k c2) (own_setNe (g := w.heap.size) (a := ⟨w.heap.size, 0, none⟩) (u := .slice A1 k c1) O1.out rfl (by omega)) rfl (by omega))
          · exact IL.of_own (own_setNe (g := w.heap.size) (a := ⟨w.heap.size, 1, none⟩) (u := .slice A2 k c2) (own_setNe (g := w.heap.size) (a := ⟨w.heap.size, 0, none⟩) (u := .slice A1 k c1) O2.out rfl (by omega)) rfl (by omega))
end

section
open Go.RowKit
set_option linter.unusedVariables false
set_option linter.unusedSimpArgs false

theorem row_box {w : World} {base n : Nat} {v : Value} {l : List ByteArray} (h : w.ownsRow base 9 1 v n (scells l)) (hn : 0 < n) : ∃ g cap cur, v = .slice (some ⟨g, 0, none⟩) n cap ∧ base ≤ g ∧ Box w g cur 9 ∧ ∀ j, j < l.length → cur[j]? = some (.string (l.getD j ⟨#[]⟩)) := by
  have h0 := h
  rcases h.2 with ⟨_, h2⟩ | ⟨g, cap, cur, rfl, hg, hh, _⟩
  · omega
  · refine ⟨g, cap, cur, rfl, hg, hh, fun j hj => ?_⟩
    have hb : Box w g cur 9 := hh
    have := World.ownsRow.cells h0 (g := g) rfl j (.string (l.getD j ⟨#[]⟩)) (by simp [scells, List.getD_eq_getElem?_getD, List.getElem?_eq_getElem hj])
    rw [show (⟨g, 0, none⟩ : Addr).add j = ⟨g, j, none⟩ by unfold Addr.add; split <;> simp_all, hb.cell j] at this
    exact this
end
end Go.Proofs.YtbjcbndmafddoaaGreatDoor
