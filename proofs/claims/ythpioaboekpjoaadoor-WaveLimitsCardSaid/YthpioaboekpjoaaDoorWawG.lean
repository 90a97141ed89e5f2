/-
  The plain law of WaveLimits: texts of many names, of many rows. No walk here.
-/
import Derived.Test.YthpioaboekpjoaaDoorWavY
import Derived.Test.YthpioaboekpjoaaDoorWawC
import Derived.Laws.Runes
namespace Go.Proofs.YthpioaboekpjoaaDoor
open Go.RowKit
set_option linter.unusedVariables false
set_option linter.unusedSimpArgs false

theorem parseW_line {l : List ByteArray} (h1 : ∀ s ∈ l, ∀ x ∈ s.data.toList, x ≠ 32) (h2 : ∀ s ∈ l, ∀ x ∈ s.data.toList, x ≠ 10) (hz : ∀ s ∈ l, 0 < s.size) {s : ByteArray} (hs : s.data.toList = lnW l) : parseW s = if hdrT l = 0 then (l, [], 0) else ([], [], hdrT l) := by
  have he : endB s = true := by
    unfold endB Lib.hasSuffix
    rw [hs]
    exact List.isSuffixOf_iff_suffix.2 (List.suffix_append _ _)
  have hc : (cutS s).data.toList = joinP l := by
    have := end_cut he
    rw [hs] at this
    exact (List.append_inj_left' this rfl).symm
  have hw : words 10 (cutS s) = [mkB (joinP l)] := by
    unfold words
    rw [hc, partsL_no 10 _ (joinP_no (by decide) h2)]
    rfl
  have hl : lineW (mkB (joinP l)) = l := line_back h1 hz
  unfold parseW
  rw [if_pos he, hw]
  simp only [List.getD_cons_zero, List.tail_cons, hl, rowsR, if_true]
theorem rowT_nil : rowT 0 ⟨#[]⟩ = ([], 0) := by
  unfold rowT lineW
  rw [if_pos (by rfl), if_pos (by rfl)]
  rfl
theorem rowsR_rep : ∀ (m : Nat) (acc : List (List Int)), rowsR 0 (List.replicate m ⟨#[]⟩) acc = if m = 0 ∨ acc.length + m ≤ 4096 then (acc ++ List.replicate m [], 0) else ([], 2)
  | 0, acc => by simp [rowsR]
  | m + 1, acc => by
    rw [List.replicate_succ]
    unfold rowsR
    rw [rowT_nil]
    by_cases h : 4096 ≤ acc.length
    · rw [if_pos h, if_neg (by omega)]
    · rw [if_neg h, if_pos rfl, rowsR_rep m]
      simp only [List.length_append, List.length_singleton]
      by_cases h2 : acc.length + (m + 1) ≤ 4096
      · rw [if_pos (by omega), if_pos (by omega), List.replicate_succ, List.append_assoc]; rfl
      · rw [if_neg (by omega), if_neg (by omega)]
theorem parts_rep (b : UInt8) : ∀ m : Nat, partsL b (List.replicate m b) = List.replicate (m + 1) []
  | 0 => rfl
  | m + 1 => by
    rw [List.replicate_succ, partsL, if_pos rfl, parts_rep b m]
    rfl
theorem parseW_rows {m : Nat} {s : ByteArray} (hs : s.data.toList = List.replicate (m + 1) 10) : parseW s = if m ≤ 4096 then ([], List.replicate m [], 0) else ([], [], 2) := by
  have e : List.replicate (m + 1) (10 : UInt8) = List.replicate m 10 ++ [10] := List.replicate_succ'
  have he : endB s = true := by
    unfold endB Lib.hasSuffix
    rw [hs, e]
    exact List.isSuffixOf_iff_suffix.2 (List.suffix_append _ _)
  have hc : (cutS s).data.toList = List.replicate m 10 := by
    have := end_cut he
    rw [hs, e] at this
    exact (List.append_inj_left' this rfl).symm
  have hw : words 10 (cutS s) = ⟨#[]⟩ :: List.replicate m ⟨#[]⟩ := by
    unfold words
    rw [hc, parts_rep, List.map_replicate, List.replicate_succ]
    rfl
  have hl : lineW (⟨#[]⟩ : ByteArray) = [] := by unfold lineW; rw [if_pos (by rfl)]
  have hh : hdrT [] = 0 := by decide
  unfold parseW
  rw [if_pos he, hw]
  simp only [List.getD_cons_zero, List.tail_cons, hl, hh, if_true, List.length_nil, rowsR_rep, Nat.zero_add, List.nil_append]
  by_cases h : m ≤ 4096
  · have h2 : m = 0 ∨ m ≤ 4096 := .inr h
    simp only [if_pos h, if_pos h2, if_true]
  · have h2 : ¬ (m = 0 ∨ m ≤ 4096) := by omega
    simp only [if_neg h, if_neg h2]
    rfl
/-! Names. -/
def nmF (i : Nat) : ByteArray := if i = 0 then ⟨#[97]⟩ else ⟨#[97, UInt8.ofNat (97 + i / 26), UInt8.ofNat (97 + i % 26)]⟩
def nmL (n : Nat) : List ByteArray := (List.range n).map nmF
theorem enc1 (r : Nat) (h : r < 128) : Utf8.encode (r : Int) = ⟨#[UInt8.ofNat r]⟩ := by
  unfold Utf8.encode
  have hv : Utf8.valid (r : Int) = true := by
    unfold Utf8.valid
    simp; omega
  simp only [hv, if_true]
  rw [if_pos (by omega)]
  simp
theorem nm_dif : Dif (nmL 50) := by decide +kernel
theorem nmL_take {n : Nat} (h : n ≤ 50) : nmL n = (nmL 50).take n := by
  unfold nmL
  rw [← List.map_take, List.take_range]
  congr 2; omega
theorem nmL_len (n : Nat) : (nmL n).length = n := by simp [nmL]
theorem nmL_dif {n : Nat} (h : n ≤ 50) : Dif (nmL n) := by
  rw [nmL_take h]
  obtain ⟨h1, h2⟩ := nm_dif
  exact ⟨h1.sublist (List.take_sublist _ _), fun s hs => h2 s (List.mem_of_mem_take hs)⟩
theorem hdr_nm {n : Nat} (h : n ≤ 50) : hdrT (nmL n) = if n ≤ 48 then 0 else 2 := by
  have hd := nmL_dif h
  unfold hdrT
  rw [if_pos hd.2, if_pos hd.1, nmL_len]
  by_cases h2 : n ≤ 48
  · rw [if_neg (by omega), if_pos h2]
  · rw [if_pos (by omega), if_neg h2]
/-- The names' text as far as the k-th. -/
def nmB (k : Nat) : ByteArray := ⟨(joinP (nmL k)).toArray⟩
theorem nmB_one : nmB 1 = ⟨#[97]⟩ := by decide
theorem nmB_succ {k : Nat} (h : 1 ≤ k) : nmB (k + 1) = ((nmB k ++ ⟨#[32, 97]⟩) ++ ⟨#[UInt8.ofNat (97 + k / 26)]⟩) ++ ⟨#[UInt8.ofNat (97 + k % 26)]⟩ := by
  apply ba_eq
  have e : nmL (k + 1) = nmL k ++ [nmF k] := by unfold nmL; rw [List.range_succ, List.map_append]; rfl
  have h1 : (nmB (k + 1)).data.toList = joinL 32 ((nmL k).map (·.data.toList)) ++ 32 :: (nmF k).data.toList := by
    unfold nmB
    rw [List.toList_toArray, joinP_joinL, e, List.map_append, List.map_singleton, jl_snoc _ _ _ (by
      intro hh
      have := congrArg List.length hh
      rw [List.length_map, nmL_len] at this
      simp at this; omega)]
  have h2 : (nmB k).data.toList = joinL 32 ((nmL k).map (·.data.toList)) := by
    unfold nmB; rw [List.toList_toArray, joinP_joinL]
  rw [h1, ← h2]
  unfold nmF
  rw [if_neg (by omega)]
  simp
theorem parse_names {n : Nat} (h : n ≤ 50) {s : ByteArray} (hs : s = nmB n ++ ⟨#[10]⟩) : parseW s = if n ≤ 48 then (nmL n, [], 0) else ([], [], 2) := by
  have hd := (nmL_dif h).2
  have := parseW_line (l := nmL n) (s := s) (fun s hs => var_ne (hd s hs) (by decide) (by decide) (by decide)) (fun s hs => var_ne (hd s hs) (by decide) (by decide) (by decide)) (fun s hs => var_pos (hd s hs)) (by rw [hs]; exact lnW_data (nmL n))
  rw [this, hdr_nm h]
  by_cases h2 : n ≤ 48
  · rw [if_pos h2, if_pos rfl, if_pos h2]
  · rw [if_neg h2, if_neg (by decide), if_neg h2]
/-! Bytes. -/
def bcell (l : List UInt8) : Array Value := (l.map fun b => Value.int .u8 (b.toNat : Int)).toArray
theorem made_bytes (n : Nat) : madeCells (Value.int .u8 0).cells (n * 1) = bcell (List.replicate n 0) := by
  apply Array.ext
  · simp [madeCells, bcell]
  · intro i h1 h2
    simp [madeCells, bcell, Value.cells, Nat.mod_one]
theorem bcell_get {l : List UInt8} {j : Nat} (h : j < l.length) : (bcell l)[j]? = some (.int .u8 ((l.getD j 0).toNat : Int)) := by
  simp [bcell, List.getD_eq_getElem?_getD, List.getElem?_eq_getElem h]
theorem bcell_set (l : List UInt8) (j : Nat) (b : UInt8) : (bcell l).setIfInBounds j (.int .u8 (b.toNat : Int)) = bcell (l.set j b) := by
  simp [bcell]
def fillB (L j : Nat) : List UInt8 := List.replicate j 10 ++ List.replicate (L - j) 0
theorem fillB_set {L j : Nat} (h : j < L) : (fillB L j).set j 10 = fillB L (j + 1) := by
  unfold fillB
  obtain ⟨m, hm⟩ : ∃ m, L - j = m + 1 := ⟨L - j - 1, by omega⟩
  have e : L - (j + 1) = m := by omega
  rw [hm, e, List.set_append_right _ _ (by simp), List.length_replicate, Nat.sub_self, List.replicate_succ, List.set_cons_zero, List.replicate_succ', List.append_assoc]
  rfl
theorem fillB_len {L j : Nat} (h : j ≤ L) : (fillB L j).length = L := by unfold fillB; simp; omega
theorem fillB_zero (L : Nat) : fillB L 0 = List.replicate L 0 := by simp [fillB]
theorem fillB_all (L : Nat) : fillB L L = List.replicate L 10 := by simp [fillB]
theorem iu8 : (Tryd.prog.info? 5).map (fun i => (i.zero, i.size, i.bytes)) = some (some (.int .u8 0), 1, 1) := by kernel_rfl
theorem run_makeBytes (n : Nat) (hn : n ≤ 1000000) (W : World) : (Instr.makeSlice 33 (.int .i64 (n : Int)) (.int .i64 (n : Int))).run Tryd.prog W = .ok (.slice (some ⟨W.heap.size, 0, none⟩) n n) (W.alloc (.cells (bcell (List.replicate n 0)) 5)) := by
  obtain ⟨i0, hi, hz0, hz1, hz2⟩ := info_parts iu8
  have h := run_make (P := Tryd.prog) W 33 5 i0 (.int .u8 0) Tryd.underlying33 hi hz0 .i64 .i64 n n (by omega) (by omega) (by rw [hz2]; omega) (by omega)
  rw [hz1, Int.toNat_natCast, made_bytes] at h
  exact h
theorem Box.bytes {w : World} {g : Nat} {t : TypeId} {l : List UInt8} (h : Box w g (bcell l) t) (j : Nat) (b : UInt8) : Box (w.setCell ⟨g, j, none⟩ (.int .u8 (b.toNat : Int))) g (bcell (l.set j b)) t := by
  have := h.set_ j (.int .u8 (b.toNat : Int))
  rwa [bcell_set] at this
theorem conv_box {w : World} {g : Nat} {l : List UInt8} (h : Box w g (bcell l) 5) : (convert 33 9 (.slice (some ⟨g, 0, none⟩) l.length l.length)).run Tryd.prog w = .ok (.string ⟨l.toArray⟩) w :=
  run_convert_bytes_back w 33 9 5 ⟨g, 0, none⟩ l.length l Tryd.underlying33 Tryd.underlying5 Tryd.underlying9 (fun j hj => by
    have hadd : (⟨g, 0, none⟩ : Addr).add j = ⟨g, j, none⟩ := by unfold Addr.add; split <;> simp_all
    rw [hadd, h.cell j, bcell_get hj, List.getD_eq_getElem?_getD, List.getElem?_eq_getElem hj]; rfl)

end Go.Proofs.YthpioaboekpjoaaDoor
