/-
  Reading the arguments of the laws of chapter 26; the table of keywords out of the listed variables.
-/
import Derived.Test.YtbjcbndmafddoaaDoorTxnR
import Derived.Test.YtbjcbndmafddoaaDoorFrameS
import Derived.Deep.Slices
import Derived.ChangeSame
import Derived.Deep.Fields
import Derived.SliceStrings
import Derived.ChangeSlices
namespace Go.Proofs.YtbjcbndmafddoaaDoor
open Go.RowKit Go.WideShapes Go.ChangeShapes Go.Deep
set_option linter.unusedVariables false
set_option linter.unusedSimpArgs false

section
variable {H : Type} {enc : TypeId × Value → H} {P : Program} {w : World} {base : Nat} {spare : Nat → Bool} {held : Bool}
/-- A struct by value, whatever the number of its one-cell fields: its cells, and each field's own reading. -/
theorem open_struct {r : Reach} {b0 : Nat} {t : TypeId} {fs : Array Field} {v : Value} {d : DataW H} {p : List MemPlace} (hs : P.underlying t = some (.struct fs)) (hone : oneCellFields P fs = true) (hC : P.cellsOf t = fs.size)
    (hv : Value.okWide P w r b0 t v) (h : DataW.Trod enc P w base spare held t v d p) :
    ∃ (cs : List Value) (ys : List (DataW H × List MemPlace)) (n : Nat), v = .agg cs.toArray ∧ d = .agg (ys.map (·.1)) ∧ p = ys.flatMap (·.2) ∧ cs.length = fs.size ∧ ys.length = fs.size ∧
      ∀ (j : Nat) (f : Field), fs[j]? = some f → ∃ c y, cs[j]? = some c ∧ ys[j]? = some y ∧ DataW.trod enc P w base spare held n f.type [c] = some y := by
  obtain ⟨cs, rfl, hsz⟩ := okWide_struct hs hv
  obtain ⟨fuel, hf⟩ := h
  obtain ⟨ys, n, _, hx, _, hlen, hg⟩ := DataW.trod_struct hs hf
  simp only [Prod.mk.injEq] at hx
  refine ⟨cs.toList, ys, n, by simp, hx.1, hx.2, by rw [Array.length_toList, hsz, hC], hlen, fun j f hj => ?_⟩
  obtain ⟨ho, hk⟩ := hone_of hone j f hj
  have hjl : j < fs.size := (Array.getElem?_eq_some_iff.1 hj).1
  have hc : j < cs.toList.length := by rw [Array.length_toList, hsz, hC]; exact hjl
  have h1 := hg j f hj
  rw [ho, hk] at h1
  have e1 : ((Value.agg cs).cells.toList.drop j).take 1 = [cs.toList[j]] := by
    show (cs.toList.drop j).take 1 = _
    rw [List.drop_eq_getElem_cons hc]; rfl
  rw [e1] at h1
  have hy : ys[j]? = some (ys[j]'(by omega)) := List.getElem?_eq_getElem (by omega)
  exact ⟨_, _, List.getElem?_eq_getElem hc, hy, h1.trans hy⟩
end
section
variable {H : Type} {enc : TypeId × Value → H} {w : World} {base : Nat} {spare : Nat → Bool} {held : Bool}
theorem sl_of_trod {fuel : Nat} {c : Value} {x : DataW H × List MemPlace} (h : DataW.trod enc Tryd.prog w base spare held fuel 22 [c] = some x) :
    ∃ ns, SL w c ns ∧ ns.length ≤ 9223372036854775807 ∧ ∀ s ∈ ns, s.size ≤ 9223372036854775807 := by
  rcases ChangeShapes.open_strings Tryd.underlying22 Tryd.underlying9 (by kernel_rfl) h with ⟨h0, _⟩ | ⟨a, len, cap, ss, h0, _, hlc, hcm, hsl, _, hcell, hsz⟩
  · obtain rfl : c = .slice none 0 0 := by simpa using h0
    exact ⟨[], SL.nil w, by simp, by simp⟩
  · obtain rfl : c = .slice (some a) len cap := by simpa using h0
    have hle : len ≤ ss.length := by rw [hsl]; split <;> omega
    have hl : (ss.take len).length = len := by rw [List.length_take]; omega
    refine ⟨ss.take len, ⟨some a, cap, by rw [hl], by omega, fun hp => ⟨a, rfl, ?_, fun j hj => ?_⟩⟩, by rw [hl]; unfold maxLen at hcm; omega, fun s hs => hsz s (List.mem_of_mem_take hs)⟩
    · have := hcell 0 (by omega)
      have := World.block_lt_of_cell? _ _ this
      rwa [block_of_add] at this
    · rw [hcell j (by omega)]
      simp only [List.getD_eq_getElem?_getD]
      rw [List.getElem?_take_of_lt (by omega)]
      rfl
theorem il_of_trod {fuel : Nat} {c : Value} {x : DataW H × List MemPlace} (h : DataW.trod enc Tryd.prog w base spare held fuel 23 [c] = some x) :
    ∃ zs, IL w c zs ∧ zs.length ≤ 9223372036854775807 := by
  rcases ChangeShapes.open_ints Tryd.underlying23 Tryd.underlying3 (by kernel_rfl) h with ⟨h0, _⟩ | ⟨a, len, cap, ss, h0, _, hlc, hcm, hsl, _, hcell, _⟩
  · obtain rfl : c = .slice none 0 0 := by simpa using h0
    exact ⟨[], IL.nil w, by simp⟩
  · obtain rfl : c = .slice (some a) len cap := by simpa using h0
    have hle : len ≤ ss.length := by rw [hsl]; split <;> omega
    have hl : (ss.take len).length = len := by rw [List.length_take]; omega
    refine ⟨ss.take len, ⟨some a, cap, by rw [hl], by omega, fun hp => ⟨a, rfl, ?_, fun j hj => ?_⟩⟩, by rw [hl]; unfold maxLen at hcm; omega⟩
    · have := hcell 0 (by omega)
      have := World.block_lt_of_cell? _ _ this
      rwa [block_of_add] at this
    · rw [hcell j (by omega)]
      simp only [List.getD_eq_getElem?_getD]
      rw [List.getElem?_take_of_lt (by omega)]
end
set_option maxRecDepth 100000 in
/-- An argument that is a transaction. -/
theorem arg_txn {H : Type} {enc : TypeId × Value → H} {W : World} {v : Value} {d : DataW H} {p : List MemPlace} {base : Nat} (h : DataW.Trod enc Tryd.prog W 0 (fun _ => true) true 25 v d p) (hv : Value.okWide Tryd.prog W .any base 25 v) :
    ∃ (v1 v2 : Value) (ns : List ByteArray) (zs : List Int), v = .agg #[v1, v2] ∧ SL W v1 ns ∧ IL W v2 zs ∧ ns.length ≤ 9223372036854775807 ∧ zs.length ≤ 9223372036854775807 ∧ ∀ s ∈ ns, s.size ≤ 9223372036854775807 := by
  obtain ⟨cs, ys, n, rfl, rfl, rfl, hcl, hyl, hf⟩ := open_struct Tryd.underlying25 (by kernel_rfl) (by kernel_rfl) hv h
  obtain ⟨c0, y0, e0, f0, h0⟩ := hf 0 _ rfl
  obtain ⟨c1, y1, e1, f1, h1⟩ := hf 1 _ rfl
  obtain rfl : cs = [c0, c1] := by
    match cs, hcl with
    | [_, _], _ => simp at e0 e1; rw [e0, e1]
  obtain ⟨ns, hs, hl, hz⟩ := sl_of_trod h0
  obtain ⟨zs, hi, hm⟩ := il_of_trod h1
  exact ⟨c0, c1, ns, zs, rfl, hs, hi, hl, hm, hz⟩

theorem strs_inj {H : Type} : ∀ {a b : List ByteArray}, (strs a : List (DataW H)) = strs b → a = b
  | [], [], _ => rfl
  | [], _ :: _, h => by simp [strs] at h
  | _ :: _, [], h => by simp [strs] at h
  | x :: a, y :: b, h => by
    simp only [strs, List.map_cons, List.cons.injEq, DataW.lit.injEq, Lit.string.injEq] at h
    have h2 : (strs a : List (DataW H)) = strs b := h.2
    rw [strs_inj h2, ba_eq h.1]
set_option maxRecDepth 100000 in
theorem kw_of_laid {W : World} (h : laidMetH Tryd.prog [("math/bits.deBruijn32tab", Rows.laid_math_bits_deBruijn32tab), ("math/bits.deBruijn64tab", Rows.laid_math_bits_deBruijn64tab), ("internal/strconv.uint64pow10", Rows.laid_internal_strconv_uint64pow10), ("unicode/utf8.acceptRanges", Rows.laid_unicode_utf8_acceptRanges), ("testbench/lexer.keywords", Rows.laid_testbench_lexer_keywords), ("unicode/utf8.first", Rows.laid_unicode_utf8_first)] W) : KW W := by
  rw [MakeChecks.laidMetH_plain _ _ _ (by kernel_rfl)] at h
  obtain ⟨ps, hl, _⟩ := h
  obtain ⟨g, t, cs, fuel, p, hg, hty, hv, hd⟩ := laid_mem hl ("testbench/lexer.keywords", Rows.laid_testbench_lexer_keywords) (by simp)
  have gk : Tryd.prog.globalNamed "testbench/lexer.keywords" = some 0 := by kernel_rfl
  obtain rfl := Option.some.inj (gk.symm.trans hg)
  have hty' : (Tryd.prog.globals[0]?).map (·.type) = some 22 := by kernel_rfl
  obtain rfl := Option.some.inj (hty'.symm.trans hty)
  rcases ChangeShapes.open_strings Tryd.underlying22 Tryd.underlying9 (by kernel_rfl) hd with ⟨_, h0⟩ | ⟨a, len, cap, ss, h0, _, hlc, hcm, hsl, hx, hcell, hsz⟩
  · exact absurd (Prod.mk.inj h0).1 (by unfold Rows.laid_testbench_lexer_keywords; intro h; cases h)
  · have hx1 := (Prod.mk.inj hx).1
    have hk : (Rows.laid_testbench_lexer_keywords : DataW Unit) = .slice (strs keyWords) [] := by kernel_rfl
    rw [hk] at hx1
    obtain ⟨e1, e2⟩ := DataW.slice.inj hx1
    have hkw := strs_inj e1
    have hc0 : W.cell? ⟨0, 0, none⟩ = some (.slice (some a) len cap) := by
      have := World.var?_cell gk hv 0
      rw [this]
      have : cs.toList[0]? = some (.slice (some a) len cap) := by rw [h0]; rfl
      simpa using this
    have hl : keyWords.length = len := by
      have : (ss.take len).length = len := by rw [List.length_take, hsl]; simp; omega
      rw [hkw]; exact this
    refine ⟨_, hc0, some a, cap, by rw [hl], by omega, fun hp => ⟨a, rfl, ?_, fun j hj => ?_⟩⟩
    · have := hcell 0 (by rw [hsl]; simp; omega)
      have := World.block_lt_of_cell? _ _ this
      rwa [block_of_add] at this
    · rw [hcell j (by rw [hsl]; simp; omega), hkw]
      simp only [List.getD_eq_getElem?_getD]
      rw [List.getElem?_take_of_lt (by omega)]
      rfl

end Go.Proofs.YtbjcbndmafddoaaDoor
