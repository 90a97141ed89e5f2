/-
  Contract of txn.Print.
  The law's awake.
  Reading the arguments of the laws of chapter 26; the table of keywords out of the listed variables.
-/
import Derived.Test.YthpioaboekpjoaaDoorTxD
import Derived.Lib.ItoaLen
import Derived.Test.YthpioaboekpjoaaDoorDec
import Derived.Test.YthpioaboekpjoaaDoorFrm
import Derived.Deep.Slices
import Derived.ChangeSame
import Derived.Deep.Fields
import Derived.SliceStrings
import Derived.ChangeSlices
namespace Go.Proofs.YthpioaboekpjoaaDoor
section
open Go.RowKit
set_option linter.unusedVariables false
set_option linter.unusedSimpArgs false

def fVal (j : Nat) (D : List Nat) (v : Value) : FOp := ⟨j, D, fun u => u = v, fun u w => u = v⟩
theorem fVal_st (j : Nat) (D : List Nat) (v : Value) : ∀ u w w', (fVal j D v).Φ u w → Below w.heap.size w w' → (fVal j D v).Φ u w' := fun u w w' h _ => h
theorem fVal_kn (j : Nat) (D : List Nat) (v : Value) : (∀ u w, (fVal j D v).Φ u w → (fVal j D v).S u) ∧ ∃ u, (fVal j D v).S u := ⟨fun u w h => h, v, rfl⟩
theorem fmt_sz (n : Int) (h0 : 0 ≤ n) (h1 : n ≤ 65535) : (fmtS n).size ≤ 21 := by
  have := Lib.itoa_length_le n (by omega) (by omega)
  unfold fmtS
  rw [Lib.size_eq]; simpa using this
theorem prs_sz {ns : List ByteArray} {zs : List Int} (h : ∀ s ∈ ns, s.size ≤ 2000000) {k : Nat} (hk : k < (prs ns zs).length) : ((prs ns zs).getD k pr0).1.size ≤ 2000000 := by
  have hl := prs_len ns zs
  have hkn : k < ns.length := by omega
  have hkz : k < zs.length := by omega
  rw [prs_get ns zs k hkn hkz]
  exact h _ (getD_mem ⟨#[]⟩ hkn)
/-- The text of a pair. -/
def pstr (p : Pr) : ByteArray := (p.1 ++ ⟨#[61]⟩) ++ fmtS p.2
def joinP (l : List ByteArray) : List UInt8 := Lib.join (l.map (·.data.toList)) [32]
def printT (ns : List ByteArray) (zs : List Int) : ByteArray := if txV ns zs = true then ⟨(joinP ((prs ns zs).map pstr)).toArray⟩ else ⟨#[]⟩
theorem joinCall (w : World) (base : Nat) (v : Value) (xs : List ByteArray) (n : Nat) (h : w.ownsRow base 9 1 v n (scells xs)) (hn : n ≤ 140737488355328) (hj : (joinP xs).length ≤ 140737488355328) :
    Calls Tryd.prog 44 #[v, .string ⟨#[32]⟩] w fun e w' => e = .returned (.string ⟨(joinP xs).toArray⟩) ∧ Below w.heap.size w w' := by
  have hl : xs.length = n := by have := h.1; simpa [scells] using this
  have h0 := h
  rcases h.2 with ⟨rfl, h2⟩ | ⟨g, cap, cur, rfl, hg, hh, hnc, _⟩
  · have : xs = [] := List.eq_nil_of_length_eq_zero (by omega)
    subst this
    exact (Tryd.strings_Join_none none 0 ⟨#[32]⟩ w).mono fun e w' ⟨he, hw⟩ => ⟨he, by rw [hw]; exact Below.refl _ _⟩
  · subst hl
    have hlt : g < w.heap.size := by
      rcases Nat.lt_or_ge g w.heap.size with hlt | hge
      · exact hlt
      · rw [Array.getElem?_eq_none hge] at hh; cases hh
    refine Tryd.strings_Join g 0 cap xs ⟨#[32]⟩ w (fun j x hx => ?_) hlt hn (by omega) hj
    have := World.ownsRow.cells h0 (g := g) rfl j (.string x) (by simp [scells, hx])
    rw [show (⟨g, 0, none⟩ : Addr).add j = ⟨g, j, none⟩ by unfold Addr.add; split <;> simp_all] at this
    rw [Nat.zero_add]; exact this
theorem map_snocD {l : List Pr} {k : Nat} (h : k < l.length) : (l.take (k + 1)).map pstr = (l.take k).map pstr ++ [pstr (l.getD k pr0)] := by
  rw [take_snocD _ k pr0 h, List.map_append]; rfl
theorem prs_word {ns : List ByteArray} {zs : List Int} (h : txV ns zs = true) {k : Nat} (hk : k < (prs ns zs).length) : 0 ≤ ((prs ns zs).getD k pr0).2 ∧ ((prs ns zs).getD k pr0).2 ≤ 65535 := by
  have hv : TxV ns zs := of_decide_eq_true h
  have hl := prs_len ns zs
  have hkn : k < ns.length := by omega
  have hkz : k < zs.length := by omega
  rw [prs_get ns zs k hkn hkz]
  have := hv.2.2.2.2 _ (getD_mem 0 hkz)
  exact of_decide_eq_true this
end

section
section
open Go.RowKit
set_option linter.unusedVariables false
set_option linter.unusedSimpArgs false

def xA : ByteArray := ⟨#[97]⟩
def xB2 : ByteArray := ⟨#[98, 91, 50, 93]⟩
theorem fmt_one {i : Nat} (h : i < 10) : fmtS (i : Int) = ⟨#[UInt8.ofNat (48 + i)]⟩ := by
  unfold fmtS
  rw [Lib.itoa_nonneg, Lib.decDigits_one h]
theorem par_one {i : Nat} (h : i < 10) (d : ByteArray) (hd : d = ⟨#[UInt8.ofNat (48 + i)]⟩) : parV d = i ∧ parE d = 0 := by
  rw [hd, ← fmt_one h]
  exact par_fmt (i : Int) (by omega) (by omega)
theorem part_good {s n d : ByteArray} {i : Nat} (h : i < 10) (h1 : hasB 61 s = true) (h2 : preB 61 s = n) (h3 : posB 61 s = d) (h4 : varB n = true) (hd : d = ⟨#[UInt8.ofNat (48 + i)]⟩) : partT s = (n, (i : Int), 0) := by
  have hp := par_one h d hd
  unfold partT
  rw [h2, h3, hp.1, hp.2, if_neg (by simp [h1, h4]), if_neg (by decide), if_neg (by
    have : wordB (i : Int) = true := by unfold wordB; exact decide_eq_true (by omega)
    simp [this])]
theorem partA : partT ⟨#[97, 61, 49]⟩ = (xA, 1, 0) := part_good (d := ⟨#[49]⟩) (i := 1) (by decide) (by decide +kernel) (by decide +kernel) (by decide +kernel) (by decide +kernel) (by decide +kernel)
theorem partB2 : partT ⟨#[98, 91, 50, 93, 61, 55]⟩ = (xB2, 7, 0) := part_good (d := ⟨#[55]⟩) (i := 7) (by decide) (by decide +kernel) (by decide +kernel) (by decide +kernel) (by decide +kernel) (by decide +kernel)
theorem awkParse : parseT ⟨#[97, 61, 49, 32, 98, 91, 50, 93, 61, 55]⟩ = ([xA, xB2], [1, 7], 0) := by
  have hw : words 32 ⟨#[97, 61, 49, 32, 98, 91, 50, 93, 61, 55]⟩ = [⟨#[97, 61, 49]⟩, ⟨#[98, 91, 50, 93, 61, 55]⟩] := by decide +kernel
  have hr : prsRun (words 32 ⟨#[97, 61, 49, 32, 98, 91, 50, 93, 61, 55]⟩) [] [] = ([xA, xB2], [1, 7], 0) := by
    rw [hw, prs_go (by rw [partA]) (by rw [partA]; decide +kernel), partA, prs_go (by rw [partB2]) (by rw [partB2]; decide +kernel), partB2, prs_nil]; rfl
  unfold parseT
  rw [hr, if_neg (by decide), if_neg (by rintro ⟨_, h⟩; revert h; show ¬ 128 < 2; decide)]
theorem awkDup : parseT ⟨#[97, 61, 49, 32, 97, 61, 49]⟩ = ([], [], 8) := by
  have hw : words 32 ⟨#[97, 61, 49, 32, 97, 61, 49]⟩ = [⟨#[97, 61, 49]⟩, ⟨#[97, 61, 49]⟩] := by decide +kernel
  have hr : prsRun (words 32 ⟨#[97, 61, 49, 32, 97, 61, 49]⟩) [] [] = ([], [], 8) := by
    rw [hw, prs_go (by rw [partA]) (by rw [partA]; decide +kernel), partA, prs_dup (by rw [partA]) (by rw [partA]; decide +kernel)]
  unfold parseT
  rw [hr, if_neg (by decide), if_neg (by rintro ⟨h, _⟩; revert h; decide)]
theorem awkGet : getT [xA, xB2] [1, 7] ⟨#[98, 91, 50, 93]⟩ = (7, true) := by decide +kernel
theorem awkValid : txV [xA, xB2] [1, 7] = true := by decide +kernel
theorem awkJoin : joinP ((prs [xA, xB2] [1, 7]).map pstr) = [97, 61, 49, 32, 98, 91, 50, 93, 61, 55] := by
  have h1 : fmtS 1 = ⟨#[49]⟩ := fmt_one (i := 1) (by decide)
  have h7 : fmtS 7 = ⟨#[55]⟩ := fmt_one (i := 7) (by decide)
  have : (prs [xA, xB2] [1, 7]).map pstr = [⟨#[97, 61, 49]⟩, ⟨#[98, 91, 50, 93, 61, 55]⟩] := by
    show [pstr (xA, 1), pstr (xB2, 7)] = _
    unfold pstr
    rw [h1, h7]
    decide +kernel
  rw [this]
  decide +kernel
theorem awkPrint : printT [xA, xB2] [1, 7] = ⟨#[97, 61, 49, 32, 98, 91, 50, 93, 61, 55]⟩ := by
  unfold printT
  rw [if_pos awkValid, awkJoin]
theorem awkDiff : difT [⟨#[97]⟩, ⟨#[98]⟩] [1, 2] [⟨#[98]⟩, ⟨#[99]⟩] [3, 4] = [⟨#[97]⟩, ⟨#[98]⟩, ⟨#[99]⟩] := by decide +kernel
end
open Go.RowKit
set_option linter.unusedVariables false
set_option linter.unusedSimpArgs false
end

section
open Go.RowKit Go.WideShapes Go.ChangeShapes Go.Deep
set_option linter.unusedVariables false
set_option linter.unusedSimpArgs false

theorem strs_inj {H : Type} : ∀ {a b : List ByteArray}, (strs a : List (DataW H)) = strs b → a = b
  | [], [], _ => rfl
  | [], _ :: _, h => by simp [strs] at h
  | _ :: _, [], h => by simp [strs] at h
  | x :: a, y :: b, h => by
    simp only [strs, List.map_cons, List.cons.injEq, DataW.lit.injEq, Lit.string.injEq] at h
    have h2 : (strs a : List (DataW H)) = strs b := h.2
    rw [strs_inj h2, ba_eq h.1]
set_option maxRecDepth 100000 in
theorem kw_of_laid {W : World} (h : laidMetH Tryd.prog [("math/bits.deBruijn32tab", Rows.laid_math_bits_deBruijn32tab), ("math/bits.deBruijn64tab", Rows.laid_math_bits_deBruijn64tab), ("internal/strconv.uint64pow10", Rows.laid_internal_strconv_uint64pow10), ("unicode/utf8.acceptRanges", Rows.laid_unicode_utf8_acceptRanges), ("testbench/lexer.keywords", Rows.laid_testbench_lexer_keywords), ("unicode/utf8.first", Rows.laid_unicode_utf8_first)] W) : KW W := by
  rw [MakeChecks.laidMetH_plain _ _ _ (by kernel_rfl)] at h
  obtain ⟨ps, hl, _⟩ := h
  obtain ⟨g, t, cs, fuel, p, hg, hty, hv, hd⟩ := laid_mem hl ("testbench/lexer.keywords", Rows.laid_testbench_lexer_keywords) (by simp)
  have gk : Tryd.prog.globalNamed "testbench/lexer.keywords" = some 1 := by kernel_rfl
  obtain rfl := Option.some.inj (gk.symm.trans hg)
  have hty' : (Tryd.prog.globals[1]?).map (·.type) = some 23 := by kernel_rfl
  obtain rfl := Option.some.inj (hty'.symm.trans hty)
  rcases ChangeShapes.open_strings Tryd.underlying23 Tryd.underlying9 (by kernel_rfl) hd with ⟨_, h0⟩ | ⟨a, len, cap, ss, h0, _, hlc, hcm, hsl, hx, hcell, hsz⟩
  · exact absurd (Prod.mk.inj h0).1 (by unfold Rows.laid_testbench_lexer_keywords; intro h; cases h)
  · have hx1 := (Prod.mk.inj hx).1
    have hk : (Rows.laid_testbench_lexer_keywords : DataW Unit) = .slice (strs keyWords) [] := by kernel_rfl
    rw [hk] at hx1
    obtain ⟨e1, e2⟩ := DataW.slice.inj hx1
    have hkw := strs_inj e1
    have hc0 : W.cell? ⟨1, 0, none⟩ = some (.slice (some a) len cap) := by
      have := World.var?_cell gk hv 0
      rw [this]
      have : cs.toList[0]? = some (.slice (some a) len cap) := by rw [h0]; rfl
      simpa using this
    have hl : keyWords.length = len := by
      have : (ss.take len).length = len := by rw [List.length_take, hsl]; simp; omega
      rw [hkw]; exact this
    refine ⟨_, hc0, some a, cap, by rw [hl], by omega, fun hp => ⟨a, rfl, ?_, fun j hj => ?_⟩⟩
    · have := hcell 0 (by rw [hsl]; simp; omega)
      have := World.block_lt_of_cell? _ _ this
      rwa [block_of_add] at this
    · rw [hcell j (by rw [hsl]; simp; omega), hkw]
      simp only [List.getD_eq_getElem?_getD]
      rw [List.getElem?_take_of_lt (by omega)]
      rfl
end
end Go.Proofs.YthpioaboekpjoaaDoor
