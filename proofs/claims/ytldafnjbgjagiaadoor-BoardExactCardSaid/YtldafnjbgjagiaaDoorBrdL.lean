/-
  Reading the arguments of the laws of chapter 52; transactions that the law makes; its examples.
-/
import Derived.Test.YtldafnjbgjagiaaDoorBrrF
import Derived.Test.YtldafnjbgjagiaaDoorFrm
import Derived.Deep.Slices
import Derived.ChangeSame
import Derived.Deep.Fields
import Derived.SliceStrings
import Derived.DataShut
import Derived.ChangeSlices
namespace Go.Proofs.YtldafnjbgjagiaaDoor
open Go.RowKit Go.WideShapes Go.ChangeShapes Go.Deep
set_option linter.unusedVariables false
set_option linter.unusedSimpArgs false

section
variable {H : Type} {enc : TypeId × Value → H} {w : World} {base : Nat} {spare : Nat → Bool} {held : Bool}
theorem slw_of_trod {fuel : Nat} {c : Value} {x : DataW H × List MemPlace} (h : DataW.trod enc Tryd.prog w base spare held fuel 23 [c] = some x) :
    ∃ ns, SL w c ns ∧ ns.length ≤ 9223372036854775807 ∧ (∀ s ∈ ns, s.size ≤ 9223372036854775807) ∧ ((∀ n ∈ x.1.weights Tryd.prog 23, n ≤ reachBytes) → ns.length * 16 ≤ 140737488351232) := by
  rcases ChangeShapes.open_strings Tryd.underlying23 Tryd.underlying9 (by kernel_rfl) h with ⟨h0, _⟩ | ⟨a, len, cap, ss, h0, _, hlc, hcm, hsl, hx, hcell, hsz⟩
  · obtain rfl : c = .slice none 0 0 := by simpa using h0
    exact ⟨[], SL.nil w, by simp, by simp, fun _ => by simp⟩
  · obtain rfl : c = .slice (some a) len cap := by simpa using h0
    have hle : len ≤ ss.length := by rw [hsl]; split <;> omega
    have hl : (ss.take len).length = len := by rw [List.length_take]; omega
    refine ⟨ss.take len, ⟨some a, cap, by rw [hl], by omega, fun hp => ⟨a, rfl, ?_, fun j hj => ?_⟩⟩, by rw [hl]; unfold maxLen at hcm; omega, fun s hs => hsz s (List.mem_of_mem_take hs), fun hw => ?_⟩
    · have := hcell 0 (by omega)
      have := World.block_lt_of_cell? _ _ this
      rwa [block_of_add] at this
    · rw [hcell j (by omega)]
      simp only [List.getD_eq_getElem?_getD]
      rw [List.getElem?_take_of_lt (by omega)]
      rfl
    · rw [hx] at hw
      have hb : Tryd.prog.bytesOf 9 = 16 := by kernel_rfl
      have := hw ((ss.take len).length * 16 + (ss.drop len).length * 16) (by
        simp only [DataW.weights, Tryd.underlying23, strs, List.length_map, hb]
        rw [Nat.add_mul]
        exact List.mem_cons_self)
      unfold reachBytes at this
      omega
theorem ilw_of_trod {fuel : Nat} {c : Value} {x : DataW H × List MemPlace} (h : DataW.trod enc Tryd.prog w base spare held fuel 26 [c] = some x) :
    ∃ zs, IL w c zs ∧ zs.length ≤ 9223372036854775807 ∧ ((∀ n ∈ x.1.weights Tryd.prog 26, n ≤ reachBytes) → zs.length * 8 ≤ 140737488351232) := by
  rcases ChangeShapes.open_ints Tryd.underlying26 Tryd.underlying3 (by kernel_rfl) h with ⟨h0, _⟩ | ⟨a, len, cap, ss, h0, _, hlc, hcm, hsl, hx, hcell, _⟩
  · obtain rfl : c = .slice none 0 0 := by simpa using h0
    exact ⟨[], IL.nil w, by simp, fun _ => by simp⟩
  · obtain rfl : c = .slice (some a) len cap := by simpa using h0
    have hle : len ≤ ss.length := by rw [hsl]; split <;> omega
    have hl : (ss.take len).length = len := by rw [List.length_take]; omega
    refine ⟨ss.take len, ⟨some a, cap, by rw [hl], by omega, fun hp => ⟨a, rfl, ?_, fun j hj => ?_⟩⟩, by rw [hl]; unfold maxLen at hcm; omega, fun hw => ?_⟩
    · have := hcell 0 (by omega)
      have := World.block_lt_of_cell? _ _ this
      rwa [block_of_add] at this
    · rw [hcell j (by omega)]
      simp only [List.getD_eq_getElem?_getD]
      rw [List.getElem?_take_of_lt (by omega)]
    · rw [hx] at hw
      have hb : Tryd.prog.bytesOf 3 = 8 := by kernel_rfl
      have := hw ((ss.take len).length * 8 + (ss.drop len).length * 8) (by
        simp only [DataW.weights, Tryd.underlying26, lits, List.length_map, hb]
        rw [Nat.add_mul]
        exact List.mem_cons_self)
      unfold reachBytes at this
      omega
theorem weightsAll_mem {P : Program} {e : TypeId} : ∀ {ds : List (DataW H)} {d : DataW H} {n : Nat}, d ∈ ds → n ∈ d.weights P e → n ∈ DataW.weightsAll P e ds
  | d0 :: ds, d, n, hd, hn => by
    simp only [DataW.weightsAll, List.mem_append]
    rcases List.mem_cons.1 hd with rfl | hd
    · exact .inl hn
    · exact .inr (weightsAll_mem hd hn)
/-- Sizes of a transaction that came in; if the reach bounds them, it may be copied. -/
def ZT (t : Tx) (d : DataW H) : Prop := TZ t ∧ ((∀ n ∈ d.weights Tryd.prog 28, n ≤ reachBytes) → TF t)
set_option maxRecDepth 100000 in
theorem elem_txn (n : Nat) (us : List Value) (z : DataW H × List MemPlace) (hl : us.length = 2) (h : DataW.trod enc Tryd.prog w base spare held n 28 us = some z) : ∃ x, txR.R w us x anyB ∧ ZT x z.1 := by
  obtain ⟨y0, y1, m, rfl, _, h0, h1⟩ := trod_struct2 Tryd.underlying28 h
  match us, hl with
  | [u1, u2], _ =>
    obtain ⟨ns, hs, n1, n2, n3⟩ := slw_of_trod (c := u1) h0
    obtain ⟨zs, hi, n4, n5⟩ := ilw_of_trod (c := u2) h1
    refine ⟨(ns, zs), ⟨u1, u2, rfl, hs, hi, in_any _ _, in_any _ _⟩, ⟨n1, n4, n2⟩, fun hw => ?_⟩
    have hw0 : ∀ n ∈ y0.1.weights Tryd.prog 23, n ≤ reachBytes := fun n hn => hw n (by
      simp only [DataW.weights, Tryd.underlying28, DataW.weightsEach, List.map_cons, List.map_nil, List.mem_append]
      exact .inl hn)
    have hw1 : ∀ n ∈ y1.1.weights Tryd.prog 26, n ≤ reachBytes := fun n hn => hw n (by
      simp only [DataW.weights, Tryd.underlying28, DataW.weightsEach, List.map_cons, List.map_nil, List.mem_append]
      exact .inr (.inl hn))
    have a1 := n3 hw0
    have a2 := n5 hw1
    exact ⟨by show ns.length * 16 ≤ _; omega, by show zs.length * 8 ≤ _; omega⟩
/-- A slice of transactions that came in. -/
theorem arg_txns {fuel : Nat} {c : Value} {x : DataW H × List MemPlace} (h : DataW.trod enc Tryd.prog w base spare held fuel 22 [c] = some x) :
    ∃ ts, Rs txR w c ts anyB ∧ ts.length ≤ 9223372036854775807 ∧ (∀ t ∈ ts, TZ t) ∧ ((∀ n ∈ x.1.weights Tryd.prog 22, n ≤ reachBytes) → ts.length * 48 ≤ 140737488351232 ∧ ∀ t ∈ ts, TF t) := by
  obtain ⟨v, ts, hc, hr, hl, hd⟩ := rs_of_trod txR ZT Tryd.underlying22 (by kernel_rfl) (fun n us z hl h => elem_txn n us z hl h) h
  obtain rfl : c = v := by simpa using hc
  refine ⟨ts, hr, by unfold maxLen at hl; omega, ?_⟩
  rcases hd with ⟨_, rfl⟩ | ⟨ds, sp, hx, hdl, hz⟩
  · exact ⟨by simp, fun _ => by simp⟩
  · have hat : ∀ j, j < ts.length → ∃ t d, ts[j]? = some t ∧ ds[j]? = some d ∧ ZT t d := fun j hj => ⟨_, _, List.getElem?_eq_getElem hj, List.getElem?_eq_getElem (by omega), hz j _ _ (List.getElem?_eq_getElem hj) (List.getElem?_eq_getElem (by omega))⟩
    refine ⟨fun t ht => ?_, fun hw => ⟨?_, fun t ht => ?_⟩⟩
    · obtain ⟨j, hj, rfl⟩ := List.mem_iff_getElem.1 ht
      obtain ⟨t, d, h1, h2, h3⟩ := hat j hj
      rw [List.getElem?_eq_getElem hj] at h1
      cases h1
      exact h3.1
    · rw [hx] at hw
      have hb : Tryd.prog.bytesOf 28 = 48 := by kernel_rfl
      have := hw ((ds.length + sp.length) * 48) (by
        simp only [DataW.weights, Tryd.underlying22, hb]
        exact List.mem_cons_self)
      unfold reachBytes at this
      omega
    · obtain ⟨j, hj, rfl⟩ := List.mem_iff_getElem.1 ht
      obtain ⟨t, d, h1, h2, h3⟩ := hat j hj
      rw [List.getElem?_eq_getElem hj] at h1
      cases h1
      refine h3.2 fun n hn => hw n ?_
      rw [hx]
      simp only [DataW.weights, Tryd.underlying22, List.mem_cons, List.mem_append]
      exact .inr (.inl (weightsAll_mem (List.mem_of_getElem? h2) hn))
end
section
variable {H : Type} {enc : TypeId × Value → H} {W : World} {v : Value} {d : DataW H} {p : List MemPlace} {base : Nat}
theorem open_structL {P : Program} {w : World} {spare : Nat → Bool} {held : Bool} {r : Reach} {b0 base : Nat} {t : TypeId} {fs : Array Field} {v : Value} {d : DataW H} {p : List MemPlace} (hs : P.underlying t = some (.struct fs)) (hone : oneCellFields P fs = true) (hC : P.cellsOf t = fs.size)
    (hv : Value.okWide P w r b0 t v) (h : DataW.Trod enc P w base spare held t v d p) :
    ∃ (cs : List Value) (ys : List (DataW H × List MemPlace)) (n : Nat), v = .agg cs.toArray ∧ d = .agg (ys.map (·.1)) ∧ cs.length = fs.size ∧ ys.length = fs.size ∧
      ∀ (j : Nat) (f : Field), fs[j]? = some f → ∃ c y, cs[j]? = some c ∧ ys[j]? = some y ∧ DataW.trod enc P w base spare held n f.type [c] = some y := by
  obtain ⟨cs, rfl, hsz⟩ := okWide_struct hs hv
  obtain ⟨fuel, hf⟩ := h
  obtain ⟨ys, n, _, hx, _, hlen, hg⟩ := DataW.trod_struct hs hf
  simp only [Prod.mk.injEq] at hx
  refine ⟨cs.toList, ys, n, by simp, hx.1, by rw [Array.length_toList, hsz, hC], hlen, fun j f hj => ?_⟩
  obtain ⟨ho, hk⟩ := hone_of hone j f hj
  have hjl : j < fs.size := (Array.getElem?_eq_some_iff.1 hj).1
  have hc : j < cs.toList.length := by rw [Array.length_toList, hsz, hC]; exact hjl
  have h1 := hg j f hj
  rw [ho, hk] at h1
  have e1 : ((Value.agg cs).cells.toList.drop j).take 1 = [cs.toList[j]] := by
    show (cs.toList.drop j).take 1 = _
    rw [List.drop_eq_getElem_cons hc]; rfl
  rw [e1] at h1
  have hy : ys[j]? = some (ys[j]'(by omega)) := List.getElem?_eq_getElem (by omega)
  exact ⟨_, _, List.getElem?_eq_getElem hc, hy, h1.trans hy⟩
set_option maxRecDepth 100000 in
/-- An argument that is a transaction. -/
theorem arg_tx (h : DataW.Trod enc Tryd.prog W 0 (fun _ => true) true 28 v d p) (hv : Value.okWide Tryd.prog W .any base 28 v) :
    ∃ (v1 v2 : Value) (t : Tx), v = .agg #[v1, v2] ∧ SL W v1 t.1 ∧ IL W v2 t.2 ∧ TZ t := by
  obtain ⟨cs, ys, n, rfl, rfl, hcl, hyl, hf⟩ := open_structL Tryd.underlying28 (by kernel_rfl) (by kernel_rfl) hv h
  obtain ⟨c0, y0, e0, f0, h0⟩ := hf 0 _ rfl
  obtain ⟨c1, y1, e1, f1, h1⟩ := hf 1 _ rfl
  obtain rfl : cs = [c0, c1] := by
    match cs, hcl with
    | [_, _], _ => simp at e0 e1; rw [e0, e1]
  obtain ⟨ns, hs, hl, hz, _⟩ := slw_of_trod h0
  obtain ⟨zs, hi, hm, _⟩ := ilw_of_trod h1
  exact ⟨c0, c1, (ns, zs), rfl, hs, hi, hl, hm, hz⟩
set_option maxRecDepth 100000 in
/-- An argument that is a board. -/
theorem arg_board (h : DataW.Trod enc Tryd.prog W 0 (fun _ => true) true 25 v d p) (hv : Value.okWide Tryd.prog W .any base 25 v) :
    ∃ (b : Bd) (A1 A2 : Option Addr) (c1 c2 : Nat), v = .agg #[.bool b.ord, .string b.key, .slice A1 b.want.length c1, .int .i64 b.mat, .slice A2 b.wrg.length c2] ∧ Rs txR W (.slice A1 b.want.length c1) b.want anyB ∧ SL W (.slice A2 b.wrg.length c2) b.wrg ∧
      b.key.size ≤ maxLen ∧ I64 b.mat ∧ b.want.length ≤ 9223372036854775807 ∧ b.wrg.length ≤ 9223372036854775807 ∧ (∀ t ∈ b.want, TZ t) ∧
      ((∀ n ∈ d.weights Tryd.prog 25, n ≤ reachBytes) → b.want.length * 48 ≤ 140737488351232 ∧ b.wrg.length * 16 ≤ 140737488351232 ∧ ∀ t ∈ b.want, TF t) := by
  obtain ⟨cs, ys, n, rfl, rfl, hcl, hyl, hf⟩ := open_structL Tryd.underlying25 (by kernel_rfl) (by kernel_rfl) hv h
  obtain ⟨a0, y0, e0, f0, h0⟩ := hf 0 _ rfl
  obtain ⟨a1, y1, e1, f1, h1⟩ := hf 1 _ rfl
  obtain ⟨a2, y2, e2, f2, h2⟩ := hf 2 _ rfl
  obtain ⟨a3, y3, e3, f3, h3⟩ := hf 3 _ rfl
  obtain ⟨a4, y4, e4, f4, h4⟩ := hf 4 _ rfl
  obtain rfl : cs = [a0, a1, a2, a3, a4] := by
    match cs, hcl with
    | [_, _, _, _, _], _ => simp at e0 e1 e2 e3 e4; rw [e0, e1, e2, e3, e4]
  obtain rfl : ys = [y0, y1, y2, y3, y4] := by
    match ys, hyl with
    | [_, _, _, _, _], _ => simp at f0 f1 f2 f3 f4; rw [f0, f1, f2, f3, f4]
  obtain ⟨o, ho, _⟩ := DataW.trod_bool Tryd.underlying4 h0
  obtain ⟨s, hs, _, hsz⟩ := DataW.trod_string Tryd.underlying9 h1
  obtain ⟨ts, hr, hl, hz, hw⟩ := arg_txns h2
  obtain ⟨m, hm, _, hmw⟩ := DataW.trod_int Tryd.underlying3 h3
  obtain ⟨gs, hg, hgl, _, hgw⟩ := slw_of_trod h4
  obtain rfl : a0 = .bool o := by simpa using ho
  obtain rfl : a1 = .string s := by simpa using hs
  obtain rfl : a3 = .int .i64 m := by simpa using hm
  obtain ⟨A1, c1, rfl, -⟩ := hr.slice
  obtain ⟨A2, c2, rfl, -⟩ := id hg
  refine ⟨⟨o, s, ts, m, gs⟩, A1, A2, c1, c2, rfl, hr, hg, hsz, ?_, hl, hgl, hz, fun hwt => ?_⟩
  · have := (Lit.wf_int_iff .i64 m).1 hmw
    exact ⟨Int.le_trans (by decide) this.1, Int.le_trans this.2 (by decide)⟩
  · have w2 := hw fun n hn => hwt n (by
      simp only [DataW.weights, Tryd.underlying25, DataW.weightsEach, List.map_cons, List.map_nil, List.mem_append]
      exact .inr (.inr (.inl hn)))
    have w4 := hgw fun n hn => hwt n (by
      simp only [DataW.weights, Tryd.underlying25, DataW.weightsEach, List.map_cons, List.map_nil, List.mem_append]
      exact .inr (.inr (.inr (.inr (.inl hn)))))
    exact ⟨w2.1, w4, w2.2⟩
theorem strs_injL : ∀ {a b : List ByteArray}, (strs a : List (DataW H)) = strs b → a = b
  | [], [], _ => rfl
  | [], _ :: _, h => by simp [strs] at h
  | _ :: _, [], h => by simp [strs] at h
  | x :: a, y :: b, h => by
    simp only [strs, List.map_cons, List.cons.injEq, DataW.lit.injEq, Lit.string.injEq] at h
    have h2 : (strs a : List (DataW H)) = strs b := h.2
    rw [strs_injL h2, ba_eq h.1]
end

set_option maxRecDepth 100000 in
theorem kw_of_laid {W : World} (h : laidMetH Tryd.prog [("math/bits.deBruijn32tab", Rows.laid_math_bits_deBruijn32tab), ("math/bits.deBruijn64tab", Rows.laid_math_bits_deBruijn64tab), ("internal/strconv.uint64pow10", Rows.laid_internal_strconv_uint64pow10), ("testbench/lexer.keywords", Rows.laid_testbench_lexer_keywords)] W) : KW W := by
  rw [MakeChecks.laidMetH_plain _ _ _ (by kernel_rfl)] at h
  obtain ⟨ps, hl, _⟩ := h
  obtain ⟨g, t, cs, fuel, p, hg, hty, hv, hd⟩ := laid_mem hl ("testbench/lexer.keywords", Rows.laid_testbench_lexer_keywords) (by simp)
  have gk : Tryd.prog.globalNamed "testbench/lexer.keywords" = some 0 := by kernel_rfl
  obtain rfl := Option.some.inj (gk.symm.trans hg)
  have hty' : (Tryd.prog.globals[0]?).map (·.type) = some 23 := by kernel_rfl
  obtain rfl := Option.some.inj (hty'.symm.trans hty)
  rcases ChangeShapes.open_strings Tryd.underlying23 Tryd.underlying9 (by kernel_rfl) hd with ⟨_, h0⟩ | ⟨a, len, cap, ss, h0, _, hlc, hcm, hsl, hx, hcell, hsz⟩
  · exact absurd (Prod.mk.inj h0).1 (by unfold Rows.laid_testbench_lexer_keywords; intro h; cases h)
  · have hx1 := (Prod.mk.inj hx).1
    have hk : (Rows.laid_testbench_lexer_keywords : DataW Unit) = .slice (strs keyWords) [] := by kernel_rfl
    rw [hk] at hx1
    obtain ⟨e1, e2⟩ := DataW.slice.inj hx1
    have hkw := strs_injL e1
    have hc0 : W.cell? ⟨0, 0, none⟩ = some (.slice (some a) len cap) := by
      have := World.var?_cell gk hv 0
      rw [this]
      have : cs.toList[0]? = some (.slice (some a) len cap) := by rw [h0]; rfl
      simpa using this
    have hl : keyWords.length = len := by
      have : (ss.take len).length = len := by rw [List.length_take, hsl]; simp; omega
      rw [hkw]; exact this
    refine ⟨_, hc0, some a, cap, by rw [hl], by omega, fun hp => ⟨a, rfl, ?_, fun j hj => ?_⟩⟩
    · have := hcell 0 (by rw [hsl]; simp; omega)
      have := World.block_lt_of_cell? _ _ this
      rwa [block_of_add] at this
    · rw [hcell j (by rw [hsl]; simp; omega), hkw]
      simp only [List.getD_eq_getElem?_getD]
      rw [List.getElem?_take_of_lt (by omega)]
      rfl

end Go.Proofs.YtldafnjbgjagiaaDoor
