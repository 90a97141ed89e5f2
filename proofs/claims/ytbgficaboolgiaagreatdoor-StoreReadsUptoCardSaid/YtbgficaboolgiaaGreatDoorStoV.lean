/-
  Reading the arguments of the laws of chapter 56: results, lists of results, a question, lists of texts.
-/
import Derived.Test.YtbgficaboolgiaaGreatDoorStoU
import Derived.Test.YtbgficaboolgiaaGreatDoorFrm
import Derived.Deep.Slices
import Derived.ChangeSame
import Derived.Deep.Fields
import Derived.SliceStrings
import Derived.DataShut
import Derived.ChangeSlices
namespace Go.Proofs.YtbgficaboolgiaaGreatDoor
open Go.RowKit Go.WideShapes Go.ChangeShapes Go.Deep
set_option linter.unusedVariables false
set_option linter.unusedSimpArgs false

/-- A struct by value, whatever the number of its one-cell fields. -/
theorem open_struct {H : Type} {enc : TypeId × Value → H} {P : Program} {w : World} {base : Nat} {spare : Nat → Bool} {held : Bool} {r : Reach} {b0 : Nat} {t : TypeId} {fs : Array Field} {v : Value} {d : DataW H} {p : List MemPlace} (hs : P.underlying t = some (.struct fs)) (hone : oneCellFields P fs = true) (hC : P.cellsOf t = fs.size)
    (hv : Value.okWide P w r b0 t v) (h : DataW.Trod enc P w base spare held t v d p) :
    ∃ (cs : List Value) (ys : List (DataW H × List MemPlace)) (n : Nat), v = .agg cs.toArray ∧ d = .agg (ys.map (·.1)) ∧ p = ys.flatMap (·.2) ∧ cs.length = fs.size ∧ ys.length = fs.size ∧
      ∀ (j : Nat) (f : Field), fs[j]? = some f → ∃ c y, cs[j]? = some c ∧ ys[j]? = some y ∧ DataW.trod enc P w base spare held n f.type [c] = some y := by
  obtain ⟨cs, rfl, hsz⟩ := okWide_struct hs hv
  obtain ⟨fuel, hf⟩ := h
  obtain ⟨ys, n, _, hx, _, hlen, hg⟩ := DataW.trod_struct hs hf
  simp only [Prod.mk.injEq] at hx
  refine ⟨cs.toList, ys, n, by simp, hx.1, hx.2, by rw [Array.length_toList, hsz, hC], hlen, fun j f hj => ?_⟩
  obtain ⟨ho, hk⟩ := hone_of hone j f hj
  have hjl : j < fs.size := (Array.getElem?_eq_some_iff.1 hj).1
  have hc : j < cs.toList.length := by rw [Array.length_toList, hsz, hC]; exact hjl
  have h1 := hg j f hj
  rw [ho, hk] at h1
  have e1 : ((Value.agg cs).cells.toList.drop j).take 1 = [cs.toList[j]] := by
    show (cs.toList.drop j).take 1 = _
    rw [List.drop_eq_getElem_cons hc]; rfl
  rw [e1] at h1
  have hy : ys[j]? = some (ys[j]'(by omega)) := List.getElem?_eq_getElem (by omega)
  exact ⟨_, _, List.getElem?_eq_getElem hc, hy, h1.trans hy⟩
section
variable {H : Type} {enc : TypeId × Value → H} {w : World} {base : Nat} {spare : Nat → Bool} {held : Bool}
theorem il_of_trod {fuel : Nat} {c : Value} {x : DataW H × List MemPlace} (h : DataW.trod enc Tryz.prog w base spare held fuel 95 [c] = some x) :
    ∃ zs, IL w c zs ∧ zs.length ≤ 9223372036854775807 := by
  rcases ChangeShapes.open_ints Tryz.underlying95 Tryz.underlying3 (by kernel_rfl) h with ⟨h0, _⟩ | ⟨a, len, cap, ss, h0, _, hlc, hcm, hsl, _, hcell, _⟩
  · obtain rfl : c = .slice none 0 0 := by simpa using h0
    exact ⟨[], IL.nil w, by simp⟩
  · obtain rfl : c = .slice (some a) len cap := by simpa using h0
    have hle : len ≤ ss.length := by rw [hsl]; split <;> omega
    have hl : (ss.take len).length = len := by rw [List.length_take]; omega
    refine ⟨ss.take len, ⟨some a, cap, by rw [hl], by omega, fun hp => ⟨a, rfl, ?_, fun j hj => ?_⟩⟩, by rw [hl]; unfold maxLen at hcm; omega⟩
    · have := hcell 0 (by omega)
      have := World.block_lt_of_cell? _ _ this
      rwa [block_of_add] at this
    · rw [hcell j (by omega)]
      simp only [List.getD_eq_getElem?_getD]
      rw [List.getElem?_take_of_lt (by omega)]
theorem rows_of_trod {fuel : Nat} {c : Value} {x : DataW H × List MemPlace} (h : DataW.trod enc Tryz.prog w base spare held fuel 24 [c] = some x) :
    ∃ rs, Rs ilR w c rs anyB ∧ rs.length ≤ 9223372036854775807 ∧ ∀ r ∈ rs, r.length ≤ 9223372036854775807 := by
  obtain ⟨u, rs, hc, hr, hm, hd⟩ := rs_of_trod ilR (fun r _ => r.length ≤ 9223372036854775807) Tryz.underlying24 (by kernel_rfl) (fun n us z hl h => by
    match us, hl with
    | [u], _ =>
      obtain ⟨zs, hi, hm⟩ := il_of_trod h
      exact ⟨zs, ⟨u, rfl, hi, in_any _ _⟩, hm⟩) h
  obtain rfl : c = u := by simpa using hc
  refine ⟨rs, hr, by unfold maxLen at hm; omega, fun r hr' => ?_⟩
  rcases hd with ⟨_, rfl⟩ | ⟨ds, sp, _, hdl, hz⟩
  · cases hr'
  · obtain ⟨j, hj, rfl⟩ := List.mem_iff_getElem.1 hr'
    exact hz j _ _ (List.getElem?_eq_getElem hj) (List.getElem?_eq_getElem (by omega))
set_option maxRecDepth 100000 in
theorem res_core {n : Nat} {us : List Value} {z : DataW H × List MemPlace} (hl : us.length = 11) (h : DataW.trod enc Tryz.prog w base spare held n 28 us = some z) :
    ∃ p q r, us = resL p q r ∧ Rs ilR w p r.pts anyB ∧ Rs ilR w q r.crs anyB ∧ ResZ r ∧ ((∀ n ∈ z.1.weights Tryz.prog 28, n ≤ reachBytes) → r.test.size ≤ 140737488351232) := by
  have c9 : Tryz.prog.cellsOf 9 = 1 := by kernel_rfl
  have c22 : Tryz.prog.cellsOf 23 = 1 := by kernel_rfl
  have c3 : Tryz.prog.cellsOf 3 = 1 := by kernel_rfl
  have c23 : Tryz.prog.cellsOf 24 = 1 := by kernel_rfl
  have c25 : Tryz.prog.cellsOf 26 = 4 := by kernel_rfl
  obtain ⟨xs, m, rfl, rfl, -, hxl, hf⟩ := DataW.trod_struct Tryz.underlying28 h
  match us, hl with
  | [u0, u1, u2, u3, u4, u5, u6, u7, u8, u9, ua], _ =>
    have gx : ∀ i, i < 8 → xs[i]? = some (xs.getD i (.nil, [])) := fun i hi => by
      have hi' : i < xs.length := by rw [hxl]; exact hi
      rw [List.getD_eq_getElem?_getD, List.getElem?_eq_getElem hi']; rfl
    have h0 : DataW.trod enc Tryz.prog w base spare held m 9 [u0] = some (xs.getD 0 (.nil, [])) := by
      have := hf 0 _ rfl
      rw [gx 0 (by decide)] at this
      change DataW.trod enc Tryz.prog w base spare held m 9 (([u0, u1, u2, u3, u4, u5, u6, u7, u8, u9, ua].drop 0).take (Tryz.prog.cellsOf 9)) = _ at this
      rw [c9] at this; exact this
    have h1 : DataW.trod enc Tryz.prog w base spare held m 23 [u1] = some (xs.getD 1 (.nil, [])) := by
      have := hf 1 _ rfl
      rw [gx 1 (by decide)] at this
      change DataW.trod enc Tryz.prog w base spare held m 23 (([u0, u1, u2, u3, u4, u5, u6, u7, u8, u9, ua].drop 1).take (Tryz.prog.cellsOf 23)) = _ at this
      rw [c22] at this; exact this
    have h2 : DataW.trod enc Tryz.prog w base spare held m 9 [u2] = some (xs.getD 2 (.nil, [])) := by
      have := hf 2 _ rfl
      rw [gx 2 (by decide)] at this
      change DataW.trod enc Tryz.prog w base spare held m 9 (([u0, u1, u2, u3, u4, u5, u6, u7, u8, u9, ua].drop 2).take (Tryz.prog.cellsOf 9)) = _ at this
      rw [c9] at this; exact this
    have h3 : DataW.trod enc Tryz.prog w base spare held m 9 [u3] = some (xs.getD 3 (.nil, [])) := by
      have := hf 3 _ rfl
      rw [gx 3 (by decide)] at this
      change DataW.trod enc Tryz.prog w base spare held m 9 (([u0, u1, u2, u3, u4, u5, u6, u7, u8, u9, ua].drop 3).take (Tryz.prog.cellsOf 9)) = _ at this
      rw [c9] at this; exact this
    have h4 : DataW.trod enc Tryz.prog w base spare held m 3 [u4] = some (xs.getD 4 (.nil, [])) := by
      have := hf 4 _ rfl
      rw [gx 4 (by decide)] at this
      change DataW.trod enc Tryz.prog w base spare held m 3 (([u0, u1, u2, u3, u4, u5, u6, u7, u8, u9, ua].drop 4).take (Tryz.prog.cellsOf 3)) = _ at this
      rw [c3] at this; exact this
    have h5 : DataW.trod enc Tryz.prog w base spare held m 3 [u5] = some (xs.getD 5 (.nil, [])) := by
      have := hf 5 _ rfl
      rw [gx 5 (by decide)] at this
      change DataW.trod enc Tryz.prog w base spare held m 3 (([u0, u1, u2, u3, u4, u5, u6, u7, u8, u9, ua].drop 5).take (Tryz.prog.cellsOf 3)) = _ at this
      rw [c3] at this; exact this
    have h6 : DataW.trod enc Tryz.prog w base spare held m 3 [u6] = some (xs.getD 6 (.nil, [])) := by
      have := hf 6 _ rfl
      rw [gx 6 (by decide)] at this
      change DataW.trod enc Tryz.prog w base spare held m 3 (([u0, u1, u2, u3, u4, u5, u6, u7, u8, u9, ua].drop 6).take (Tryz.prog.cellsOf 3)) = _ at this
      rw [c3] at this; exact this
    have h7 : DataW.trod enc Tryz.prog w base spare held m 26 [u7, u8, u9, ua] = some (xs.getD 7 (.nil, [])) := by
      have := hf 7 _ rfl
      rw [gx 7 (by decide)] at this
      change DataW.trod enc Tryz.prog w base spare held m 26 (([u0, u1, u2, u3, u4, u5, u6, u7, u8, u9, ua].drop 7).take (Tryz.prog.cellsOf 26)) = _ at this
      rw [c25] at this; exact this
    obtain ⟨ys, m2, rfl, -, -, hyl, hg⟩ := DataW.trod_struct Tryz.underlying26 h7
    have gy : ∀ i, i < 4 → ys[i]? = some (ys.getD i (.nil, [])) := fun i hi => by
      have hi' : i < ys.length := by rw [hyl]; exact hi
      rw [List.getD_eq_getElem?_getD, List.getElem?_eq_getElem hi']; rfl
    have k0 : DataW.trod enc Tryz.prog w base spare held m2 24 [u7] = some (ys.getD 0 (.nil, [])) := by
      have := hg 0 _ rfl
      rw [gy 0 (by decide)] at this
      change DataW.trod enc Tryz.prog w base spare held m2 24 (([u7, u8, u9, ua].drop 0).take (Tryz.prog.cellsOf 24)) = _ at this
      rw [c23] at this; exact this
    have k1 : DataW.trod enc Tryz.prog w base spare held m2 24 [u8] = some (ys.getD 1 (.nil, [])) := by
      have := hg 1 _ rfl
      rw [gy 1 (by decide)] at this
      change DataW.trod enc Tryz.prog w base spare held m2 24 (([u7, u8, u9, ua].drop 1).take (Tryz.prog.cellsOf 24)) = _ at this
      rw [c23] at this; exact this
    have k2 : DataW.trod enc Tryz.prog w base spare held m2 3 [u9] = some (ys.getD 2 (.nil, [])) := by
      have := hg 2 _ rfl
      rw [gy 2 (by decide)] at this
      change DataW.trod enc Tryz.prog w base spare held m2 3 (([u7, u8, u9, ua].drop 2).take (Tryz.prog.cellsOf 3)) = _ at this
      rw [c3] at this; exact this
    have k3 : DataW.trod enc Tryz.prog w base spare held m2 3 [ua] = some (ys.getD 3 (.nil, [])) := by
      have := hg 3 _ rfl
      rw [gy 3 (by decide)] at this
      change DataW.trod enc Tryz.prog w base spare held m2 3 (([u7, u8, u9, ua].drop 3).take (Tryz.prog.cellsOf 3)) = _ at this
      rw [c3] at this; exact this
    obtain ⟨s0, e0, x0, z0⟩ := DataW.trod_string Tryz.underlying9 h0
    obtain ⟨n1, e1, -, z1⟩ := DataW.trod_int Tryz.underlying23 h1
    obtain ⟨s2, e2, -, z2⟩ := DataW.trod_string Tryz.underlying9 h2
    obtain ⟨s3, e3, -, z3⟩ := DataW.trod_string Tryz.underlying9 h3
    obtain ⟨n4, e4, -, z4⟩ := DataW.trod_int Tryz.underlying3 h4
    obtain ⟨n5, e5, -, z5⟩ := DataW.trod_int Tryz.underlying3 h5
    obtain ⟨n6, e6, -, z6⟩ := DataW.trod_int Tryz.underlying3 h6
    obtain ⟨r7, i7, l7, m7⟩ := rows_of_trod k0
    obtain ⟨r8, i8, l8, m8⟩ := rows_of_trod k1
    obtain ⟨n9, e9, -, z9⟩ := DataW.trod_int Tryz.underlying3 k2
    obtain ⟨na, ea, -, za⟩ := DataW.trod_int Tryz.underlying3 k3
    obtain ⟨b1, b1'⟩ := bounds_u64 z1
    obtain ⟨N1, rfl⟩ : ∃ k : Nat, n1 = k := ⟨n1.toNat, by omega⟩
    simp only [List.cons.injEq, and_true] at e0 e1 e2 e3 e4 e5 e6 e9 ea
    subst e0 e1 e2 e3 e4 e5 e6 e9 ea
    refine ⟨u7, u8, ⟨s0, N1, s2, s3, n4, n5, n6, r7, r8, n9, na⟩, rfl, i7, i8, ⟨z0, z2, z3, by show N1 < _; omega, bounds_i64 z4, bounds_i64 z5, bounds_i64 z6, bounds_i64 z9, bounds_i64 za, ⟨l7, m7⟩, l8, m8⟩, fun hw => ?_⟩
    have hm := hw s0.data.toList.length (by
      simp only [DataW.weights, Tryz.underlying28]
      have hd : (xs.map (·.1))[0]? = some (.lit (.string s0.data.toList)) := by rw [List.getElem?_map, gx 0 (by decide), x0]; rfl
      exact DataW.weights_mem_each (j := 0) (t := 9) rfl hd _ (by simp [DataW.weights]))
    unfold reachBytes at hm
    show s0.size ≤ _
    rw [Lib.size_eq]; omega
end
section
variable {H : Type} {enc : TypeId × Value → H} {W : World} {v : Value} {d : DataW H} {p : List MemPlace} {base : Nat}
set_option maxRecDepth 100000 in
/-- An argument that is a result. -/
theorem arg_res (h : DataW.Trod enc Tryz.prog W 0 (fun _ => true) true 28 v d p) (hv : Value.okWide Tryz.prog W .any base 28 v) :
    ∃ p q r, v = resV p q r ∧ Rs ilR W p r.pts anyB ∧ Rs ilR W q r.crs anyB ∧ ResZ r := by
  obtain ⟨cs, rfl, hsz⟩ := okWide_struct Tryz.underlying28 hv
  obtain ⟨fuel, hf⟩ := h
  have hC : Tryz.prog.cellsOf 28 = 11 := by kernel_rfl
  obtain ⟨p, q, r, he, h1, h2, h3, -⟩ := res_core (us := cs.toList) (by rw [Array.length_toList, hsz, hC]) hf
  exact ⟨p, q, r, by rw [resV_L, ← he], h1, h2, h3⟩
theorem weightsAll_mem {P : Program} {e : TypeId} : ∀ {ds : List (DataW H)} {d : DataW H} {n : Nat}, d ∈ ds → n ∈ d.weights P e → n ∈ DataW.weightsAll P e ds
  | d0 :: ds, d, n, hd, hn => by
    simp only [DataW.weightsAll, List.mem_append]
    rcases List.mem_cons.1 hd with rfl | hd
    · exact .inl hn
    · exact .inr (weightsAll_mem hd hn)
set_option maxRecDepth 100000 in
/-- A slice of results that came in. -/
theorem arg_ress (h : DataW.Trod enc Tryz.prog W 0 (fun _ => true) true 32 v d p) (hv : Value.okWide Tryz.prog W .any base 32 v) :
    ∃ l, Rs resR W v l anyB ∧ l.length ≤ 9223372036854775807 ∧ (∀ r ∈ l, ResZ r) ∧ ((∀ n ∈ d.weights Tryz.prog 32, n ≤ reachBytes) → ∀ r ∈ l, r.test.size ≤ 140737488351232) := by
  obtain ⟨fuel, hf⟩ := h
  obtain ⟨A, m, c, rfl⟩ := okWide_slice Tryz.underlying32 hv
  obtain ⟨u, l, hc, hr, hm, hd⟩ := rs_of_trod resR (fun x z => ResZ x ∧ ((∀ n ∈ z.weights Tryz.prog 28, n ≤ reachBytes) → x.test.size ≤ 140737488351232)) Tryz.underlying32 (by kernel_rfl) (fun n us z hl h => by
    obtain ⟨p, q, r, he, h1, h2, h3, h4⟩ := res_core hl h
    exact ⟨r, ⟨p, q, he, ⟨h1, in_any _ _⟩, h2, in_any _ _⟩, h3, h4⟩) hf
  obtain rfl : Value.slice A m c = u := by
    have : [Value.slice A m c] = [u] := hc
    simpa using this
  refine ⟨l, hr, by unfold maxLen at hm; omega, ?_⟩
  rcases hd with ⟨_, rfl⟩ | ⟨ds, sp, hx, hdl, hz⟩
  · exact ⟨by simp, fun _ => by simp⟩
  · simp only at hx
    have hat : ∀ r ∈ l, ∃ z ∈ ds, ResZ r ∧ ((∀ n ∈ z.weights Tryz.prog 28, n ≤ reachBytes) → r.test.size ≤ 140737488351232) := fun r hr => by
      obtain ⟨j, hj, rfl⟩ := List.mem_iff_getElem.1 hr
      exact ⟨ds[j]'(by omega), List.getElem_mem _, hz j _ _ (List.getElem?_eq_getElem hj) (List.getElem?_eq_getElem (by omega))⟩
    refine ⟨fun r hr => ?_, fun hw r hr => ?_⟩
    · obtain ⟨z, _, h3, _⟩ := hat r hr; exact h3
    · obtain ⟨z, hzm, _, h4⟩ := hat r hr
      refine h4 fun n hn => hw n ?_
      rw [hx]
      simp only [DataW.weights, Tryz.underlying32, List.mem_cons, List.mem_append]
      exact .inr (.inl (weightsAll_mem hzm hn))

end

end Go.Proofs.YtbgficaboolgiaaGreatDoor
