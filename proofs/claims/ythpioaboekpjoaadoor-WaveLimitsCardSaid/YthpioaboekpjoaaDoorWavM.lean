/-
  Reading the arguments of the laws of chapter 35; the walk of WaveReads.
-/
import Derived.Test.YthpioaboekpjoaaDoorWavL
import Derived.Test.YthpioaboekpjoaaDoorFrm
import Derived.Test.YthpioaboekpjoaaDoorTxE
import Derived.Deep.Slices
import Derived.ChangeSame
import Derived.Deep.Fields
import Derived.SliceStrings
import Derived.DataShut
import Derived.ChangeSlices
namespace Go.Proofs.YthpioaboekpjoaaDoor
open Go.RowKit Go.WideShapes Go.ChangeShapes Go.Deep
set_option linter.unusedVariables false
set_option linter.unusedSimpArgs false

section
variable {H : Type} {enc : TypeId × Value → H} {w : World} {base : Nat} {spare : Nat → Bool} {held : Bool}
theorem slw_of_trod {fuel : Nat} {c : Value} {x : DataW H × List MemPlace} (h : DataW.trod enc Tryd.prog w base spare held fuel 23 [c] = some x) :
    ∃ ns, SL w c ns ∧ ns.length ≤ 9223372036854775807 ∧ (∀ s ∈ ns, s.size ≤ 9223372036854775807) ∧ ((∀ n ∈ x.1.weights Tryd.prog 23, n ≤ reachBytes) → ns.length * 16 ≤ 140737488351232) := by
  rcases ChangeShapes.open_strings Tryd.underlying23 Tryd.underlying9 (by kernel_rfl) h with ⟨h0, _⟩ | ⟨a, len, cap, ss, h0, _, hlc, hcm, hsl, hx, hcell, hsz⟩
  · obtain rfl : c = .slice none 0 0 := by simpa using h0
    exact ⟨[], SL.nil w, by simp, by simp, fun _ => by simp⟩
  · obtain rfl : c = .slice (some a) len cap := by simpa using h0
    have hle : len ≤ ss.length := by rw [hsl]; split <;> omega
    have hl : (ss.take len).length = len := by rw [List.length_take]; omega
    refine ⟨ss.take len, ⟨some a, cap, by rw [hl], by omega, fun hp => ⟨a, rfl, ?_, fun j hj => ?_⟩⟩, by rw [hl]; unfold maxLen at hcm; omega, fun s hs => hsz s (List.mem_of_mem_take hs), fun hw => ?_⟩
    · have := hcell 0 (by omega)
      have := World.block_lt_of_cell? _ _ this
      rwa [block_of_add] at this
    · rw [hcell j (by omega)]
      simp only [List.getD_eq_getElem?_getD]
      rw [List.getElem?_take_of_lt (by omega)]
      rfl
    · rw [hx] at hw
      have hb : Tryd.prog.bytesOf 9 = 16 := by kernel_rfl
      have := hw ((ss.take len).length * 16 + (ss.drop len).length * 16) (by
        simp only [DataW.weights, Tryd.underlying23, strs, List.length_map, hb]
        rw [Nat.add_mul]
        exact List.mem_cons_self)
      unfold reachBytes at this
      omega
theorem ilw_of_trod {fuel : Nat} {c : Value} {x : DataW H × List MemPlace} (h : DataW.trod enc Tryd.prog w base spare held fuel 44 [c] = some x) :
    ∃ zs, IL w c zs ∧ zs.length ≤ 9223372036854775807 ∧ ((∀ n ∈ x.1.weights Tryd.prog 44, n ≤ reachBytes) → zs.length * 8 ≤ 140737488351232) := by
  rcases ChangeShapes.open_ints Tryd.underlying44 Tryd.underlying3 (by kernel_rfl) h with ⟨h0, _⟩ | ⟨a, len, cap, ss, h0, _, hlc, hcm, hsl, hx, hcell, _⟩
  · obtain rfl : c = .slice none 0 0 := by simpa using h0
    exact ⟨[], IL.nil w, by simp, fun _ => by simp⟩
  · obtain rfl : c = .slice (some a) len cap := by simpa using h0
    have hle : len ≤ ss.length := by rw [hsl]; split <;> omega
    have hl : (ss.take len).length = len := by rw [List.length_take]; omega
    refine ⟨ss.take len, ⟨some a, cap, by rw [hl], by omega, fun hp => ⟨a, rfl, ?_, fun j hj => ?_⟩⟩, by rw [hl]; unfold maxLen at hcm; omega, fun hw => ?_⟩
    · have := hcell 0 (by omega)
      have := World.block_lt_of_cell? _ _ this
      rwa [block_of_add] at this
    · rw [hcell j (by omega)]
      simp only [List.getD_eq_getElem?_getD]
      rw [List.getElem?_take_of_lt (by omega)]
    · rw [hx] at hw
      have hb : Tryd.prog.bytesOf 3 = 8 := by kernel_rfl
      have := hw ((ss.take len).length * 8 + (ss.drop len).length * 8) (by
        simp only [DataW.weights, Tryd.underlying44, lits, List.length_map, hb]
        rw [Nat.add_mul]
        exact List.mem_cons_self)
      unfold reachBytes at this
      omega
end
section
variable {H : Type} {enc : TypeId × Value → H} {W : World} {v : Value} {d : DataW H} {p : List MemPlace} {base : Nat}
theorem open_structL {P : Program} {w : World} {spare : Nat → Bool} {held : Bool} {r : Reach} {b0 base : Nat} {t : TypeId} {fs : Array Field} {v : Value} {d : DataW H} {p : List MemPlace} (hs : P.underlying t = some (.struct fs)) (hone : oneCellFields P fs = true) (hC : P.cellsOf t = fs.size)
    (hv : Value.okWide P w r b0 t v) (h : DataW.Trod enc P w base spare held t v d p) :
    ∃ (cs : List Value) (ys : List (DataW H × List MemPlace)) (n : Nat), v = .agg cs.toArray ∧ d = .agg (ys.map (·.1)) ∧ cs.length = fs.size ∧ ys.length = fs.size ∧
      ∀ (j : Nat) (f : Field), fs[j]? = some f → ∃ c y, cs[j]? = some c ∧ ys[j]? = some y ∧ DataW.trod enc P w base spare held n f.type [c] = some y := by
  obtain ⟨cs, rfl, hsz⟩ := okWide_struct hs hv
  obtain ⟨fuel, hf⟩ := h
  obtain ⟨ys, n, _, hx, _, hlen, hg⟩ := DataW.trod_struct hs hf
  simp only [Prod.mk.injEq] at hx
  refine ⟨cs.toList, ys, n, by simp, hx.1, by rw [Array.length_toList, hsz, hC], hlen, fun j f hj => ?_⟩
  obtain ⟨ho, hk⟩ := hone_of hone j f hj
  have hjl : j < fs.size := (Array.getElem?_eq_some_iff.1 hj).1
  have hc : j < cs.toList.length := by rw [Array.length_toList, hsz, hC]; exact hjl
  have h1 := hg j f hj
  rw [ho, hk] at h1
  have e1 : ((Value.agg cs).cells.toList.drop j).take 1 = [cs.toList[j]] := by
    show (cs.toList.drop j).take 1 = _
    rw [List.drop_eq_getElem_cons hc]; rfl
  rw [e1] at h1
  have hy : ys[j]? = some (ys[j]'(by omega)) := List.getElem?_eq_getElem (by omega)
  exact ⟨_, _, List.getElem?_eq_getElem hc, hy, h1.trans hy⟩
set_option maxRecDepth 100000 in
/-- An argument that is a trace. -/
theorem arg_wave (h : DataW.Trod enc Tryd.prog W 0 (fun _ => true) true 26 v d p) (hv : Value.okWide Tryd.prog W .any base 26 v) :
    ∃ (v1 v2 : Value) (ns : List ByteArray) (rs : List (List Int)), v = .agg #[v1, v2] ∧ SL W v1 ns ∧ Rs ilR W v2 rs anyB ∧ WZ ns rs := by
  obtain ⟨cs, ys, n, rfl, rfl, hcl, hyl, hf⟩ := open_structL Tryd.underlying26 (by kernel_rfl) (by kernel_rfl) hv h
  obtain ⟨c0, y0, e0, f0, h0⟩ := hf 0 _ rfl
  obtain ⟨c1, y1, e1, f1, h1⟩ := hf 1 _ rfl
  obtain rfl : cs = [c0, c1] := by
    match cs, hcl with
    | [_, _], _ => simp at e0 e1; rw [e0, e1]
  obtain ⟨ns, hs, hl, hz, _⟩ := slw_of_trod h0
  obtain ⟨u, rs, hc, hr, hm, hd⟩ := rs_of_trod ilR (fun r _ => r.length ≤ 9223372036854775807) Tryd.underlying24 (by kernel_rfl) (fun n us z hl h => by
    match us, hl with
    | [u], _ =>
      obtain ⟨zs, hi, hm, _⟩ := ilw_of_trod h
      exact ⟨zs, ⟨u, rfl, hi, in_any _ _⟩, hm⟩) h1
  obtain rfl : c1 = u := by simpa using hc
  refine ⟨c0, c1, ns, rs, rfl, hs, hr, hl, by unfold maxLen at hm; omega, hz, fun r hr' => ?_⟩
  rcases hd with ⟨_, rfl⟩ | ⟨ds, sp, hx, hdl, hz2⟩
  · simp at hr'
  · obtain ⟨j, hj, rfl⟩ := List.mem_iff_getElem.1 hr'
    exact hz2 j _ _ (List.getElem?_eq_getElem hj) (List.getElem?_eq_getElem (by omega))
end
/-- A fresh slice that reads as a list of integers. -/
def gIL (j : Nat) (D : List Nat) (l : List Int) : FOp := ⟨j, D, fun v => ∃ A c, v = .slice A l.length c, fun v w => IL w v l⟩
theorem gIL_st (j : Nat) (D : List Nat) (l : List Int) : ∀ u w w', (gIL j D l).Φ u w → Below w.heap.size w w' → (gIL j D l).Φ u w' := fun u w w' h hb => h.below hb
theorem gIL_kn (j : Nat) (D : List Nat) (l : List Int) : (∀ u w, (gIL j D l).Φ u w → (gIL j D l).S u) ∧ ∃ u, (gIL j D l).S u := ⟨fun u w h => by
  obtain ⟨A, c, e, _⟩ := h; exact ⟨A, c, e⟩, .slice none _ 0, none, 0, rfl⟩
theorem neI (z : Int) : (z != z) = false := by simp
theorem neB (b : Bool) : (b != b) = false := by simp
set_option maxRecDepth 100000 in
set_option maxHeartbeats 16000000 in
theorem walkWaveReads {H : Type} {enc : TypeId × Value → H} {base : Nat} {w : World} (v0 : Value) (d0 : DataW H) (p0 : List MemPlace) (g0 : DataW.Trod enc Tryd.prog w 0 (fun _ => true) true 26 v0 d0 p0) (hv0 : Value.okWide Tryd.prog w .any base 26 v0)
    (s : ByteArray) (hs : s.size ≤ maxLen) (t : Int) (wt : I64 t) (ht : Tab w) (hm : MLen w) (hk : KW w) :
    Calls Tryd.prog 6 #[v0, .string s, .int .i64 t] w fun e w' => e = .returned (.bool true) ∧ Below w.heap.size w w' := by
  obtain ⟨v1, v2, ns, rs, rfl, h1, h2, hz⟩ := arg_wave g0 hv0
  clear g0 hv0 hs
  have CF := Lib.hid (fun W (hW : Below w.heap.size w W) => lawFewW W v1 v2 ns rs (h1.below hW) (h2.below hW) hz)
  have CW := Lib.hid (fun W (hW : Below w.heap.size w W) => lawAwakeW W (hk.below hW) (hm.below hW) (ht.below hW))
  cases hf : fewW ns rs
  · rw [hf] at CF
    obtain ⟨A2, c2, rfl, -⟩ := h2.slice
    obtain ⟨A1, c1, rfl, -⟩ := h1
    generalize ns.length = N at *
    generalize rs.length = M at *
    clear hf h2 hz hk hm ht
    go_enter Tryd.func6, Tryd.ntmps6
    go_upto_region 1 with fail
    have XA := Lib.hid (box_new (W := w) (g := w.heap.size) 26 #[.slice A1 N c1, .slice A2 M c2] (by simp))
    have HB := Lib.hid (below_alloc w (.cells #[.slice A1 N c1, .slice A2 M c2] 26))
    generalize w.alloc (.cells #[.slice A1 N c1, .slice A2 M c2] 26) = w1 at *
    have XA_0 := XA.out.at_ 0 _ rfl
    have XA_1 := XA.out.at_ 1 _ rfl
    go_wp2_with fail
    refine (CF.out _ HB.out).mono ?_; rintro e w2 ⟨rfl, hb⟩
    clear XA_0 XA_1
    replace XA := Lib.hid (XA.out.below hb)
    replace HB := Lib.hid (below_step HB.out hb)
    clear hb
    go_wp2_with fail
    refine (CW.out _ HB.out).mono ?_; rintro e w3 ⟨rfl, hb⟩
    replace XA := Lib.hid (XA.out.below hb)
    replace HB := Lib.hid (below_step HB.out hb)
    clear hb
    go_wp2_with fail
    go_ret
    exact ⟨rfl, HB.out⟩
  · rw [hf] at CF
    have hfew : FewW ns rs := of_decide_eq_true hf
    have hM4 : rs.length ≤ 4096 := by have := hfew.2.1; omega
    have CG := Lib.hid (fun W (hW : Below w.heap.size w W) => wavGet W v1 v2 ns rs s t (h1.below hW) (h2.below hW) hz wt (hk.below hW) (hm.below hW))
    have CH := Lib.hid (fun W (hW : Below w.heap.size w W) => refGetW W v1 v2 ns rs s t (h1.below hW) (h2.below hW) hz wt)
    have CE := Lib.hid (fun W (hW : Below w.heap.size w W) => wavEnv W v1 v2 ns rs t (h1.below hW) (h2.below hW) hz wt (hk.below hW) (hm.below hW))
    have CR := Lib.hid (fun W (hW : Below w.heap.size w W) => refEnvW W v1 v2 ns rs t (h1.below hW) (h2.below hW) hz wt)
    have CV := Lib.hid (fun W (hW : Below w.heap.size w W) => wavValid W v1 v2 ns rs (h1.below hW) (h2.below hW) hz (hk.below hW) (hm.below hW))
    have CX := Lib.hid (fun W (hW : Below w.heap.size w W) => refValidW W v1 v2 ns rs (h1.below hW) (h2.below hW) hz)
    have CC := Lib.hid (fun W (hW : Below w.heap.size w W) => wavChanges W v1 v2 ns rs s (h1.below hW) (h2.below hW) hz (hk.below hW) (hm.below hW))
    have CD := Lib.hid (fun W (hW : Below w.heap.size w W) => refChangesW W v1 v2 ns rs s (h1.below hW) (h2.below hW) hz hM4)
    have hch : (whT ns rs s).length ≤ 4096 := by rw [← rcK_all]; exact Nat.le_trans (rcK_len _ _ _ _) hM4
    have hev := weT_len ns rs t
    unfold ENV at CE CR
    generalize whT ns rs s = ch at *
    have CI : Hid (∀ W u1 u2, IL W u1 ch → IL W u2 ch → Calls Tryd.prog 24 #[u1, u2] W fun e w' => e = .returned (.bool true) ∧ Below W.heap.size W w') := Lib.hid fun W u1 u2 a b => by
      have := lawInts W u1 u2 ch ch a b (by omega) (by omega)
      rwa [decide_eq_true rfl] at this
    generalize wgT ns rs s t = gg at *
    generalize weT ns rs t = ee at *
    generalize wvV ns rs = xv at *
    obtain ⟨gv, gb⟩ := gg
    obtain ⟨ev, eb⟩ := ee
    simp only [ret2b] at CG CH
    simp only at CE CR hev
    obtain ⟨A2, c2, rfl, -⟩ := h2.slice
    obtain ⟨A1, c1, rfl, -⟩ := h1
    generalize ns.length = N at *
    generalize rs.length = M at *
    have B1 := neI gv
    have B2 := neB gb
    have B3 := neB xv
    have B5 := neB eb
    clear hf hfew h2 hz hk hm ht hM4 hch wt
    go_enter Tryd.func6, Tryd.ntmps6
    go_upto_region 1 with fail
    have XA := Lib.hid (box_new (W := w) (g := w.heap.size) 26 #[.slice A1 N c1, .slice A2 M c2] (by simp))
    have HB := Lib.hid (below_alloc w (.cells #[.slice A1 N c1, .slice A2 M c2] 26))
    generalize w.alloc (.cells #[.slice A1 N c1, .slice A2 M c2] 26) = w1 at *
    have XA_0 := XA.out.at_ 0 _ rfl
    have XA_1 := XA.out.at_ 1 _ rfl
    go_wp2_with fail
    refine (CF.out _ HB.out).mono ?_; rintro e w2 ⟨rfl, hb⟩
    clear XA_0 XA_1
    replace XA := Lib.hid (XA.out.below hb)
    replace HB := Lib.hid (below_step HB.out hb)
    clear hb
    have XA_0 := XA.out.at_ 0 _ rfl
    have XA_1 := XA.out.at_ 1 _ rfl
    go_wp2_with fail
    refine (CG.out _ HB.out).mono ?_; rintro e w3 ⟨rfl, hb⟩
    clear XA_0 XA_1
    replace XA := Lib.hid (XA.out.below hb)
    replace HB := Lib.hid (below_step HB.out hb)
    clear hb
    have XA_0 := XA.out.at_ 0 _ rfl
    have XA_1 := XA.out.at_ 1 _ rfl
    go_wp2_with fail
    refine (CH.out _ HB.out).mono ?_; rintro e w4 ⟨rfl, hb⟩
    clear XA_0 XA_1
    replace XA := Lib.hid (XA.out.below hb)
    replace HB := Lib.hid (below_step HB.out hb)
    clear hb
    have XA_0 := XA.out.at_ 0 _ rfl
    have XA_1 := XA.out.at_ 1 _ rfl
    go_wp2_with fail
    clear XA_0 XA_1
    refine (CE.out _ HB.out).mono ?_; rintro e w5 ⟨u1, rfl, pl1, hb⟩
    have G1 := Lib.hid pl1
    clear pl1 CF CG CH CE
    replace XA := Lib.hid (XA.out.below hb)
    replace HB := Lib.hid (below_step HB.out hb)
    clear hb
    have XA_0 := XA.out.at_ 0 _ rfl
    have XA_1 := XA.out.at_ 1 _ rfl
    go_wp2_with fail
    clear XA_0 XA_1
    refine (CR.out _ HB.out).mono ?_; rintro e w6 ⟨u2, rfl, pl2, hb⟩
    have G3 := Lib.hid pl2
    clear pl2 CR
    replace XA := Lib.hid (XA.out.below hb)
    replace G1 := Lib.hid (G1.out.below hb)
    replace HB := Lib.hid (below_step HB.out hb)
    clear hb
    obtain ⟨B1', e1, rfl, -⟩ := id G1.out
    obtain ⟨B3', e3, rfl, -⟩ := id G3.out
    obtain ⟨L, hL⟩ : ∃ L, L = ev.length := ⟨_, rfl⟩
    have HL := Lib.hid hL
    rw [← hL] at G1 G3 hev ⊢
    clear hL
    have B4 := neI (L : Int)
    have B6 : (L != L) = false := by simp
    go_upto_region 7 with fail
    have VQ1 := Lib.hid (fun p : Lat w6 => CV.out p.w (below_step HB.out p.h))
    have VQ2 := Lib.hid (fun p : Lat w6 => CX.out p.w (below_step HB.out p.h))
    have l0 := XA.out.lat 0 _ rfl
    have l1 := XA.out.lat 1 _ rfl
    refine wp_region_lat (by kernel_rfl) (by kernel_rfl) ?_
    repeat (go_big_quiet_step (first | (with_reducible exact lat_call (VQ1.out _)) | (with_reducible exact lat_call (VQ2.out _))))
    refine wpQuiet_nil ?_; intro w7 hb
    clear l0 l1 VQ1 VQ2 CV CX B1 B2 B3 B5
    replace XA := Lib.hid (XA.out.below hb)
    replace G1 := Lib.hid (G1.out.below hb)
    replace G3 := Lib.hid (G3.out.below hb)
    replace HB := Lib.hid (below_step HB.out hb)
    clear hb
    have G1' := G1
    have G3' := G3
    have HX := Lib.hid (Below.refl w7.heap.size w7)
    have XA7 := XA
    go_wp2_with fail
    clear B4 B6
    go_loopw [15] (fun i wr => ∃ k : Nat, k ≤ L ∧ i = .int .i64 k ∧ Below w7.heap.size w7 wr ∧ Below w.heap.size w wr) (fun i _ => L - (intOf i).toNat)
    case atStart => exact ⟨0, Nat.zero_le _, rfl, HX.out, HB.out⟩
    case round =>
      clear HX HB XA G1 G3
      obtain ⟨k, hk, rfl, hc, hb⟩ := hrel
      have HC := Lib.hid hc
      have HB := Lib.hid hb
      clear hc hb
      by_cases hlt : k < L
      · have hlt2 : (k : Int) < L := by omega
        have hk0 : (0 : Int) ≤ (k : Int) := by omega
        obtain ⟨B1', e1, he1, _, hg1⟩ := G1'.out
        obtain ⟨B3', e3, he3, _, hg3⟩ := G3'.out
        simp only [Value.slice.injEq] at he1 he3
        obtain ⟨rfl, _, rfl⟩ := he1
        obtain ⟨rfl, _, rfl⟩ := he3
        obtain ⟨b1, o1, rfl, hb1, hc1⟩ := hg1 (by rw [← HL.out]; omega)
        obtain ⟨b3, o3, rfl, hb3, hc3⟩ := hg3 (by rw [← HL.out]; omega)
        have q1 := hc1 k (by rw [← HL.out]; exact hlt)
        have q3 := hc3 k (by rw [← HL.out]; exact hlt)
        have m1 : ∀ p : Lat wr, p.w.cell? ⟨b1, o1 + k * 2, none⟩ = some (.string (ev.getD k pr0).1) := fun p => ((below_step HC.out p.h).cell (p := ⟨b1, o1 + k * 2, none⟩) hb1).trans q1.1
        have m2 : ∀ p : Lat wr, p.w.cell? ⟨b1, o1 + k * 2 + 1, none⟩ = some (.int .i64 (ev.getD k pr0).2) := fun p => ((below_step HC.out p.h).cell (p := ⟨b1, o1 + k * 2 + 1, none⟩) hb1).trans q1.2
        have m3 : ∀ p : Lat wr, p.w.cell? ⟨b3, o3 + k * 2, none⟩ = some (.string (ev.getD k pr0).1) := fun p => ((below_step HC.out p.h).cell (p := ⟨b3, o3 + k * 2, none⟩) hb3).trans q3.1
        have m4 : ∀ p : Lat wr, p.w.cell? ⟨b3, o3 + k * 2 + 1, none⟩ = some (.int .i64 (ev.getD k pr0).2) := fun p => ((below_step HC.out p.h).cell (p := ⟨b3, o3 + k * 2 + 1, none⟩) hb3).trans q3.2
        generalize ev.getD k pr0 = x at *
        obtain ⟨xs, z⟩ := x
        simp only at m1 m2 m3 m4
        have b2 : (z == z) = true := by simp
        clear q1 q3 hc1 hc3 hg1 hg3
        go_wp2_with fail
        refine wp_region_lat (by kernel_rfl) (by kernel_rfl) ?_
        repeat (go_big_quiet_step (fail))
        refine wpQuiet_nil ?_; intro w8 hb
        clear m1 m2 m3 m4
        replace HC := Lib.hid (below_step HC.out hb)
        replace HB := Lib.hid (below_step HB.out hb)
        clear hb
        go_wp2_with fail
        go_roundw
        case rel => exact ⟨k + 1, by omega, by go_num, HC.out, HB.out⟩
        case measure => simp [intOf]; omega
      · have hlt2 : ¬ (k : Int) < L := by omega
        have XA := Lib.hid (XA7.out.below HC.out)
        clear G1' G3' XA7
        go_upto_region 14 with fail
        have HBL := HB
        refine wp_region_gen 10 (Kit.of [gIL 2 [] ch, gIL 5 [] ch, gVal 6 [2, 5] (.bool true), gVal 8 [] (.bool true)]) (by kernel_rfl) (by kernel_rfl) (fun γ => by kernel_rfl) (by kernel_rfl) (Kit.of_stable ?_) (Kit.of_known ?_) ?_
        · intro z hz; simp only [List.mem_cons, List.not_mem_nil, or_false] at hz; rcases hz with rfl | rfl | rfl | rfl
          · apply gIL_st
          · apply gIL_st
          · apply gVal_st
          · apply gVal_st
        · intro z hz; simp only [List.mem_cons, List.not_mem_nil, or_false] at hz; rcases hz with rfl | rfl | rfl | rfl
          · apply gIL_kn
          · apply gIL_kn
          · apply gVal_kn
          · apply gVal_kn
        intro γ hγ C hC hne
        obtain ⟨P2, d2, k2⟩ : ∃ A c, γ 2 = .slice A ch.length c := hγ 2 rfl
        obtain ⟨P5, d5, k5⟩ : ∃ A c, γ 5 = .slice A ch.length c := hγ 5 rfl
        have k6 : γ 6 = .bool true := hγ 6 rfl
        have k8 : γ 8 = .bool true := hγ 8 rfl
        have a0 := XA.out.latC (C := C) 0 _ rfl
        have a1 := XA.out.latC (C := C) 1 _ rfl
        simp only [List.take_succ_cons, List.take_zero, List.drop_succ_cons, List.drop_zero]
        iterate 2 (refine wpF_quiet rfl ?_; go_big_quiet_step (fail); refine wpQuiet_nil ?_)
        refine wpF_fresh rfl (freshAt_call (args := #[.agg #[.slice A1 N c1, .slice A2 M c2], .string s]) rfl _ _ _ (run_go Tryd.func25 (by kernel_rfl) (by kernel_rfl)) rfl (by simp [Act.eval]) (fun w' hb hf => (CC.out w' (below_step HBL.out hb)).mono fun e w2 ⟨v, he, h1, h2⟩ => ⟨v, he, h1, h2⟩)) ?_
        simp only [Nat.zero_add, Nat.reduceAdd, k2]
        go_simp
        iterate 2 (refine wpF_quiet rfl ?_; go_big_quiet_step (fail); refine wpQuiet_nil ?_)
        refine wpF_fresh rfl (freshAt_call (args := #[.agg #[.slice A1 N c1, .slice A2 M c2], .string s]) rfl _ _ _ (run_go Tryd.func26 (by kernel_rfl) (by kernel_rfl)) rfl (by simp [Act.eval]) (fun w' hb hf => (CD.out w' (below_step HBL.out hb)).mono fun e w2 ⟨v, he, h1, h2⟩ => ⟨v, he, h1, h2⟩)) ?_
        simp only [Nat.zero_add, Nat.reduceAdd, k5]
        go_simp
        refine wpF_fresh rfl (freshAt_call (args := #[.slice P2 ch.length d2, .slice P5 ch.length d5]) rfl _ _ _ (run_go Tryd.func24 (by kernel_rfl) (by kernel_rfl)) rfl (by simp [Act.eval]) (fun w' hb hf => (CI.out w' _ _ (by have h5 : IL w' (γ 2) ch := hf 2 (show 2 ∈ [2, 5] by decide); rwa [k2] at h5) (by have h5 : IL w' (γ 5) ch := hf 5 (show 5 ∈ [2, 5] by decide); rwa [k5] at h5)).mono fun e w2 ⟨he, h1⟩ => ⟨_, he, rfl, h1⟩)) ?_
        simp only [Nat.zero_add, Nat.reduceAdd, k6]
        go_simp
        iterate 1 (refine wpF_quiet rfl ?_; go_big_quiet_step (fail); refine wpQuiet_nil ?_)
        refine wpF_freshG rfl (freshA_call (args := #[]) (by kernel_rfl) _ _ _ (run_go Tryd.func11 (by kernel_rfl) (by kernel_rfl)) rfl (by simp [Act.eval]) (fun w' hb hf => (CW.out w' (below_step HBL.out hb)).mono fun e w2 ⟨he, h1⟩ => ⟨_, he, rfl, h1⟩)) ?_
        simp only [Nat.zero_add, Nat.reduceAdd, k8]
        go_simp
        iterate 1 (refine wpF_quiet rfl ?_; go_big_quiet_step (fail); refine wpQuiet_nil ?_)
        intro w9 hb hF
        clear a0 a1 hF hγ hC hne
        replace HB := Lib.hid (below_step HB.out hb)
        clear hb
        go_wp2_with fail
        go_ret
        exact ⟨rfl, HB.out⟩

end Go.Proofs.YthpioaboekpjoaaDoor
