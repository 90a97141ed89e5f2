/-
  Walk of BoardExact.
-/
import Derived.Test.YtldafnjbgjagiaaDoorBrdW
namespace Go.Proofs.YtldafnjbgjagiaaDoor
open Go.RowKit
set_option linter.unusedVariables false
set_option linter.unusedSimpArgs false

theorem all_step {α : Type} (p : α → Bool) (l : List α) (d : α) (k : Nat) (hk : k < l.length) : (l.take (k + 1)).all p = ((l.take k).all p && p (l.getD k d)) := by
  rw [take_snocD l k d hk, List.all_append]; simp
theorem allFit {α : Type} {p : α → Prop} {l : List α} (d : α) (h : ∀ j, j < l.length → p (l.getD j d)) : ∀ t ∈ l, p t := fun t ht => by
  obtain ⟨j, hj, rfl⟩ := List.mem_iff_getElem.1 ht
  have := h j hj
  rwa [List.getD_eq_getElem?_getD, List.getElem?_eq_getElem hj] at this
set_option maxRecDepth 100000 in
set_option maxHeartbeats 16000000 in
theorem walkBoardExact {H : Type} {enc : TypeId × Value → H} {base : Nat} {w : World} (v0 : Value) (d0 : DataW H) (p0 : List MemPlace) (g0 : DataW.Trod enc Tryd.prog w 0 (fun _ => true) true 39 v0 d0 p0) (hv0 : Value.okWide Tryd.prog w .any base 39 v0)
    (ht : Tab w) (hm : MLen w) (hk : KW w) :
    Calls Tryd.prog 6 #[v0] w fun e w' => e = .returned (.bool true) ∧ Below w.heap.size w w' := by
  obtain ⟨o, s, ws, gs, A1, A2, c1, c2, rfl, h1, h2, -, n1, n2, hz1, hz2⟩ := arg_streams g0 hv0
  clear g0 hv0
  have HK := Lib.hid hk
  have HM := Lib.hid hm
  have HT := Lib.hid ht
  have hc1 : ws.length ≤ c1 := by
    obtain ⟨_, _, e, h⟩ := h1.slice
    simp only [Value.slice.injEq] at e
    omega
  have hc2 : gs.length ≤ c2 := by
    obtain ⟨_, _, e, h⟩ := h2.slice
    simp only [Value.slice.injEq] at e
    omega
  have CC := Lib.hid (fun W => lawCut W o s A1 A2 ws.length gs.length c1 c2 hc1 hc2 n1 n2)
  have q1 := h1.takeA (min ws.length 40) (by omega)
  have q2 := h2.takeA (min gs.length 40) (by omega)
  have z1 : ∀ t ∈ ws.take (min ws.length 40), TZ t := fun t ht => hz1 t (List.mem_of_mem_take ht)
  have z2 : ∀ t ∈ gs.take (min gs.length 40), TZ t := fun t ht => hz2 t (List.mem_of_mem_take ht)
  have l1 : (ws.take (min ws.length 40)).length ≤ 40 := by rw [List.length_take]; omega
  have l2 : (gs.take (min gs.length 40)).length ≤ 40 := by rw [List.length_take]; omega
  generalize ws.take (min ws.length 40) = us at *
  generalize gs.take (min gs.length 40) = vs at *
  generalize min ws.length 40 = k1 at *
  generalize min gs.length 40 = k2 at *
  generalize ws.length = N at *
  generalize gs.length = M at *
  have j1 : us.length = k1 := by
    obtain ⟨_, _, e, _⟩ := q1.slice
    simp only [Value.slice.injEq] at e
    exact e.2.1.symm
  have j2 : vs.length = k2 := by
    obtain ⟨_, _, e, _⟩ := q2.slice
    simp only [Value.slice.injEq] at e
    exact e.2.1.symm
  have x1 : ∀ t ∈ us, TxL t := fun t h => ⟨(z1 t h).1, (z1 t h).2.1⟩
  have x2 : ∀ t ∈ vs, TxL t := fun t h => ⟨(z2 t h).1, (z2 t h).2.1⟩
  have Q1 := Lib.hid (fun W (hW : Below w.heap.size w W) => q1.below hW)
  have Q2 := Lib.hid (fun W (hW : Below w.heap.size w W) => q2.below hW)
  have R1 := Lib.hid (fun W (hW : Below w.heap.size w W) => rs_lowB q1 hW)
  have R2 := Lib.hid (fun W (hW : Below w.heap.size w W) => rs_lowB q2 hW)
  have CR : Hid (∀ W, Below w.heap.size w W → Calls Tryd.prog 22 #[.bool o, .string s, .slice A1 k1 c1, .slice A2 k2 c2] W fun e w' => ∃ v, e = .returned v ∧ BDF w' 0 v (runT o s us vs) ∧ Below W.heap.size W w') := Lib.hid fun W hW =>
    brdRun W o s _ _ us vs (q1.below hW) (q2.below hW) (by omega) (by omega) z1 z2 (hk.below hW) (hm.below hW) (ht.below hW)
  have CSA : Hid (∀ W, Below w.heap.size w W → Calls Tryd.prog 26 #[.slice A1 k1 c1, .slice A2 k2 c2] W fun e w' => e = .returned (.bool (decide (us = vs))) ∧ Below W.heap.size W w') := Lib.hid fun W hW =>
    refSameAll W _ _ us vs (q1.below hW) (q2.below hW) (by omega) (by omega) x1 x2
  have CSF : Hid (∀ z W v1 v2, Rs txR W v1 (withT us s z) anyB → Rs txR W v2 (withT vs s z) anyB → Calls Tryd.prog 26 #[v1, v2] W fun e w' => e = .returned (.bool (decide (withT us s z = withT vs s z))) ∧ Below W.heap.size W w') := Lib.hid fun z W v1 v2 r1 r2 =>
    refSameAll W _ _ _ _ r1 r2 (by have := with_len us s z; omega) (by have := with_len vs s z; omega) (fun t h => x1 t (List.mem_filter.1 h).1) (fun t h => x2 t (List.mem_filter.1 h).1)
  have CW1 : Hid (∀ z W, Below w.heap.size w W → Calls Tryd.prog 27 #[.slice A1 k1 c1, .string s, .int .i64 z] W fun e w' => ∃ v, e = .returned v ∧ Rs txR w' v (withT us s z) anyB ∧ Below W.heap.size W w') := Lib.hid fun z W hW =>
    lawWith W _ us s z (q1.below hW) (by omega) x1
  have CW2 : Hid (∀ z W, Below w.heap.size w W → Calls Tryd.prog 27 #[.slice A2 k2 c2, .string s, .int .i64 z] W fun e w' => ∃ v, e = .returned v ∧ Rs txR w' v (withT vs s z) anyB ∧ Below W.heap.size W w') := Lib.hid fun z W hW =>
    lawWith W _ vs s z (q2.below hW) (by omega) x2
  have CG : Hid (∀ t, TZ t → ∀ W u1 u2, SL W u1 t.1 → IL W u2 t.2 → Calls Tryd.prog 24 #[.agg #[u1, u2], .string s] W fun e w' => e = ret2b (gt t s) ∧ Below W.heap.size W w') := Lib.hid fun t tz W u1 u2 a1 a2 => refGet W u1 u2 t.1 t.2 s a1 a2 tz.1 tz.2.1
  have CV : Hid (∀ t, TZ t → ∀ W u1 u2, SL W u1 t.1 → IL W u2 t.2 → Calls Tryd.prog 25 #[.agg #[u1, u2]] W fun e w' => e = .returned (.bool (tv t)) ∧ Below W.heap.size W w') := Lib.hid fun t tz W u1 u2 a1 a2 => refValidT W u1 u2 t.1 t.2 a1 a2 tz.2.2 tz.1 tz.2.1
  have LAW : Hid ((∀ t ∈ us, fitT o s t = true) → (∀ t ∈ vs, fitT o s t = true) → _) := Lib.hid fun a b => exact_law o s us vs l1 l2 (fun t ht => (List.mem_append.1 ht).elim (a t) (b t))
  have HSW : Hid (sameW o s us vs = if o then decide (us = vs) else (us ++ vs).all (likeT s us vs)) := Lib.hid rfl
  generalize sameW o s us vs = sm at *
  have CL := Lib.hid (fun W P Q p q => brdClean W (runT o s us vs) P Q p q)
  generalize runT o s us vs = fb at *
  have CW := Lib.hid (fun W (hW : Below w.heap.size w W) => lawAwake W (HK.out.below hW) (HM.out.below hW) (HT.out.below hW))
  have J1 := Lib.hid j1
  have J2 := Lib.hid j2
  have K1 : Hid (k1 ≤ 40) := Lib.hid (by omega)
  have K2 : Hid (k2 ≤ 40) := Lib.hid (by omega)
  -- the lists of the first loop
  obtain ⟨FK, hFK⟩ : ∃ F : Nat → Prop, F = fun k => (1 ≤ k → ∀ t ∈ us, fitT o s t = true) ∧ (2 ≤ k → ∀ t ∈ vs, fitT o s t = true) := ⟨_, rfl⟩
  have F0 : Hid (FK 0) := Lib.hid (by rw [hFK]; exact ⟨fun h => by omega, fun h => by omega⟩)
  have F2 : Hid (FK 2 → (∀ t ∈ us, fitT o s t = true) ∧ ∀ t ∈ vs, fitT o s t = true) := Lib.hid (fun h => by rw [hFK] at h; exact ⟨h.1 (by omega), h.2 (by omega)⟩)
  have FS : Hid (∀ k, k < 2 → FK k → ∃ (A : Option Addr) (m c : Nat) (ts : List Tx), (#[Value.slice A1 k1 c1, .slice A2 k2 c2] : Array Value)[k]? = some (.slice A m c) ∧ m = ts.length ∧ m ≤ 40 ∧ (∀ t ∈ ts, TZ t) ∧ (∀ W, Below w.heap.size w W → Rs txR W (.slice A m c) ts anyB) ∧ ((∀ t ∈ ts, fitT o s t = true) → FK (k + 1))) := Lib.hid (fun k hk h => by
    rw [hFK] at h ⊢
    rcases Nat.lt_or_ge k 1 with h0 | h0
    · obtain rfl : k = 0 := by omega
      exact ⟨A1, k1, c1, us, rfl, j1.symm, by omega, z1, Q1.out, fun hf => ⟨fun _ => hf, fun h => by omega⟩⟩
    · obtain rfl : k = 1 := by omega
      exact ⟨A2, k2, c2, vs, rfl, j2.symm, by omega, z2, Q2.out, fun hf => ⟨fun _ => h.1 (by omega), fun _ => hf⟩⟩)
  clear hFK
  have HZA : Hid (∀ t ∈ us ++ vs, TZ t) := Lib.hid fun t ht => (List.mem_append.1 ht).elim (z1 t) (z2 t)
  clear h1 h2 hz1 hz2 q1 q2 z1 z2 l1 l2 hk hm ht n1 n2 hc1 hc2 x1 x2 j1 j2
  go_enter Tryd.func6, Tryd.ntmps6
  go_upto_region 1 with fail
  have XA := Lib.hid (box_new (W := w) (g := w.heap.size) 39 #[.bool o, .string s, .slice A1 N c1, .slice A2 M c2] (by simp))
  have HB := Lib.hid (below_alloc w (.cells #[.bool o, .string s, .slice A1 N c1, .slice A2 M c2] 39))
  generalize w.alloc (.cells #[.bool o, .string s, .slice A1 N c1, .slice A2 M c2] 39) = w1 at *
  have XA_0 := XA.out.at_ 0 _ rfl
  have XA_1 := XA.out.at_ 1 _ rfl
  have XA_2 := XA.out.at_ 2 _ rfl
  have XA_3 := XA.out.at_ 3 _ rfl
  go_wp2_with fail
  refine (CC.out _).mono ?_; rintro e w2 ⟨rfl, hb⟩
  clear XA_0 XA_1 XA_2 XA_3
  replace XA := Lib.hid (XA.out.below hb)
  replace HB := Lib.hid (below_step HB.out hb)
  clear hb
  clear CC
  have XA' := Lib.hid ((((XA.out.set_ 0 (.bool o)).set_ 1 (.string s)).set_ 2 (.slice A1 k1 c1)).set_ 3 (.slice A2 k2 c2))
  have HB' := Lib.hid ((((HB.out.setCell (p := ⟨w.heap.size, 0, none⟩) (by show w.heap.size ≤ w.heap.size; omega) (.bool o)).setCell (p := ⟨w.heap.size, 1, none⟩) (by show w.heap.size ≤ w.heap.size; omega) (.string s)).setCell (p := ⟨w.heap.size, 2, none⟩) (by show w.heap.size ≤ w.heap.size; omega) (.slice A1 k1 c1)).setCell (p := ⟨w.heap.size, 3, none⟩) (by show w.heap.size ≤ w.heap.size; omega) (.slice A2 k2 c2))
  have XA_0 := XA.out.at_ 0 _ rfl
  have XA_1 := XA.out.at_ 1 _ rfl
  have XA_2 := XA.out.at_ 2 _ rfl
  have XA_3 := XA.out.at_ 3 _ rfl
  have XA_l := XA.out.lt
  have XA_z0 := XA.out.frozen 0
  have XA_z1 := XA.out.frozen 1
  have XA_z2 := XA.out.frozen 2
  have XA_z3 := XA.out.frozen 3
  go_upto_region 2 with fail
  clear XA_0 XA_1 XA_2 XA_3 XA_l XA_z0 XA_z1 XA_z2 XA_z3
  clear HB XA
  generalize (((w2.setCell ⟨w.heap.size, 0, none⟩ (.bool o)).setCell ⟨w.heap.size, 1, none⟩ (.string s)).setCell ⟨w.heap.size, 2, none⟩ (.slice A1 k1 c1)).setCell ⟨w.heap.size, 3, none⟩ (.slice A2 k2 c2) = w3 at *
  have XA : Hid (Box w3 w.heap.size #[.bool o, .string s, .slice A1 k1 c1, .slice A2 k2 c2] 39) := XA'
  have HB := HB'
  clear HB' XA'
  have XA_0 := XA.out.at_ 0 _ rfl
  have XA_1 := XA.out.at_ 1 _ rfl
  have XA_2 := XA.out.at_ 2 _ rfl
  have XA_3 := XA.out.at_ 3 _ rfl
  go_wp2_with fail
  clear XA_0 XA_1 XA_2 XA_3
  have XL := Lib.hid (box_new (W := w3) (g := w3.heap.size) 22 #[.slice A1 k1 c1, .slice A2 k2 c2] (by simp))
  have hba := (below_alloc w3 (.cells #[.slice A1 k1 c1, .slice A2 k2 c2] 22))
  replace XA := Lib.hid (XA.out.below hba)
  replace HB := Lib.hid (below_step HB.out hba)
  clear hba
  generalize w3.alloc (.cells #[.slice A1 k1 c1, .slice A2 k2 c2] 22) = w4 at *
  have HLB := Lib.hid XL.out.lt
  go_loopw [23] (fun i wr => ∃ k : Nat, k ≤ 2 ∧ i = .int .i64 k ∧ FK k ∧ Box wr w.heap.size #[.bool o, .string s, .slice A1 k1 c1, .slice A2 k2 c2] 39 ∧ Box wr w3.heap.size #[.slice A1 k1 c1, .slice A2 k2 c2] 22 ∧ Below w.heap.size w wr) (fun i _ => 2 - (intOf i).toNat)
  case atStart => exact ⟨0, by omega, rfl, F0.out, XA.out, XL.out, HB.out⟩
  case round =>
    clear HB F0 XA XL
    obtain ⟨k, hk, rfl, hf, hxa, hxl, hb⟩ := hrel
    have HF := Lib.hid hf
    have XA := Lib.hid hxa
    have XL := Lib.hid hxl
    have HB := Lib.hid hb
    clear hf hxa hxl hb
    by_cases hlt : k < 2
    · have hlt2 : (k : Int) < 2 := by omega
      have hk0 : (0 : Int) ≤ (k : Int) := by omega
      obtain ⟨A, m, c, ts, hcell, hm, hm40, hz, hrs, hnext⟩ := FS.out k hlt HF.out
      have hml : m = ts.length := hm
      have HML := Lib.hid hm
      have HZ := Lib.hid hz
      have HRS := Lib.hid hrs
      have HNX := Lib.hid hnext
      have i1 : wr.cell? ⟨w3.heap.size, k, none⟩ = some (.slice A m c) := (XL.out.cell k).trans hcell
      clear hcell hm hz hrs hnext hml
      go_wp2_with fail
      clear i1
      go_loopw [29] (fun j wr => ∃ q : Nat, q ≤ m ∧ j = .int .i64 q ∧ Hid (∀ j, j < q → fitT o s (ts.getD j tx0) = true) ∧ Box wr w.heap.size #[.bool o, .string s, .slice A1 k1 c1, .slice A2 k2 c2] 39 ∧ Box wr w3.heap.size #[.slice A1 k1 c1, .slice A2 k2 c2] 22 ∧ Below w.heap.size w wr) (fun j _ => m - (intOf j).toNat)
      case atStart => exact ⟨0, by omega, rfl, Lib.hid (fun j h => by omega), XA.out, XL.out, HB.out⟩
      case round =>
        clear HB XA XL
        obtain ⟨q, hq, rfl, hf, hxa, hxl, hb⟩ := hrel
        have HG := hf
        have XA := Lib.hid hxa
        have XL := Lib.hid hxl
        have HB := Lib.hid hb
        clear hf hxa hxl hb
        by_cases hql : q < m
        · have hql2 : (q : Int) < m := by omega
          have hq0 : (0 : Int) ≤ (q : Int) := by omega
          have hq1 : q < ts.length := by rw [← HML.out]; exact hql
          obtain ⟨A', c', e', -, hx⟩ := (HRS.out _ HB.out).txs
          simp only [Value.slice.injEq] at e'
          obtain ⟨rfl, -, rfl⟩ := e'
          obtain ⟨b, y, u1, u2, rfl, hbl, b1, b2, y1, y2, -⟩ := hx q hq1
          have hz := HZ.out _ (getD_mem tx0 hq1)
          have CGk := Lib.hid (fun W (hW : Below _ _ W) => CG.out _ hz W u1 u2 (y1.below hW) (y2.below hW))
          have CVk := Lib.hid (fun W (hW : Below _ _ W) => CV.out _ hz W u1 u2 (y1.below hW) (y2.below hW))
          have HGS : Hid (fitT o s (ts.getD q tx0) = true → ∀ j, j < q + 1 → fitT o s (ts.getD j tx0) = true) := Lib.hid fun h j hj => by
            by_cases e : j = q
            · rw [e]; exact h
            · exact HG.out j (by omega)
          obtain ⟨E1, e1, rfl, -⟩ := id y1
          obtain ⟨E2, e2, rfl, -⟩ := id y2
          generalize ts.getD q tx0 = t at *
          generalize t.1.length = L1 at *
          generalize t.2.length = L2 at *
          obtain ⟨⟨rz, rb⟩, hr⟩ : ∃ x, x = gt t s := ⟨_, rfl⟩
          obtain ⟨vb, hv⟩ : ∃ x, x = tv t := ⟨_, rfl⟩
          have HFT : Hid (fitT o s t = (vb && (rb || o))) := Lib.hid (by unfold fitT; rw [← hr, ← hv])
          rw [← hr] at CGk
          rw [← hv] at CVk
          simp only [ret2b] at CGk
          clear hx hz y1 y2 hr hv hq1
          obtain ⟨wo, rfl⟩ : ∃ wo : World, wo = wr := ⟨_, rfl⟩
          have HBO := Lib.hid (Below.refl wo.heap.size wo)
          go_upto_region 8 with fail
          have hb0 := below_alloc wo (.cells #[.slice E1 L1 e1, .slice E2 L2 e2] 28)
          replace HBO := Lib.hid (below_step HBO.out hb0)
          clear hb0
          have XP := Lib.hid (box_new (W := wo) (g := wo.heap.size) 28 #[.slice E1 L1 e1, .slice E2 L2 e2] (by simp))
          have hba := (below_alloc wo (.cells #[.slice E1 L1 e1, .slice E2 L2 e2] 28))
          replace XA := Lib.hid (XA.out.below hba)
          replace XL := Lib.hid (XL.out.below hba)
          replace HB := Lib.hid (below_step HB.out hba)
          clear hba
          generalize wo.alloc (.cells #[.slice E1 L1 e1, .slice E2 L2 e2] 28) = w5 at *
          have XP_0 := XP.out.at_ 0 _ rfl
          have XP_1 := XP.out.at_ 1 _ rfl
          have XA_1 := XA.out.at_ 1 _ rfl
          go_wp2_with fail
          refine (CGk.out _ HBO.out).mono ?_; rintro e w6 ⟨rfl, hb⟩
          replace HBO := Lib.hid (below_step HBO.out hb)
          clear XP_0 XP_1 XA_1
          replace XA := Lib.hid (XA.out.below hb)
          replace XL := Lib.hid (XL.out.below hb)
          replace XP := Lib.hid (XP.out.below hb)
          replace HB := Lib.hid (below_step HB.out hb)
          clear hb
          have XP_0 := XP.out.at_ 0 _ rfl
          have XP_1 := XP.out.at_ 1 _ rfl
          have XA_1 := XA.out.at_ 1 _ rfl
          go_wp2_with fail
          refine (CVk.out _ HBO.out).mono ?_; rintro e w7 ⟨rfl, hb⟩
          clear HBO CGk CVk
          clear XP_0 XP_1 XA_1
          replace XA := Lib.hid (XA.out.below hb)
          replace XL := Lib.hid (XL.out.below hb)
          replace XP := Lib.hid (XP.out.below hb)
          replace HB := Lib.hid (below_step HB.out hb)
          clear hb
          have XA_0 := XA.out.at_ 0 _ rfl
          have hway : (vb = true ∧ rb = true) ∨ (vb = true ∧ rb = false ∧ o = true) ∨ (vb = true ∧ rb = false ∧ o = false) ∨ vb = false := by
            cases vb <;> cases rb <;> cases o <;> simp
          rcases hway with ⟨rfl, rfl⟩ | ⟨rfl, rfl, rfl⟩ | ⟨rfl, rfl, rfl⟩ | rfl
          · have HG2 := Lib.hid (HGS.out HFT.out)
            clear HGS HFT HG
            go_wp2_with fail
            go_roundw
            case rel => exact ⟨q + 1, by omega, by go_num, HG2, XA.out, XL.out, HB.out⟩
            case measure => simp [intOf]; omega
          · have HG2 := Lib.hid (HGS.out HFT.out)
            clear HGS HFT HG
            go_wp2_with fail
            go_roundw
            case rel => exact ⟨q + 1, by omega, by go_num, HG2, XA.out, XL.out, HB.out⟩
            case measure => simp [intOf]; omega
          · clear HGS HFT HG
            go_wp2_with fail
            refine (CW.out _ HB.out).mono ?_; rintro e w8 ⟨rfl, hb⟩
            clear XA_0
            replace XA := Lib.hid (XA.out.below hb)
            replace XL := Lib.hid (XL.out.below hb)
            replace XP := Lib.hid (XP.out.below hb)
            replace HB := Lib.hid (below_step HB.out hb)
            clear hb
            go_wp2_with fail
            go_ret
            exact ⟨rfl, HB.out⟩
          · clear HGS HFT HG
            go_wp2_with fail
            refine (CW.out _ HB.out).mono ?_; rintro e w8 ⟨rfl, hb⟩
            clear XA_0
            replace XA := Lib.hid (XA.out.below hb)
            replace XL := Lib.hid (XL.out.below hb)
            replace XP := Lib.hid (XP.out.below hb)
            replace HB := Lib.hid (below_step HB.out hb)
            clear hb
            go_wp2_with fail
            go_ret
            exact ⟨rfl, HB.out⟩
        · have hql2 : ¬ (q : Int) < m := by omega
          have HFN : Hid (FK (k + 1)) := Lib.hid (HNX.out (allFit tx0 (fun j hj => HG.out j (by have := HML.out; omega))))
          clear HG HNX HZ HRS
          go_wp2_with fail
          go_roundw
          case rel => exact ⟨k + 1, by omega, by go_num, HFN.out, XA.out, XL.out, HB.out⟩
          case measure => simp [intOf]; omega
    · have hlt2 : ¬ (k : Int) < 2 := by omega
      obtain rfl : k = 2 := by omega
      obtain ⟨f1, f2⟩ := F2.out HF.out
      have LW := Lib.hid (LAW.out f1 f2)
      clear f1 f2 F2 HF FS LAW XL CV hlt hk hlt2
      obtain ⟨i0, hi, hz0, hz1, hz2⟩ := info_parts itxn
      have HI := Lib.hid hi
      have HZ0 := Lib.hid hz0
      have HZ1 := Lib.hid hz1
      have HZ2 := Lib.hid hz2
      clear hi hz0 hz1 hz2
      have XA_0 := XA.out.at_ 0 _ rfl
      have XA_2 := XA.out.at_ 2 _ rfl
      have XA_3 := XA.out.at_ 3 _ rfl
      go_wp2_with fail
      refine (CSA.out _ HB.out).mono ?_; rintro e w8 ⟨rfl, hb⟩
      clear XA_0 XA_2 XA_3
      replace XA := Lib.hid (XA.out.below hb)
      replace HB := Lib.hid (below_step HB.out hb)
      clear hb
      clear CSA
      have XA_0 := XA.out.at_ 0 _ rfl
      go_upto_if 62 with fail
      have hko := HB.out
      go_cut [9] from 63 to 98 (fun s9 wx => s9 = .bool sm ∧ Box wx w.heap.size #[.bool o, .string s, .slice A1 k1 c1, .slice A2 k2 c2] 39 ∧ Below w.heap.size w wx)
      case first =>
        clear XA_0
        cases o
        case true =>
          go_wp2_with fail
          go_meet
          exact ⟨by rw [HSW.out]; rfl, XA.out, HB.out⟩
        case false =>
          go_upto_region 16 with fail
          have hlw := HB.out.size
          refine wp_region_held_drew (S := fun W => Below w8.heap.size w8 W) (by kernel_rfl) (below_drawn _) (fun hS => ?_)
          refine wpAnyH_take (i := 8) (v := .int .i64 0) rfl (by kernel_rfl) (by kernel_rfl) (by kernel_rfl) (fun _ _ _ h => h) (Or.inl ⟨by rfl, fun W hW => by go_simp⟩) (by assumption) ?_
          simp only [Act.put, List.setIfInBounds_toArray, List.set_cons_zero, List.set_cons_succ]
          refine wpAnyH_take (i := 1) (v := .pointer (some ⟨w.heap.size, 2, none⟩)) rfl (by kernel_rfl) (by kernel_rfl) (by kernel_rfl) (fun _ _ _ h => h) (Or.inl ⟨by rfl, fun W hW => by go_simp⟩) (by assumption) ?_
          simp only [Act.put, List.setIfInBounds_toArray, List.set_cons_zero, List.set_cons_succ]
          refine wpAnyH_take (i := 2) (v := .slice A1 k1 c1) rfl (by kernel_rfl) (by kernel_rfl) (by kernel_rfl) (fun _ _ _ h => h) (Or.inl ⟨by rfl, fun W hW => by have x2 := (XA.out.below hW).at_ 2 _ rfl; go_simp⟩) (by assumption) ?_
          simp only [Act.put, List.setIfInBounds_toArray, List.set_cons_zero, List.set_cons_succ]
          refine wpAnyH_take (i := 4) (v := .pointer (some ⟨w.heap.size, 3, none⟩)) rfl (by kernel_rfl) (by kernel_rfl) (by kernel_rfl) (fun _ _ _ h => h) (Or.inl ⟨by rfl, fun W hW => by go_simp⟩) (by assumption) ?_
          simp only [Act.put, List.setIfInBounds_toArray, List.set_cons_zero, List.set_cons_succ]
          refine wpAnyH_take (i := 5) (v := .slice A2 k2 c2) rfl (by kernel_rfl) (by kernel_rfl) (by kernel_rfl) (fun _ _ _ h => h) (Or.inl ⟨by rfl, fun W hW => by have x2 := (XA.out.below hW).at_ 3 _ rfl; go_simp⟩) (by assumption) ?_
          simp only [Act.put, List.setIfInBounds_toArray, List.set_cons_zero, List.set_cons_succ]
          refine held_one (i := 0) (by kernel_rfl) rfl ?_
          go_wp2_with fail
          have HO0 : Hid (OG txR (w8.alloc (.cells #[] 28)).drew w8.heap.size w.heap.size 28 (.slice (some ⟨w8.heap.size, 0, none⟩) 0 0) []) := Lib.hid ((OG.lit0 (φ := txR) w8 (B := w8.heap.size) (C := w.heap.size) (T := 28) (by decide) hlw (Nat.le_refl _)).below (below_drawn _))
          have HB1 : Hid (Below w8.heap.size w8 (w8.alloc (.cells #[] 28)).drew) := Lib.hid (below_step (below_alloc w8 (.cells #[] 28)) (below_drawn _))
          refine ⟨rfl, HB1.out, ?_⟩
          generalize (w8.alloc (.cells #[] 28)).drew = w9 at *
          clear hS
          refine held_one (i := 3) (by kernel_rfl) rfl ?_
          refine wpList_append_og (φ := txR) (T := 28) (B := w8.heap.size) (C := w.heap.size) (xs := []) (ys := us) rfl _ _ 22 rfl i0 (.agg #[.slice none 0 0, .slice none 0 0]) 48 Tryd.underlying22 HI.out HZ0.out HZ1.out HZ2.out rfl rfl HO0.out (.slice A1 k1 c1) rfl (R1.out _ (below_step HB.out HB1.out)) ?c1 ?c2 ?c3 ?_
          case c1 => have := J1.out; have := K1.out; simp only [List.length_nil]; omega
          case c2 => have := J1.out; have := K1.out; simp only [List.length_nil]; unfold maxLen; omega
          case c3 => exact HB1.out.size
          intro v9 w10 hog hg
          have HB2 := Lib.hid (HO0.out.belowG hg.out HB1.out HB1.out.size (Nat.le_refl _))
          rw [List.nil_append] at hog
          refine (show noQ _ _ _ _ from ⟨rfl, HB2.out, ?_⟩)
          clear HB1 HO0 hg
          simp only [Act.put, List.setIfInBounds_toArray, List.set_cons_zero, List.set_cons_succ]
          refine held_one (i := 6) (by kernel_rfl) rfl ?_
          refine wpList_append_og (φ := txR) (T := 28) (B := w8.heap.size) (C := w.heap.size) (xs := us) (ys := vs) rfl _ _ 22 rfl i0 (.agg #[.slice none 0 0, .slice none 0 0]) 48 Tryd.underlying22 HI.out HZ0.out HZ1.out HZ2.out rfl rfl hog.out (.slice A2 k2 c2) rfl (R2.out _ (below_step HB.out HB2.out)) ?c1 ?c2 ?c3 ?_
          case c1 => have := J1.out; have := K1.out; have := J2.out; have := K2.out; omega
          case c2 => have := J1.out; have := K1.out; have := J2.out; have := K2.out; unfold maxLen; omega
          case c3 => exact HB2.out.size
          intro v10 w11 hog2 hg
          have HB3 := Lib.hid (hog.out.belowG hg.out HB2.out HB2.out.size (Nat.le_refl _))
          refine (show noQ _ _ _ _ from ⟨rfl, HB3.out, ?_⟩)
          clear HB2 hog hg
          have HRR := Lib.hid hog2.out.any
          clear hog2
          obtain ⟨OA, oc, rfl, -⟩ := HRR.out.slice
          obtain ⟨K, hK⟩ : ∃ K, K = (us ++ vs).length := ⟨_, rfl⟩
          have HKL := Lib.hid hK
          have hK80 : K ≤ 80 := by rw [hK, List.length_append]; have := J1.out; have := K1.out; have := J2.out; have := K2.out; omega
          rw [← hK] at HRR ⊢
          clear hK
          simp only [Act.put, List.setIfInBounds_toArray, List.set_cons_zero, List.set_cons_succ]
          refine held_one (i := 7) (by kernel_rfl) rfl ?_
          go_wp2_with fail
          refine ⟨rfl, HB3.out, wpAnyH_done (by kernel_rfl) ?_ _⟩
          replace XA := Lib.hid (XA.out.below HB3.out)
          replace HB := Lib.hid (below_step HB.out HB3.out)
          clear HB3 hlw HI HZ0 HZ1 HZ2 R1 R2
          obtain ⟨AL, hAL⟩ : ∃ f : Nat → Bool, f = fun k => ((us ++ vs).take k).all (likeT s us vs) := ⟨_, rfl⟩
          have AL0 : Hid (true = AL 0) := Lib.hid (by rw [hAL]; rfl)
          have ALK : Hid (AL K = sm) := Lib.hid (by rw [hAL, HSW.out, HKL.out]; simp only [List.take_length]; rfl)
          have ALS : Hid (∀ k, k < K → AL (k + 1) = (AL k && likeT s us vs ((us ++ vs).getD k tx0))) := Lib.hid fun k hk => by
            rw [hAL]; exact all_step _ _ tx0 k (by rw [← HKL.out]; exact hk)
          clear hAL
          go_wp2_with fail
          go_loopw [9, 71] (fun sv i wr => ∃ (k : Nat) (ak : Bool), k ≤ K ∧ i = .int .i64 k ∧ sv = .bool ak ∧ Hid (ak = AL k) ∧ Rs txR wr (.slice OA K oc) (us ++ vs) anyB ∧ Box wr w.heap.size #[.bool false, .string s, .slice A1 k1 c1, .slice A2 k2 c2] 39 ∧ Below w.heap.size w wr) (fun _ i _ => K - (intOf i).toNat)
          case atStart => exact ⟨0, true, Nat.zero_le _, rfl, rfl, AL0, HRR.out, XA.out, HB.out⟩
          case round =>
            clear HB XA HRR
            obtain ⟨k, ak, hk, rfl, rfl, HAK, hrr, hxa, hb⟩ := hrel
            have HRR := Lib.hid hrr
            have XA := Lib.hid hxa
            have HB := Lib.hid hb
            clear hrr hxa hb
            by_cases hlt : k < K
            · have hlt2 : (k : Int) < K := by omega
              have hk0 : (0 : Int) ≤ (k : Int) := by omega
              have hk1 : k < (us ++ vs).length := by rw [← HKL.out]; exact hlt
              obtain ⟨A', c', e', -, hx⟩ := HRR.out.txs
              simp only [Value.slice.injEq] at e'
              obtain ⟨rfl, -, rfl⟩ := e'
              obtain ⟨b, y, u1, u2, rfl, hbl, b1, b2, y1, y2, -⟩ := hx k hk1
              have hz := HZA.out _ (getD_mem tx0 hk1)
              have CGk := Lib.hid (fun W (hW : Below _ _ W) => CG.out _ hz W u1 u2 (y1.below hW) (y2.below hW))
              have ASK := Lib.hid (ALS.out k hlt)
              obtain ⟨E1, e1, rfl, -⟩ := id y1
              obtain ⟨E2, e2, rfl, -⟩ := id y2
              generalize (us ++ vs).getD k tx0 = t at *
              generalize t.1.length = L1 at *
              generalize t.2.length = L2 at *
              obtain ⟨⟨rz, rb⟩, hr⟩ : ∃ x, x = gt t s := ⟨_, rfl⟩
              have hlk : likeT s us vs t = decide (withT us s rz = withT vs s rz) := by unfold likeT; rw [← hr]
              rw [← hr] at CGk
              rw [hlk, ← HAK.out] at ASK
              simp only [ret2b] at CGk
              have C1 := Lib.hid (CW1.out rz)
              have C2 := Lib.hid (CW2.out rz)
              have C3 := Lib.hid (CSF.out rz)
              generalize decide (withT us s rz = withT vs s rz) = r at *
              clear hx hz y1 y2 hr hk1 hlk CW1 CW2 CSF
              obtain ⟨wo, rfl⟩ : ∃ wo : World, wo = wr := ⟨_, rfl⟩
              have HBO := Lib.hid (Below.refl wo.heap.size wo)
              go_upto_region 19 with fail
              have hb0 := below_alloc wo (.cells #[.slice E1 L1 e1, .slice E2 L2 e2] 28)
              replace HBO := Lib.hid (below_step HBO.out hb0)
              clear hb0
              have XP := Lib.hid (box_new (W := wo) (g := wo.heap.size) 28 #[.slice E1 L1 e1, .slice E2 L2 e2] (by simp))
              have hba := (below_alloc wo (.cells #[.slice E1 L1 e1, .slice E2 L2 e2] 28))
              replace XA := Lib.hid (XA.out.below hba)
              replace HRR := Lib.hid (HRR.out.below hba)
              replace HB := Lib.hid (below_step HB.out hba)
              clear hba
              generalize wo.alloc (.cells #[.slice E1 L1 e1, .slice E2 L2 e2] 28) = w12 at *
              have XP_0 := XP.out.at_ 0 _ rfl
              have XP_1 := XP.out.at_ 1 _ rfl
              have XA_1 := XA.out.at_ 1 _ rfl
              go_wp2_with fail
              refine (CGk.out _ HBO.out).mono ?_; rintro e w13 ⟨rfl, hb⟩
              clear CGk HBO
              clear XP_0 XP_1 XA_1
              replace XA := Lib.hid (XA.out.below hb)
              replace HRR := Lib.hid (HRR.out.below hb)
              replace XP := Lib.hid (XP.out.below hb)
              replace HB := Lib.hid (below_step HB.out hb)
              clear hb
              go_upto_region 20 with fail
              cases ak
              · have a1 := XA.out.lat 1 _ rfl
                refine wp_region_lat (by kernel_rfl) (by kernel_rfl) ?_
                repeat (go_big_quiet_step (fail))
                refine wpQuiet_nil ?_; intro w14 hb
                clear a1
                replace XA := Lib.hid (XA.out.below hb)
                replace HRR := Lib.hid (HRR.out.below hb)
                replace HB := Lib.hid (below_step HB.out hb)
                clear hb
                go_wp2_with fail
                go_roundw
                case rel => exact ⟨k + 1, false, by omega, by go_num, rfl, Lib.hid (by rw [ASK.out]; rfl), HRR.out, XA.out, HB.out⟩
                case measure => simp [intOf]; omega
              · have HBL := HB
                generalize withT us s rz = la at *
                generalize withT vs s rz = lb at *
                refine wp_region_gen 16 (Kit.of [gRsA 7 [] txR la, gRsA 13 [] txR lb, gVal 14 [7, 13] (.bool r)]) (by kernel_rfl) (by kernel_rfl) (fun γ => by kernel_rfl) (by kernel_rfl) (Kit.of_stable ?_) (Kit.of_known ?_) ?_
                · intro z hz; simp only [List.mem_cons, List.not_mem_nil, or_false] at hz; rcases hz with rfl | rfl | rfl
                  · apply gRsA_st
                  · apply gRsA_st
                  · apply gVal_st
                · intro z hz; simp only [List.mem_cons, List.not_mem_nil, or_false] at hz; rcases hz with rfl | rfl | rfl
                  · apply gRsA_kn
                  · apply gRsA_kn
                  · apply gVal_kn
                intro γ hγ C hC hne
                obtain ⟨P7, c7, k7⟩ : ∃ A c, γ 7 = .slice A la.length c := hγ 7 rfl
                obtain ⟨P13, c13, k13⟩ : ∃ A c, γ 13 = .slice A lb.length c := hγ 13 rfl
                have k14 : γ 14 = .bool r := hγ 14 rfl
                have a1 := XA.out.latC (C := C) 1 _ rfl
                have a2 := XA.out.latC (C := C) 2 _ rfl
                have a3 := XA.out.latC (C := C) 3 _ rfl
                simp only [List.take_succ_cons, List.take_zero, List.drop_succ_cons, List.drop_zero]
                iterate 7 (refine wpF_quiet rfl ?_; go_big_quiet_step (fail); refine wpQuiet_nil ?_)
                refine wpF_freshG rfl (freshA_call (args := #[.slice A1 k1 c1, .string s, .int .i64 rz]) (by kernel_rfl) _ _ _ (run_go Tryd.func27 (by kernel_rfl) (by kernel_rfl)) rfl (by simp [Act.eval]) (fun w' hb hf => (C1.out w' (below_step HBL.out hb)).mono fun e w2 ⟨v, he, h1, h2⟩ => ⟨v, he, h1, h2⟩)) ?_
                simp only [Nat.zero_add, Nat.reduceAdd, k7]
                go_simp
                iterate 5 (refine wpF_quiet rfl ?_; go_big_quiet_step (fail); refine wpQuiet_nil ?_)
                refine wpF_freshG rfl (freshA_call (args := #[.slice A2 k2 c2, .string s, .int .i64 rz]) (by kernel_rfl) _ _ _ (run_go Tryd.func27 (by kernel_rfl) (by kernel_rfl)) rfl (by simp [Act.eval]) (fun w' hb hf => (C2.out w' (below_step HBL.out hb)).mono fun e w2 ⟨v, he, h1, h2⟩ => ⟨v, he, h1, h2⟩)) ?_
                simp only [Nat.zero_add, Nat.reduceAdd, k13]
                go_simp
                refine wpF_freshG rfl (freshA_call (args := #[.slice P7 la.length c7, .slice P13 lb.length c13]) (by kernel_rfl) _ _ _ (run_go Tryd.func26 (by kernel_rfl) (by kernel_rfl)) rfl (by simp [Act.eval]) (fun w' hb hf => (C3.out w' _ _ (by have h5 : Rs txR w' (γ 7) la anyB := hf 7 (show 7 ∈ [7, 13] by decide); rwa [k7] at h5) (by have h5 : Rs txR w' (γ 13) lb anyB := hf 13 (show 13 ∈ [7, 13] by decide); rwa [k13] at h5)).mono fun e w2 ⟨he, h1⟩ => ⟨_, he, rfl, h1⟩)) ?_
                simp only [Nat.zero_add, Nat.reduceAdd, k14]
                go_simp
                iterate 1 (refine wpF_quiet rfl ?_; go_big_quiet_step (fail); refine wpQuiet_nil ?_)
                intro w14 hb hF
                clear a1 a2 a3 hF hγ hC hne k7 k13 k14 HBL C1 C2 C3
                replace XA := Lib.hid (XA.out.below hb)
                replace HRR := Lib.hid (HRR.out.below hb)
                replace HB := Lib.hid (below_step HB.out hb)
                clear hb
                go_wp2_with fail
                go_roundw
                case rel => exact ⟨k + 1, r, by omega, by go_num, rfl, Lib.hid (by rw [ASK.out]; rfl), HRR.out, XA.out, HB.out⟩
                case measure => simp [intOf]; omega
            · have hlt2 : ¬ (k : Int) < K := by omega
              obtain rfl : k = K := by omega
              go_wp2_with fail
              go_meet
              exact ⟨by rw [HAK.out, ALK.out], XA.out, HB.out⟩
      case rest =>
        clear HB XA
        obtain ⟨rfl, hxa, hb⟩ := hcut
        have XA := Lib.hid hxa
        have HB := Lib.hid hb
        clear hxa hb hko HSW CG CSF CW1 CW2 Q1 Q2 R1 R2 HZA HI HZ0 HZ1 HZ2
        obtain ⟨m1, m2⟩ := LW.out
        rw [m1] at CL
        have HM2 := Lib.hid m2
        clear m1 m2 LW
        have XA_0 := XA.out.at_ 0 _ rfl
        have XA_1 := XA.out.at_ 1 _ rfl
        have XA_2 := XA.out.at_ 2 _ rfl
        have XA_3 := XA.out.at_ 3 _ rfl
        go_wp2_with fail
        clear XA_0 XA_1 XA_2 XA_3
        refine (CR.out wc HB.out).mono ?_; rintro e w5 ⟨v', rfl, hbd', hb⟩
        replace XA := Lib.hid (XA.out.below hb)
        replace HB := Lib.hid (below_step HB.out hb)
        clear hb
        obtain ⟨FA, fc, FA2, fc2, fn, fg, rfl, hfn, hfg⟩ := hbd'.cells
        subst hfn
        subst hfg
        clear hbd' CR
        go_upto_region 23 with fail
        have XE := Lib.hid (box_new (W := w5) (g := w5.heap.size) 25 #[.bool fb.ord, .string fb.key, .slice FA fb.want.length fc, .int .i64 fb.mat, .slice FA2 fb.wrg.length fc2] (by simp))
        have hba := (below_alloc w5 (.cells #[.bool fb.ord, .string fb.key, .slice FA fb.want.length fc, .int .i64 fb.mat, .slice FA2 fb.wrg.length fc2] 25))
        replace XA := Lib.hid (XA.out.below hba)
        replace HB := Lib.hid (below_step HB.out hba)
        clear hba
        generalize w5.alloc (.cells #[.bool fb.ord, .string fb.key, .slice FA fb.want.length fc, .int .i64 fb.mat, .slice FA2 fb.wrg.length fc2] 25) = w6 at *
        have XE_0 := XE.out.at_ 0 _ rfl
        have XE_1 := XE.out.at_ 1 _ rfl
        have XE_2 := XE.out.at_ 2 _ rfl
        have XE_3 := XE.out.at_ 3 _ rfl
        have XE_4 := XE.out.at_ 4 _ rfl
        go_wp2_with fail
        refine (CL.out w6 FA FA2 fc fc2).mono ?_; rintro e w7 ⟨rfl, hb⟩
        clear XE_0 XE_1 XE_2 XE_3 XE_4
        replace XA := Lib.hid (XA.out.below hb)
        replace XE := Lib.hid (XE.out.below hb)
        replace HB := Lib.hid (below_step HB.out hb)
        clear hb
        clear CL
        have XE_3 := XE.out.at_ 3 _ rfl
        have XA_2 := XA.out.at_ 2 _ rfl
        cases sm
        · have f1 : (false == false) = true := rfl
          go_wp2_with fail
          refine (CW.out _ HB.out).mono ?_; rintro e w8 ⟨rfl, hb⟩
          clear XE_3 XA_2
          replace XA := Lib.hid (XA.out.below hb)
          replace XE := Lib.hid (XE.out.below hb)
          replace HB := Lib.hid (below_step HB.out hb)
          clear hb
          go_wp2_with fail
          go_ret
          exact ⟨rfl, HB.out⟩
        · have hmt := HM2.out rfl
          rw [J1.out] at hmt
          have f1 : (fb.mat == (k1 : Int)) = true := by simp [hmt]
          have f2 : (true == true) = true := rfl
          clear hmt HM2
          go_wp2_with fail
          refine (CW.out _ HB.out).mono ?_; rintro e w8 ⟨rfl, hb⟩
          clear XE_3 XA_2
          replace XA := Lib.hid (XA.out.below hb)
          replace XE := Lib.hid (XE.out.below hb)
          replace HB := Lib.hid (below_step HB.out hb)
          clear hb
          go_wp2_with fail
          go_ret
          exact ⟨rfl, HB.out⟩

end Go.Proofs.YtldafnjbgjagiaaDoor
