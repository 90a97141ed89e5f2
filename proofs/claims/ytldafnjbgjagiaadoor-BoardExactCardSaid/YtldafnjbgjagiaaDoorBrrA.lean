/-
  Contracts of the reference's board: keyed, line, Valid, wrong, New, Clean.
-/
import Derived.Test.YtldafnjbgjagiaaDoorBrdG
import Derived.Test.YtldafnjbgjagiaaDoorPkB
namespace Go.Proofs.YtldafnjbgjagiaaDoor
open Go.RowKit
set_option linter.unusedVariables false
set_option linter.unusedSimpArgs false

set_option maxRecDepth 100000 in
set_option maxHeartbeats 4000000 in
theorem brrKeyed (w : World) (o : Bool) (s : ByteArray) (m : Int) (wv gv v1 v2 : Value) (ns : List ByteArray) (zs : List Int) (h1 : SL w v1 ns) (h2 : IL w v2 zs) (n1 : ns.length ≤ 9223372036854775807) (n2 : zs.length ≤ 9223372036854775807) :
    Calls Tryd.prog 46 #[.agg #[.bool o, .string s, wv, .int .i64 m, gv], .agg #[v1, v2]] w fun e w' => e = .returned (.bool (o || (getT ns zs s).2)) ∧ Below w.heap.size w w' := by
  have HQ1 := Lib.hid h1
  have HQ2 := Lib.hid h2
  have CG := Lib.hid (fun W h1 h2 => refGet W v1 v2 ns zs s h1 h2 n1 n2)
  generalize getT ns zs s = r at *
  obtain ⟨rv, rb⟩ := r
  simp only [ret2b] at CG ⊢
  clear h1 h2 n1 n2
  cases o
  case false =>
    go_enter Tryd.func46, Tryd.ntmps46
    go_wp2_with fail
    have XA := Lib.hid ((box_new (W := w) (g := w.heap.size) 25 #[.bool false, .string s, wv, .int .i64 m, gv] (by simp)).below (below_alloc _ (.cells #[v1, v2] 28)))
    have XB := Lib.hid (box_new (W := (w.alloc (.cells #[.bool false, .string s, wv, .int .i64 m, gv] 25))) (g := w.heap.size + 1) 28 #[v1, v2] (by simp))
    have HB := Lib.hid (below_step (below_alloc w (.cells #[.bool false, .string s, wv, .int .i64 m, gv] 25)) (below_alloc (w.alloc (.cells #[.bool false, .string s, wv, .int .i64 m, gv] 25)) (.cells #[v1, v2] 28)))
    generalize (w.alloc (.cells #[.bool false, .string s, wv, .int .i64 m, gv] 25)).alloc (.cells #[v1, v2] 28) = w1 at *
    refine (CG.out _ (HQ1.out.below HB.out) (HQ2.out.below HB.out)).mono ?_; rintro e w2 ⟨rfl, hb⟩
    replace XA := Lib.hid (XA.out.below hb)
    replace XB := Lib.hid (XB.out.below hb)
    replace HB := Lib.hid (below_step HB.out hb)
    clear hb
    have XA_0 := XA.out.at_ 0 _ rfl
    go_wp2_with fail
    go_ret
    exact ⟨rfl, HB.out⟩
  case true =>
    go_enter Tryd.func46, Tryd.ntmps46
    go_wp2_with fail
    have XA := Lib.hid ((box_new (W := w) (g := w.heap.size) 25 #[.bool true, .string s, wv, .int .i64 m, gv] (by simp)).below (below_alloc _ (.cells #[v1, v2] 28)))
    have XB := Lib.hid (box_new (W := (w.alloc (.cells #[.bool true, .string s, wv, .int .i64 m, gv] 25))) (g := w.heap.size + 1) 28 #[v1, v2] (by simp))
    have HB := Lib.hid (below_step (below_alloc w (.cells #[.bool true, .string s, wv, .int .i64 m, gv] 25)) (below_alloc (w.alloc (.cells #[.bool true, .string s, wv, .int .i64 m, gv] 25)) (.cells #[v1, v2] 28)))
    generalize (w.alloc (.cells #[.bool true, .string s, wv, .int .i64 m, gv] 25)).alloc (.cells #[v1, v2] 28) = w1 at *
    refine (CG.out _ (HQ1.out.below HB.out) (HQ2.out.below HB.out)).mono ?_; rintro e w2 ⟨rfl, hb⟩
    replace XA := Lib.hid (XA.out.below hb)
    replace XB := Lib.hid (XB.out.below hb)
    replace HB := Lib.hid (below_step HB.out hb)
    clear hb
    have XA_0 := XA.out.at_ 0 _ rfl
    go_wp2_with fail
    go_ret
    exact ⟨rfl, HB.out⟩

set_option maxRecDepth 100000 in
set_option maxHeartbeats 4000000 in
theorem brrLine (w : World) (s : ByteArray) (n : Int) (hs : s.size ≤ 1000) (h0 : -9223372036854775808 ≤ n) (h1 : n ≤ 9223372036854775807) :
    Calls Tryd.prog 40 #[.string s, .int .i64 n] w fun e w' => e = .returned (.string (lineT s n)) ∧ Below w.heap.size w w' := by
  have CN := Lib.hid (fun W => refNumber W n h0 h1)
  have hsz : (mkS (pNum n)).size = (fmtS n).size + 1 := by rw [Lib.size_eq, Lib.size_eq, fmtS_data]; simp [mkS, pNum]
  have hfs := fmt_size n h0 h1
  have hex : (mkS (pNum n)).extract 0 (fmtS n).size = fmtS n := by
    refine ba_eq ?_
    rw [Lib.extract_data, fmtS_data]
    have : (fmtS n).size = (Lib.itoa n).length := by rw [Lib.size_eq, fmtS_data]
    rw [this]; simp [mkS, pNum]
  have HEX := Lib.hid hex
  have HR : Hid (lineT s n = (s ++ ⟨#[32]⟩) ++ fmtS n) := Lib.hid rfl
  generalize lineT s n = r at *
  generalize mkS (pNum n) = q at *
  generalize hx : fmtS n = x at *
  obtain ⟨k, hk⟩ : ∃ k, k = x.size := ⟨_, rfl⟩
  have HKK := Lib.hid hk
  rw [← hk] at HEX hsz hfs
  have c1 : (0 : Int) ≤ ((k : Nat) : Int) := by omega
  have c2 : ((q.size : Nat) : Int) - 1 = ((k : Nat) : Int) := by omega
  have c3 : ((k : Nat) : Int) ≤ ((q.size : Nat) : Int) := by omega
  have c4 : k ≤ q.size := by omega
  have HQS := Lib.hid hsz
  have f5 : ¬ 9223372036854775807 < s.size + 1 := by omega
  have f6 : ¬ 9223372036854775807 < (s ++ (⟨#[32]⟩ : ByteArray)).size + x.size := by rw [ByteArray.size_append]; show ¬ 9223372036854775807 < s.size + 1 + x.size; omega
  have f7 : ¬ 9223372036854775807 < s.size + 1 + x.size := by omega
  have f8 : 1 ≤ q.size := by omega
  clear hx hk h0 h1 hex hsz
  go_enter Tryd.func40, Tryd.ntmps40
  go_wp2_with fail
  refine (CN.out _).mono ?_; rintro e w' ⟨rfl, hb⟩
  have HB := Lib.hid hb
  clear hb
  go_wp2_with fail
  go_ret
  exact ⟨by rw [HR.out, ← HEX.out]; rfl, HB.out⟩

set_option maxHeartbeats 2000000 in
theorem brrNew (w : World) (o : Bool) (s : ByteArray) : Calls Tryd.prog 13 #[.bool o, .string s] w fun e w' => e = .returned (.agg #[.bool o, .string s, .slice none 0 0, .int .i64 0, .slice none 0 0]) ∧ Below w.heap.size w w' := by
  go_enter Tryd.func13, Tryd.ntmps13
  go_wp2_with fail
  refine bodyPost_ret (v := .agg #[.bool o, .string s, .slice none 0 0, .int .i64 0, .slice none 0 0]) (by simp [results, Tryd.results13, go_sem]) rfl ?_
  exact ⟨rfl, below_alloc _ _⟩

set_option maxHeartbeats 2000000 in
theorem brrClean (w : World) (b : Bd) (A1 A2 : Option Addr) (c1 c2 : Nat) : Calls Tryd.prog 15 #[.agg #[.bool b.ord, .string b.key, .slice A1 b.want.length c1, .int .i64 b.mat, .slice A2 b.wrg.length c2]] w fun e w' => e = .returned (.bool (cleanB b)) ∧ Below w.heap.size w w' := by
  have HR : Hid (cleanB b = (decide (b.want.length = 0) && decide (b.wrg.length = 0))) := Lib.hid rfl
  generalize cleanB b = r at *
  generalize b.want.length = N at *
  generalize b.wrg.length = G at *
  generalize b.ord = o at *
  generalize b.key = s at *
  generalize b.mat = m at *
  by_cases h : N = 0
  · have f1 : ((N : Int) == 0) = true := by simpa using h
    by_cases h2 : G = 0
    · have f2 : ((G : Int) == 0) = true := by simpa using h2
      have HR2 : Hid (r = true) := Lib.hid (by rw [HR.out, decide_eq_true h, decide_eq_true h2]; rfl)
      clear HR h h2
      go_enter Tryd.func15, Tryd.ntmps15
      go_wp2_with fail
      go_ret
      exact ⟨by rw [HR2.out]; rfl, below_alloc _ _⟩
    · have f2 : ((G : Int) == 0) = false := by simpa using h2
      have HR2 : Hid (r = false) := Lib.hid (by rw [HR.out, decide_eq_true h, decide_eq_false h2]; rfl)
      clear HR h h2
      go_enter Tryd.func15, Tryd.ntmps15
      go_wp2_with fail
      go_ret
      exact ⟨by rw [HR2.out]; rfl, below_alloc _ _⟩
  · have f1 : ((N : Int) == 0) = false := by simpa using h
    have HR2 : Hid (r = false) := Lib.hid (by rw [HR.out, decide_eq_false h]; rfl)
    clear HR h
    go_enter Tryd.func15, Tryd.ntmps15
    go_wp2_with fail
    go_ret
    exact ⟨by rw [HR2.out]; rfl, below_alloc _ _⟩

set_option maxRecDepth 100000 in
set_option maxHeartbeats 8000000 in
theorem brrValid (w : World) (b : Bd) (wv gv : Value) (h1 : Rs txR w wv b.want anyB) (h2 : SL w gv b.wrg) (n1 : b.want.length ≤ 9223372036854775807) (n2 : b.wrg.length ≤ 9223372036854775807) (hz : ∀ t ∈ b.want, TZ t) :
    Calls Tryd.prog 28 #[.agg #[.bool b.ord, .string b.key, wv, .int .i64 b.mat, gv]] w fun e w' => e = .returned (.bool (okB b)) ∧ Below w.heap.size w w' := by
  have hno : ¬ OkB b → Hid (okB b = false) := fun h => Lib.hid (decide_eq_false h)
  have HX := Lib.hid h1.txs
  have HZ := Lib.hid hz
  obtain ⟨A1, c1, rfl, hc1⟩ := h1.slice
  obtain ⟨A2, c2, rfl, hc2, -⟩ := h2
  have CT : Hid (∀ t, t ∈ b.want → ∀ W v1 v2, SL W v1 t.1 → IL W v2 t.2 → Calls Tryd.prog 25 #[.agg #[v1, v2]] W fun e w' => e = .returned (.bool (tv t)) ∧ Below W.heap.size W w') := Lib.hid fun t ht W v1 v2 a1 a2 => refValidT W v1 v2 t.1 t.2 a1 a2 (hz t ht).2.2 (hz t ht).1 (hz t ht).2.1
  have CK : Hid (∀ t, t ∈ b.want → ∀ W v1 v2, SL W v1 t.1 → IL W v2 t.2 → Calls Tryd.prog 46 #[.agg #[.bool b.ord, .string b.key, .slice A1 b.want.length c1, .int .i64 b.mat, .slice A2 b.wrg.length c2], .agg #[v1, v2]] W fun e w' => e = .returned (.bool (kyB b t)) ∧ Below W.heap.size W w') := Lib.hid fun t ht W v1 v2 a1 a2 => brrKeyed W b.ord b.key b.mat _ _ v1 v2 t.1 t.2 a1 a2 (hz t ht).1 (hz t ht).2.1
  obtain ⟨N, hN⟩ : ∃ N, N = b.want.length := ⟨_, rfl⟩
  obtain ⟨G, hG⟩ : ∃ G, G = b.wrg.length := ⟨_, rfl⟩
  obtain ⟨M, hM⟩ : ∃ M, M = b.mat := ⟨_, rfl⟩
  have k1 : ¬ N ≤ 1024 → Hid (okB b = false) := fun h => hno fun hk => h (by rw [hN]; exact hk.1)
  have k2 : ¬ G ≤ 1024 → Hid (okB b = false) := fun h => hno fun hk => h (by rw [hG]; exact hk.2.1)
  have k3 : ¬ 0 ≤ M → Hid (okB b = false) := fun h => hno fun hk => h (by rw [hM]; exact hk.2.2.1)
  have k4 : ¬ M ≤ 1099511627776 → Hid (okB b = false) := fun h => hno fun hk => h (by rw [hM]; exact hk.2.2.2.1)
  have K5 : Hid (∀ k, k < b.want.length → (tv (b.want.getD k tx0) = false ∨ kyB b (b.want.getD k tx0) = false) → okB b = false) := Lib.hid fun k hk h => decide_eq_false fun hok => by
    have := hok.2.2.2.2 _ (getD_mem tx0 hk)
    rw [this.1, this.2] at h
    rcases h with h | h <;> cases h
  have K6 : Hid (N ≤ 1024 → G ≤ 1024 → 0 ≤ M → M ≤ 1099511627776 → (∀ j, j < b.want.length → tv (b.want.getD j tx0) = true ∧ kyB b (b.want.getD j tx0) = true) → okB b = true) := Lib.hid fun a1 a2 a3 a4 a5 => decide_eq_true ⟨by rw [← hN]; exact a1, by rw [← hG]; exact a2, by rw [← hM]; exact a3, by rw [← hM]; exact a4, fun t ht => by
    obtain ⟨j, hj, rfl⟩ := List.mem_iff_getElem.1 ht
    have := a5 j hj
    rwa [List.getD_eq_getElem?_getD, List.getElem?_eq_getElem hj] at this⟩
  have HN := Lib.hid hN
  rw [← hN, ← hG, ← hM]
  rw [← hN, ← hG, ← hM] at CK
  rw [← hN] at n1 hc1
  rw [← hG] at n2 hc2
  generalize okB b = r at *
  generalize b.ord = o at *
  generalize b.key = s at *
  clear hno h1 hz hN hG hM
  by_cases e1 : N ≤ 1024
  case neg =>
    have HR := k1 e1
    have f1 : (1024 : Int) < (N : Int) := by omega
    clear k1 k2 k3 k4 e1 CT CK HX K5 K6
    go_enter Tryd.func28, Tryd.ntmps28
    go_wp2_with fail
    go_ret
    exact ⟨retb HR.out.symm, below_alloc _ _⟩
  by_cases e2 : G ≤ 1024
  case neg =>
    have HR := k2 e2
    have f1 : ¬ (1024 : Int) < (N : Int) := by omega
    have f2 : (1024 : Int) < (G : Int) := by omega
    clear k1 k2 k3 k4 e1 e2 CT CK HX K5 K6
    go_enter Tryd.func28, Tryd.ntmps28
    go_wp2_with fail
    go_ret
    exact ⟨retb HR.out.symm, below_alloc _ _⟩
  by_cases e3 : 0 ≤ M
  case neg =>
    have HR := k3 e3
    have f1 : ¬ (1024 : Int) < (N : Int) := by omega
    have f2 : ¬ (1024 : Int) < (G : Int) := by omega
    have f3 : M < 0 := by omega
    clear k1 k2 k3 k4 e1 e2 e3 CT CK HX K5 K6
    go_enter Tryd.func28, Tryd.ntmps28
    go_wp2_with fail
    go_ret
    exact ⟨retb HR.out.symm, below_alloc _ _⟩
  by_cases e4 : M ≤ 1099511627776
  case neg =>
    have HR := k4 e4
    have f1 : ¬ (1024 : Int) < (N : Int) := by omega
    have f2 : ¬ (1024 : Int) < (G : Int) := by omega
    have f3 : ¬ M < 0 := by omega
    have f4 : 1099511627776 < M := by omega
    clear k1 k2 k3 k4 e1 e2 e3 e4 CT CK HX K5 K6
    go_enter Tryd.func28, Tryd.ntmps28
    go_wp2_with fail
    go_ret
    exact ⟨retb HR.out.symm, below_alloc _ _⟩
  have K7 := Lib.hid (K6.out e1 e2 e3 e4)
  have f1 : ¬ (1024 : Int) < (N : Int) := by omega
  have f2 : ¬ (1024 : Int) < (G : Int) := by omega
  have f3 : ¬ M < 0 := by omega
  have f4 : ¬ 1099511627776 < M := by omega
  clear k1 k2 k3 k4 e1 e2 e3 e4 K6
  go_enter Tryd.func28, Tryd.ntmps28
  go_wp2_with fail
  have XA := Lib.hid (box_new (W := w) (g := w.heap.size) 25 #[.bool o, .string s, .slice A1 N c1, .int .i64 M, .slice A2 G c2] (by simp))
  have HB := Lib.hid (below_alloc w (.cells #[.bool o, .string s, .slice A1 N c1, .int .i64 M, .slice A2 G c2] 25))
  generalize w.alloc (.cells #[.bool o, .string s, .slice A1 N c1, .int .i64 M, .slice A2 G c2] 25) = w1 at *
  go_loopw [3] (fun i wr => ∃ k : Nat, k ≤ N ∧ i = .int .i64 k ∧ Hid (∀ j, j < k → tv (b.want.getD j tx0) = true ∧ kyB b (b.want.getD j tx0) = true) ∧ Box wr w.heap.size #[.bool o, .string s, .slice A1 N c1, .int .i64 M, .slice A2 G c2] 25 ∧ Below w.heap.size w wr) (fun i _ => N - (intOf i).toNat)
  case atStart => exact ⟨0, Nat.zero_le _, rfl, (fun j h => by omega), XA.out, HB.out⟩
  case round =>
    clear XA HB
    obtain ⟨k, hk, rfl, hall, hxa, hb⟩ := hrel
    have XA := Lib.hid hxa
    have HB := Lib.hid hb
    clear hxa hb
    by_cases hlt : k < N
    · have hlt2 : (k : Int) < N := by omega
      have hk0 : (0 : Int) ≤ (k : Int) := by omega
      have hkn : k < b.want.length := by rw [← HN.out]; exact hlt
      obtain ⟨A', c', eA, -, hX⟩ := HX.out
      simp only [Value.slice.injEq] at eA
      obtain ⟨rfl, -, rfl⟩ := eA
      obtain ⟨q, p, u1, u2, rfl, hql, q1, q2, x1, x2, -⟩ := hX k hkn
      have Q1 := Lib.hid (fun W (hW : Below w.heap.size w W) => (hW.cell (p := ⟨q, p + k * 2, none⟩) hql).trans q1)
      have Q2 := Lib.hid (fun W (hW : Below w.heap.size w W) => (hW.cell (p := ⟨q, p + k * 2 + 1, none⟩) hql).trans q2)
      have hmem := getD_mem tx0 hkn
      have CT2 := Lib.hid (fun W (hW : Below w.heap.size w W) => CT.out _ hmem W u1 u2 (x1.below hW) (x2.below hW))
      have CK2 := Lib.hid (fun W (hW : Below w.heap.size w W) => CK.out _ hmem W u1 u2 (x1.below hW) (x2.below hW))
      have K52 := Lib.hid (K5.out k hkn)
      have HST : Hid (tv (b.want.getD k tx0) = true → kyB b (b.want.getD k tx0) = true → ∀ j, j < k + 1 → tv (b.want.getD j tx0) = true ∧ kyB b (b.want.getD j tx0) = true) := Lib.hid fun h h' j hj => by
        by_cases e : j = k
        · rw [e]; exact ⟨h, h'⟩
        · exact hall.out j (by omega)
      obtain ⟨E1, e1, rfl, -⟩ := id x1
      obtain ⟨E2, e2, rfl, -⟩ := id x2
      generalize (b.want.getD k tx0).1.length = L1 at *
      generalize (b.want.getD k tx0).2.length = L2 at *
      generalize tv (b.want.getD k tx0) = q3 at *
      generalize kyB b (b.want.getD k tx0) = q4 at *
      have VT := Lib.hid (fun p : Lat wr => CT2.out p.w (below_step HB.out p.h))
      have VK := Lib.hid (fun p : Lat wr => CK2.out p.w (below_step HB.out p.h))
      clear q1 q2 x1 x2 hql hmem hkn hX CT2 CK2 hall
      have XA_2 := XA.out.at_ 2 _ rfl
      go_wp2_with fail
      clear XA_2
      have l0 := XA.out.lat 0 _ rfl
      have l1 := XA.out.lat 1 _ rfl
      have l2 := XA.out.lat 2 _ rfl
      have l3 := XA.out.lat 3 _ rfl
      have l4 := XA.out.lat 4 _ rfl
      have m1 : ∀ y : Lat wr, y.w.cell? ⟨q, p + k * 2, none⟩ = _ := fun y => Q1.out y.w (below_step HB.out y.h)
      have m2 : ∀ y : Lat wr, y.w.cell? ⟨q, p + k * 2 + 1, none⟩ = _ := fun y => Q2.out y.w (below_step HB.out y.h)
      cases q3
      case false =>
        have HR := Lib.hid (K52.out (.inl rfl))
        refine wp_region_lat (by kernel_rfl) (by kernel_rfl) ?_
        repeat (go_big_quiet_step (first | (with_reducible exact lat_call (VT.out _)) | (with_reducible exact lat_call (VK.out _))))
        refine wpQuiet_nil ?_; intro w3 hb
        clear l0 l1 l2 l3 l4 m1 m2 VT VK
        replace XA := Lib.hid (XA.out.below hb)
        replace HB := Lib.hid (below_step HB.out hb)
        clear hb
        go_wp2_with fail
        go_ret
        exact ⟨retb HR.out.symm, HB.out⟩
      case true =>
        cases q4
        case false =>
          have HR := Lib.hid (K52.out (.inr rfl))
          refine wp_region_lat (by kernel_rfl) (by kernel_rfl) ?_
          repeat (go_big_quiet_step (first | (with_reducible exact lat_call (VT.out _)) | (with_reducible exact lat_call (VK.out _))))
          refine wpQuiet_nil ?_; intro w3 hb
          clear l0 l1 l2 l3 l4 m1 m2 VT VK
          replace XA := Lib.hid (XA.out.below hb)
          replace HB := Lib.hid (below_step HB.out hb)
          clear hb
          go_wp2_with fail
          go_ret
          exact ⟨retb HR.out.symm, HB.out⟩
        case true =>
          have HALL := Lib.hid (HST.out rfl rfl)
          refine wp_region_lat (by kernel_rfl) (by kernel_rfl) ?_
          repeat (go_big_quiet_step (first | (with_reducible exact lat_call (VT.out _)) | (with_reducible exact lat_call (VK.out _))))
          refine wpQuiet_nil ?_; intro w3 hb
          clear l0 l1 l2 l3 l4 m1 m2 VT VK
          replace XA := Lib.hid (XA.out.below hb)
          replace HB := Lib.hid (below_step HB.out hb)
          clear hb
          go_wp2_with fail
          go_roundw
          case rel => exact ⟨k + 1, by omega, by go_num, HALL, XA.out, HB.out⟩
          case measure => simp [intOf]; omega
    · have hlt2 : ¬ (k : Int) < N := by omega
      have hkN : k = N := by omega
      have HR := Lib.hid (K7.out fun j hj => hall.out j (by rw [hkN, HN.out]; exact hj))
      clear hall hkN
      have XA_2 := XA.out.at_ 2 _ rfl
      go_wp2_with fail
      go_ret
      exact ⟨retb HR.out.symm, HB.out⟩

end Go.Proofs.YtldafnjbgjagiaaDoor
